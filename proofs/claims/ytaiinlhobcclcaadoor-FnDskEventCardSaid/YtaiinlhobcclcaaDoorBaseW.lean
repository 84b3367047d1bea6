/- What all walks of this seat import. -/
import Derived.Test.YtaiinlhobcclcaaDoorOwn
import Derived.Test.YtaiinlhobcclcaaDoorChecked
import Derived.Handy
import Derived.Deep.QuietTactic
import Derived.BigQuiet
import Derived.Deep.RegionWith
import Derived.WalkSpells
import Derived.WalkLawsBesides
import Derived.OwnWalk
import Derived.Lib.Hide
