/- THE TIED CARD of FnDskEvent: a line that is drawn out of any bytes is read by the program as by the reference, what it reads is within its bounds, and the same line with four numbers more behind it is read as none: the law returns true for every input; the library's variables that it meets are tied to the program's text. -/
import Derived.Test.YtaiinlhobcclcaaDoorFnDskProof
import Derived.Test.YtaiinlhobcclcaaDoorCards
import Derived.Test.YtaiinlhobcclcaaDoorTie
import Derived.SevenTiedAt
namespace Go.Proofs.YtaiinlhobcclcaaDoor.fnDskEvent
open Go
theorem card : Rows.FnDskEventCardSaid :=
  Claim7.holds_tied_plain_at .later [] [.data, .data, .data, .sentinel, .sentinel] true (true, "6f808c84022d626abc2adf8bfbc1b46139e21ca758910923fb4aa87448407e04") true
    over (fun _ h => by cases h) (by kernel_rfl) (fun _ h => by cases h) fnDskEvent_row_tie rfl ⟨rfl, rfl⟩ (by kernel_rfl) rfl
    (fun f fn hf hfn => by
      obtain rfl : f = 4 := Option.some.inj ((show Tryd.prog.funcNamed Rows.fnDskEventRow.func = some 4 by kernel_rfl).symm.trans hf) |>.symm
      obtain rfl : fn = Tryd.f4 := (Option.some.inj (Tryd.func4.symm.trans hfn)).symm
      exact ⟨by kernel_rfl, fun j t ht => by
        rw [Tryd.params4] at ht
        have hm : t ∈ [22] := by simpa using Array.mem_of_getElem? ht
        have hall : ([22].all fun u => !Tryd.prog.wantsStandIn u) = true := by kernel_rfl
        exact (show Tryd.prog.wantsStandIn t = false by simpa using List.all_eq_true.1 hall t hm)⟩)
    (by kernel_rfl)
#print axioms card
end Go.Proofs.YtaiinlhobcclcaaDoor.fnDskEvent
