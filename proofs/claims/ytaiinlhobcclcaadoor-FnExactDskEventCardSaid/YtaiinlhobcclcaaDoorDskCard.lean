/- THE TIED CARD of FnExactDskEvent: the program's DskEvent reads every line of bytes as the reference reads it, and leaves its input as it was: the law returns true for every input; the library's variables that it meets are tied to the program's text. -/
import Derived.Test.YtaiinlhobcclcaaDoorDskProof
import Derived.Test.YtaiinlhobcclcaaDoorCards
import Derived.Test.YtaiinlhobcclcaaDoorTie
import Derived.SevenTiedAt
namespace Go.Proofs.YtaiinlhobcclcaaDoor.fnExactDskEvent
open Go
theorem card : Rows.FnExactDskEventCardSaid :=
  Claim7.holds_tied_plain_at .later [] [.data, .data, .data, .sentinel, .sentinel] true (true, "6f808c84022d626abc2adf8bfbc1b46139e21ca758910923fb4aa87448407e04") true
    over (fun _ h => by cases h) (by kernel_rfl) (fun _ h => by cases h) fnExactDskEvent_row_tie rfl ⟨rfl, rfl⟩ (by kernel_rfl) rfl
    (fun f fn hf hfn => by
      obtain rfl : f = 3 := Option.some.inj ((show Tryd.prog.funcNamed Rows.fnExactDskEventRow.func = some 3 by kernel_rfl).symm.trans hf) |>.symm
      obtain rfl : fn = Tryd.f3 := (Option.some.inj (Tryd.func3.symm.trans hfn)).symm
      exact ⟨by kernel_rfl, fun j t ht => by
        rw [Tryd.params3] at ht
        have hm : t ∈ [9] := by simpa using Array.mem_of_getElem? ht
        have hall : ([9].all fun u => !Tryd.prog.wantsStandIn u) = true := by kernel_rfl
        exact (show Tryd.prog.wantsStandIn t = false by simpa using List.all_eq_true.1 hall t hm)⟩)
    (by kernel_rfl)
#print axioms card
end Go.Proofs.YtaiinlhobcclcaaDoor.fnExactDskEvent
