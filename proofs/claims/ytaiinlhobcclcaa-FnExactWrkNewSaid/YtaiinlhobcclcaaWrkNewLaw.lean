/-
  The law FnExactWrkNew returns true.
-/
import Derived.Test.YtaiinlhobcclcaaLawEq
import Derived.Test.YtaiinlhobcclcaaLawMark
import Derived.Test.YtaiinlhobcclcaaLawHeld
import Derived.Test.YtaiinlhobcclcaaFall
namespace Go.Proofs.Ytaiinlhobcclcaa.Wk
open Go Go.RowKit Go.Deep Ow
open Rp (R sz)

abbrev wn : WrkWorker := { Up := true, Busy := false, Part := 0, Epoch := 0, Seq := 0, Sums := [], Eng := { Phase := 0, Round := 0, Cert := { States := [], Outs := [] } } }

set_option maxRecDepth 100000 in
set_option maxHeartbeats 4000000 in
theorem walkWrkNew (w : World) : Calls Try.prog 3 #[] w fun e w' => e = .returned (.bool true) ∧ Chg [] w w' := by
  have own0 : ∀ v, Own v ([] ++ ([] ++ [])) := fun v => Own.nil_ v
  have HO := Lib.hid own0
  clear own0
  go_enter Try.func3, Try.ntmps3
  go_wp2_with fail
  refine (specWrkNew_c _).mono ?_
  rintro e w1 ⟨rfl, hc1⟩
  go_wp2_with fail
  refine (implWrkNew_c _).mono ?_
  rintro e w2 ⟨rfl, hc2⟩
  have hcl2 := hc2.cells.1
  have hz2 : w1.heap.size < w2.heap.size := by have := hc2.size; simp only [World.size_alloc] at this; omega
  go_wp2_with fail
  refine (eqWrkWorker_c wn _ _ [] [] _ _ [] [] _ _ [] [] _ RL.nil_ RL.nil_ RL.nil_ RL.nil_ RL.nil_ RL.nil_).mono ?_
  rintro e w3 ⟨rfl, hc3⟩
  have hcl3 := hc3.cells.1
  have hz3 : w1.heap.size < w3.heap.size ∧ w2.heap.size < w3.heap.size := by have := hc3.size; simp only [World.size_alloc] at this; omega
  obtain ⟨hz3a, hz3b⟩ := hz3
  go_wp2_with fail
  refine (markWrkWorker_c wn 1 _ [] _ [] _ [] _ RL.nil_ RL.nil_ RL.nil_ (HO.out _) (by decide) (by decide)).mono ?_
  rintro e w4 ⟨rfl, hm4, -, -⟩
  have hc4 : Chg [] _ w4 := hm4
  clear hm4
  have n1 : cntL wn.Sums = 0 := rfl
  have n2 : cntL wn.Eng.Cert.States = 0 := rfl
  have n3 : cntL wn.Eng.Cert.Outs = 0 := rfl
  have hcl4 := hc4.cells.1
  have hz4 : w1.heap.size < w4.heap.size ∧ w2.heap.size < w4.heap.size := by have := hc4.size; omega
  obtain ⟨hz4a, hz4b⟩ := hz4
  go_wp2_with fail
  refine (heldWrkWorker_c wn 1 _ [] _ [] _ [] _ RL.nil_ RL.nil_ RL.nil_ (by decide) (by decide)).mono ?_
  rintro e w5 ⟨rfl, hc5⟩
  have hcl5 := hc5.cells.1
  have hz5 : w1.heap.size < w5.heap.size ∧ w2.heap.size < w5.heap.size := by have := hc5.size; omega
  obtain ⟨hz5a, hz5b⟩ := hz5
  go_wp2_with fail
  refine (implWrkNew_c _).mono ?_
  rintro e w6 ⟨rfl, hc6⟩
  have hcl6 := hc6.cells.1
  have hz6 : w1.heap.size < w6.heap.size ∧ w2.heap.size < w6.heap.size := by have := hc6.size; omega
  obtain ⟨hz6a, hz6b⟩ := hz6
  go_wp2_with fail
  refine (eqWrkWorker_c wn _ _ [] [] _ _ [] [] _ _ [] [] _ RL.nil_ RL.nil_ RL.nil_ RL.nil_ RL.nil_ RL.nil_).mono ?_
  rintro e w7 ⟨rfl, hc7⟩
  have hcl7 := hc7.cells.1
  have hz7 : w1.heap.size < w7.heap.size ∧ w2.heap.size < w7.heap.size := by have := hc7.size; simp only [World.size_alloc] at this; omega
  obtain ⟨hz7a, hz7b⟩ := hz7
  go_wp2_with fail
  refine (heldWrkWorker_c wn 1 _ [] _ [] _ [] _ RL.nil_ RL.nil_ RL.nil_ (by decide) (by decide)).mono ?_
  rintro e w8 ⟨rfl, hc8⟩
  go_wp2
  go_ret
  exact ⟨rfl, by repeat (first | with_reducible exact Chg.refl _ _ | with_reducible refine Chg.alloc ?_ _ | with_reducible refine Chg.trans0 ?_ hc1 | with_reducible refine Chg.trans0 ?_ hc2 | with_reducible refine Chg.trans0 ?_ hc3 | with_reducible refine Chg.trans0 ?_ hc4 | with_reducible refine Chg.trans0 ?_ hc5 | with_reducible refine Chg.trans0 ?_ hc6 | with_reducible refine Chg.trans0 ?_ hc7 | with_reducible refine Chg.trans0 ?_ hc8)⟩
end Go.Proofs.Ytaiinlhobcclcaa.Wk
