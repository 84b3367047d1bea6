/-
  Contracts of the laws' own functions, written by a program of mine (wip/gen/gen_laws.py).
-/
import Derived.Test.YtaiinlhobcclcaaBase
namespace Go.Proofs.Ytaiinlhobcclcaa.Wk
open Go Go.RowKit Go.Deep Ow
open Rp (R sz)
open Mk (mark cnt)
open Zr (zero zcells zr)

set_option maxRecDepth 100000 in
set_option maxHeartbeats 2000000 in
theorem heldCrtSiteS_c (xs : List CrtSite) (k0 : Int) (a : Value) (F : List Nat) (w : World) (ha : RL w (mkL xs k0) a F) (hk0 : 0 ≤ k0) (hk1 : k0 + cntL xs ≤ 4611686018427387904) :
    Calls Try.prog 63 #[a, .int .i64 k0] w fun e w' => e = .returned (.int .i64 (k0 + cntL xs)) ∧ Chg [] w w' := by
  obtain ⟨A, ca, rfl, hla, hma⟩ := ha.form
  rw [mkL_length] at *
  have hn : xs.length ≤ maxLen := by omega
  unfold maxLen at hn
  go_enter Try.func63, Try.ntmps63
  go_wp2
  go_loopw [1, 5] (fun kk i wr => ∃ k : Nat, k ≤ xs.length ∧ i = .int .i64 k ∧ kk = .int .i64 (k0 + cntL (xs.take k)) ∧ Chg [] w wr) (fun _ i _ => xs.length - (intOf i).toNat)
  case atStart => exact ⟨0, Nat.zero_le _, rfl, by simp [cntL], Chg.refl _ _⟩
  case round =>
    obtain ⟨k, hk, rfl, rfl, hc⟩ := hrel
    by_cases hlt : k < xs.length
    · obtain ⟨b, off, cap, cs, Fi, e1, r1, m1, -⟩ := (ha.chg0 hc).elem (i := k) (by simpa using hlt)
      rw [mkL_at xs k0 hlt] at r1
      rw [mkL_length] at e1
      have hct := cntL_take_le xs (k + 1)
      rw [cntL_succ xs hlt] at hct
      rw [mark_CrtSite] at r1
      obtain ⟨rfl, hF1, i1_0, i1_1⟩ := R_CrtSite.1 r1
      injection e1 with e1 _ e1c
      subst e1 e1c
      have ya0 := m1 0 (by decide)
      have ya1 := m1 1 (by decide)
      simp only [sz_CrtSite, Nat.add_zero, List.getElem?_cons_zero, List.getElem?_cons_succ] at ya0 ya1
      simp only [cnt_CrtSite] at hct
      have hq0 : 0 ≤ k0 + (cntL (xs.take k) : Int) := by omega
      have hq1 : k0 + (cntL (xs.take k) : Int) + 1 + 1 ≤ 4611686018427387904 := by omega
      generalize hq : k0 + (cntL (xs.take k) : Int) = q at *
      have HC := Lib.hid hc
      have HqE := Lib.hid hq
      clear r1 m1 hc hct hq ha
      have ti16 : (q != q) = false := by simp
      have ti17 : (q + 1 != q + 1) = false := by simp
      go_wp2
      go_roundw
      case rel =>
        refine ⟨k + 1, by omega, by go_num, ?_, HC.out⟩
        rw [cntL_succ xs hlt, ← HqE.out]
        rw [cnt_CrtSite]
        go_num
      case measure => simp [intOf]; omega
    · rw [cntL_all xs (by omega)] at *
      have HC := Lib.hid hc
      clear hc ha
      go_wp2
      go_ret
      exact ⟨rfl, HC.out⟩

set_option maxRecDepth 100000 in
set_option maxHeartbeats 1000000 in
theorem heldVrdVerdict_c (x : VrdVerdict) (k0 : Int) (vSites : Value) (FSites : List Nat) (w : World) (hSites : RL w (mkL x.Sites (k0)) vSites FSites) (hk0 : 0 ≤ k0) (hk1 : k0 + (cntL x.Sites : Int) ≤ 4611686018427387904) : Calls Try.prog 47 #[.agg #[.int .i64 x.Kind, .int .i64 x.Line, vSites], .int .i64 k0] w fun e w' => e = .returned (.int .i64 (k0 + (cntL x.Sites : Int))) ∧ Chg [] w w' := by
  go_enter Try.func47, Try.ntmps47
  go_wp2_with fail
  refine (heldCrtSiteS_c x.Sites (k0) _ _ _ (hSites.chg0 (by repeat (first | with_reducible exact Chg.refl _ _ | with_reducible refine Chg.setCell ?_ (Or.inr (by first | (simp; done) | (simp; omega))) _ | with_reducible refine Chg.alloc ?_ _ | with_reducible refine Chg.drewN ?_ _ | with_reducible refine Chg.drew ?_))) (by omega) (by omega)).mono ?_
  rintro e w1 ⟨rfl, hc1⟩
  obtain ⟨hcl1, hfz1⟩ := hc1.cells
  have hz1 := hc1.size
  repeat (first | rw [World.size_alloc] at hz1 | rw [World.size_setCell] at hz1 | rw [World.size_drew] at hz1 | rw [World.heap_drewN] at hz1)
  have hza1 : w.heap.size < w1.heap.size := by omega
  go_wp2
  go_ret
  exact ⟨rfl, by repeat (first | with_reducible exact Chg.refl _ _ | with_reducible refine Chg.setCell ?_ (Or.inr (by first | (simp; done) | (simp; omega))) _ | with_reducible refine Chg.alloc ?_ _ | with_reducible refine Chg.drewN ?_ _ | with_reducible refine Chg.drew ?_ | with_reducible refine Chg.trans0 ?_ hc1)⟩

set_option maxRecDepth 100000 in
set_option maxHeartbeats 2000000 in
theorem heldItvItvS_c (xs : List ItvItv) (k0 : Int) (a : Value) (F : List Nat) (w : World) (ha : RL w (mkL xs k0) a F) (hk0 : 0 ≤ k0) (hk1 : k0 + cntL xs ≤ 4611686018427387904) :
    Calls Try.prog 79 #[a, .int .i64 k0] w fun e w' => e = .returned (.int .i64 (k0 + cntL xs)) ∧ Chg [] w w' := by
  obtain ⟨A, ca, rfl, hla, hma⟩ := ha.form
  rw [mkL_length] at *
  have hn : xs.length ≤ maxLen := by omega
  unfold maxLen at hn
  go_enter Try.func79, Try.ntmps79
  go_wp2
  go_loopw [1, 5] (fun kk i wr => ∃ k : Nat, k ≤ xs.length ∧ i = .int .i64 k ∧ kk = .int .i64 (k0 + cntL (xs.take k)) ∧ Chg [] w wr) (fun _ i _ => xs.length - (intOf i).toNat)
  case atStart => exact ⟨0, Nat.zero_le _, rfl, by simp [cntL], Chg.refl _ _⟩
  case round =>
    obtain ⟨k, hk, rfl, rfl, hc⟩ := hrel
    by_cases hlt : k < xs.length
    · obtain ⟨b, off, cap, cs, Fi, e1, r1, m1, -⟩ := (ha.chg0 hc).elem (i := k) (by simpa using hlt)
      rw [mkL_at xs k0 hlt] at r1
      rw [mkL_length] at e1
      have hct := cntL_take_le xs (k + 1)
      rw [cntL_succ xs hlt] at hct
      rw [mark_ItvItv] at r1
      obtain ⟨rfl, hF1, i1_0, i1_1⟩ := R_ItvItv.1 r1
      injection e1 with e1 _ e1c
      subst e1 e1c
      have ya0 := m1 0 (by decide)
      have ya1 := m1 1 (by decide)
      simp only [sz_ItvItv, Nat.add_zero, List.getElem?_cons_zero, List.getElem?_cons_succ] at ya0 ya1
      simp only [cnt_ItvItv] at hct
      have hq0 : 0 ≤ k0 + (cntL (xs.take k) : Int) := by omega
      have hq1 : k0 + (cntL (xs.take k) : Int) + 1 + 1 ≤ 4611686018427387904 := by omega
      generalize hq : k0 + (cntL (xs.take k) : Int) = q at *
      have HC := Lib.hid hc
      have HqE := Lib.hid hq
      clear r1 m1 hc hct hq ha
      have ti16 : (q != q) = false := by simp
      have ti17 : (q + 1 != q + 1) = false := by simp
      go_wp2
      go_roundw
      case rel =>
        refine ⟨k + 1, by omega, by go_num, ?_, HC.out⟩
        rw [cntL_succ xs hlt, ← HqE.out]
        rw [cnt_ItvItv]
        go_num
      case measure => simp [intOf]; omega
    · rw [cntL_all xs (by omega)] at *
      have HC := Lib.hid hc
      clear hc ha
      go_wp2
      go_ret
      exact ⟨rfl, HC.out⟩

set_option maxRecDepth 100000 in
set_option maxHeartbeats 2000000 in
theorem heldAbsStateS_c (xs : List AbsState) (k0 : Int) (a : Value) (F : List Nat) (w : World) (ha : RL w (mkL xs k0) a F) (hk0 : 0 ≤ k0) (hk1 : k0 + cntL xs ≤ 4611686018427387904) :
    Calls Try.prog 73 #[a, .int .i64 k0] w fun e w' => e = .returned (.int .i64 (k0 + cntL xs)) ∧ Chg [] w w' := by
  obtain ⟨A, ca, rfl, hla, hma⟩ := ha.form
  rw [mkL_length] at *
  have hn : xs.length ≤ maxLen := by omega
  unfold maxLen at hn
  go_enter Try.func73, Try.ntmps73
  go_wp2
  go_loopw [1, 5] (fun kk i wr => ∃ k : Nat, k ≤ xs.length ∧ i = .int .i64 k ∧ kk = .int .i64 (k0 + cntL (xs.take k)) ∧ Chg [] w wr) (fun _ i _ => xs.length - (intOf i).toNat)
  case atStart => exact ⟨0, Nat.zero_le _, rfl, by simp [cntL], Chg.refl _ _⟩
  case round =>
    obtain ⟨k, hk, rfl, rfl, hc⟩ := hrel
    by_cases hlt : k < xs.length
    · obtain ⟨b, off, cap, cs, Fi, e1, r1, m1, -⟩ := (ha.chg0 hc).elem (i := k) (by simpa using hlt)
      rw [mkL_at xs k0 hlt] at r1
      rw [mkL_length] at e1
      have hct := cntL_take_le xs (k + 1)
      rw [cntL_succ xs hlt] at hct
      rw [mark_AbsState] at r1
      obtain ⟨v1_0, F1_0, rfl, hF1, g1_0, i1_0, i1_1⟩ := R_AbsState.1 r1
      injection e1 with e1 _ e1c
      subst e1 e1c
      have ya0 := m1 0 (by decide)
      have ya1 := m1 1 (by decide)
      have ya2 := m1 2 (by decide)
      have ya3 := m1 3 (by decide)
      simp only [sz_AbsState, Nat.add_zero, List.getElem?_cons_zero, List.getElem?_cons_succ] at ya0 ya1 ya2 ya3
      simp only [cnt_AbsState] at hct
      have hq0 : 0 ≤ k0 + (cntL (xs.take k) : Int) := by omega
      have hq1 : k0 + (cntL (xs.take k) : Int) + 1 + (cntL xs[k].Vars : Int) + 1 + 1 ≤ 4611686018427387904 := by omega
      generalize hq : k0 + (cntL (xs.take k) : Int) = q at *
      have HC := Lib.hid hc
      have HqE := Lib.hid hq
      clear r1 m1 hc hct hq ha
      have tb18 : (((q) % 3 == 0) != ((q) % 3 == 0)) = false := by simp
      have ti19 : (q + 1 + (cntL xs[k].Vars : Int) != q + 1 + (cntL xs[k].Vars : Int)) = false := by simp
      have ti20 : (q + 1 + (cntL xs[k].Vars : Int) + 1 != q + 1 + (cntL xs[k].Vars : Int) + 1) = false := by simp
      go_wp2_with fail
      refine (heldItvItvS_c xs[k].Vars (q + 1) _ _ _ (by exact RL.same g1_0 rfl) (by omega) (by omega)).mono ?_
      rintro e w1 ⟨rfl, hc1⟩
      replace ya0 := hc1.cell0 ya0
      replace ya1 := hc1.cell0 ya1
      replace ya2 := hc1.cell0 ya2
      replace ya3 := hc1.cell0 ya3
      have HCW := Lib.hid hc1
      clear hc1
      go_wp2
      go_roundw
      case rel =>
        refine ⟨k + 1, by omega, by go_num, ?_, HC.out.trans0 HCW.out⟩
        rw [cntL_succ xs hlt, ← HqE.out]
        rw [cnt_AbsState]
        go_num
      case measure => simp [intOf]; omega
    · rw [cntL_all xs (by omega)] at *
      have HC := Lib.hid hc
      clear hc ha
      go_wp2
      go_ret
      exact ⟨rfl, HC.out⟩

set_option maxRecDepth 100000 in
set_option maxHeartbeats 2000000 in
theorem heldAbsStateSS_c (xs : List (List AbsState)) (k0 : Int) (a : Value) (F : List Nat) (w : World) (ha : RL w (mkL xs k0) a F) (hk0 : 0 ≤ k0) (hk1 : k0 + cntL xs ≤ 4611686018427387904) :
    Calls Try.prog 62 #[a, .int .i64 k0] w fun e w' => e = .returned (.int .i64 (k0 + cntL xs)) ∧ Chg [] w w' := by
  obtain ⟨A, ca, rfl, hla, hma⟩ := ha.form
  rw [mkL_length] at *
  have hn : xs.length ≤ maxLen := by omega
  unfold maxLen at hn
  go_enter Try.func62, Try.ntmps62
  go_wp2
  go_loopw [1, 5] (fun kk i wr => ∃ k : Nat, k ≤ xs.length ∧ i = .int .i64 k ∧ kk = .int .i64 (k0 + cntL (xs.take k)) ∧ Chg [] w wr) (fun _ i _ => xs.length - (intOf i).toNat)
  case atStart => exact ⟨0, Nat.zero_le _, rfl, by simp [cntL], Chg.refl _ _⟩
  case round =>
    obtain ⟨k, hk, rfl, rfl, hc⟩ := hrel
    by_cases hlt : k < xs.length
    · obtain ⟨b, off, cap, cs, Fi, e1, r1, m1, -⟩ := (ha.chg0 hc).elem (i := k) (by simpa using hlt)
      rw [mkL_at xs k0 hlt] at r1
      rw [mkL_length] at e1
      have hct := cntL_take_le xs (k + 1)
      rw [cntL_succ xs hlt] at hct
      change R wr (mkL xs[k] (k0 + (cntL (xs.take k) : Int))) cs Fi at r1
      obtain ⟨v1_0, rfl, g1_0⟩ := R_list.1 r1
      injection e1 with e1 _ e1c
      subst e1 e1c
      have ya0 := m1 0 (by decide)
      simp only [sz_list, Nat.mul_one, Nat.add_zero, List.getElem?_cons_zero] at ya0
      change cntL (xs.take k) + cntL xs[k] ≤ _ at hct
      have hq0 : 0 ≤ k0 + (cntL (xs.take k) : Int) := by omega
      have hq1 : k0 + (cntL (xs.take k) : Int) + (cntL xs[k] : Int) ≤ 4611686018427387904 := by omega
      generalize hq : k0 + (cntL (xs.take k) : Int) = q at *
      have HC := Lib.hid hc
      have HqE := Lib.hid hq
      clear r1 m1 hc hct hq ha
      go_wp2_with fail
      refine (heldAbsStateS_c xs[k] (q) _ _ _ (by exact RL.same g1_0 rfl) (by omega) (by omega)).mono ?_
      rintro e w1 ⟨rfl, hc1⟩
      replace ya0 := hc1.cell0 ya0
      have HCW := Lib.hid hc1
      clear hc1
      go_wp2
      go_roundw
      case rel =>
        refine ⟨k + 1, by omega, by go_num, ?_, HC.out.trans0 HCW.out⟩
        rw [cntL_succ xs hlt, ← HqE.out]
        change _ = Value.int IntKind.i64 (k0 + ((cntL (xs.take k) + cntL xs[k] : Nat) : Int))
        go_num
      case measure => simp [intOf]; omega
    · rw [cntL_all xs (by omega)] at *
      have HC := Lib.hid hc
      clear hc ha
      go_wp2
      go_ret
      exact ⟨rfl, HC.out⟩

set_option maxRecDepth 100000 in
set_option maxHeartbeats 2000000 in
theorem heldSumSumS_c (xs : List SumSum) (k0 : Int) (a : Value) (F : List Nat) (w : World) (ha : RL w (mkL xs k0) a F) (hk0 : 0 ≤ k0) (hk1 : k0 + cntL xs ≤ 4611686018427387904) :
    Calls Try.prog 21 #[a, .int .i64 k0] w fun e w' => e = .returned (.int .i64 (k0 + cntL xs)) ∧ Chg [] w w' := by
  obtain ⟨A, ca, rfl, hla, hma⟩ := ha.form
  rw [mkL_length] at *
  have hn : xs.length ≤ maxLen := by omega
  unfold maxLen at hn
  go_enter Try.func21, Try.ntmps21
  go_wp2
  go_loopw [1, 5] (fun kk i wr => ∃ k : Nat, k ≤ xs.length ∧ i = .int .i64 k ∧ kk = .int .i64 (k0 + cntL (xs.take k)) ∧ Chg [] w wr) (fun _ i _ => xs.length - (intOf i).toNat)
  case atStart => exact ⟨0, Nat.zero_le _, rfl, by simp [cntL], Chg.refl _ _⟩
  case round =>
    obtain ⟨k, hk, rfl, rfl, hc⟩ := hrel
    by_cases hlt : k < xs.length
    · obtain ⟨b, off, cap, cs, Fi, e1, r1, m1, -⟩ := (ha.chg0 hc).elem (i := k) (by simpa using hlt)
      rw [mkL_at xs k0 hlt] at r1
      rw [mkL_length] at e1
      have hct := cntL_take_le xs (k + 1)
      rw [cntL_succ xs hlt] at hct
      rw [mark_SumSum] at r1
      obtain ⟨rfl, hF1, i1_0, i1_1⟩ := R_SumSum.1 r1
      injection e1 with e1 _ e1c
      subst e1 e1c
      have ya0 := m1 0 (by decide)
      have ya1 := m1 1 (by decide)
      have ya2 := m1 2 (by decide)
      simp only [sz_SumSum, Nat.add_zero, List.getElem?_cons_zero, List.getElem?_cons_succ] at ya0 ya1 ya2
      simp only [cnt_SumSum] at hct
      have hq0 : 0 ≤ k0 + (cntL (xs.take k) : Int) := by omega
      have hq1 : k0 + (cntL (xs.take k) : Int) + 1 + 1 + 1 ≤ 4611686018427387904 := by omega
      generalize hq : k0 + (cntL (xs.take k) : Int) = q at *
      have HC := Lib.hid hc
      have HqE := Lib.hid hq
      clear r1 m1 hc hct hq ha
      have tb17 : (((q) % 3 == 0) != ((q) % 3 == 0)) = false := by simp
      have ti18 : (q + 1 != q + 1) = false := by simp
      have ti19 : (q + 1 + 1 != q + 1 + 1) = false := by simp
      go_wp2
      go_roundw
      case rel =>
        refine ⟨k + 1, by omega, by go_num, ?_, HC.out⟩
        rw [cntL_succ xs hlt, ← HqE.out]
        rw [cnt_SumSum]
        go_num
      case measure => simp [intOf]; omega
    · rw [cntL_all xs (by omega)] at *
      have HC := Lib.hid hc
      clear hc ha
      go_wp2
      go_ret
      exact ⟨rfl, HC.out⟩

set_option maxRecDepth 100000 in
set_option maxHeartbeats 1000000 in
theorem heldCrtCert_c (x : CrtCert) (k0 : Int) (vStates : Value) (FStates : List Nat) (vOuts : Value) (FOuts : List Nat) (w : World) (hStates : RL w (mkL x.States (k0)) vStates FStates) (hOuts : RL w (mkL x.Outs (k0 + (cntL x.States : Int))) vOuts FOuts) (hk0 : 0 ≤ k0) (hk1 : k0 + (cntL x.States : Int) + (cntL x.Outs : Int) ≤ 4611686018427387904) : Calls Try.prog 52 #[.agg #[vStates, vOuts], .int .i64 k0] w fun e w' => e = .returned (.int .i64 (k0 + (cntL x.States : Int) + (cntL x.Outs : Int))) ∧ Chg [] w w' := by
  go_enter Try.func52, Try.ntmps52
  go_wp2_with fail
  refine (heldAbsStateSS_c x.States (k0) _ _ _ (hStates.chg0 (by repeat (first | with_reducible exact Chg.refl _ _ | with_reducible refine Chg.setCell ?_ (Or.inr (by first | (simp; done) | (simp; omega))) _ | with_reducible refine Chg.alloc ?_ _ | with_reducible refine Chg.drewN ?_ _ | with_reducible refine Chg.drew ?_))) (by omega) (by omega)).mono ?_
  rintro e w1 ⟨rfl, hc1⟩
  obtain ⟨hcl1, hfz1⟩ := hc1.cells
  have hz1 := hc1.size
  repeat (first | rw [World.size_alloc] at hz1 | rw [World.size_setCell] at hz1 | rw [World.size_drew] at hz1 | rw [World.heap_drewN] at hz1)
  have hza1 : w.heap.size < w1.heap.size := by omega
  go_wp2_with fail
  refine (heldSumSumS_c x.Outs (k0 + (cntL x.States : Int)) _ _ _ (hOuts.chg0 (by repeat (first | with_reducible exact Chg.refl _ _ | with_reducible refine Chg.setCell ?_ (Or.inr (by first | (simp; done) | (simp; omega))) _ | with_reducible refine Chg.alloc ?_ _ | with_reducible refine Chg.drewN ?_ _ | with_reducible refine Chg.drew ?_ | with_reducible refine Chg.trans0 ?_ hc1))) (by omega) (by omega)).mono ?_
  rintro e w2 ⟨rfl, hc2⟩
  obtain ⟨hcl2, hfz2⟩ := hc2.cells
  have hz2 := hc2.size
  repeat (first | rw [World.size_alloc] at hz2 | rw [World.size_setCell] at hz2 | rw [World.size_drew] at hz2 | rw [World.heap_drewN] at hz2)
  have hza2 : w.heap.size < w2.heap.size := by omega
  go_wp2
  go_ret
  exact ⟨rfl, by repeat (first | with_reducible exact Chg.refl _ _ | with_reducible refine Chg.setCell ?_ (Or.inr (by first | (simp; done) | (simp; omega))) _ | with_reducible refine Chg.alloc ?_ _ | with_reducible refine Chg.drewN ?_ _ | with_reducible refine Chg.drew ?_ | with_reducible refine Chg.trans0 ?_ hc1 | with_reducible refine Chg.trans0 ?_ hc2)⟩

set_option maxRecDepth 100000 in
set_option maxHeartbeats 2000000 in
theorem heldCrtCertS_c (xs : List CrtCert) (k0 : Int) (a : Value) (F : List Nat) (w : World) (ha : RL w (mkL xs k0) a F) (hk0 : 0 ≤ k0) (hk1 : k0 + cntL xs ≤ 4611686018427387904) :
    Calls Try.prog 45 #[a, .int .i64 k0] w fun e w' => e = .returned (.int .i64 (k0 + cntL xs)) ∧ Chg [] w w' := by
  obtain ⟨A, ca, rfl, hla, hma⟩ := ha.form
  rw [mkL_length] at *
  have hn : xs.length ≤ maxLen := by omega
  unfold maxLen at hn
  go_enter Try.func45, Try.ntmps45
  go_wp2
  go_loopw [1, 5] (fun kk i wr => ∃ k : Nat, k ≤ xs.length ∧ i = .int .i64 k ∧ kk = .int .i64 (k0 + cntL (xs.take k)) ∧ Chg [] w wr) (fun _ i _ => xs.length - (intOf i).toNat)
  case atStart => exact ⟨0, Nat.zero_le _, rfl, by simp [cntL], Chg.refl _ _⟩
  case round =>
    obtain ⟨k, hk, rfl, rfl, hc⟩ := hrel
    by_cases hlt : k < xs.length
    · obtain ⟨b, off, cap, cs, Fi, e1, r1, m1, -⟩ := (ha.chg0 hc).elem (i := k) (by simpa using hlt)
      rw [mkL_at xs k0 hlt] at r1
      rw [mkL_length] at e1
      have hct := cntL_take_le xs (k + 1)
      rw [cntL_succ xs hlt] at hct
      rw [mark_CrtCert] at r1
      obtain ⟨v1_0, F1_0, v1_1, F1_1, rfl, hF1, g1_0, g1_1⟩ := R_CrtCert.1 r1
      injection e1 with e1 _ e1c
      subst e1 e1c
      have ya0 := m1 0 (by decide)
      have ya1 := m1 1 (by decide)
      simp only [sz_CrtCert, Nat.add_zero, List.getElem?_cons_zero, List.getElem?_cons_succ] at ya0 ya1
      simp only [cnt_CrtCert] at hct
      have hq0 : 0 ≤ k0 + (cntL (xs.take k) : Int) := by omega
      have hq1 : k0 + (cntL (xs.take k) : Int) + (cntL xs[k].States : Int) + (cntL xs[k].Outs : Int) ≤ 4611686018427387904 := by omega
      generalize hq : k0 + (cntL (xs.take k) : Int) = q at *
      have HC := Lib.hid hc
      have HqE := Lib.hid hq
      clear r1 m1 hc hct hq ha
      go_wp2_with fail
      refine (heldAbsStateSS_c xs[k].States (q) _ _ _ (by exact RL.same g1_0 rfl) (by omega) (by omega)).mono ?_
      rintro e w1 ⟨rfl, hc1⟩
      replace ya0 := hc1.cell0 ya0
      replace ya1 := hc1.cell0 ya1
      have HCW := Lib.hid hc1
      clear hc1
      go_wp2_with fail
      refine (heldSumSumS_c xs[k].Outs (q + (cntL xs[k].States : Int)) _ _ _ (by exact RL.same (RL.chg0 g1_1 HCW.out) rfl) (by omega) (by omega)).mono ?_
      rintro e w2 ⟨rfl, hc2⟩
      replace ya0 := hc2.cell0 ya0
      replace ya1 := hc2.cell0 ya1
      have HCW' := Lib.hid (HCW.out.trans0 hc2)
      clear HCW hc2
      have HCW := HCW'
      clear HCW'
      go_wp2
      go_roundw
      case rel =>
        refine ⟨k + 1, by omega, by go_num, ?_, HC.out.trans0 HCW.out⟩
        rw [cntL_succ xs hlt, ← HqE.out]
        rw [cnt_CrtCert]
        go_num
      case measure => simp [intOf]; omega
    · rw [cntL_all xs (by omega)] at *
      have HC := Lib.hid hc
      clear hc ha
      go_wp2
      go_ret
      exact ⟨rfl, HC.out⟩

set_option maxRecDepth 100000 in
set_option maxHeartbeats 1000000 in
theorem heldEngEng_c (x : EngEng) (k0 : Int) (vCertStates : Value) (FCertStates : List Nat) (vCertOuts : Value) (FCertOuts : List Nat) (w : World) (hCertStates : RL w (mkL x.Cert.States (k0)) vCertStates FCertStates) (hCertOuts : RL w (mkL x.Cert.Outs (k0 + (cntL x.Cert.States : Int))) vCertOuts FCertOuts) (hk0 : 0 ≤ k0) (hk1 : k0 + (cntL x.Cert.States : Int) + (cntL x.Cert.Outs : Int) ≤ 4611686018427387904) : Calls Try.prog 22 #[.agg #[.int .i64 x.Phase, .int .i64 x.Round, vCertStates, vCertOuts], .int .i64 k0] w fun e w' => e = .returned (.int .i64 (k0 + (cntL x.Cert.States : Int) + (cntL x.Cert.Outs : Int))) ∧ Chg [] w w' := by
  go_enter Try.func22, Try.ntmps22
  go_wp2_with fail
  refine (heldCrtCert_c x.Cert (k0) _ _ _ _ _ (hCertStates.chg0 (by repeat (first | with_reducible exact Chg.refl _ _ | with_reducible refine Chg.setCell ?_ (Or.inr (by first | (simp; done) | (simp; omega))) _ | with_reducible refine Chg.alloc ?_ _ | with_reducible refine Chg.drewN ?_ _ | with_reducible refine Chg.drew ?_))) (hCertOuts.chg0 (by repeat (first | with_reducible exact Chg.refl _ _ | with_reducible refine Chg.setCell ?_ (Or.inr (by first | (simp; done) | (simp; omega))) _ | with_reducible refine Chg.alloc ?_ _ | with_reducible refine Chg.drewN ?_ _ | with_reducible refine Chg.drew ?_))) (by omega) (by omega)).mono ?_
  rintro e w1 ⟨rfl, hc1⟩
  obtain ⟨hcl1, hfz1⟩ := hc1.cells
  have hz1 := hc1.size
  repeat (first | rw [World.size_alloc] at hz1 | rw [World.size_setCell] at hz1 | rw [World.size_drew] at hz1 | rw [World.heap_drewN] at hz1)
  have hza1 : w.heap.size < w1.heap.size := by omega
  go_wp2
  go_ret
  exact ⟨rfl, by repeat (first | with_reducible exact Chg.refl _ _ | with_reducible refine Chg.setCell ?_ (Or.inr (by first | (simp; done) | (simp; omega))) _ | with_reducible refine Chg.alloc ?_ _ | with_reducible refine Chg.drewN ?_ _ | with_reducible refine Chg.drew ?_ | with_reducible refine Chg.trans0 ?_ hc1)⟩

set_option maxRecDepth 100000 in
set_option maxHeartbeats 1000000 in
theorem heldWrkWorker_c (x : WrkWorker) (k0 : Int) (vSums : Value) (FSums : List Nat) (vEngCertStates : Value) (FEngCertStates : List Nat) (vEngCertOuts : Value) (FEngCertOuts : List Nat) (w : World) (hSums : RL w (mkL x.Sums (k0)) vSums FSums) (hEngCertStates : RL w (mkL x.Eng.Cert.States (k0 + (cntL x.Sums : Int))) vEngCertStates FEngCertStates) (hEngCertOuts : RL w (mkL x.Eng.Cert.Outs (k0 + (cntL x.Sums : Int) + (cntL x.Eng.Cert.States : Int))) vEngCertOuts FEngCertOuts) (hk0 : 0 ≤ k0) (hk1 : k0 + (cntL x.Sums : Int) + (cntL x.Eng.Cert.States : Int) + (cntL x.Eng.Cert.Outs : Int) ≤ 4611686018427387904) : Calls Try.prog 9 #[.agg #[.bool x.Up, .bool x.Busy, .int .i64 x.Part, .int .i64 x.Epoch, .int .i64 x.Seq, vSums, .int .i64 x.Eng.Phase, .int .i64 x.Eng.Round, vEngCertStates, vEngCertOuts], .int .i64 k0] w fun e w' => e = .returned (.int .i64 (k0 + (cntL x.Sums : Int) + (cntL x.Eng.Cert.States : Int) + (cntL x.Eng.Cert.Outs : Int))) ∧ Chg [] w w' := by
  go_enter Try.func9, Try.ntmps9
  go_wp2_with fail
  refine (heldSumSumS_c x.Sums (k0) _ _ _ (hSums.chg0 (by repeat (first | with_reducible exact Chg.refl _ _ | with_reducible refine Chg.setCell ?_ (Or.inr (by first | (simp; done) | (simp; omega))) _ | with_reducible refine Chg.alloc ?_ _ | with_reducible refine Chg.drewN ?_ _ | with_reducible refine Chg.drew ?_))) (by omega) (by omega)).mono ?_
  rintro e w1 ⟨rfl, hc1⟩
  obtain ⟨hcl1, hfz1⟩ := hc1.cells
  have hz1 := hc1.size
  repeat (first | rw [World.size_alloc] at hz1 | rw [World.size_setCell] at hz1 | rw [World.size_drew] at hz1 | rw [World.heap_drewN] at hz1)
  have hza1 : w.heap.size < w1.heap.size := by omega
  go_wp2_with fail
  refine (heldEngEng_c x.Eng (k0 + (cntL x.Sums : Int)) _ _ _ _ _ (hEngCertStates.chg0 (by repeat (first | with_reducible exact Chg.refl _ _ | with_reducible refine Chg.setCell ?_ (Or.inr (by first | (simp; done) | (simp; omega))) _ | with_reducible refine Chg.alloc ?_ _ | with_reducible refine Chg.drewN ?_ _ | with_reducible refine Chg.drew ?_ | with_reducible refine Chg.trans0 ?_ hc1))) (hEngCertOuts.chg0 (by repeat (first | with_reducible exact Chg.refl _ _ | with_reducible refine Chg.setCell ?_ (Or.inr (by first | (simp; done) | (simp; omega))) _ | with_reducible refine Chg.alloc ?_ _ | with_reducible refine Chg.drewN ?_ _ | with_reducible refine Chg.drew ?_ | with_reducible refine Chg.trans0 ?_ hc1))) (by omega) (by omega)).mono ?_
  rintro e w2 ⟨rfl, hc2⟩
  obtain ⟨hcl2, hfz2⟩ := hc2.cells
  have hz2 := hc2.size
  repeat (first | rw [World.size_alloc] at hz2 | rw [World.size_setCell] at hz2 | rw [World.size_drew] at hz2 | rw [World.heap_drewN] at hz2)
  have hza2 : w.heap.size < w2.heap.size := by omega
  go_wp2
  go_ret
  exact ⟨rfl, by repeat (first | with_reducible exact Chg.refl _ _ | with_reducible refine Chg.setCell ?_ (Or.inr (by first | (simp; done) | (simp; omega))) _ | with_reducible refine Chg.alloc ?_ _ | with_reducible refine Chg.drewN ?_ _ | with_reducible refine Chg.drew ?_ | with_reducible refine Chg.trans0 ?_ hc1 | with_reducible refine Chg.trans0 ?_ hc2)⟩

set_option maxRecDepth 100000 in
set_option maxHeartbeats 2000000 in
theorem heldCrdLeaseS_c (xs : List CrdLease) (k0 : Int) (a : Value) (F : List Nat) (w : World) (ha : RL w (mkL xs k0) a F) (hk0 : 0 ≤ k0) (hk1 : k0 + cntL xs ≤ 4611686018427387904) :
    Calls Try.prog 46 #[a, .int .i64 k0] w fun e w' => e = .returned (.int .i64 (k0 + cntL xs)) ∧ Chg [] w w' := by
  obtain ⟨A, ca, rfl, hla, hma⟩ := ha.form
  rw [mkL_length] at *
  have hn : xs.length ≤ maxLen := by omega
  unfold maxLen at hn
  go_enter Try.func46, Try.ntmps46
  go_wp2
  go_loopw [1, 5] (fun kk i wr => ∃ k : Nat, k ≤ xs.length ∧ i = .int .i64 k ∧ kk = .int .i64 (k0 + cntL (xs.take k)) ∧ Chg [] w wr) (fun _ i _ => xs.length - (intOf i).toNat)
  case atStart => exact ⟨0, Nat.zero_le _, rfl, by simp [cntL], Chg.refl _ _⟩
  case round =>
    obtain ⟨k, hk, rfl, rfl, hc⟩ := hrel
    by_cases hlt : k < xs.length
    · obtain ⟨b, off, cap, cs, Fi, e1, r1, m1, -⟩ := (ha.chg0 hc).elem (i := k) (by simpa using hlt)
      rw [mkL_at xs k0 hlt] at r1
      rw [mkL_length] at e1
      have hct := cntL_take_le xs (k + 1)
      rw [cntL_succ xs hlt] at hct
      rw [mark_CrdLease] at r1
      obtain ⟨rfl, hF1, i1_0, i1_1, i1_2, i1_3⟩ := R_CrdLease.1 r1
      injection e1 with e1 _ e1c
      subst e1 e1c
      have ya0 := m1 0 (by decide)
      have ya1 := m1 1 (by decide)
      have ya2 := m1 2 (by decide)
      have ya3 := m1 3 (by decide)
      simp only [sz_CrdLease, Nat.add_zero, List.getElem?_cons_zero, List.getElem?_cons_succ] at ya0 ya1 ya2 ya3
      simp only [cnt_CrdLease] at hct
      have hq0 : 0 ≤ k0 + (cntL (xs.take k) : Int) := by omega
      have hq1 : k0 + (cntL (xs.take k) : Int) + 1 + 1 + 1 + 1 ≤ 4611686018427387904 := by omega
      generalize hq : k0 + (cntL (xs.take k) : Int) = q at *
      have HC := Lib.hid hc
      have HqE := Lib.hid hq
      clear r1 m1 hc hct hq ha
      have ti18 : (q != q) = false := by simp
      have ti19 : (q + 1 != q + 1) = false := by simp
      have ti20 : (q + 1 + 1 != q + 1 + 1) = false := by simp
      have ti21 : (q + 1 + 1 + 1 != q + 1 + 1 + 1) = false := by simp
      go_wp2
      go_roundw
      case rel =>
        refine ⟨k + 1, by omega, by go_num, ?_, HC.out⟩
        rw [cntL_succ xs hlt, ← HqE.out]
        rw [cnt_CrdLease]
        go_num
      case measure => simp [intOf]; omega
    · rw [cntL_all xs (by omega)] at *
      have HC := Lib.hid hc
      clear hc ha
      go_wp2
      go_ret
      exact ⟨rfl, HC.out⟩

set_option maxRecDepth 100000 in
set_option maxHeartbeats 2000000 in
theorem heldBoolS_c (xs : List Bool) (k0 : Int) (a : Value) (F : List Nat) (w : World) (ha : RL w (mkL xs k0) a F) (hk0 : 0 ≤ k0) (hk1 : k0 + cntL xs ≤ 4611686018427387904) :
    Calls Try.prog 44 #[a, .int .i64 k0] w fun e w' => e = .returned (.int .i64 (k0 + cntL xs)) ∧ Chg [] w w' := by
  obtain ⟨A, ca, rfl, hla, hma⟩ := ha.form
  rw [mkL_length] at *
  have hn : xs.length ≤ maxLen := by omega
  unfold maxLen at hn
  go_enter Try.func44, Try.ntmps44
  go_wp2
  go_loopw [1, 5] (fun kk i wr => ∃ k : Nat, k ≤ xs.length ∧ i = .int .i64 k ∧ kk = .int .i64 (k0 + cntL (xs.take k)) ∧ Chg [] w wr) (fun _ i _ => xs.length - (intOf i).toNat)
  case atStart => exact ⟨0, Nat.zero_le _, rfl, by simp [cntL], Chg.refl _ _⟩
  case round =>
    obtain ⟨k, hk, rfl, rfl, hc⟩ := hrel
    by_cases hlt : k < xs.length
    · obtain ⟨b, off, cap, cs, Fi, e1, r1, m1, -⟩ := (ha.chg0 hc).elem (i := k) (by simpa using hlt)
      rw [mkL_at xs k0 hlt] at r1
      rw [mkL_length] at e1
      have hct := cntL_take_le xs (k + 1)
      rw [cntL_succ xs hlt] at hct
      change R wr (((k0 + (cntL (xs.take k) : Int)) % 3 == 0)) cs Fi at r1
      obtain ⟨rfl, -⟩ := R_bool.1 r1
      injection e1 with e1 _ e1c
      subst e1 e1c
      have ya0 := m1 0 (by decide)
      simp only [sz_bool, Nat.mul_one, Nat.add_zero, List.getElem?_cons_zero] at ya0
      change cntL (xs.take k) + 1 ≤ _ at hct
      have hq0 : 0 ≤ k0 + (cntL (xs.take k) : Int) := by omega
      have hq1 : k0 + (cntL (xs.take k) : Int) + 1 ≤ 4611686018427387904 := by omega
      generalize hq : k0 + (cntL (xs.take k) : Int) = q at *
      have HC := Lib.hid hc
      have HqE := Lib.hid hq
      clear r1 m1 hc hct hq ha
      have tb15 : (((q) % 3 == 0) != ((q) % 3 == 0)) = false := by simp
      go_wp2
      go_roundw
      case rel =>
        refine ⟨k + 1, by omega, by go_num, ?_, HC.out⟩
        rw [cntL_succ xs hlt, ← HqE.out]
        change _ = Value.int IntKind.i64 (k0 + ((cntL (xs.take k) + 1 : Nat) : Int))
        go_num
      case measure => simp [intOf]; omega
    · rw [cntL_all xs (by omega)] at *
      have HC := Lib.hid hc
      clear hc ha
      go_wp2
      go_ret
      exact ⟨rfl, HC.out⟩

set_option maxRecDepth 100000 in
set_option maxHeartbeats 2000000 in
theorem heldByteS_c (xs : List UInt8) (k0 : Int) (a : Value) (F : List Nat) (w : World) (ha : RL w (mkL xs k0) a F) (hk0 : 0 ≤ k0) (hk1 : k0 + cntL xs ≤ 4611686018427387904) :
    Calls Try.prog 48 #[a, .int .i64 k0] w fun e w' => e = .returned (.int .i64 (k0 + cntL xs)) ∧ Chg [] w w' := by
  obtain ⟨A, ca, rfl, hla, hma⟩ := ha.form
  rw [mkL_length] at *
  have hn : xs.length ≤ maxLen := by omega
  unfold maxLen at hn
  go_enter Try.func48, Try.ntmps48
  go_wp2
  go_loopw [1, 5] (fun kk i wr => ∃ k : Nat, k ≤ xs.length ∧ i = .int .i64 k ∧ kk = .int .i64 (k0 + cntL (xs.take k)) ∧ Chg [] w wr) (fun _ i _ => xs.length - (intOf i).toNat)
  case atStart => exact ⟨0, Nat.zero_le _, rfl, by simp [cntL], Chg.refl _ _⟩
  case round =>
    obtain ⟨k, hk, rfl, rfl, hc⟩ := hrel
    by_cases hlt : k < xs.length
    · obtain ⟨b, off, cap, cs, Fi, e1, r1, m1, -⟩ := (ha.chg0 hc).elem (i := k) (by simpa using hlt)
      rw [mkL_at xs k0 hlt] at r1
      rw [mkL_length] at e1
      have hct := cntL_take_le xs (k + 1)
      rw [cntL_succ xs hlt] at hct
      change R wr (UInt8.ofNat ((k0 + (cntL (xs.take k) : Int)) % 256).toNat) cs Fi at r1
      obtain ⟨rfl, -⟩ := R_u8.1 r1
      injection e1 with e1 _ e1c
      subst e1 e1c
      have ya0 := m1 0 (by decide)
      simp only [sz_u8, Nat.mul_one, Nat.add_zero, List.getElem?_cons_zero] at ya0
      change cntL (xs.take k) + 1 ≤ _ at hct
      have hq0 : 0 ≤ k0 + (cntL (xs.take k) : Int) := by omega
      have hq1 : k0 + (cntL (xs.take k) : Int) + 1 ≤ 4611686018427387904 := by omega
      generalize hq : k0 + (cntL (xs.take k) : Int) = q at *
      have HC := Lib.hid hc
      have HqE := Lib.hid hq
      clear r1 m1 hc hct hq ha
      have tb : ((((UInt8.ofNat ((q) % 256).toNat).toNat : Nat) : Int) != (q) % 256) = false := by rw [u8_mark]; simp
      go_wp2
      go_roundw
      case rel =>
        refine ⟨k + 1, by omega, by go_num, ?_, HC.out⟩
        rw [cntL_succ xs hlt, ← HqE.out]
        change _ = Value.int IntKind.i64 (k0 + ((cntL (xs.take k) + 1 : Nat) : Int))
        go_num
      case measure => simp [intOf]; omega
    · rw [cntL_all xs (by omega)] at *
      have HC := Lib.hid hc
      clear hc ha
      go_wp2
      go_ret
      exact ⟨rfl, HC.out⟩

set_option maxRecDepth 100000 in
set_option maxHeartbeats 1000000 in
theorem heldCrdCoord_c (x : CrdCoord) (k0 : Int) (vDone : Value) (FDone : List Nat) (vCerts : Value) (FCerts : List Nat) (vLeases : Value) (FLeases : List Nat) (vVerdictSites : Value) (FVerdictSites : List Nat) (vLog : Value) (FLog : List Nat) (w : World) (hDone : RL w (mkL x.Done (k0)) vDone FDone) (hCerts : RL w (mkL x.Certs (k0 + (cntL x.Done : Int))) vCerts FCerts) (hLeases : RL w (mkL x.Leases (k0 + (cntL x.Done : Int) + (cntL x.Certs : Int))) vLeases FLeases) (hVerdictSites : RL w (mkL x.Verdict.Sites (k0 + (cntL x.Done : Int) + (cntL x.Certs : Int) + (cntL x.Leases : Int))) vVerdictSites FVerdictSites) (hLog : RL w (mkL x.Log (k0 + (cntL x.Done : Int) + (cntL x.Certs : Int) + (cntL x.Leases : Int) + (cntL x.Verdict.Sites : Int))) vLog FLog) (hk0 : 0 ≤ k0) (hk1 : k0 + (cntL x.Done : Int) + (cntL x.Certs : Int) + (cntL x.Leases : Int) + (cntL x.Verdict.Sites : Int) + (cntL x.Log : Int) ≤ 4611686018427387904) : Calls Try.prog 16 #[.agg #[.bool x.Up, .int .i64 x.Epoch, .int .i64 x.Seq, .int .i64 x.Clock, vDone, vCerts, vLeases, .int .i64 x.Verdict.Kind, .int .i64 x.Verdict.Line, vVerdictSites, vLog], .int .i64 k0] w fun e w' => e = .returned (.int .i64 (k0 + (cntL x.Done : Int) + (cntL x.Certs : Int) + (cntL x.Leases : Int) + (cntL x.Verdict.Sites : Int) + (cntL x.Log : Int))) ∧ Chg [] w w' := by
  go_enter Try.func16, Try.ntmps16
  go_wp2_with fail
  refine (heldBoolS_c x.Done (k0) _ _ _ (hDone.chg0 (by repeat (first | with_reducible exact Chg.refl _ _ | with_reducible refine Chg.setCell ?_ (Or.inr (by first | (simp; done) | (simp; omega))) _ | with_reducible refine Chg.alloc ?_ _ | with_reducible refine Chg.drewN ?_ _ | with_reducible refine Chg.drew ?_))) (by omega) (by omega)).mono ?_
  rintro e w1 ⟨rfl, hc1⟩
  obtain ⟨hcl1, hfz1⟩ := hc1.cells
  have hz1 := hc1.size
  repeat (first | rw [World.size_alloc] at hz1 | rw [World.size_setCell] at hz1 | rw [World.size_drew] at hz1 | rw [World.heap_drewN] at hz1)
  have hza1 : w.heap.size < w1.heap.size := by omega
  go_wp2_with fail
  refine (heldCrtCertS_c x.Certs (k0 + (cntL x.Done : Int)) _ _ _ (hCerts.chg0 (by repeat (first | with_reducible exact Chg.refl _ _ | with_reducible refine Chg.setCell ?_ (Or.inr (by first | (simp; done) | (simp; omega))) _ | with_reducible refine Chg.alloc ?_ _ | with_reducible refine Chg.drewN ?_ _ | with_reducible refine Chg.drew ?_ | with_reducible refine Chg.trans0 ?_ hc1))) (by omega) (by omega)).mono ?_
  rintro e w2 ⟨rfl, hc2⟩
  obtain ⟨hcl2, hfz2⟩ := hc2.cells
  have hz2 := hc2.size
  repeat (first | rw [World.size_alloc] at hz2 | rw [World.size_setCell] at hz2 | rw [World.size_drew] at hz2 | rw [World.heap_drewN] at hz2)
  have hza2 : w.heap.size < w2.heap.size := by omega
  go_wp2_with fail
  refine (heldCrdLeaseS_c x.Leases (k0 + (cntL x.Done : Int) + (cntL x.Certs : Int)) _ _ _ (hLeases.chg0 (by repeat (first | with_reducible exact Chg.refl _ _ | with_reducible refine Chg.setCell ?_ (Or.inr (by first | (simp; done) | (simp; omega))) _ | with_reducible refine Chg.alloc ?_ _ | with_reducible refine Chg.drewN ?_ _ | with_reducible refine Chg.drew ?_ | with_reducible refine Chg.trans0 ?_ hc1 | with_reducible refine Chg.trans0 ?_ hc2))) (by omega) (by omega)).mono ?_
  rintro e w3 ⟨rfl, hc3⟩
  obtain ⟨hcl3, hfz3⟩ := hc3.cells
  have hz3 := hc3.size
  repeat (first | rw [World.size_alloc] at hz3 | rw [World.size_setCell] at hz3 | rw [World.size_drew] at hz3 | rw [World.heap_drewN] at hz3)
  have hza3 : w.heap.size < w3.heap.size := by omega
  go_wp2_with fail
  refine (heldVrdVerdict_c x.Verdict (k0 + (cntL x.Done : Int) + (cntL x.Certs : Int) + (cntL x.Leases : Int)) _ _ _ (hVerdictSites.chg0 (by repeat (first | with_reducible exact Chg.refl _ _ | with_reducible refine Chg.setCell ?_ (Or.inr (by first | (simp; done) | (simp; omega))) _ | with_reducible refine Chg.alloc ?_ _ | with_reducible refine Chg.drewN ?_ _ | with_reducible refine Chg.drew ?_ | with_reducible refine Chg.trans0 ?_ hc1 | with_reducible refine Chg.trans0 ?_ hc2 | with_reducible refine Chg.trans0 ?_ hc3))) (by omega) (by omega)).mono ?_
  rintro e w4 ⟨rfl, hc4⟩
  obtain ⟨hcl4, hfz4⟩ := hc4.cells
  have hz4 := hc4.size
  repeat (first | rw [World.size_alloc] at hz4 | rw [World.size_setCell] at hz4 | rw [World.size_drew] at hz4 | rw [World.heap_drewN] at hz4)
  have hza4 : w.heap.size < w4.heap.size := by omega
  go_wp2_with fail
  refine (heldByteS_c x.Log (k0 + (cntL x.Done : Int) + (cntL x.Certs : Int) + (cntL x.Leases : Int) + (cntL x.Verdict.Sites : Int)) _ _ _ (hLog.chg0 (by repeat (first | with_reducible exact Chg.refl _ _ | with_reducible refine Chg.setCell ?_ (Or.inr (by first | (simp; done) | (simp; omega))) _ | with_reducible refine Chg.alloc ?_ _ | with_reducible refine Chg.drewN ?_ _ | with_reducible refine Chg.drew ?_ | with_reducible refine Chg.trans0 ?_ hc1 | with_reducible refine Chg.trans0 ?_ hc2 | with_reducible refine Chg.trans0 ?_ hc3 | with_reducible refine Chg.trans0 ?_ hc4))) (by omega) (by omega)).mono ?_
  rintro e w5 ⟨rfl, hc5⟩
  obtain ⟨hcl5, hfz5⟩ := hc5.cells
  have hz5 := hc5.size
  repeat (first | rw [World.size_alloc] at hz5 | rw [World.size_setCell] at hz5 | rw [World.size_drew] at hz5 | rw [World.heap_drewN] at hz5)
  have hza5 : w.heap.size < w5.heap.size := by omega
  go_wp2
  go_ret
  exact ⟨rfl, by repeat (first | with_reducible exact Chg.refl _ _ | with_reducible refine Chg.setCell ?_ (Or.inr (by first | (simp; done) | (simp; omega))) _ | with_reducible refine Chg.alloc ?_ _ | with_reducible refine Chg.drewN ?_ _ | with_reducible refine Chg.drew ?_ | with_reducible refine Chg.trans0 ?_ hc1 | with_reducible refine Chg.trans0 ?_ hc2 | with_reducible refine Chg.trans0 ?_ hc3 | with_reducible refine Chg.trans0 ?_ hc4 | with_reducible refine Chg.trans0 ?_ hc5)⟩

end Go.Proofs.Ytaiinlhobcclcaa.Wk
