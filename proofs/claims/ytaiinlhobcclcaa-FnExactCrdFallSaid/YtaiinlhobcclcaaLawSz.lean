/-
  Contracts of the laws' own functions, written by a program of mine (wip/gen/gen_laws.py).
-/
import Derived.Test.YtaiinlhobcclcaaBase
namespace Go.Proofs.Ytaiinlhobcclcaa.Wk
open Go Go.RowKit Go.Deep Ow
open Rp (R sz)
open Mk (mark cnt)
open Zr (zero zcells zr)

set_option maxRecDepth 100000 in
set_option maxHeartbeats 1000000 in
theorem szCrtSiteS_c (xs : List CrtSite) (a : Value) (F : List Nat) (l : Int) (w : World) (ha : RL w xs a F) (hl0 : 0 ≤ l) (hl1 : l ≤ 4611686018427387904) :
    Calls Try.prog 54 #[a, .int .i64 l] w fun e w' => (∃ r, e = .returned (.int .i64 r) ∧ SzR r l (szL xs)) ∧ Chg [] w w' := by
  obtain ⟨A, ca, rfl, hla, hma⟩ := ha.form
  have hn : xs.length ≤ maxLen := by omega
  unfold maxLen at hn
  have hz : szI xs = 0 := by
    clear ha hla hn
    induction xs with
    | nil => rfl
    | cons x r ih => simp only [szI, ih, size_CrtSite]
  have hs : szL xs = xs.length := by unfold szL; omega
  rw [hs]
  clear ha hz hs
  by_cases hf : (xs.length : Int) ≤ l
  · have t : ¬ l - (xs.length : Int) < 0 := by omega
    go_enter Try.func54, Try.ntmps54
    go_wp2
    go_ret
    exact ⟨⟨_, rfl, Or.inr ⟨by omega, by omega⟩⟩, Chg.refl _ _⟩
  · have t : l - (xs.length : Int) < 0 := by omega
    go_enter Try.func54, Try.ntmps54
    go_wp2
    go_ret
    exact ⟨⟨_, rfl, Or.inl rfl⟩, Chg.refl _ _⟩

set_option maxRecDepth 100000 in
set_option maxHeartbeats 1000000 in
theorem szVrdVerdict_c (x : VrdVerdict) (vSites : Value) (FSites : List Nat) (l : Int) (w : World) (hSites : RL w x.Sites vSites FSites) (hl0 : 0 ≤ l) (hl1 : l ≤ 4611686018427387904) : Calls Try.prog 26 #[.agg #[.int .i64 x.Kind, .int .i64 x.Line, vSites], .int .i64 l] w fun e w' => (∃ r, e = .returned (.int .i64 r) ∧ SzR r l (Sz.size x)) ∧ Chg [] w w' := by
  go_enter Try.func26, Try.ntmps26
  go_wp2_with fail
  refine (szCrtSiteS_c x.Sites _ _ _ _ (hSites.chg0 (by repeat (first | with_reducible exact Chg.refl _ _ | with_reducible assumption | with_reducible refine Chg.setCell ?_ (Or.inr (by first | (simp; done) | (simp; omega))) _ | with_reducible refine Chg.alloc ?_ _ | with_reducible refine Chg.drewN ?_ _ | with_reducible refine Chg.drew ?_))) hl0 hl1).mono ?_
  rintro e w1 ⟨⟨r1, rfl, hr1⟩, hc1⟩
  have hw1 : Chg [] w w1 := Chg.trans0 (by repeat (first | with_reducible exact Chg.refl _ _ | with_reducible assumption | with_reducible refine Chg.setCell ?_ (Or.inr (by first | (simp; done) | (simp; omega))) _ | with_reducible refine Chg.alloc ?_ _ | with_reducible refine Chg.drewN ?_ _ | with_reducible refine Chg.drew ?_)) hc1
  obtain ⟨hcl1, hfz1⟩ := hc1.cells
  have hz1 := hc1.size
  repeat (first | rw [World.size_alloc] at hz1 | rw [World.size_setCell] at hz1 | rw [World.size_drew] at hz1 | rw [World.heap_drewN] at hz1)
  have hza1 : w.heap.size < w1.heap.size := by omega
  clear hc1
  rcases hr1 with rfl | ⟨hn1, he1⟩
  · go_wp2
    go_ret
    exact ⟨⟨_, rfl, Or.inl rfl⟩, by repeat (first | with_reducible exact Chg.refl _ _ | with_reducible assumption | with_reducible refine Chg.setCell ?_ (Or.inr (by first | (simp; done) | (simp; omega))) _ | with_reducible refine Chg.alloc ?_ _ | with_reducible refine Chg.drewN ?_ _ | with_reducible refine Chg.drew ?_)⟩
  have hb1 : r1 ≤ 4611686018427387904 := by omega
  have hE1 := Lib.hid he1
  clear he1
  go_wp2
  go_ret
  refine ⟨⟨_, rfl, Or.inr ⟨hn1, ?_⟩⟩, by repeat (first | with_reducible exact Chg.refl _ _ | with_reducible assumption | with_reducible refine Chg.setCell ?_ (Or.inr (by first | (simp; done) | (simp; omega))) _ | with_reducible refine Chg.alloc ?_ _ | with_reducible refine Chg.drewN ?_ _ | with_reducible refine Chg.drew ?_)⟩
  have ghE1 := hE1.out
  clear hcl1 hfz1
  rw [size_VrdVerdict]
  omega

set_option maxRecDepth 100000 in
set_option maxHeartbeats 1000000 in
theorem szItvItvS_c (xs : List ItvItv) (a : Value) (F : List Nat) (l : Int) (w : World) (ha : RL w xs a F) (hl0 : 0 ≤ l) (hl1 : l ≤ 4611686018427387904) :
    Calls Try.prog 85 #[a, .int .i64 l] w fun e w' => (∃ r, e = .returned (.int .i64 r) ∧ SzR r l (szL xs)) ∧ Chg [] w w' := by
  obtain ⟨A, ca, rfl, hla, hma⟩ := ha.form
  have hn : xs.length ≤ maxLen := by omega
  unfold maxLen at hn
  have hz : szI xs = 0 := by
    clear ha hla hn
    induction xs with
    | nil => rfl
    | cons x r ih => simp only [szI, ih, size_ItvItv]
  have hs : szL xs = xs.length := by unfold szL; omega
  rw [hs]
  clear ha hz hs
  by_cases hf : (xs.length : Int) ≤ l
  · have t : ¬ l - (xs.length : Int) < 0 := by omega
    go_enter Try.func85, Try.ntmps85
    go_wp2
    go_ret
    exact ⟨⟨_, rfl, Or.inr ⟨by omega, by omega⟩⟩, Chg.refl _ _⟩
  · have t : l - (xs.length : Int) < 0 := by omega
    go_enter Try.func85, Try.ntmps85
    go_wp2
    go_ret
    exact ⟨⟨_, rfl, Or.inl rfl⟩, Chg.refl _ _⟩

set_option maxRecDepth 100000 in
set_option maxHeartbeats 1000000 in
theorem szAbsState_c (x : AbsState) (vVars : Value) (FVars : List Nat) (l : Int) (w : World) (hVars : RL w x.Vars vVars FVars) (hl0 : 0 ≤ l) (hl1 : l ≤ 4611686018427387904) : Calls Try.prog 81 #[.agg #[.bool x.On, vVars, .int .i64 x.Cells.Lo, .int .i64 x.Cells.Hi], .int .i64 l] w fun e w' => (∃ r, e = .returned (.int .i64 r) ∧ SzR r l (Sz.size x)) ∧ Chg [] w w' := by
  go_enter Try.func81, Try.ntmps81
  go_wp2_with fail
  refine (szItvItvS_c x.Vars _ _ _ _ (hVars.chg0 (by repeat (first | with_reducible exact Chg.refl _ _ | with_reducible assumption | with_reducible refine Chg.setCell ?_ (Or.inr (by first | (simp; done) | (simp; omega))) _ | with_reducible refine Chg.alloc ?_ _ | with_reducible refine Chg.drewN ?_ _ | with_reducible refine Chg.drew ?_))) hl0 hl1).mono ?_
  rintro e w1 ⟨⟨r1, rfl, hr1⟩, hc1⟩
  have hw1 : Chg [] w w1 := Chg.trans0 (by repeat (first | with_reducible exact Chg.refl _ _ | with_reducible assumption | with_reducible refine Chg.setCell ?_ (Or.inr (by first | (simp; done) | (simp; omega))) _ | with_reducible refine Chg.alloc ?_ _ | with_reducible refine Chg.drewN ?_ _ | with_reducible refine Chg.drew ?_)) hc1
  obtain ⟨hcl1, hfz1⟩ := hc1.cells
  have hz1 := hc1.size
  repeat (first | rw [World.size_alloc] at hz1 | rw [World.size_setCell] at hz1 | rw [World.size_drew] at hz1 | rw [World.heap_drewN] at hz1)
  have hza1 : w.heap.size < w1.heap.size := by omega
  clear hc1
  rcases hr1 with rfl | ⟨hn1, he1⟩
  · go_wp2
    go_ret
    exact ⟨⟨_, rfl, Or.inl rfl⟩, by repeat (first | with_reducible exact Chg.refl _ _ | with_reducible assumption | with_reducible refine Chg.setCell ?_ (Or.inr (by first | (simp; done) | (simp; omega))) _ | with_reducible refine Chg.alloc ?_ _ | with_reducible refine Chg.drewN ?_ _ | with_reducible refine Chg.drew ?_)⟩
  have hb1 : r1 ≤ 4611686018427387904 := by omega
  have hE1 := Lib.hid he1
  clear he1
  go_wp2
  go_ret
  refine ⟨⟨_, rfl, Or.inr ⟨hn1, ?_⟩⟩, by repeat (first | with_reducible exact Chg.refl _ _ | with_reducible assumption | with_reducible refine Chg.setCell ?_ (Or.inr (by first | (simp; done) | (simp; omega))) _ | with_reducible refine Chg.alloc ?_ _ | with_reducible refine Chg.drewN ?_ _ | with_reducible refine Chg.drew ?_)⟩
  have ghE1 := hE1.out
  clear hcl1 hfz1
  rw [size_AbsState]
  omega

set_option maxRecDepth 100000 in
set_option maxHeartbeats 1000000 in
theorem szAbsStateS_c (xs : List AbsState) (a : Value) (F : List Nat) (l : Int) (w : World) (ha : RL w xs a F) (hl0 : 0 ≤ l) (hl1 : l ≤ 4611686018427387904) :
    Calls Try.prog 75 #[a, .int .i64 l] w fun e w' => (∃ r, e = .returned (.int .i64 r) ∧ SzR r l (szL xs)) ∧ Chg [] w w' := by
  obtain ⟨A, ca, rfl, hla, hma⟩ := ha.form
  have hn : xs.length ≤ maxLen := by omega
  unfold maxLen at hn
  by_cases hf : ¬ (xs.length : Int) ≤ l
  · have t : l - (xs.length : Int) < 0 := by omega
    clear ha
    go_enter Try.func75, Try.ntmps75
    go_wp2
    go_ret
    exact ⟨⟨_, rfl, Or.inl rfl⟩, Chg.refl _ _⟩
  have hf' : (xs.length : Int) ≤ l := Decidable.not_not.1 hf
  clear hf
  have t : ¬ l - (xs.length : Int) < 0 := by omega
  go_enter Try.func75, Try.ntmps75
  go_wp2
  go_loopw [1, 5] (fun lf i wr => ∃ (k : Nat) (r : Int), k ≤ xs.length ∧ i = .int .i64 k ∧ lf = .int .i64 r ∧ 0 ≤ r ∧ r + xs.length + szI (xs.take k) = l ∧ Chg [] w wr) (fun _ i _ => xs.length - (intOf i).toNat)
  case atStart => exact ⟨0, _, Nat.zero_le _, rfl, rfl, by omega, by simp [szI], Chg.refl _ _⟩
  case round =>
    obtain ⟨k, r, hk, rfl, rfl, hr0, hre, hc⟩ := hrel
    have hr1 : r ≤ 4611686018427387904 := by omega
    by_cases hlt : k < xs.length
    · obtain ⟨b1, o1, p1, c1, f1, e1, r1, m1, -⟩ := (ha.chg0 hc).elem hlt
      obtain ⟨v1_0, F1_0, rfl, hF1, g1_0, i1_0, i1_1⟩ := R_AbsState.1 r1
      injection e1 with e1 _ e1c
      subst e1 e1c
      have ya0 := m1 0 (by decide)
      have ya1 := m1 1 (by decide)
      have ya2 := m1 2 (by decide)
      have ya3 := m1 3 (by decide)
      simp only [sz_AbsState, Nat.add_zero, List.getElem?_cons_zero, List.getElem?_cons_succ] at ya0 ya1 ya2 ya3
      have HE := Lib.hid hre
      have HC := Lib.hid hc
      clear m1 r1 ha hre hc
      go_wp2_with fail
      refine (szAbsState_c xs[k] _ _ _ _ (by exact RL.same g1_0 rfl) hr0 hr1).mono ?_
      rintro e w1 ⟨⟨r2, rfl, hr2⟩, hc1⟩
      have hc2 := HC.out.trans0 hc1
      have HC2 := Lib.hid hc2
      clear hc1 hc2
      rcases hr2 with rfl | ⟨hn2, he2⟩
      · go_wp2
        go_ret
        exact ⟨⟨_, rfl, Or.inl rfl⟩, HC2.out⟩
      have HE2 := Lib.hid he2
      clear he2
      go_wp2
      go_roundw
      case rel => exact ⟨k + 1, _, by omega, by go_num, rfl, hn2, by have h1 := HE.out; have h2 := HE2.out; rw [szI_succ xs hlt]; first | omega | (change r2 + ((Sz.size xs[k] : Nat) : Int) = r at h2; omega), HC2.out⟩
      case measure => simp [intOf]; omega
    · have he3 : szI (xs.take k) = szI xs := szI_all xs (by omega)
      rw [he3] at hre
      have HE := Lib.hid hre
      have HC := Lib.hid hc
      clear ha hre hc he3
      go_wp2
      go_ret
      exact ⟨⟨_, rfl, Or.inr ⟨hr0, by have := HE.out; unfold szL; omega⟩⟩, HC.out⟩

set_option maxRecDepth 100000 in
set_option maxHeartbeats 1000000 in
theorem szAbsStateSS_c (xs : List (List AbsState)) (a : Value) (F : List Nat) (l : Int) (w : World) (ha : RL w xs a F) (hl0 : 0 ≤ l) (hl1 : l ≤ 4611686018427387904) :
    Calls Try.prog 66 #[a, .int .i64 l] w fun e w' => (∃ r, e = .returned (.int .i64 r) ∧ SzR r l (szL xs)) ∧ Chg [] w w' := by
  obtain ⟨A, ca, rfl, hla, hma⟩ := ha.form
  have hn : xs.length ≤ maxLen := by omega
  unfold maxLen at hn
  by_cases hf : ¬ (xs.length : Int) ≤ l
  · have t : l - (xs.length : Int) < 0 := by omega
    clear ha
    go_enter Try.func66, Try.ntmps66
    go_wp2
    go_ret
    exact ⟨⟨_, rfl, Or.inl rfl⟩, Chg.refl _ _⟩
  have hf' : (xs.length : Int) ≤ l := Decidable.not_not.1 hf
  clear hf
  have t : ¬ l - (xs.length : Int) < 0 := by omega
  go_enter Try.func66, Try.ntmps66
  go_wp2
  go_loopw [1, 5] (fun lf i wr => ∃ (k : Nat) (r : Int), k ≤ xs.length ∧ i = .int .i64 k ∧ lf = .int .i64 r ∧ 0 ≤ r ∧ r + xs.length + szI (xs.take k) = l ∧ Chg [] w wr) (fun _ i _ => xs.length - (intOf i).toNat)
  case atStart => exact ⟨0, _, Nat.zero_le _, rfl, rfl, by omega, by simp [szI], Chg.refl _ _⟩
  case round =>
    obtain ⟨k, r, hk, rfl, rfl, hr0, hre, hc⟩ := hrel
    have hr1 : r ≤ 4611686018427387904 := by omega
    by_cases hlt : k < xs.length
    · obtain ⟨b1, o1, p1, c1, f1, e1, r1, m1, -⟩ := (ha.chg0 hc).elem hlt
      obtain ⟨v1_0, rfl, g1_0⟩ := R_list.1 r1
      injection e1 with e1 _ e1c
      subst e1 e1c
      have ya0 := m1 0 (by decide)
      simp only [sz_list, Nat.mul_one, Nat.add_zero, List.getElem?_cons_zero] at ya0
      have HE := Lib.hid hre
      have HC := Lib.hid hc
      clear m1 r1 ha hre hc
      go_wp2_with fail
      refine (szAbsStateS_c xs[k] _ _ _ _ (by exact RL.same g1_0 rfl) hr0 hr1).mono ?_
      rintro e w1 ⟨⟨r2, rfl, hr2⟩, hc1⟩
      have hc2 := HC.out.trans0 hc1
      have HC2 := Lib.hid hc2
      clear hc1 hc2
      rcases hr2 with rfl | ⟨hn2, he2⟩
      · go_wp2
        go_ret
        exact ⟨⟨_, rfl, Or.inl rfl⟩, HC2.out⟩
      have HE2 := Lib.hid he2
      clear he2
      go_wp2
      go_roundw
      case rel => exact ⟨k + 1, _, by omega, by go_num, rfl, hn2, by have h1 := HE.out; have h2 := HE2.out; rw [szI_succ xs hlt]; first | omega | (change r2 + ((Sz.size xs[k] : Nat) : Int) = r at h2; omega), HC2.out⟩
      case measure => simp [intOf]; omega
    · have he3 : szI (xs.take k) = szI xs := szI_all xs (by omega)
      rw [he3] at hre
      have HE := Lib.hid hre
      have HC := Lib.hid hc
      clear ha hre hc he3
      go_wp2
      go_ret
      exact ⟨⟨_, rfl, Or.inr ⟨hr0, by have := HE.out; unfold szL; omega⟩⟩, HC.out⟩

set_option maxRecDepth 100000 in
set_option maxHeartbeats 1000000 in
theorem szSumSumS_c (xs : List SumSum) (a : Value) (F : List Nat) (l : Int) (w : World) (ha : RL w xs a F) (hl0 : 0 ≤ l) (hl1 : l ≤ 4611686018427387904) :
    Calls Try.prog 67 #[a, .int .i64 l] w fun e w' => (∃ r, e = .returned (.int .i64 r) ∧ SzR r l (szL xs)) ∧ Chg [] w w' := by
  obtain ⟨A, ca, rfl, hla, hma⟩ := ha.form
  have hn : xs.length ≤ maxLen := by omega
  unfold maxLen at hn
  have hz : szI xs = 0 := by
    clear ha hla hn
    induction xs with
    | nil => rfl
    | cons x r ih => simp only [szI, ih, size_SumSum]
  have hs : szL xs = xs.length := by unfold szL; omega
  rw [hs]
  clear ha hz hs
  by_cases hf : (xs.length : Int) ≤ l
  · have t : ¬ l - (xs.length : Int) < 0 := by omega
    go_enter Try.func67, Try.ntmps67
    go_wp2
    go_ret
    exact ⟨⟨_, rfl, Or.inr ⟨by omega, by omega⟩⟩, Chg.refl _ _⟩
  · have t : l - (xs.length : Int) < 0 := by omega
    go_enter Try.func67, Try.ntmps67
    go_wp2
    go_ret
    exact ⟨⟨_, rfl, Or.inl rfl⟩, Chg.refl _ _⟩

set_option maxRecDepth 100000 in
set_option maxHeartbeats 1000000 in
theorem szCrtCert_c (x : CrtCert) (vStates : Value) (FStates : List Nat) (vOuts : Value) (FOuts : List Nat) (l : Int) (w : World) (hStates : RL w x.States vStates FStates) (hOuts : RL w x.Outs vOuts FOuts) (hl0 : 0 ≤ l) (hl1 : l ≤ 4611686018427387904) : Calls Try.prog 53 #[.agg #[vStates, vOuts], .int .i64 l] w fun e w' => (∃ r, e = .returned (.int .i64 r) ∧ SzR r l (Sz.size x)) ∧ Chg [] w w' := by
  go_enter Try.func53, Try.ntmps53
  go_wp2_with fail
  refine (szAbsStateSS_c x.States _ _ _ _ (hStates.chg0 (by repeat (first | with_reducible exact Chg.refl _ _ | with_reducible assumption | with_reducible refine Chg.setCell ?_ (Or.inr (by first | (simp; done) | (simp; omega))) _ | with_reducible refine Chg.alloc ?_ _ | with_reducible refine Chg.drewN ?_ _ | with_reducible refine Chg.drew ?_))) hl0 hl1).mono ?_
  rintro e w1 ⟨⟨r1, rfl, hr1⟩, hc1⟩
  have hw1 : Chg [] w w1 := Chg.trans0 (by repeat (first | with_reducible exact Chg.refl _ _ | with_reducible assumption | with_reducible refine Chg.setCell ?_ (Or.inr (by first | (simp; done) | (simp; omega))) _ | with_reducible refine Chg.alloc ?_ _ | with_reducible refine Chg.drewN ?_ _ | with_reducible refine Chg.drew ?_)) hc1
  obtain ⟨hcl1, hfz1⟩ := hc1.cells
  have hz1 := hc1.size
  repeat (first | rw [World.size_alloc] at hz1 | rw [World.size_setCell] at hz1 | rw [World.size_drew] at hz1 | rw [World.heap_drewN] at hz1)
  have hza1 : w.heap.size < w1.heap.size := by omega
  clear hc1
  rcases hr1 with rfl | ⟨hn1, he1⟩
  · go_wp2
    go_ret
    exact ⟨⟨_, rfl, Or.inl rfl⟩, by repeat (first | with_reducible exact Chg.refl _ _ | with_reducible assumption | with_reducible refine Chg.setCell ?_ (Or.inr (by first | (simp; done) | (simp; omega))) _ | with_reducible refine Chg.alloc ?_ _ | with_reducible refine Chg.drewN ?_ _ | with_reducible refine Chg.drew ?_)⟩
  have hb1 : r1 ≤ 4611686018427387904 := by omega
  have hE1 := Lib.hid he1
  clear he1
  go_wp2_with fail
  refine (szSumSumS_c x.Outs _ _ _ _ (hOuts.chg0 (by repeat (first | with_reducible exact Chg.refl _ _ | with_reducible assumption | with_reducible refine Chg.setCell ?_ (Or.inr (by first | (simp; done) | (simp; omega))) _ | with_reducible refine Chg.alloc ?_ _ | with_reducible refine Chg.drewN ?_ _ | with_reducible refine Chg.drew ?_))) hn1 hb1).mono ?_
  rintro e w2 ⟨⟨r2, rfl, hr2⟩, hc2⟩
  have hw2 : Chg [] w w2 := Chg.trans0 (by repeat (first | with_reducible exact Chg.refl _ _ | with_reducible assumption | with_reducible refine Chg.setCell ?_ (Or.inr (by first | (simp; done) | (simp; omega))) _ | with_reducible refine Chg.alloc ?_ _ | with_reducible refine Chg.drewN ?_ _ | with_reducible refine Chg.drew ?_)) hc2
  obtain ⟨hcl2, hfz2⟩ := hc2.cells
  have hz2 := hc2.size
  repeat (first | rw [World.size_alloc] at hz2 | rw [World.size_setCell] at hz2 | rw [World.size_drew] at hz2 | rw [World.heap_drewN] at hz2)
  have hza2 : w.heap.size < w2.heap.size := by omega
  clear hc2
  rcases hr2 with rfl | ⟨hn2, he2⟩
  · go_wp2
    go_ret
    exact ⟨⟨_, rfl, Or.inl rfl⟩, by repeat (first | with_reducible exact Chg.refl _ _ | with_reducible assumption | with_reducible refine Chg.setCell ?_ (Or.inr (by first | (simp; done) | (simp; omega))) _ | with_reducible refine Chg.alloc ?_ _ | with_reducible refine Chg.drewN ?_ _ | with_reducible refine Chg.drew ?_)⟩
  have hb2 : r2 ≤ 4611686018427387904 := by omega
  have hE2 := Lib.hid he2
  clear he2
  go_wp2
  go_ret
  refine ⟨⟨_, rfl, Or.inr ⟨hn2, ?_⟩⟩, by repeat (first | with_reducible exact Chg.refl _ _ | with_reducible assumption | with_reducible refine Chg.setCell ?_ (Or.inr (by first | (simp; done) | (simp; omega))) _ | with_reducible refine Chg.alloc ?_ _ | with_reducible refine Chg.drewN ?_ _ | with_reducible refine Chg.drew ?_)⟩
  have ghE1 := hE1.out
  have ghE2 := hE2.out
  clear hcl1 hfz1 hcl2 hfz2
  rw [size_CrtCert]
  omega

set_option maxRecDepth 100000 in
set_option maxHeartbeats 1000000 in
theorem szCrtCertS_c (xs : List CrtCert) (a : Value) (F : List Nat) (l : Int) (w : World) (ha : RL w xs a F) (hl0 : 0 ≤ l) (hl1 : l ≤ 4611686018427387904) :
    Calls Try.prog 24 #[a, .int .i64 l] w fun e w' => (∃ r, e = .returned (.int .i64 r) ∧ SzR r l (szL xs)) ∧ Chg [] w w' := by
  obtain ⟨A, ca, rfl, hla, hma⟩ := ha.form
  have hn : xs.length ≤ maxLen := by omega
  unfold maxLen at hn
  by_cases hf : ¬ (xs.length : Int) ≤ l
  · have t : l - (xs.length : Int) < 0 := by omega
    clear ha
    go_enter Try.func24, Try.ntmps24
    go_wp2
    go_ret
    exact ⟨⟨_, rfl, Or.inl rfl⟩, Chg.refl _ _⟩
  have hf' : (xs.length : Int) ≤ l := Decidable.not_not.1 hf
  clear hf
  have t : ¬ l - (xs.length : Int) < 0 := by omega
  go_enter Try.func24, Try.ntmps24
  go_wp2
  go_loopw [1, 5] (fun lf i wr => ∃ (k : Nat) (r : Int), k ≤ xs.length ∧ i = .int .i64 k ∧ lf = .int .i64 r ∧ 0 ≤ r ∧ r + xs.length + szI (xs.take k) = l ∧ Chg [] w wr) (fun _ i _ => xs.length - (intOf i).toNat)
  case atStart => exact ⟨0, _, Nat.zero_le _, rfl, rfl, by omega, by simp [szI], Chg.refl _ _⟩
  case round =>
    obtain ⟨k, r, hk, rfl, rfl, hr0, hre, hc⟩ := hrel
    have hr1 : r ≤ 4611686018427387904 := by omega
    by_cases hlt : k < xs.length
    · obtain ⟨b1, o1, p1, c1, f1, e1, r1, m1, -⟩ := (ha.chg0 hc).elem hlt
      obtain ⟨v1_0, F1_0, v1_1, F1_1, rfl, hF1, g1_0, g1_1⟩ := R_CrtCert.1 r1
      injection e1 with e1 _ e1c
      subst e1 e1c
      have ya0 := m1 0 (by decide)
      have ya1 := m1 1 (by decide)
      simp only [sz_CrtCert, Nat.add_zero, List.getElem?_cons_zero, List.getElem?_cons_succ] at ya0 ya1
      have HE := Lib.hid hre
      have HC := Lib.hid hc
      clear m1 r1 ha hre hc
      go_wp2_with fail
      refine (szCrtCert_c xs[k] _ _ _ _ _ _ (by exact RL.same g1_0 rfl) (by exact RL.same g1_1 rfl) hr0 hr1).mono ?_
      rintro e w1 ⟨⟨r2, rfl, hr2⟩, hc1⟩
      have hc2 := HC.out.trans0 hc1
      have HC2 := Lib.hid hc2
      clear hc1 hc2
      rcases hr2 with rfl | ⟨hn2, he2⟩
      · go_wp2
        go_ret
        exact ⟨⟨_, rfl, Or.inl rfl⟩, HC2.out⟩
      have HE2 := Lib.hid he2
      clear he2
      go_wp2
      go_roundw
      case rel => exact ⟨k + 1, _, by omega, by go_num, rfl, hn2, by have h1 := HE.out; have h2 := HE2.out; rw [szI_succ xs hlt]; first | omega | (change r2 + ((Sz.size xs[k] : Nat) : Int) = r at h2; omega), HC2.out⟩
      case measure => simp [intOf]; omega
    · have he3 : szI (xs.take k) = szI xs := szI_all xs (by omega)
      rw [he3] at hre
      have HE := Lib.hid hre
      have HC := Lib.hid hc
      clear ha hre hc he3
      go_wp2
      go_ret
      exact ⟨⟨_, rfl, Or.inr ⟨hr0, by have := HE.out; unfold szL; omega⟩⟩, HC.out⟩

set_option maxRecDepth 100000 in
set_option maxHeartbeats 1000000 in
theorem szCrdLeaseS_c (xs : List CrdLease) (a : Value) (F : List Nat) (l : Int) (w : World) (ha : RL w xs a F) (hl0 : 0 ≤ l) (hl1 : l ≤ 4611686018427387904) :
    Calls Try.prog 25 #[a, .int .i64 l] w fun e w' => (∃ r, e = .returned (.int .i64 r) ∧ SzR r l (szL xs)) ∧ Chg [] w w' := by
  obtain ⟨A, ca, rfl, hla, hma⟩ := ha.form
  have hn : xs.length ≤ maxLen := by omega
  unfold maxLen at hn
  have hz : szI xs = 0 := by
    clear ha hla hn
    induction xs with
    | nil => rfl
    | cons x r ih => simp only [szI, ih, size_CrdLease]
  have hs : szL xs = xs.length := by unfold szL; omega
  rw [hs]
  clear ha hz hs
  by_cases hf : (xs.length : Int) ≤ l
  · have t : ¬ l - (xs.length : Int) < 0 := by omega
    go_enter Try.func25, Try.ntmps25
    go_wp2
    go_ret
    exact ⟨⟨_, rfl, Or.inr ⟨by omega, by omega⟩⟩, Chg.refl _ _⟩
  · have t : l - (xs.length : Int) < 0 := by omega
    go_enter Try.func25, Try.ntmps25
    go_wp2
    go_ret
    exact ⟨⟨_, rfl, Or.inl rfl⟩, Chg.refl _ _⟩

set_option maxRecDepth 100000 in
set_option maxHeartbeats 1000000 in
theorem szBoolS_c (xs : List Bool) (a : Value) (F : List Nat) (l : Int) (w : World) (ha : RL w xs a F) (hl0 : 0 ≤ l) (hl1 : l ≤ 4611686018427387904) :
    Calls Try.prog 23 #[a, .int .i64 l] w fun e w' => (∃ r, e = .returned (.int .i64 r) ∧ SzR r l (szL xs)) ∧ Chg [] w w' := by
  obtain ⟨A, ca, rfl, hla, hma⟩ := ha.form
  have hn : xs.length ≤ maxLen := by omega
  unfold maxLen at hn
  have hz : szI xs = 0 := by
    clear ha hla hn
    induction xs with
    | nil => rfl
    | cons x r ih => simp only [szI, ih, Sz.size]
  have hs : szL xs = xs.length := by unfold szL; omega
  rw [hs]
  clear ha hz hs
  by_cases hf : (xs.length : Int) ≤ l
  · have t : ¬ l - (xs.length : Int) < 0 := by omega
    go_enter Try.func23, Try.ntmps23
    go_wp2
    go_ret
    exact ⟨⟨_, rfl, Or.inr ⟨by omega, by omega⟩⟩, Chg.refl _ _⟩
  · have t : l - (xs.length : Int) < 0 := by omega
    go_enter Try.func23, Try.ntmps23
    go_wp2
    go_ret
    exact ⟨⟨_, rfl, Or.inl rfl⟩, Chg.refl _ _⟩

set_option maxRecDepth 100000 in
set_option maxHeartbeats 1000000 in
theorem szByteS_c (xs : List UInt8) (a : Value) (F : List Nat) (l : Int) (w : World) (ha : RL w xs a F) (hl0 : 0 ≤ l) (hl1 : l ≤ 4611686018427387904) :
    Calls Try.prog 27 #[a, .int .i64 l] w fun e w' => (∃ r, e = .returned (.int .i64 r) ∧ SzR r l (szL xs)) ∧ Chg [] w w' := by
  obtain ⟨A, ca, rfl, hla, hma⟩ := ha.form
  have hn : xs.length ≤ maxLen := by omega
  unfold maxLen at hn
  have hz : szI xs = 0 := by
    clear ha hla hn
    induction xs with
    | nil => rfl
    | cons x r ih => simp only [szI, ih, Sz.size]
  have hs : szL xs = xs.length := by unfold szL; omega
  rw [hs]
  clear ha hz hs
  by_cases hf : (xs.length : Int) ≤ l
  · have t : ¬ l - (xs.length : Int) < 0 := by omega
    go_enter Try.func27, Try.ntmps27
    go_wp2
    go_ret
    exact ⟨⟨_, rfl, Or.inr ⟨by omega, by omega⟩⟩, Chg.refl _ _⟩
  · have t : l - (xs.length : Int) < 0 := by omega
    go_enter Try.func27, Try.ntmps27
    go_wp2
    go_ret
    exact ⟨⟨_, rfl, Or.inl rfl⟩, Chg.refl _ _⟩

set_option maxRecDepth 100000 in
set_option maxHeartbeats 1000000 in
theorem szCrdCoord_c (x : CrdCoord) (vDone : Value) (FDone : List Nat) (vCerts : Value) (FCerts : List Nat) (vLeases : Value) (FLeases : List Nat) (vVerdictSites : Value) (FVerdictSites : List Nat) (vLog : Value) (FLog : List Nat) (l : Int) (w : World) (hDone : RL w x.Done vDone FDone) (hCerts : RL w x.Certs vCerts FCerts) (hLeases : RL w x.Leases vLeases FLeases) (hVerdictSites : RL w x.Verdict.Sites vVerdictSites FVerdictSites) (hLog : RL w x.Log vLog FLog) (hl0 : 0 ≤ l) (hl1 : l ≤ 4611686018427387904) : Calls Try.prog 10 #[.agg #[.bool x.Up, .int .i64 x.Epoch, .int .i64 x.Seq, .int .i64 x.Clock, vDone, vCerts, vLeases, .int .i64 x.Verdict.Kind, .int .i64 x.Verdict.Line, vVerdictSites, vLog], .int .i64 l] w fun e w' => (∃ r, e = .returned (.int .i64 r) ∧ SzR r l (Sz.size x)) ∧ Chg [] w w' := by
  go_enter Try.func10, Try.ntmps10
  go_wp2_with fail
  refine (szBoolS_c x.Done _ _ _ _ (hDone.chg0 (by repeat (first | with_reducible exact Chg.refl _ _ | with_reducible assumption | with_reducible refine Chg.setCell ?_ (Or.inr (by first | (simp; done) | (simp; omega))) _ | with_reducible refine Chg.alloc ?_ _ | with_reducible refine Chg.drewN ?_ _ | with_reducible refine Chg.drew ?_))) hl0 hl1).mono ?_
  rintro e w1 ⟨⟨r1, rfl, hr1⟩, hc1⟩
  have hw1 : Chg [] w w1 := Chg.trans0 (by repeat (first | with_reducible exact Chg.refl _ _ | with_reducible assumption | with_reducible refine Chg.setCell ?_ (Or.inr (by first | (simp; done) | (simp; omega))) _ | with_reducible refine Chg.alloc ?_ _ | with_reducible refine Chg.drewN ?_ _ | with_reducible refine Chg.drew ?_)) hc1
  obtain ⟨hcl1, hfz1⟩ := hc1.cells
  have hz1 := hc1.size
  repeat (first | rw [World.size_alloc] at hz1 | rw [World.size_setCell] at hz1 | rw [World.size_drew] at hz1 | rw [World.heap_drewN] at hz1)
  have hza1 : w.heap.size < w1.heap.size := by omega
  clear hc1
  rcases hr1 with rfl | ⟨hn1, he1⟩
  · go_wp2
    go_ret
    exact ⟨⟨_, rfl, Or.inl rfl⟩, by repeat (first | with_reducible exact Chg.refl _ _ | with_reducible assumption | with_reducible refine Chg.setCell ?_ (Or.inr (by first | (simp; done) | (simp; omega))) _ | with_reducible refine Chg.alloc ?_ _ | with_reducible refine Chg.drewN ?_ _ | with_reducible refine Chg.drew ?_)⟩
  have hb1 : r1 ≤ 4611686018427387904 := by omega
  have hE1 := Lib.hid he1
  clear he1
  go_wp2_with fail
  refine (szCrtCertS_c x.Certs _ _ _ _ (hCerts.chg0 (by repeat (first | with_reducible exact Chg.refl _ _ | with_reducible assumption | with_reducible refine Chg.setCell ?_ (Or.inr (by first | (simp; done) | (simp; omega))) _ | with_reducible refine Chg.alloc ?_ _ | with_reducible refine Chg.drewN ?_ _ | with_reducible refine Chg.drew ?_))) hn1 hb1).mono ?_
  rintro e w2 ⟨⟨r2, rfl, hr2⟩, hc2⟩
  have hw2 : Chg [] w w2 := Chg.trans0 (by repeat (first | with_reducible exact Chg.refl _ _ | with_reducible assumption | with_reducible refine Chg.setCell ?_ (Or.inr (by first | (simp; done) | (simp; omega))) _ | with_reducible refine Chg.alloc ?_ _ | with_reducible refine Chg.drewN ?_ _ | with_reducible refine Chg.drew ?_)) hc2
  obtain ⟨hcl2, hfz2⟩ := hc2.cells
  have hz2 := hc2.size
  repeat (first | rw [World.size_alloc] at hz2 | rw [World.size_setCell] at hz2 | rw [World.size_drew] at hz2 | rw [World.heap_drewN] at hz2)
  have hza2 : w.heap.size < w2.heap.size := by omega
  clear hc2
  rcases hr2 with rfl | ⟨hn2, he2⟩
  · go_wp2
    go_ret
    exact ⟨⟨_, rfl, Or.inl rfl⟩, by repeat (first | with_reducible exact Chg.refl _ _ | with_reducible assumption | with_reducible refine Chg.setCell ?_ (Or.inr (by first | (simp; done) | (simp; omega))) _ | with_reducible refine Chg.alloc ?_ _ | with_reducible refine Chg.drewN ?_ _ | with_reducible refine Chg.drew ?_)⟩
  have hb2 : r2 ≤ 4611686018427387904 := by omega
  have hE2 := Lib.hid he2
  clear he2
  go_wp2_with fail
  refine (szCrdLeaseS_c x.Leases _ _ _ _ (hLeases.chg0 (by repeat (first | with_reducible exact Chg.refl _ _ | with_reducible assumption | with_reducible refine Chg.setCell ?_ (Or.inr (by first | (simp; done) | (simp; omega))) _ | with_reducible refine Chg.alloc ?_ _ | with_reducible refine Chg.drewN ?_ _ | with_reducible refine Chg.drew ?_))) hn2 hb2).mono ?_
  rintro e w3 ⟨⟨r3, rfl, hr3⟩, hc3⟩
  have hw3 : Chg [] w w3 := Chg.trans0 (by repeat (first | with_reducible exact Chg.refl _ _ | with_reducible assumption | with_reducible refine Chg.setCell ?_ (Or.inr (by first | (simp; done) | (simp; omega))) _ | with_reducible refine Chg.alloc ?_ _ | with_reducible refine Chg.drewN ?_ _ | with_reducible refine Chg.drew ?_)) hc3
  obtain ⟨hcl3, hfz3⟩ := hc3.cells
  have hz3 := hc3.size
  repeat (first | rw [World.size_alloc] at hz3 | rw [World.size_setCell] at hz3 | rw [World.size_drew] at hz3 | rw [World.heap_drewN] at hz3)
  have hza3 : w.heap.size < w3.heap.size := by omega
  clear hc3
  rcases hr3 with rfl | ⟨hn3, he3⟩
  · go_wp2
    go_ret
    exact ⟨⟨_, rfl, Or.inl rfl⟩, by repeat (first | with_reducible exact Chg.refl _ _ | with_reducible assumption | with_reducible refine Chg.setCell ?_ (Or.inr (by first | (simp; done) | (simp; omega))) _ | with_reducible refine Chg.alloc ?_ _ | with_reducible refine Chg.drewN ?_ _ | with_reducible refine Chg.drew ?_)⟩
  have hb3 : r3 ≤ 4611686018427387904 := by omega
  have hE3 := Lib.hid he3
  clear he3
  go_wp2_with fail
  refine (szVrdVerdict_c x.Verdict _ _ _ _ (hVerdictSites.chg0 (by repeat (first | with_reducible exact Chg.refl _ _ | with_reducible assumption | with_reducible refine Chg.setCell ?_ (Or.inr (by first | (simp; done) | (simp; omega))) _ | with_reducible refine Chg.alloc ?_ _ | with_reducible refine Chg.drewN ?_ _ | with_reducible refine Chg.drew ?_))) hn3 hb3).mono ?_
  rintro e w4 ⟨⟨r4, rfl, hr4⟩, hc4⟩
  have hw4 : Chg [] w w4 := Chg.trans0 (by repeat (first | with_reducible exact Chg.refl _ _ | with_reducible assumption | with_reducible refine Chg.setCell ?_ (Or.inr (by first | (simp; done) | (simp; omega))) _ | with_reducible refine Chg.alloc ?_ _ | with_reducible refine Chg.drewN ?_ _ | with_reducible refine Chg.drew ?_)) hc4
  obtain ⟨hcl4, hfz4⟩ := hc4.cells
  have hz4 := hc4.size
  repeat (first | rw [World.size_alloc] at hz4 | rw [World.size_setCell] at hz4 | rw [World.size_drew] at hz4 | rw [World.heap_drewN] at hz4)
  have hza4 : w.heap.size < w4.heap.size := by omega
  clear hc4
  rcases hr4 with rfl | ⟨hn4, he4⟩
  · go_wp2
    go_ret
    exact ⟨⟨_, rfl, Or.inl rfl⟩, by repeat (first | with_reducible exact Chg.refl _ _ | with_reducible assumption | with_reducible refine Chg.setCell ?_ (Or.inr (by first | (simp; done) | (simp; omega))) _ | with_reducible refine Chg.alloc ?_ _ | with_reducible refine Chg.drewN ?_ _ | with_reducible refine Chg.drew ?_)⟩
  have hb4 : r4 ≤ 4611686018427387904 := by omega
  have hE4 := Lib.hid he4
  clear he4
  go_wp2_with fail
  refine (szByteS_c x.Log _ _ _ _ (hLog.chg0 (by repeat (first | with_reducible exact Chg.refl _ _ | with_reducible assumption | with_reducible refine Chg.setCell ?_ (Or.inr (by first | (simp; done) | (simp; omega))) _ | with_reducible refine Chg.alloc ?_ _ | with_reducible refine Chg.drewN ?_ _ | with_reducible refine Chg.drew ?_))) hn4 hb4).mono ?_
  rintro e w5 ⟨⟨r5, rfl, hr5⟩, hc5⟩
  have hw5 : Chg [] w w5 := Chg.trans0 (by repeat (first | with_reducible exact Chg.refl _ _ | with_reducible assumption | with_reducible refine Chg.setCell ?_ (Or.inr (by first | (simp; done) | (simp; omega))) _ | with_reducible refine Chg.alloc ?_ _ | with_reducible refine Chg.drewN ?_ _ | with_reducible refine Chg.drew ?_)) hc5
  obtain ⟨hcl5, hfz5⟩ := hc5.cells
  have hz5 := hc5.size
  repeat (first | rw [World.size_alloc] at hz5 | rw [World.size_setCell] at hz5 | rw [World.size_drew] at hz5 | rw [World.heap_drewN] at hz5)
  have hza5 : w.heap.size < w5.heap.size := by omega
  clear hc5
  rcases hr5 with rfl | ⟨hn5, he5⟩
  · go_wp2
    go_ret
    exact ⟨⟨_, rfl, Or.inl rfl⟩, by repeat (first | with_reducible exact Chg.refl _ _ | with_reducible assumption | with_reducible refine Chg.setCell ?_ (Or.inr (by first | (simp; done) | (simp; omega))) _ | with_reducible refine Chg.alloc ?_ _ | with_reducible refine Chg.drewN ?_ _ | with_reducible refine Chg.drew ?_)⟩
  have hb5 : r5 ≤ 4611686018427387904 := by omega
  have hE5 := Lib.hid he5
  clear he5
  go_wp2
  go_ret
  refine ⟨⟨_, rfl, Or.inr ⟨hn5, ?_⟩⟩, by repeat (first | with_reducible exact Chg.refl _ _ | with_reducible assumption | with_reducible refine Chg.setCell ?_ (Or.inr (by first | (simp; done) | (simp; omega))) _ | with_reducible refine Chg.alloc ?_ _ | with_reducible refine Chg.drewN ?_ _ | with_reducible refine Chg.drew ?_)⟩
  have ghE1 := hE1.out
  have ghE2 := hE2.out
  have ghE3 := hE3.out
  have ghE4 := hE4.out
  have ghE5 := hE5.out
  clear hcl1 hfz1 hcl2 hfz2 hcl3 hfz3 hcl4 hfz4 hcl5 hfz5
  simp only [size_CrtSite, size_VrdVerdict, size_InsIns, size_PrcProc, size_PrgProg, size_ItvItv, size_AbsState, size_SumSum, size_CrtCert, size_MsgMsg, size_EngEng, size_WrkWorker, size_JrnRec, size_CrdLease, size_CrdCoord, size_NetMsg, size_WldWorld, size_EvEvent, size_RunFrame, size_RunRun, size_AbsEdge] at ghE1 ghE2 ghE3 ghE4 ghE5 ⊢
  omega

end Go.Proofs.Ytaiinlhobcclcaa.Wk
