/-
  Contracts of the laws' own functions, written by a program of mine (wip/gen/gen_laws.py).
-/
import Derived.Test.YtaiinlhobcclcaaBase
namespace Go.Proofs.Ytaiinlhobcclcaa.Wk
open Go Go.RowKit Go.Deep Ow
open Rp (R sz)
open Mk (mark cnt)
open Zr (zero zcells zr)

set_option maxRecDepth 100000 in
set_option maxHeartbeats 1000000 in
theorem eqCrtSite_c (x : CrtSite) (w : World) : Calls Try.prog 71 #[.agg #[.int .i64 x.Proc, .int .i64 x.Pc], .agg #[.int .i64 x.Proc, .int .i64 x.Pc]] w fun e w' => e = .returned (.bool true) ∧ Chg [] w w' := by
  have tProc : (x.Proc != x.Proc) = false := by simp
  have tPc : (x.Pc != x.Pc) = false := by simp
  go_enter Try.func71, Try.ntmps71
  go_wp2
  go_ret
  exact ⟨rfl, by repeat (first | with_reducible exact Chg.refl _ _ | with_reducible assumption | with_reducible refine Chg.setCell ?_ (Or.inr (by first | (simp; done) | (simp; omega))) _ | with_reducible refine Chg.alloc ?_ _ | with_reducible refine Chg.drewN ?_ _ | with_reducible refine Chg.drew ?_)⟩

set_option maxRecDepth 100000 in
set_option maxHeartbeats 1000000 in
theorem eqCrtSiteS_c (xs : List CrtSite) (a b : Value) (F G : List Nat) (w : World) (ha : RL w xs a F) (hb : RL w xs b G) :
    Calls Try.prog 59 #[a, b] w fun e w' => e = .returned (.bool true) ∧ Chg [] w w' := by
  obtain ⟨A, ca, rfl, hla, hma⟩ := ha.form
  obtain ⟨B, cb, rfl, hlb, hmb⟩ := hb.form
  have hn : xs.length ≤ maxLen := by omega
  unfold maxLen at hn
  have h0 : (((xs.length : Nat) : Int) != ((xs.length : Nat) : Int)) = false := by simp
  go_enter Try.func59, Try.ntmps59
  go_wp2
  go_loopw [5] (fun i wr => ∃ k : Nat, k ≤ xs.length ∧ i = .int .i64 k ∧ Chg [] w wr) (fun i _ => xs.length - (intOf i).toNat)
  case atStart => exact ⟨0, Nat.zero_le _, rfl, Chg.refl _ _⟩
  case round =>
    obtain ⟨k, hk, rfl, hc⟩ := hrel
    by_cases hlt : k < xs.length
    · obtain ⟨b1, o1, p1, c1, f1, e1, r1, m1, -⟩ := (ha.chg0 hc).elem hlt
      obtain ⟨b2, o2, p2, c2, f2, e2, r2, m2, -⟩ := (hb.chg0 hc).elem hlt
      obtain ⟨rfl, hF1, i1_0, i1_1⟩ := R_CrtSite.1 r1
      obtain ⟨rfl, hF2, i2_0, i2_1⟩ := R_CrtSite.1 r2
      injection e1 with e1 _ e1c
      injection e2 with e2 _ e2c
      subst e1 e2 e1c e2c
      have ya0 := m1 0 (by decide)
      have ya1 := m1 1 (by decide)
      have yb0 := m2 0 (by decide)
      have yb1 := m2 1 (by decide)
      simp only [sz_CrtSite, Nat.add_zero, List.getElem?_cons_zero, List.getElem?_cons_succ] at ya0 yb0 ya1 yb1
      clear m1 m2 r1 r2 ha hb
      go_wp2_with fail
      go_region_with (go_at_call 71; refine (eqCrtSite_c xs[k] _).mono ?_; rintro e w1 ⟨rfl, hc1⟩)
      all_goals
        have hc2 := hc.trans0 (Chg.un _ hc1)
        clear hc1
        go_wp2
        go_roundw
        case rel => exact ⟨k + 1, by omega, by go_num, hc2⟩
        case measure => simp [intOf]; omega
    · clear ha hb
      go_wp2
      go_ret
      exact ⟨rfl, hc⟩

set_option maxRecDepth 100000 in
set_option maxHeartbeats 1000000 in
theorem eqVrdVerdict_c (x : VrdVerdict) (vSites vSites' : Value) (FSites FSites' : List Nat) (w : World) (hSites : RL w x.Sites vSites FSites) (hSites' : RL w x.Sites vSites' FSites') : Calls Try.prog 37 #[.agg #[.int .i64 x.Kind, .int .i64 x.Line, vSites], .agg #[.int .i64 x.Kind, .int .i64 x.Line, vSites']] w fun e w' => e = .returned (.bool true) ∧ Chg [] w w' := by
  have tKind : (x.Kind != x.Kind) = false := by simp
  have tLine : (x.Line != x.Line) = false := by simp
  go_enter Try.func37, Try.ntmps37
  go_wp2_with fail
  refine (eqCrtSiteS_c x.Sites _ _ _ _ _ (hSites.chg0 (by repeat (first | with_reducible exact Chg.refl _ _ | with_reducible assumption | with_reducible refine Chg.setCell ?_ (Or.inr (by first | (simp; done) | (simp; omega))) _ | with_reducible refine Chg.alloc ?_ _ | with_reducible refine Chg.drewN ?_ _ | with_reducible refine Chg.drew ?_))) (hSites'.chg0 (by repeat (first | with_reducible exact Chg.refl _ _ | with_reducible assumption | with_reducible refine Chg.setCell ?_ (Or.inr (by first | (simp; done) | (simp; omega))) _ | with_reducible refine Chg.alloc ?_ _ | with_reducible refine Chg.drewN ?_ _ | with_reducible refine Chg.drew ?_)))).mono ?_
  rintro e w1 ⟨rfl, hc1⟩
  have hw1 : Chg [] w w1 := Chg.trans0 (by repeat (first | with_reducible exact Chg.refl _ _ | with_reducible assumption | with_reducible refine Chg.setCell ?_ (Or.inr (by first | (simp; done) | (simp; omega))) _ | with_reducible refine Chg.alloc ?_ _ | with_reducible refine Chg.drewN ?_ _ | with_reducible refine Chg.drew ?_)) hc1
  obtain ⟨hcl1, hfz1⟩ := hc1.cells
  have hz1 := hc1.size
  repeat (first | rw [World.size_alloc] at hz1 | rw [World.size_setCell] at hz1 | rw [World.size_drew] at hz1 | rw [World.heap_drewN] at hz1)
  have hza1 : w.heap.size < w1.heap.size := by omega
  have hzb1 : w.heap.size + 1 < w1.heap.size := by omega
  clear hc1
  go_wp2
  go_ret
  exact ⟨rfl, by repeat (first | with_reducible exact Chg.refl _ _ | with_reducible assumption | with_reducible refine Chg.setCell ?_ (Or.inr (by first | (simp; done) | (simp; omega))) _ | with_reducible refine Chg.alloc ?_ _ | with_reducible refine Chg.drewN ?_ _ | with_reducible refine Chg.drew ?_)⟩

set_option maxRecDepth 100000 in
set_option maxHeartbeats 1000000 in
theorem eqItvItv_c (x : ItvItv) (w : World) : Calls Try.prog 64 #[.agg #[.int .i64 x.Lo, .int .i64 x.Hi], .agg #[.int .i64 x.Lo, .int .i64 x.Hi]] w fun e w' => e = .returned (.bool true) ∧ Chg [] w w' := by
  have tLo : (x.Lo != x.Lo) = false := by simp
  have tHi : (x.Hi != x.Hi) = false := by simp
  go_enter Try.func64, Try.ntmps64
  go_wp2
  go_ret
  exact ⟨rfl, by repeat (first | with_reducible exact Chg.refl _ _ | with_reducible assumption | with_reducible refine Chg.setCell ?_ (Or.inr (by first | (simp; done) | (simp; omega))) _ | with_reducible refine Chg.alloc ?_ _ | with_reducible refine Chg.drewN ?_ _ | with_reducible refine Chg.drew ?_)⟩

set_option maxRecDepth 100000 in
set_option maxHeartbeats 1000000 in
theorem eqItvItvS_c (xs : List ItvItv) (a b : Value) (F G : List Nat) (w : World) (ha : RL w xs a F) (hb : RL w xs b G) :
    Calls Try.prog 84 #[a, b] w fun e w' => e = .returned (.bool true) ∧ Chg [] w w' := by
  obtain ⟨A, ca, rfl, hla, hma⟩ := ha.form
  obtain ⟨B, cb, rfl, hlb, hmb⟩ := hb.form
  have hn : xs.length ≤ maxLen := by omega
  unfold maxLen at hn
  have h0 : (((xs.length : Nat) : Int) != ((xs.length : Nat) : Int)) = false := by simp
  go_enter Try.func84, Try.ntmps84
  go_wp2
  go_loopw [5] (fun i wr => ∃ k : Nat, k ≤ xs.length ∧ i = .int .i64 k ∧ Chg [] w wr) (fun i _ => xs.length - (intOf i).toNat)
  case atStart => exact ⟨0, Nat.zero_le _, rfl, Chg.refl _ _⟩
  case round =>
    obtain ⟨k, hk, rfl, hc⟩ := hrel
    by_cases hlt : k < xs.length
    · obtain ⟨b1, o1, p1, c1, f1, e1, r1, m1, -⟩ := (ha.chg0 hc).elem hlt
      obtain ⟨b2, o2, p2, c2, f2, e2, r2, m2, -⟩ := (hb.chg0 hc).elem hlt
      obtain ⟨rfl, hF1, i1_0, i1_1⟩ := R_ItvItv.1 r1
      obtain ⟨rfl, hF2, i2_0, i2_1⟩ := R_ItvItv.1 r2
      injection e1 with e1 _ e1c
      injection e2 with e2 _ e2c
      subst e1 e2 e1c e2c
      have ya0 := m1 0 (by decide)
      have ya1 := m1 1 (by decide)
      have yb0 := m2 0 (by decide)
      have yb1 := m2 1 (by decide)
      simp only [sz_ItvItv, Nat.add_zero, List.getElem?_cons_zero, List.getElem?_cons_succ] at ya0 yb0 ya1 yb1
      clear m1 m2 r1 r2 ha hb
      go_wp2_with fail
      go_region_with (go_at_call 64; refine (eqItvItv_c xs[k] _).mono ?_; rintro e w1 ⟨rfl, hc1⟩)
      all_goals
        have hc2 := hc.trans0 (Chg.un _ hc1)
        clear hc1
        go_wp2
        go_roundw
        case rel => exact ⟨k + 1, by omega, by go_num, hc2⟩
        case measure => simp [intOf]; omega
    · clear ha hb
      go_wp2
      go_ret
      exact ⟨rfl, hc⟩

set_option maxRecDepth 100000 in
set_option maxHeartbeats 1000000 in
theorem eqAbsState_c (x : AbsState) (vVars vVars' : Value) (FVars FVars' : List Nat) (w : World) (hVars : RL w x.Vars vVars FVars) (hVars' : RL w x.Vars vVars' FVars') : Calls Try.prog 80 #[.agg #[.bool x.On, vVars, .int .i64 x.Cells.Lo, .int .i64 x.Cells.Hi], .agg #[.bool x.On, vVars', .int .i64 x.Cells.Lo, .int .i64 x.Cells.Hi]] w fun e w' => e = .returned (.bool true) ∧ Chg [] w w' := by
  have tOn : (x.On != x.On) = false := by simp
  go_enter Try.func80, Try.ntmps80
  go_wp2_with fail
  refine (eqItvItvS_c x.Vars _ _ _ _ _ (hVars.chg0 (by repeat (first | with_reducible exact Chg.refl _ _ | with_reducible assumption | with_reducible refine Chg.setCell ?_ (Or.inr (by first | (simp; done) | (simp; omega))) _ | with_reducible refine Chg.alloc ?_ _ | with_reducible refine Chg.drewN ?_ _ | with_reducible refine Chg.drew ?_))) (hVars'.chg0 (by repeat (first | with_reducible exact Chg.refl _ _ | with_reducible assumption | with_reducible refine Chg.setCell ?_ (Or.inr (by first | (simp; done) | (simp; omega))) _ | with_reducible refine Chg.alloc ?_ _ | with_reducible refine Chg.drewN ?_ _ | with_reducible refine Chg.drew ?_)))).mono ?_
  rintro e w1 ⟨rfl, hc1⟩
  have hw1 : Chg [] w w1 := Chg.trans0 (by repeat (first | with_reducible exact Chg.refl _ _ | with_reducible assumption | with_reducible refine Chg.setCell ?_ (Or.inr (by first | (simp; done) | (simp; omega))) _ | with_reducible refine Chg.alloc ?_ _ | with_reducible refine Chg.drewN ?_ _ | with_reducible refine Chg.drew ?_)) hc1
  obtain ⟨hcl1, hfz1⟩ := hc1.cells
  have hz1 := hc1.size
  repeat (first | rw [World.size_alloc] at hz1 | rw [World.size_setCell] at hz1 | rw [World.size_drew] at hz1 | rw [World.heap_drewN] at hz1)
  have hza1 : w.heap.size < w1.heap.size := by omega
  have hzb1 : w.heap.size + 1 < w1.heap.size := by omega
  clear hc1
  go_wp2_with fail
  refine (eqItvItv_c x.Cells _).mono ?_
  rintro e w2 ⟨rfl, hc2⟩
  have hw2 : Chg [] w w2 := Chg.trans0 (by repeat (first | with_reducible exact Chg.refl _ _ | with_reducible assumption | with_reducible refine Chg.setCell ?_ (Or.inr (by first | (simp; done) | (simp; omega))) _ | with_reducible refine Chg.alloc ?_ _ | with_reducible refine Chg.drewN ?_ _ | with_reducible refine Chg.drew ?_)) hc2
  obtain ⟨hcl2, hfz2⟩ := hc2.cells
  have hz2 := hc2.size
  repeat (first | rw [World.size_alloc] at hz2 | rw [World.size_setCell] at hz2 | rw [World.size_drew] at hz2 | rw [World.heap_drewN] at hz2)
  have hza2 : w.heap.size < w2.heap.size := by omega
  have hzb2 : w.heap.size + 1 < w2.heap.size := by omega
  clear hc2
  go_wp2
  go_ret
  exact ⟨rfl, by repeat (first | with_reducible exact Chg.refl _ _ | with_reducible assumption | with_reducible refine Chg.setCell ?_ (Or.inr (by first | (simp; done) | (simp; omega))) _ | with_reducible refine Chg.alloc ?_ _ | with_reducible refine Chg.drewN ?_ _ | with_reducible refine Chg.drew ?_)⟩

set_option maxRecDepth 100000 in
set_option maxHeartbeats 1000000 in
theorem eqAbsStateS_c (xs : List AbsState) (a b : Value) (F G : List Nat) (w : World) (ha : RL w xs a F) (hb : RL w xs b G) :
    Calls Try.prog 74 #[a, b] w fun e w' => e = .returned (.bool true) ∧ Chg [] w w' := by
  obtain ⟨A, ca, rfl, hla, hma⟩ := ha.form
  obtain ⟨B, cb, rfl, hlb, hmb⟩ := hb.form
  have hn : xs.length ≤ maxLen := by omega
  unfold maxLen at hn
  have h0 : (((xs.length : Nat) : Int) != ((xs.length : Nat) : Int)) = false := by simp
  go_enter Try.func74, Try.ntmps74
  go_wp2
  go_loopw [5] (fun i wr => ∃ k : Nat, k ≤ xs.length ∧ i = .int .i64 k ∧ Chg [] w wr) (fun i _ => xs.length - (intOf i).toNat)
  case atStart => exact ⟨0, Nat.zero_le _, rfl, Chg.refl _ _⟩
  case round =>
    obtain ⟨k, hk, rfl, hc⟩ := hrel
    by_cases hlt : k < xs.length
    · obtain ⟨b1, o1, p1, c1, f1, e1, r1, m1, -⟩ := (ha.chg0 hc).elem hlt
      obtain ⟨b2, o2, p2, c2, f2, e2, r2, m2, -⟩ := (hb.chg0 hc).elem hlt
      obtain ⟨v1_0, F1_0, rfl, hF1, g1_0, i1_0, i1_1⟩ := R_AbsState.1 r1
      obtain ⟨v2_0, F2_0, rfl, hF2, g2_0, i2_0, i2_1⟩ := R_AbsState.1 r2
      injection e1 with e1 _ e1c
      injection e2 with e2 _ e2c
      subst e1 e2 e1c e2c
      have ya0 := m1 0 (by decide)
      have ya1 := m1 1 (by decide)
      have ya2 := m1 2 (by decide)
      have ya3 := m1 3 (by decide)
      have yb0 := m2 0 (by decide)
      have yb1 := m2 1 (by decide)
      have yb2 := m2 2 (by decide)
      have yb3 := m2 3 (by decide)
      simp only [sz_AbsState, Nat.add_zero, List.getElem?_cons_zero, List.getElem?_cons_succ] at ya0 yb0 ya1 yb1 ya2 yb2 ya3 yb3
      clear m1 m2 r1 r2 ha hb
      go_wp2_with fail
      go_region_with (go_at_call 80; refine (eqAbsState_c xs[k] _ _ _ _ _ (by exact RL.same g1_0 rfl) (by exact RL.same g2_0 rfl)).mono ?_; rintro e w1 ⟨rfl, hc1⟩)
      all_goals
        have hc2 := hc.trans0 (Chg.un _ hc1)
        clear hc1
        go_wp2
        go_roundw
        case rel => exact ⟨k + 1, by omega, by go_num, hc2⟩
        case measure => simp [intOf]; omega
    · clear ha hb
      go_wp2
      go_ret
      exact ⟨rfl, hc⟩

set_option maxRecDepth 100000 in
set_option maxHeartbeats 1000000 in
theorem eqAbsStateSS_c (xs : List (List AbsState)) (a b : Value) (F G : List Nat) (w : World) (ha : RL w xs a F) (hb : RL w xs b G) :
    Calls Try.prog 65 #[a, b] w fun e w' => e = .returned (.bool true) ∧ Chg [] w w' := by
  obtain ⟨A, ca, rfl, hla, hma⟩ := ha.form
  obtain ⟨B, cb, rfl, hlb, hmb⟩ := hb.form
  have hn : xs.length ≤ maxLen := by omega
  unfold maxLen at hn
  have h0 : (((xs.length : Nat) : Int) != ((xs.length : Nat) : Int)) = false := by simp
  go_enter Try.func65, Try.ntmps65
  go_wp2
  go_loopw [5] (fun i wr => ∃ k : Nat, k ≤ xs.length ∧ i = .int .i64 k ∧ Chg [] w wr) (fun i _ => xs.length - (intOf i).toNat)
  case atStart => exact ⟨0, Nat.zero_le _, rfl, Chg.refl _ _⟩
  case round =>
    obtain ⟨k, hk, rfl, hc⟩ := hrel
    by_cases hlt : k < xs.length
    · obtain ⟨b1, o1, p1, c1, f1, e1, r1, m1, -⟩ := (ha.chg0 hc).elem hlt
      obtain ⟨b2, o2, p2, c2, f2, e2, r2, m2, -⟩ := (hb.chg0 hc).elem hlt
      obtain ⟨v1_0, rfl, g1_0⟩ := R_list.1 r1
      obtain ⟨v2_0, rfl, g2_0⟩ := R_list.1 r2
      injection e1 with e1 _ e1c
      injection e2 with e2 _ e2c
      subst e1 e2 e1c e2c
      have ya0 := m1 0 (by decide)
      have yb0 := m2 0 (by decide)
      simp only [sz_list, Nat.mul_one, Nat.add_zero, List.getElem?_cons_zero] at ya0 yb0
      clear m1 m2 r1 r2 ha hb
      go_wp2_with fail
      go_region_with (go_at_call 74; refine (eqAbsStateS_c xs[k] _ _ _ _ _ (by exact RL.same g1_0 rfl) (by exact RL.same g2_0 rfl)).mono ?_; rintro e w1 ⟨rfl, hc1⟩)
      all_goals
        have hc2 := hc.trans0 (Chg.un _ hc1)
        clear hc1
        go_wp2
        go_roundw
        case rel => exact ⟨k + 1, by omega, by go_num, hc2⟩
        case measure => simp [intOf]; omega
    · clear ha hb
      go_wp2
      go_ret
      exact ⟨rfl, hc⟩

set_option maxRecDepth 100000 in
set_option maxHeartbeats 1000000 in
theorem eqSumSum_c (x : SumSum) (w : World) : Calls Try.prog 49 #[.agg #[.bool x.On, .int .i64 x.Out.Lo, .int .i64 x.Out.Hi], .agg #[.bool x.On, .int .i64 x.Out.Lo, .int .i64 x.Out.Hi]] w fun e w' => e = .returned (.bool true) ∧ Chg [] w w' := by
  have tOn : (x.On != x.On) = false := by simp
  go_enter Try.func49, Try.ntmps49
  go_wp2_with fail
  refine (eqItvItv_c x.Out _).mono ?_
  rintro e w1 ⟨rfl, hc1⟩
  have hw1 : Chg [] w w1 := Chg.trans0 (by repeat (first | with_reducible exact Chg.refl _ _ | with_reducible assumption | with_reducible refine Chg.setCell ?_ (Or.inr (by first | (simp; done) | (simp; omega))) _ | with_reducible refine Chg.alloc ?_ _ | with_reducible refine Chg.drewN ?_ _ | with_reducible refine Chg.drew ?_)) hc1
  obtain ⟨hcl1, hfz1⟩ := hc1.cells
  have hz1 := hc1.size
  repeat (first | rw [World.size_alloc] at hz1 | rw [World.size_setCell] at hz1 | rw [World.size_drew] at hz1 | rw [World.heap_drewN] at hz1)
  have hza1 : w.heap.size < w1.heap.size := by omega
  have hzb1 : w.heap.size + 1 < w1.heap.size := by omega
  clear hc1
  go_wp2
  go_ret
  exact ⟨rfl, by repeat (first | with_reducible exact Chg.refl _ _ | with_reducible assumption | with_reducible refine Chg.setCell ?_ (Or.inr (by first | (simp; done) | (simp; omega))) _ | with_reducible refine Chg.alloc ?_ _ | with_reducible refine Chg.drewN ?_ _ | with_reducible refine Chg.drew ?_)⟩

set_option maxRecDepth 100000 in
set_option maxHeartbeats 1000000 in
theorem eqSumSumS_c (xs : List SumSum) (a b : Value) (F G : List Nat) (w : World) (ha : RL w xs a F) (hb : RL w xs b G) :
    Calls Try.prog 17 #[a, b] w fun e w' => e = .returned (.bool true) ∧ Chg [] w w' := by
  obtain ⟨A, ca, rfl, hla, hma⟩ := ha.form
  obtain ⟨B, cb, rfl, hlb, hmb⟩ := hb.form
  have hn : xs.length ≤ maxLen := by omega
  unfold maxLen at hn
  have h0 : (((xs.length : Nat) : Int) != ((xs.length : Nat) : Int)) = false := by simp
  go_enter Try.func17, Try.ntmps17
  go_wp2
  go_loopw [5] (fun i wr => ∃ k : Nat, k ≤ xs.length ∧ i = .int .i64 k ∧ Chg [] w wr) (fun i _ => xs.length - (intOf i).toNat)
  case atStart => exact ⟨0, Nat.zero_le _, rfl, Chg.refl _ _⟩
  case round =>
    obtain ⟨k, hk, rfl, hc⟩ := hrel
    by_cases hlt : k < xs.length
    · obtain ⟨b1, o1, p1, c1, f1, e1, r1, m1, -⟩ := (ha.chg0 hc).elem hlt
      obtain ⟨b2, o2, p2, c2, f2, e2, r2, m2, -⟩ := (hb.chg0 hc).elem hlt
      obtain ⟨rfl, hF1, i1_0, i1_1⟩ := R_SumSum.1 r1
      obtain ⟨rfl, hF2, i2_0, i2_1⟩ := R_SumSum.1 r2
      injection e1 with e1 _ e1c
      injection e2 with e2 _ e2c
      subst e1 e2 e1c e2c
      have ya0 := m1 0 (by decide)
      have ya1 := m1 1 (by decide)
      have ya2 := m1 2 (by decide)
      have yb0 := m2 0 (by decide)
      have yb1 := m2 1 (by decide)
      have yb2 := m2 2 (by decide)
      simp only [sz_SumSum, Nat.add_zero, List.getElem?_cons_zero, List.getElem?_cons_succ] at ya0 yb0 ya1 yb1 ya2 yb2
      clear m1 m2 r1 r2 ha hb
      go_wp2_with fail
      go_region_with (go_at_call 49; refine (eqSumSum_c xs[k] _).mono ?_; rintro e w1 ⟨rfl, hc1⟩)
      all_goals
        have hc2 := hc.trans0 (Chg.un _ hc1)
        clear hc1
        go_wp2
        go_roundw
        case rel => exact ⟨k + 1, by omega, by go_num, hc2⟩
        case measure => simp [intOf]; omega
    · clear ha hb
      go_wp2
      go_ret
      exact ⟨rfl, hc⟩

set_option maxRecDepth 100000 in
set_option maxHeartbeats 1000000 in
theorem eqCrtCert_c (x : CrtCert) (vStates vStates' : Value) (FStates FStates' : List Nat) (vOuts vOuts' : Value) (FOuts FOuts' : List Nat) (w : World) (hStates : RL w x.States vStates FStates) (hStates' : RL w x.States vStates' FStates') (hOuts : RL w x.Outs vOuts FOuts) (hOuts' : RL w x.Outs vOuts' FOuts') : Calls Try.prog 50 #[.agg #[vStates, vOuts], .agg #[vStates', vOuts']] w fun e w' => e = .returned (.bool true) ∧ Chg [] w w' := by
  go_enter Try.func50, Try.ntmps50
  go_wp2_with fail
  refine (eqAbsStateSS_c x.States _ _ _ _ _ (hStates.chg0 (by repeat (first | with_reducible exact Chg.refl _ _ | with_reducible assumption | with_reducible refine Chg.setCell ?_ (Or.inr (by first | (simp; done) | (simp; omega))) _ | with_reducible refine Chg.alloc ?_ _ | with_reducible refine Chg.drewN ?_ _ | with_reducible refine Chg.drew ?_))) (hStates'.chg0 (by repeat (first | with_reducible exact Chg.refl _ _ | with_reducible assumption | with_reducible refine Chg.setCell ?_ (Or.inr (by first | (simp; done) | (simp; omega))) _ | with_reducible refine Chg.alloc ?_ _ | with_reducible refine Chg.drewN ?_ _ | with_reducible refine Chg.drew ?_)))).mono ?_
  rintro e w1 ⟨rfl, hc1⟩
  have hw1 : Chg [] w w1 := Chg.trans0 (by repeat (first | with_reducible exact Chg.refl _ _ | with_reducible assumption | with_reducible refine Chg.setCell ?_ (Or.inr (by first | (simp; done) | (simp; omega))) _ | with_reducible refine Chg.alloc ?_ _ | with_reducible refine Chg.drewN ?_ _ | with_reducible refine Chg.drew ?_)) hc1
  obtain ⟨hcl1, hfz1⟩ := hc1.cells
  have hz1 := hc1.size
  repeat (first | rw [World.size_alloc] at hz1 | rw [World.size_setCell] at hz1 | rw [World.size_drew] at hz1 | rw [World.heap_drewN] at hz1)
  have hza1 : w.heap.size < w1.heap.size := by omega
  have hzb1 : w.heap.size + 1 < w1.heap.size := by omega
  clear hc1
  go_wp2_with fail
  refine (eqSumSumS_c x.Outs _ _ _ _ _ (hOuts.chg0 (by repeat (first | with_reducible exact Chg.refl _ _ | with_reducible assumption | with_reducible refine Chg.setCell ?_ (Or.inr (by first | (simp; done) | (simp; omega))) _ | with_reducible refine Chg.alloc ?_ _ | with_reducible refine Chg.drewN ?_ _ | with_reducible refine Chg.drew ?_))) (hOuts'.chg0 (by repeat (first | with_reducible exact Chg.refl _ _ | with_reducible assumption | with_reducible refine Chg.setCell ?_ (Or.inr (by first | (simp; done) | (simp; omega))) _ | with_reducible refine Chg.alloc ?_ _ | with_reducible refine Chg.drewN ?_ _ | with_reducible refine Chg.drew ?_)))).mono ?_
  rintro e w2 ⟨rfl, hc2⟩
  have hw2 : Chg [] w w2 := Chg.trans0 (by repeat (first | with_reducible exact Chg.refl _ _ | with_reducible assumption | with_reducible refine Chg.setCell ?_ (Or.inr (by first | (simp; done) | (simp; omega))) _ | with_reducible refine Chg.alloc ?_ _ | with_reducible refine Chg.drewN ?_ _ | with_reducible refine Chg.drew ?_)) hc2
  obtain ⟨hcl2, hfz2⟩ := hc2.cells
  have hz2 := hc2.size
  repeat (first | rw [World.size_alloc] at hz2 | rw [World.size_setCell] at hz2 | rw [World.size_drew] at hz2 | rw [World.heap_drewN] at hz2)
  have hza2 : w.heap.size < w2.heap.size := by omega
  have hzb2 : w.heap.size + 1 < w2.heap.size := by omega
  clear hc2
  go_wp2
  go_ret
  exact ⟨rfl, by repeat (first | with_reducible exact Chg.refl _ _ | with_reducible assumption | with_reducible refine Chg.setCell ?_ (Or.inr (by first | (simp; done) | (simp; omega))) _ | with_reducible refine Chg.alloc ?_ _ | with_reducible refine Chg.drewN ?_ _ | with_reducible refine Chg.drew ?_)⟩

set_option maxRecDepth 100000 in
set_option maxHeartbeats 1000000 in
theorem eqCrtCertS_c (xs : List CrtCert) (a b : Value) (F G : List Nat) (w : World) (ha : RL w xs a F) (hb : RL w xs b G) :
    Calls Try.prog 35 #[a, b] w fun e w' => e = .returned (.bool true) ∧ Chg [] w w' := by
  obtain ⟨A, ca, rfl, hla, hma⟩ := ha.form
  obtain ⟨B, cb, rfl, hlb, hmb⟩ := hb.form
  have hn : xs.length ≤ maxLen := by omega
  unfold maxLen at hn
  have h0 : (((xs.length : Nat) : Int) != ((xs.length : Nat) : Int)) = false := by simp
  go_enter Try.func35, Try.ntmps35
  go_wp2
  go_loopw [5] (fun i wr => ∃ k : Nat, k ≤ xs.length ∧ i = .int .i64 k ∧ Chg [] w wr) (fun i _ => xs.length - (intOf i).toNat)
  case atStart => exact ⟨0, Nat.zero_le _, rfl, Chg.refl _ _⟩
  case round =>
    obtain ⟨k, hk, rfl, hc⟩ := hrel
    by_cases hlt : k < xs.length
    · obtain ⟨b1, o1, p1, c1, f1, e1, r1, m1, -⟩ := (ha.chg0 hc).elem hlt
      obtain ⟨b2, o2, p2, c2, f2, e2, r2, m2, -⟩ := (hb.chg0 hc).elem hlt
      obtain ⟨v1_0, F1_0, v1_1, F1_1, rfl, hF1, g1_0, g1_1⟩ := R_CrtCert.1 r1
      obtain ⟨v2_0, F2_0, v2_1, F2_1, rfl, hF2, g2_0, g2_1⟩ := R_CrtCert.1 r2
      injection e1 with e1 _ e1c
      injection e2 with e2 _ e2c
      subst e1 e2 e1c e2c
      have ya0 := m1 0 (by decide)
      have ya1 := m1 1 (by decide)
      have yb0 := m2 0 (by decide)
      have yb1 := m2 1 (by decide)
      simp only [sz_CrtCert, Nat.add_zero, List.getElem?_cons_zero, List.getElem?_cons_succ] at ya0 yb0 ya1 yb1
      clear m1 m2 r1 r2 ha hb
      go_wp2_with fail
      go_region_with (go_at_call 50; refine (eqCrtCert_c xs[k] _ _ _ _ _ _ _ _ _ (by exact RL.same g1_0 rfl) (by exact RL.same g2_0 rfl) (by exact RL.same g1_1 rfl) (by exact RL.same g2_1 rfl)).mono ?_; rintro e w1 ⟨rfl, hc1⟩)
      all_goals
        have hc2 := hc.trans0 (Chg.un _ hc1)
        clear hc1
        go_wp2
        go_roundw
        case rel => exact ⟨k + 1, by omega, by go_num, hc2⟩
        case measure => simp [intOf]; omega
    · clear ha hb
      go_wp2
      go_ret
      exact ⟨rfl, hc⟩

set_option maxRecDepth 100000 in
set_option maxHeartbeats 1000000 in
theorem eqEngEng_c (x : EngEng) (vCertStates vCertStates' : Value) (FCertStates FCertStates' : List Nat) (vCertOuts vCertOuts' : Value) (FCertOuts FCertOuts' : List Nat) (w : World) (hCertStates : RL w x.Cert.States vCertStates FCertStates) (hCertStates' : RL w x.Cert.States vCertStates' FCertStates') (hCertOuts : RL w x.Cert.Outs vCertOuts FCertOuts) (hCertOuts' : RL w x.Cert.Outs vCertOuts' FCertOuts') : Calls Try.prog 18 #[.agg #[.int .i64 x.Phase, .int .i64 x.Round, vCertStates, vCertOuts], .agg #[.int .i64 x.Phase, .int .i64 x.Round, vCertStates', vCertOuts']] w fun e w' => e = .returned (.bool true) ∧ Chg [] w w' := by
  have tPhase : (x.Phase != x.Phase) = false := by simp
  have tRound : (x.Round != x.Round) = false := by simp
  go_enter Try.func18, Try.ntmps18
  go_wp2_with fail
  refine (eqCrtCert_c x.Cert _ _ _ _ _ _ _ _ _ (hCertStates.chg0 (by repeat (first | with_reducible exact Chg.refl _ _ | with_reducible assumption | with_reducible refine Chg.setCell ?_ (Or.inr (by first | (simp; done) | (simp; omega))) _ | with_reducible refine Chg.alloc ?_ _ | with_reducible refine Chg.drewN ?_ _ | with_reducible refine Chg.drew ?_))) (hCertStates'.chg0 (by repeat (first | with_reducible exact Chg.refl _ _ | with_reducible assumption | with_reducible refine Chg.setCell ?_ (Or.inr (by first | (simp; done) | (simp; omega))) _ | with_reducible refine Chg.alloc ?_ _ | with_reducible refine Chg.drewN ?_ _ | with_reducible refine Chg.drew ?_))) (hCertOuts.chg0 (by repeat (first | with_reducible exact Chg.refl _ _ | with_reducible assumption | with_reducible refine Chg.setCell ?_ (Or.inr (by first | (simp; done) | (simp; omega))) _ | with_reducible refine Chg.alloc ?_ _ | with_reducible refine Chg.drewN ?_ _ | with_reducible refine Chg.drew ?_))) (hCertOuts'.chg0 (by repeat (first | with_reducible exact Chg.refl _ _ | with_reducible assumption | with_reducible refine Chg.setCell ?_ (Or.inr (by first | (simp; done) | (simp; omega))) _ | with_reducible refine Chg.alloc ?_ _ | with_reducible refine Chg.drewN ?_ _ | with_reducible refine Chg.drew ?_)))).mono ?_
  rintro e w1 ⟨rfl, hc1⟩
  have hw1 : Chg [] w w1 := Chg.trans0 (by repeat (first | with_reducible exact Chg.refl _ _ | with_reducible assumption | with_reducible refine Chg.setCell ?_ (Or.inr (by first | (simp; done) | (simp; omega))) _ | with_reducible refine Chg.alloc ?_ _ | with_reducible refine Chg.drewN ?_ _ | with_reducible refine Chg.drew ?_)) hc1
  obtain ⟨hcl1, hfz1⟩ := hc1.cells
  have hz1 := hc1.size
  repeat (first | rw [World.size_alloc] at hz1 | rw [World.size_setCell] at hz1 | rw [World.size_drew] at hz1 | rw [World.heap_drewN] at hz1)
  have hza1 : w.heap.size < w1.heap.size := by omega
  have hzb1 : w.heap.size + 1 < w1.heap.size := by omega
  clear hc1
  go_wp2
  go_ret
  exact ⟨rfl, by repeat (first | with_reducible exact Chg.refl _ _ | with_reducible assumption | with_reducible refine Chg.setCell ?_ (Or.inr (by first | (simp; done) | (simp; omega))) _ | with_reducible refine Chg.alloc ?_ _ | with_reducible refine Chg.drewN ?_ _ | with_reducible refine Chg.drew ?_)⟩

set_option maxRecDepth 100000 in
set_option maxHeartbeats 1000000 in
theorem eqWrkWorker_c (x : WrkWorker) (vSums vSums' : Value) (FSums FSums' : List Nat) (vEngCertStates vEngCertStates' : Value) (FEngCertStates FEngCertStates' : List Nat) (vEngCertOuts vEngCertOuts' : Value) (FEngCertOuts FEngCertOuts' : List Nat) (w : World) (hSums : RL w x.Sums vSums FSums) (hSums' : RL w x.Sums vSums' FSums') (hEngCertStates : RL w x.Eng.Cert.States vEngCertStates FEngCertStates) (hEngCertStates' : RL w x.Eng.Cert.States vEngCertStates' FEngCertStates') (hEngCertOuts : RL w x.Eng.Cert.Outs vEngCertOuts FEngCertOuts) (hEngCertOuts' : RL w x.Eng.Cert.Outs vEngCertOuts' FEngCertOuts') : Calls Try.prog 7 #[.agg #[.bool x.Up, .bool x.Busy, .int .i64 x.Part, .int .i64 x.Epoch, .int .i64 x.Seq, vSums, .int .i64 x.Eng.Phase, .int .i64 x.Eng.Round, vEngCertStates, vEngCertOuts], .agg #[.bool x.Up, .bool x.Busy, .int .i64 x.Part, .int .i64 x.Epoch, .int .i64 x.Seq, vSums', .int .i64 x.Eng.Phase, .int .i64 x.Eng.Round, vEngCertStates', vEngCertOuts']] w fun e w' => e = .returned (.bool true) ∧ Chg [] w w' := by
  have tUp : (x.Up != x.Up) = false := by simp
  have tBusy : (x.Busy != x.Busy) = false := by simp
  have tPart : (x.Part != x.Part) = false := by simp
  have tEpoch : (x.Epoch != x.Epoch) = false := by simp
  have tSeq : (x.Seq != x.Seq) = false := by simp
  go_enter Try.func7, Try.ntmps7
  go_wp2_with fail
  refine (eqSumSumS_c x.Sums _ _ _ _ _ (hSums.chg0 (by repeat (first | with_reducible exact Chg.refl _ _ | with_reducible assumption | with_reducible refine Chg.setCell ?_ (Or.inr (by first | (simp; done) | (simp; omega))) _ | with_reducible refine Chg.alloc ?_ _ | with_reducible refine Chg.drewN ?_ _ | with_reducible refine Chg.drew ?_))) (hSums'.chg0 (by repeat (first | with_reducible exact Chg.refl _ _ | with_reducible assumption | with_reducible refine Chg.setCell ?_ (Or.inr (by first | (simp; done) | (simp; omega))) _ | with_reducible refine Chg.alloc ?_ _ | with_reducible refine Chg.drewN ?_ _ | with_reducible refine Chg.drew ?_)))).mono ?_
  rintro e w1 ⟨rfl, hc1⟩
  have hw1 : Chg [] w w1 := Chg.trans0 (by repeat (first | with_reducible exact Chg.refl _ _ | with_reducible assumption | with_reducible refine Chg.setCell ?_ (Or.inr (by first | (simp; done) | (simp; omega))) _ | with_reducible refine Chg.alloc ?_ _ | with_reducible refine Chg.drewN ?_ _ | with_reducible refine Chg.drew ?_)) hc1
  obtain ⟨hcl1, hfz1⟩ := hc1.cells
  have hz1 := hc1.size
  repeat (first | rw [World.size_alloc] at hz1 | rw [World.size_setCell] at hz1 | rw [World.size_drew] at hz1 | rw [World.heap_drewN] at hz1)
  have hza1 : w.heap.size < w1.heap.size := by omega
  have hzb1 : w.heap.size + 1 < w1.heap.size := by omega
  clear hc1
  go_wp2_with fail
  refine (eqEngEng_c x.Eng _ _ _ _ _ _ _ _ _ (hEngCertStates.chg0 (by repeat (first | with_reducible exact Chg.refl _ _ | with_reducible assumption | with_reducible refine Chg.setCell ?_ (Or.inr (by first | (simp; done) | (simp; omega))) _ | with_reducible refine Chg.alloc ?_ _ | with_reducible refine Chg.drewN ?_ _ | with_reducible refine Chg.drew ?_))) (hEngCertStates'.chg0 (by repeat (first | with_reducible exact Chg.refl _ _ | with_reducible assumption | with_reducible refine Chg.setCell ?_ (Or.inr (by first | (simp; done) | (simp; omega))) _ | with_reducible refine Chg.alloc ?_ _ | with_reducible refine Chg.drewN ?_ _ | with_reducible refine Chg.drew ?_))) (hEngCertOuts.chg0 (by repeat (first | with_reducible exact Chg.refl _ _ | with_reducible assumption | with_reducible refine Chg.setCell ?_ (Or.inr (by first | (simp; done) | (simp; omega))) _ | with_reducible refine Chg.alloc ?_ _ | with_reducible refine Chg.drewN ?_ _ | with_reducible refine Chg.drew ?_))) (hEngCertOuts'.chg0 (by repeat (first | with_reducible exact Chg.refl _ _ | with_reducible assumption | with_reducible refine Chg.setCell ?_ (Or.inr (by first | (simp; done) | (simp; omega))) _ | with_reducible refine Chg.alloc ?_ _ | with_reducible refine Chg.drewN ?_ _ | with_reducible refine Chg.drew ?_)))).mono ?_
  rintro e w2 ⟨rfl, hc2⟩
  have hw2 : Chg [] w w2 := Chg.trans0 (by repeat (first | with_reducible exact Chg.refl _ _ | with_reducible assumption | with_reducible refine Chg.setCell ?_ (Or.inr (by first | (simp; done) | (simp; omega))) _ | with_reducible refine Chg.alloc ?_ _ | with_reducible refine Chg.drewN ?_ _ | with_reducible refine Chg.drew ?_)) hc2
  obtain ⟨hcl2, hfz2⟩ := hc2.cells
  have hz2 := hc2.size
  repeat (first | rw [World.size_alloc] at hz2 | rw [World.size_setCell] at hz2 | rw [World.size_drew] at hz2 | rw [World.heap_drewN] at hz2)
  have hza2 : w.heap.size < w2.heap.size := by omega
  have hzb2 : w.heap.size + 1 < w2.heap.size := by omega
  clear hc2
  go_wp2
  go_ret
  exact ⟨rfl, by repeat (first | with_reducible exact Chg.refl _ _ | with_reducible assumption | with_reducible refine Chg.setCell ?_ (Or.inr (by first | (simp; done) | (simp; omega))) _ | with_reducible refine Chg.alloc ?_ _ | with_reducible refine Chg.drewN ?_ _ | with_reducible refine Chg.drew ?_)⟩

set_option maxRecDepth 100000 in
set_option maxHeartbeats 1000000 in
theorem eqCrdLease_c (x : CrdLease) (w : World) : Calls Try.prog 58 #[.agg #[.int .i64 x.Part, .int .i64 x.Who, .int .i64 x.Seq, .int .i64 x.Due], .agg #[.int .i64 x.Part, .int .i64 x.Who, .int .i64 x.Seq, .int .i64 x.Due]] w fun e w' => e = .returned (.bool true) ∧ Chg [] w w' := by
  have tPart : (x.Part != x.Part) = false := by simp
  have tWho : (x.Who != x.Who) = false := by simp
  have tSeq : (x.Seq != x.Seq) = false := by simp
  have tDue : (x.Due != x.Due) = false := by simp
  go_enter Try.func58, Try.ntmps58
  go_wp2
  go_ret
  exact ⟨rfl, by repeat (first | with_reducible exact Chg.refl _ _ | with_reducible assumption | with_reducible refine Chg.setCell ?_ (Or.inr (by first | (simp; done) | (simp; omega))) _ | with_reducible refine Chg.alloc ?_ _ | with_reducible refine Chg.drewN ?_ _ | with_reducible refine Chg.drew ?_)⟩

set_option maxRecDepth 100000 in
set_option maxHeartbeats 1000000 in
theorem eqCrdLeaseS_c (xs : List CrdLease) (a b : Value) (F G : List Nat) (w : World) (ha : RL w xs a F) (hb : RL w xs b G) :
    Calls Try.prog 36 #[a, b] w fun e w' => e = .returned (.bool true) ∧ Chg [] w w' := by
  obtain ⟨A, ca, rfl, hla, hma⟩ := ha.form
  obtain ⟨B, cb, rfl, hlb, hmb⟩ := hb.form
  have hn : xs.length ≤ maxLen := by omega
  unfold maxLen at hn
  have h0 : (((xs.length : Nat) : Int) != ((xs.length : Nat) : Int)) = false := by simp
  go_enter Try.func36, Try.ntmps36
  go_wp2
  go_loopw [5] (fun i wr => ∃ k : Nat, k ≤ xs.length ∧ i = .int .i64 k ∧ Chg [] w wr) (fun i _ => xs.length - (intOf i).toNat)
  case atStart => exact ⟨0, Nat.zero_le _, rfl, Chg.refl _ _⟩
  case round =>
    obtain ⟨k, hk, rfl, hc⟩ := hrel
    by_cases hlt : k < xs.length
    · obtain ⟨b1, o1, p1, c1, f1, e1, r1, m1, -⟩ := (ha.chg0 hc).elem hlt
      obtain ⟨b2, o2, p2, c2, f2, e2, r2, m2, -⟩ := (hb.chg0 hc).elem hlt
      obtain ⟨rfl, hF1, i1_0, i1_1, i1_2, i1_3⟩ := R_CrdLease.1 r1
      obtain ⟨rfl, hF2, i2_0, i2_1, i2_2, i2_3⟩ := R_CrdLease.1 r2
      injection e1 with e1 _ e1c
      injection e2 with e2 _ e2c
      subst e1 e2 e1c e2c
      have ya0 := m1 0 (by decide)
      have ya1 := m1 1 (by decide)
      have ya2 := m1 2 (by decide)
      have ya3 := m1 3 (by decide)
      have yb0 := m2 0 (by decide)
      have yb1 := m2 1 (by decide)
      have yb2 := m2 2 (by decide)
      have yb3 := m2 3 (by decide)
      simp only [sz_CrdLease, Nat.add_zero, List.getElem?_cons_zero, List.getElem?_cons_succ] at ya0 yb0 ya1 yb1 ya2 yb2 ya3 yb3
      clear m1 m2 r1 r2 ha hb
      go_wp2_with fail
      go_region_with (go_at_call 58; refine (eqCrdLease_c xs[k] _).mono ?_; rintro e w1 ⟨rfl, hc1⟩)
      all_goals
        have hc2 := hc.trans0 (Chg.un _ hc1)
        clear hc1
        go_wp2
        go_roundw
        case rel => exact ⟨k + 1, by omega, by go_num, hc2⟩
        case measure => simp [intOf]; omega
    · clear ha hb
      go_wp2
      go_ret
      exact ⟨rfl, hc⟩

set_option maxRecDepth 100000 in
set_option maxHeartbeats 1000000 in
theorem eqBoolS_c (xs : List Bool) (a b : Value) (F G : List Nat) (w : World) (ha : RL w xs a F) (hb : RL w xs b G) :
    Calls Try.prog 34 #[a, b] w fun e w' => e = .returned (.bool true) ∧ Chg [] w w' := by
  obtain ⟨A, ca, rfl, hla, hma⟩ := ha.form
  obtain ⟨B, cb, rfl, hlb, hmb⟩ := hb.form
  have hn : xs.length ≤ maxLen := by omega
  unfold maxLen at hn
  have h0 : (((xs.length : Nat) : Int) != ((xs.length : Nat) : Int)) = false := by simp
  go_enter Try.func34, Try.ntmps34
  go_wp2
  go_loopw [5] (fun i wr => ∃ k : Nat, k ≤ xs.length ∧ i = .int .i64 k ∧ Chg [] w wr) (fun i _ => xs.length - (intOf i).toNat)
  case atStart => exact ⟨0, Nat.zero_le _, rfl, Chg.refl _ _⟩
  case round =>
    obtain ⟨k, hk, rfl, hc⟩ := hrel
    by_cases hlt : k < xs.length
    · obtain ⟨b1, o1, p1, c1, f1, e1, r1, m1, -⟩ := (ha.chg0 hc).elem hlt
      obtain ⟨b2, o2, p2, c2, f2, e2, r2, m2, -⟩ := (hb.chg0 hc).elem hlt
      obtain ⟨rfl, -⟩ := R_bool.1 r1
      obtain ⟨rfl, -⟩ := R_bool.1 r2
      injection e1 with e1 _ e1c
      injection e2 with e2 _ e2c
      subst e1 e2 e1c e2c
      have ya0 := m1 0 (by decide)
      have yb0 := m2 0 (by decide)
      simp only [sz_bool, Nat.mul_one, Nat.add_zero, List.getElem?_cons_zero] at ya0 yb0
      clear m1 m2 r1 r2 ha hb
      generalize xs[k] = x at *
      have t1 : (x != x) = false := by simp
      go_wp2_with fail
      go_quiet (fail)
      go_wp2
      go_roundw
      case rel => exact ⟨k + 1, by omega, by go_num, hc.drewN _⟩
      case measure => simp [intOf]; omega
    · clear ha hb
      go_wp2
      go_ret
      exact ⟨rfl, hc⟩

set_option maxRecDepth 100000 in
set_option maxHeartbeats 1000000 in
theorem eqByteS_c (xs : List UInt8) (a b : Value) (F G : List Nat) (w : World) (ha : RL w xs a F) (hb : RL w xs b G) :
    Calls Try.prog 38 #[a, b] w fun e w' => e = .returned (.bool true) ∧ Chg [] w w' := by
  obtain ⟨A, ca, rfl, hla, hma⟩ := ha.form
  obtain ⟨B, cb, rfl, hlb, hmb⟩ := hb.form
  have hn : xs.length ≤ maxLen := by omega
  unfold maxLen at hn
  have h0 : (((xs.length : Nat) : Int) != ((xs.length : Nat) : Int)) = false := by simp
  go_enter Try.func38, Try.ntmps38
  go_wp2
  go_loopw [5] (fun i wr => ∃ k : Nat, k ≤ xs.length ∧ i = .int .i64 k ∧ Chg [] w wr) (fun i _ => xs.length - (intOf i).toNat)
  case atStart => exact ⟨0, Nat.zero_le _, rfl, Chg.refl _ _⟩
  case round =>
    obtain ⟨k, hk, rfl, hc⟩ := hrel
    by_cases hlt : k < xs.length
    · obtain ⟨b1, o1, p1, c1, f1, e1, r1, m1, -⟩ := (ha.chg0 hc).elem hlt
      obtain ⟨b2, o2, p2, c2, f2, e2, r2, m2, -⟩ := (hb.chg0 hc).elem hlt
      obtain ⟨rfl, -⟩ := R_u8.1 r1
      obtain ⟨rfl, -⟩ := R_u8.1 r2
      injection e1 with e1 _ e1c
      injection e2 with e2 _ e2c
      subst e1 e2 e1c e2c
      have ya0 := m1 0 (by decide)
      have yb0 := m2 0 (by decide)
      simp only [sz_u8, Nat.mul_one, Nat.add_zero, List.getElem?_cons_zero] at ya0 yb0
      clear m1 m2 r1 r2 ha hb
      generalize xs[k] = x at *
      have t0 : (((x.toNat : Nat) : Int) != ((x.toNat : Nat) : Int)) = false := by simp
      have t1 : (x != x) = false := by simp
      go_wp2_with fail
      go_quiet (fail)
      go_wp2
      go_roundw
      case rel => exact ⟨k + 1, by omega, by go_num, hc.drewN _⟩
      case measure => simp [intOf]; omega
    · clear ha hb
      go_wp2
      go_ret
      exact ⟨rfl, hc⟩

set_option maxRecDepth 100000 in
set_option maxHeartbeats 1000000 in
theorem eqCrdCoord_c (x : CrdCoord) (vDone vDone' : Value) (FDone FDone' : List Nat) (vCerts vCerts' : Value) (FCerts FCerts' : List Nat) (vLeases vLeases' : Value) (FLeases FLeases' : List Nat) (vVerdictSites vVerdictSites' : Value) (FVerdictSites FVerdictSites' : List Nat) (vLog vLog' : Value) (FLog FLog' : List Nat) (w : World) (hDone : RL w x.Done vDone FDone) (hDone' : RL w x.Done vDone' FDone') (hCerts : RL w x.Certs vCerts FCerts) (hCerts' : RL w x.Certs vCerts' FCerts') (hLeases : RL w x.Leases vLeases FLeases) (hLeases' : RL w x.Leases vLeases' FLeases') (hVerdictSites : RL w x.Verdict.Sites vVerdictSites FVerdictSites) (hVerdictSites' : RL w x.Verdict.Sites vVerdictSites' FVerdictSites') (hLog : RL w x.Log vLog FLog) (hLog' : RL w x.Log vLog' FLog') : Calls Try.prog 14 #[.agg #[.bool x.Up, .int .i64 x.Epoch, .int .i64 x.Seq, .int .i64 x.Clock, vDone, vCerts, vLeases, .int .i64 x.Verdict.Kind, .int .i64 x.Verdict.Line, vVerdictSites, vLog], .agg #[.bool x.Up, .int .i64 x.Epoch, .int .i64 x.Seq, .int .i64 x.Clock, vDone', vCerts', vLeases', .int .i64 x.Verdict.Kind, .int .i64 x.Verdict.Line, vVerdictSites', vLog']] w fun e w' => e = .returned (.bool true) ∧ Chg [] w w' := by
  have tUp : (x.Up != x.Up) = false := by simp
  have tEpoch : (x.Epoch != x.Epoch) = false := by simp
  have tSeq : (x.Seq != x.Seq) = false := by simp
  have tClock : (x.Clock != x.Clock) = false := by simp
  go_enter Try.func14, Try.ntmps14
  go_wp2_with fail
  refine (eqBoolS_c x.Done _ _ _ _ _ (hDone.chg0 (by repeat (first | with_reducible exact Chg.refl _ _ | with_reducible assumption | with_reducible refine Chg.setCell ?_ (Or.inr (by first | (simp; done) | (simp; omega))) _ | with_reducible refine Chg.alloc ?_ _ | with_reducible refine Chg.drewN ?_ _ | with_reducible refine Chg.drew ?_))) (hDone'.chg0 (by repeat (first | with_reducible exact Chg.refl _ _ | with_reducible assumption | with_reducible refine Chg.setCell ?_ (Or.inr (by first | (simp; done) | (simp; omega))) _ | with_reducible refine Chg.alloc ?_ _ | with_reducible refine Chg.drewN ?_ _ | with_reducible refine Chg.drew ?_)))).mono ?_
  rintro e w1 ⟨rfl, hc1⟩
  have hw1 : Chg [] w w1 := Chg.trans0 (by repeat (first | with_reducible exact Chg.refl _ _ | with_reducible assumption | with_reducible refine Chg.setCell ?_ (Or.inr (by first | (simp; done) | (simp; omega))) _ | with_reducible refine Chg.alloc ?_ _ | with_reducible refine Chg.drewN ?_ _ | with_reducible refine Chg.drew ?_)) hc1
  obtain ⟨hcl1, hfz1⟩ := hc1.cells
  have hz1 := hc1.size
  repeat (first | rw [World.size_alloc] at hz1 | rw [World.size_setCell] at hz1 | rw [World.size_drew] at hz1 | rw [World.heap_drewN] at hz1)
  have hza1 : w.heap.size < w1.heap.size := by omega
  have hzb1 : w.heap.size + 1 < w1.heap.size := by omega
  clear hc1
  go_wp2_with fail
  refine (eqCrtCertS_c x.Certs _ _ _ _ _ (hCerts.chg0 (by repeat (first | with_reducible exact Chg.refl _ _ | with_reducible assumption | with_reducible refine Chg.setCell ?_ (Or.inr (by first | (simp; done) | (simp; omega))) _ | with_reducible refine Chg.alloc ?_ _ | with_reducible refine Chg.drewN ?_ _ | with_reducible refine Chg.drew ?_))) (hCerts'.chg0 (by repeat (first | with_reducible exact Chg.refl _ _ | with_reducible assumption | with_reducible refine Chg.setCell ?_ (Or.inr (by first | (simp; done) | (simp; omega))) _ | with_reducible refine Chg.alloc ?_ _ | with_reducible refine Chg.drewN ?_ _ | with_reducible refine Chg.drew ?_)))).mono ?_
  rintro e w2 ⟨rfl, hc2⟩
  have hw2 : Chg [] w w2 := Chg.trans0 (by repeat (first | with_reducible exact Chg.refl _ _ | with_reducible assumption | with_reducible refine Chg.setCell ?_ (Or.inr (by first | (simp; done) | (simp; omega))) _ | with_reducible refine Chg.alloc ?_ _ | with_reducible refine Chg.drewN ?_ _ | with_reducible refine Chg.drew ?_)) hc2
  obtain ⟨hcl2, hfz2⟩ := hc2.cells
  have hz2 := hc2.size
  repeat (first | rw [World.size_alloc] at hz2 | rw [World.size_setCell] at hz2 | rw [World.size_drew] at hz2 | rw [World.heap_drewN] at hz2)
  have hza2 : w.heap.size < w2.heap.size := by omega
  have hzb2 : w.heap.size + 1 < w2.heap.size := by omega
  clear hc2
  go_wp2_with fail
  refine (eqCrdLeaseS_c x.Leases _ _ _ _ _ (hLeases.chg0 (by repeat (first | with_reducible exact Chg.refl _ _ | with_reducible assumption | with_reducible refine Chg.setCell ?_ (Or.inr (by first | (simp; done) | (simp; omega))) _ | with_reducible refine Chg.alloc ?_ _ | with_reducible refine Chg.drewN ?_ _ | with_reducible refine Chg.drew ?_))) (hLeases'.chg0 (by repeat (first | with_reducible exact Chg.refl _ _ | with_reducible assumption | with_reducible refine Chg.setCell ?_ (Or.inr (by first | (simp; done) | (simp; omega))) _ | with_reducible refine Chg.alloc ?_ _ | with_reducible refine Chg.drewN ?_ _ | with_reducible refine Chg.drew ?_)))).mono ?_
  rintro e w3 ⟨rfl, hc3⟩
  have hw3 : Chg [] w w3 := Chg.trans0 (by repeat (first | with_reducible exact Chg.refl _ _ | with_reducible assumption | with_reducible refine Chg.setCell ?_ (Or.inr (by first | (simp; done) | (simp; omega))) _ | with_reducible refine Chg.alloc ?_ _ | with_reducible refine Chg.drewN ?_ _ | with_reducible refine Chg.drew ?_)) hc3
  obtain ⟨hcl3, hfz3⟩ := hc3.cells
  have hz3 := hc3.size
  repeat (first | rw [World.size_alloc] at hz3 | rw [World.size_setCell] at hz3 | rw [World.size_drew] at hz3 | rw [World.heap_drewN] at hz3)
  have hza3 : w.heap.size < w3.heap.size := by omega
  have hzb3 : w.heap.size + 1 < w3.heap.size := by omega
  clear hc3
  go_wp2_with fail
  refine (eqVrdVerdict_c x.Verdict _ _ _ _ _ (hVerdictSites.chg0 (by repeat (first | with_reducible exact Chg.refl _ _ | with_reducible assumption | with_reducible refine Chg.setCell ?_ (Or.inr (by first | (simp; done) | (simp; omega))) _ | with_reducible refine Chg.alloc ?_ _ | with_reducible refine Chg.drewN ?_ _ | with_reducible refine Chg.drew ?_))) (hVerdictSites'.chg0 (by repeat (first | with_reducible exact Chg.refl _ _ | with_reducible assumption | with_reducible refine Chg.setCell ?_ (Or.inr (by first | (simp; done) | (simp; omega))) _ | with_reducible refine Chg.alloc ?_ _ | with_reducible refine Chg.drewN ?_ _ | with_reducible refine Chg.drew ?_)))).mono ?_
  rintro e w4 ⟨rfl, hc4⟩
  have hw4 : Chg [] w w4 := Chg.trans0 (by repeat (first | with_reducible exact Chg.refl _ _ | with_reducible assumption | with_reducible refine Chg.setCell ?_ (Or.inr (by first | (simp; done) | (simp; omega))) _ | with_reducible refine Chg.alloc ?_ _ | with_reducible refine Chg.drewN ?_ _ | with_reducible refine Chg.drew ?_)) hc4
  obtain ⟨hcl4, hfz4⟩ := hc4.cells
  have hz4 := hc4.size
  repeat (first | rw [World.size_alloc] at hz4 | rw [World.size_setCell] at hz4 | rw [World.size_drew] at hz4 | rw [World.heap_drewN] at hz4)
  have hza4 : w.heap.size < w4.heap.size := by omega
  have hzb4 : w.heap.size + 1 < w4.heap.size := by omega
  clear hc4
  go_wp2_with fail
  refine (eqByteS_c x.Log _ _ _ _ _ (hLog.chg0 (by repeat (first | with_reducible exact Chg.refl _ _ | with_reducible assumption | with_reducible refine Chg.setCell ?_ (Or.inr (by first | (simp; done) | (simp; omega))) _ | with_reducible refine Chg.alloc ?_ _ | with_reducible refine Chg.drewN ?_ _ | with_reducible refine Chg.drew ?_))) (hLog'.chg0 (by repeat (first | with_reducible exact Chg.refl _ _ | with_reducible assumption | with_reducible refine Chg.setCell ?_ (Or.inr (by first | (simp; done) | (simp; omega))) _ | with_reducible refine Chg.alloc ?_ _ | with_reducible refine Chg.drewN ?_ _ | with_reducible refine Chg.drew ?_)))).mono ?_
  rintro e w5 ⟨rfl, hc5⟩
  have hw5 : Chg [] w w5 := Chg.trans0 (by repeat (first | with_reducible exact Chg.refl _ _ | with_reducible assumption | with_reducible refine Chg.setCell ?_ (Or.inr (by first | (simp; done) | (simp; omega))) _ | with_reducible refine Chg.alloc ?_ _ | with_reducible refine Chg.drewN ?_ _ | with_reducible refine Chg.drew ?_)) hc5
  obtain ⟨hcl5, hfz5⟩ := hc5.cells
  have hz5 := hc5.size
  repeat (first | rw [World.size_alloc] at hz5 | rw [World.size_setCell] at hz5 | rw [World.size_drew] at hz5 | rw [World.heap_drewN] at hz5)
  have hza5 : w.heap.size < w5.heap.size := by omega
  have hzb5 : w.heap.size + 1 < w5.heap.size := by omega
  clear hc5
  go_wp2
  go_ret
  exact ⟨rfl, by repeat (first | with_reducible exact Chg.refl _ _ | with_reducible assumption | with_reducible refine Chg.setCell ?_ (Or.inr (by first | (simp; done) | (simp; omega))) _ | with_reducible refine Chg.alloc ?_ _ | with_reducible refine Chg.drewN ?_ _ | with_reducible refine Chg.drew ?_)⟩

end Go.Proofs.Ytaiinlhobcclcaa.Wk
