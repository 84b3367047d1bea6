/-
  Contracts of the laws' own functions, written by a program of mine (wip/gen/gen_laws.py).
-/
import Derived.Test.YtjakhnhnjhafgaaGreatZBase
set_option linter.unusedVariables false
set_option linter.unusedSimpArgs false
namespace Go.Proofs.YtjakhnhnjhafgaaGreat.Wk
open Go Go.RowKit Go.Deep Ow
open Rp (R sz)
open Mk (mark cnt)
open Zr (zero zcells zr)

set_option maxRecDepth 100000 in
set_option maxHeartbeats 1000000 in
theorem eqInsIns_c (x : InsIns) (w : World) : Calls Tryz.prog 210 #[.agg #[.int .i64 x.Op, .int .i64 x.D, .int .i64 x.A, .int .i64 x.B, .int .i64 x.Rel, .int .i64 x.Lo, .int .i64 x.Hi, .int .i64 x.To], .agg #[.int .i64 x.Op, .int .i64 x.D, .int .i64 x.A, .int .i64 x.B, .int .i64 x.Rel, .int .i64 x.Lo, .int .i64 x.Hi, .int .i64 x.To]] w fun e w' => e = .returned (.bool true) ∧ Chg [] w w' := by
  have tOp : (x.Op != x.Op) = false := by simp
  have tD : (x.D != x.D) = false := by simp
  have tA : (x.A != x.A) = false := by simp
  have tB : (x.B != x.B) = false := by simp
  have tRel : (x.Rel != x.Rel) = false := by simp
  have tLo : (x.Lo != x.Lo) = false := by simp
  have tHi : (x.Hi != x.Hi) = false := by simp
  have tTo : (x.To != x.To) = false := by simp
  go_enter Tryz.func210, Tryz.ntmps210
  go_wp2
  go_ret
  exact ⟨rfl, Chg.e⟩

set_option maxRecDepth 100000 in
set_option maxHeartbeats 1000000 in
theorem eqInsInsS_c (xs : List InsIns) (a b : Value) (F G : List Nat) (w : World) (ha : RL w xs a F) (hb : RL w xs b G) :
    Calls Tryz.prog 186 #[a, b] w fun e w' => e = .returned (.bool true) ∧ Chg [] w w' := by
  obtain ⟨A, ca, rfl, hla, hma⟩ := ha.form
  obtain ⟨B, cb, rfl, hlb, hmb⟩ := hb.form
  have hn : xs.length ≤ maxLen := by omega
  unfold maxLen at hn
  have h0 : (((xs.length : Nat) : Int) != ((xs.length : Nat) : Int)) = false := by simp
  go_enter Tryz.func186, Tryz.ntmps186
  go_wp2
  go_loopw [5] (fun i wr => ∃ k : Nat, k ≤ xs.length ∧ i = .int .i64 k ∧ Chg [] w wr) (fun i _ => xs.length - (intOf i).toNat)
  case atStart => exact ⟨0, Nat.zero_le _, rfl, Chg.refl _ _⟩
  case round =>
    obtain ⟨k, hk, rfl, hc⟩ := hrel
    by_cases hlt : k < xs.length
    · obtain ⟨b1, o1, p1, c1, f1, e1, r1, m1, -⟩ := (ha.chg0 hc).elem hlt
      obtain ⟨b2, o2, p2, c2, f2, e2, r2, m2, -⟩ := (hb.chg0 hc).elem hlt
      obtain ⟨rfl, hF1, i1_0, i1_1, i1_2, i1_3, i1_4, i1_5, i1_6, i1_7⟩ := R_InsIns.1 r1
      obtain ⟨rfl, hF2, i2_0, i2_1, i2_2, i2_3, i2_4, i2_5, i2_6, i2_7⟩ := R_InsIns.1 r2
      injection e1 with e1 _ e1c
      injection e2 with e2 _ e2c
      subst e1 e2 e1c e2c
      have ya0 := m1 0 (by decide)
      have ya1 := m1 1 (by decide)
      have ya2 := m1 2 (by decide)
      have ya3 := m1 3 (by decide)
      have ya4 := m1 4 (by decide)
      have ya5 := m1 5 (by decide)
      have ya6 := m1 6 (by decide)
      have ya7 := m1 7 (by decide)
      have yb0 := m2 0 (by decide)
      have yb1 := m2 1 (by decide)
      have yb2 := m2 2 (by decide)
      have yb3 := m2 3 (by decide)
      have yb4 := m2 4 (by decide)
      have yb5 := m2 5 (by decide)
      have yb6 := m2 6 (by decide)
      have yb7 := m2 7 (by decide)
      simp only [sz_InsIns, Nat.add_zero, List.getElem?_cons_zero, List.getElem?_cons_succ] at ya0 yb0 ya1 yb1 ya2 yb2 ya3 yb3 ya4 yb4 ya5 yb5 ya6 yb6 ya7 yb7
      clear m1 m2 r1 r2 ha hb
      go_wp2_with fail
      go_region_with (go_at_call 210; refine (eqInsIns_c xs[k] _).mono ?_; rintro e w1 ⟨rfl, hc1⟩)
      all_goals
        have hc2 := hc.trans0 (Chg.un _ hc1)
        clear hc1
        go_wp2
        go_roundw
        case rel => exact ⟨k + 1, by omega, by go_num, hc2⟩
        case measure => simp [intOf]; omega
    · clear ha hb
      go_wp2
      go_ret
      exact ⟨rfl, hc⟩

set_option maxRecDepth 100000 in
set_option maxHeartbeats 1000000 in
theorem eqPrcProc_c (x : PrcProc) (vCode vCode' : Value) (FCode FCode' : List Nat) (w : World) (hCode : RL w x.Code vCode FCode) (hCode' : RL w x.Code vCode' FCode') : Calls Tryz.prog 144 #[.agg #[.int .i64 x.Lo, .int .i64 x.Hi, vCode], .agg #[.int .i64 x.Lo, .int .i64 x.Hi, vCode']] w fun e w' => e = .returned (.bool true) ∧ Chg [] w w' := by
  have tLo : (x.Lo != x.Lo) = false := by simp
  have tHi : (x.Hi != x.Hi) = false := by simp
  go_enter Tryz.func144, Tryz.ntmps144
  go_wp2_with fail
  refine (eqInsInsS_c x.Code _ _ _ _ _ (hCode.chg0 (Chg.e)) (hCode'.chg0 (Chg.e))).mono ?_
  rintro e w1 ⟨rfl, hc1⟩
  have hw1 : Chg [] w w1 := Chg.trans0 (Chg.e) hc1
  obtain ⟨hcl1, hfz1⟩ := hc1.cells
  have hz1 := hc1.size
  repeat (first | rw [World.size_alloc] at hz1 | rw [World.size_setCell] at hz1 | rw [World.size_drew] at hz1 | rw [World.heap_drewN] at hz1)
  have hza1 : w.heap.size < w1.heap.size := by omega
  have hzb1 : w.heap.size + 1 < w1.heap.size := by omega
  clear hc1
  go_wp2
  go_ret
  exact ⟨rfl, Chg.e⟩

set_option maxRecDepth 100000 in
set_option maxHeartbeats 1000000 in
theorem eqPrcProcS_c (xs : List PrcProc) (a b : Value) (F G : List Nat) (w : World) (ha : RL w xs a F) (hb : RL w xs b G) :
    Calls Tryz.prog 92 #[a, b] w fun e w' => e = .returned (.bool true) ∧ Chg [] w w' := by
  obtain ⟨A, ca, rfl, hla, hma⟩ := ha.form
  obtain ⟨B, cb, rfl, hlb, hmb⟩ := hb.form
  have hn : xs.length ≤ maxLen := by omega
  unfold maxLen at hn
  have h0 : (((xs.length : Nat) : Int) != ((xs.length : Nat) : Int)) = false := by simp
  go_enter Tryz.func92, Tryz.ntmps92
  go_wp2
  go_loopw [5] (fun i wr => ∃ k : Nat, k ≤ xs.length ∧ i = .int .i64 k ∧ Chg [] w wr) (fun i _ => xs.length - (intOf i).toNat)
  case atStart => exact ⟨0, Nat.zero_le _, rfl, Chg.refl _ _⟩
  case round =>
    obtain ⟨k, hk, rfl, hc⟩ := hrel
    by_cases hlt : k < xs.length
    · obtain ⟨b1, o1, p1, c1, f1, e1, r1, m1, -⟩ := (ha.chg0 hc).elem hlt
      obtain ⟨b2, o2, p2, c2, f2, e2, r2, m2, -⟩ := (hb.chg0 hc).elem hlt
      obtain ⟨v1_0, F1_0, rfl, hF1, i1_0, i1_1, g1_0⟩ := R_PrcProc.1 r1
      obtain ⟨v2_0, F2_0, rfl, hF2, i2_0, i2_1, g2_0⟩ := R_PrcProc.1 r2
      injection e1 with e1 _ e1c
      injection e2 with e2 _ e2c
      subst e1 e2 e1c e2c
      have ya0 := m1 0 (by decide)
      have ya1 := m1 1 (by decide)
      have ya2 := m1 2 (by decide)
      have yb0 := m2 0 (by decide)
      have yb1 := m2 1 (by decide)
      have yb2 := m2 2 (by decide)
      simp only [sz_PrcProc, Nat.add_zero, List.getElem?_cons_zero, List.getElem?_cons_succ] at ya0 yb0 ya1 yb1 ya2 yb2
      clear m1 m2 r1 r2 ha hb
      go_wp2_with fail
      go_region_with (go_at_call 144; refine (eqPrcProc_c xs[k] _ _ _ _ _ (by exact RL.same g1_0 rfl) (by exact RL.same g2_0 rfl)).mono ?_; rintro e w1 ⟨rfl, hc1⟩)
      all_goals
        have hc2 := hc.trans0 (Chg.un _ hc1)
        clear hc1
        go_wp2
        go_roundw
        case rel => exact ⟨k + 1, by omega, by go_num, hc2⟩
        case measure => simp [intOf]; omega
    · clear ha hb
      go_wp2
      go_ret
      exact ⟨rfl, hc⟩

set_option maxRecDepth 100000 in
set_option maxHeartbeats 1000000 in
theorem eqPrgProg_c (x : PrgProg) (vProcs vProcs' : Value) (FProcs FProcs' : List Nat) (w : World) (hProcs : RL w x.Procs vProcs FProcs) (hProcs' : RL w x.Procs vProcs' FProcs') : Calls Tryz.prog 29 #[.agg #[vProcs], .agg #[vProcs']] w fun e w' => e = .returned (.bool true) ∧ Chg [] w w' := by
  go_enter Tryz.func29, Tryz.ntmps29
  go_wp2_with fail
  refine (eqPrcProcS_c x.Procs _ _ _ _ _ (hProcs.chg0 (Chg.e)) (hProcs'.chg0 (Chg.e))).mono ?_
  rintro e w1 ⟨rfl, hc1⟩
  have hw1 : Chg [] w w1 := Chg.trans0 (Chg.e) hc1
  obtain ⟨hcl1, hfz1⟩ := hc1.cells
  have hz1 := hc1.size
  repeat (first | rw [World.size_alloc] at hz1 | rw [World.size_setCell] at hz1 | rw [World.size_drew] at hz1 | rw [World.heap_drewN] at hz1)
  have hza1 : w.heap.size < w1.heap.size := by omega
  have hzb1 : w.heap.size + 1 < w1.heap.size := by omega
  clear hc1
  go_wp2
  go_ret
  exact ⟨rfl, Chg.e⟩

set_option maxRecDepth 100000 in
set_option maxHeartbeats 1000000 in
theorem eqIntS_c (xs : List Int) (a b : Value) (F G : List Nat) (w : World) (ha : RL w xs a F) (hb : RL w xs b G) :
    Calls Tryz.prog 35 #[a, b] w fun e w' => e = .returned (.bool true) ∧ Chg [] w w' := by
  obtain ⟨A, ca, rfl, hla, hma⟩ := ha.form
  obtain ⟨B, cb, rfl, hlb, hmb⟩ := hb.form
  have hn : xs.length ≤ maxLen := by omega
  unfold maxLen at hn
  have h0 : (((xs.length : Nat) : Int) != ((xs.length : Nat) : Int)) = false := by simp
  go_enter Tryz.func35, Tryz.ntmps35
  go_wp2
  go_loopw [5] (fun i wr => ∃ k : Nat, k ≤ xs.length ∧ i = .int .i64 k ∧ Chg [] w wr) (fun i _ => xs.length - (intOf i).toNat)
  case atStart => exact ⟨0, Nat.zero_le _, rfl, Chg.refl _ _⟩
  case round =>
    obtain ⟨k, hk, rfl, hc⟩ := hrel
    by_cases hlt : k < xs.length
    · obtain ⟨b1, o1, p1, c1, f1, e1, r1, m1, -⟩ := (ha.chg0 hc).elem hlt
      obtain ⟨b2, o2, p2, c2, f2, e2, r2, m2, -⟩ := (hb.chg0 hc).elem hlt
      obtain ⟨rfl, -, i1_0⟩ := R_int.1 r1
      obtain ⟨rfl, -, i2_0⟩ := R_int.1 r2
      injection e1 with e1 _ e1c
      injection e2 with e2 _ e2c
      subst e1 e2 e1c e2c
      have ya0 := m1 0 (by decide)
      have yb0 := m2 0 (by decide)
      simp only [sz_int, Nat.mul_one, Nat.add_zero, List.getElem?_cons_zero] at ya0 yb0
      clear m1 m2 r1 r2 ha hb
      generalize xs[k] = x at *
      have t1 : (x != x) = false := by simp
      go_wp2_with fail
      go_quiet (fail)
      go_wp2
      go_roundw
      case rel => exact ⟨k + 1, by omega, by go_num, hc.drewN _⟩
      case measure => simp [intOf]; omega
    · clear ha hb
      go_wp2
      go_ret
      exact ⟨rfl, hc⟩

set_option maxRecDepth 100000 in
set_option maxHeartbeats 1000000 in
theorem eqRunFrame_c (x : RunFrame) (vVars vVars' : Value) (FVars FVars' : List Nat) (vCells vCells' : Value) (FCells FCells' : List Nat) (w : World) (hVars : RL w x.Vars vVars FVars) (hVars' : RL w x.Vars vVars' FVars') (hCells : RL w x.Cells vCells FCells) (hCells' : RL w x.Cells vCells' FCells') : Calls Tryz.prog 143 #[.agg #[.int .i64 x.Proc, .int .i64 x.Pc, vVars, vCells], .agg #[.int .i64 x.Proc, .int .i64 x.Pc, vVars', vCells']] w fun e w' => e = .returned (.bool true) ∧ Chg [] w w' := by
  have tProc : (x.Proc != x.Proc) = false := by simp
  have tPc : (x.Pc != x.Pc) = false := by simp
  go_enter Tryz.func143, Tryz.ntmps143
  go_wp2_with fail
  refine (eqIntS_c x.Vars _ _ _ _ _ (hVars.chg0 (Chg.e)) (hVars'.chg0 (Chg.e))).mono ?_
  rintro e w1 ⟨rfl, hc1⟩
  have hw1 : Chg [] w w1 := Chg.trans0 (Chg.e) hc1
  obtain ⟨hcl1, hfz1⟩ := hc1.cells
  have hz1 := hc1.size
  repeat (first | rw [World.size_alloc] at hz1 | rw [World.size_setCell] at hz1 | rw [World.size_drew] at hz1 | rw [World.heap_drewN] at hz1)
  have hza1 : w.heap.size < w1.heap.size := by omega
  have hzb1 : w.heap.size + 1 < w1.heap.size := by omega
  clear hc1
  go_wp2_with fail
  refine (eqIntS_c x.Cells _ _ _ _ _ (hCells.chg0 (Chg.e)) (hCells'.chg0 (Chg.e))).mono ?_
  rintro e w2 ⟨rfl, hc2⟩
  have hw2 : Chg [] w w2 := Chg.trans0 (Chg.e) hc2
  obtain ⟨hcl2, hfz2⟩ := hc2.cells
  have hz2 := hc2.size
  repeat (first | rw [World.size_alloc] at hz2 | rw [World.size_setCell] at hz2 | rw [World.size_drew] at hz2 | rw [World.heap_drewN] at hz2)
  have hza2 : w.heap.size < w2.heap.size := by omega
  have hzb2 : w.heap.size + 1 < w2.heap.size := by omega
  clear hc2
  go_wp2
  go_ret
  exact ⟨rfl, Chg.e⟩

set_option maxRecDepth 100000 in
set_option maxHeartbeats 1000000 in
theorem eqRunFrameS_c (xs : List RunFrame) (a b : Value) (F G : List Nat) (w : World) (ha : RL w xs a F) (hb : RL w xs b G) :
    Calls Tryz.prog 91 #[a, b] w fun e w' => e = .returned (.bool true) ∧ Chg [] w w' := by
  obtain ⟨A, ca, rfl, hla, hma⟩ := ha.form
  obtain ⟨B, cb, rfl, hlb, hmb⟩ := hb.form
  have hn : xs.length ≤ maxLen := by omega
  unfold maxLen at hn
  have h0 : (((xs.length : Nat) : Int) != ((xs.length : Nat) : Int)) = false := by simp
  go_enter Tryz.func91, Tryz.ntmps91
  go_wp2
  go_loopw [5] (fun i wr => ∃ k : Nat, k ≤ xs.length ∧ i = .int .i64 k ∧ Chg [] w wr) (fun i _ => xs.length - (intOf i).toNat)
  case atStart => exact ⟨0, Nat.zero_le _, rfl, Chg.refl _ _⟩
  case round =>
    obtain ⟨k, hk, rfl, hc⟩ := hrel
    by_cases hlt : k < xs.length
    · obtain ⟨b1, o1, p1, c1, f1, e1, r1, m1, -⟩ := (ha.chg0 hc).elem hlt
      obtain ⟨b2, o2, p2, c2, f2, e2, r2, m2, -⟩ := (hb.chg0 hc).elem hlt
      obtain ⟨v1_0, F1_0, v1_1, F1_1, rfl, hF1, i1_0, i1_1, g1_0, g1_1⟩ := R_RunFrame.1 r1
      obtain ⟨v2_0, F2_0, v2_1, F2_1, rfl, hF2, i2_0, i2_1, g2_0, g2_1⟩ := R_RunFrame.1 r2
      injection e1 with e1 _ e1c
      injection e2 with e2 _ e2c
      subst e1 e2 e1c e2c
      have ya0 := m1 0 (by decide)
      have ya1 := m1 1 (by decide)
      have ya2 := m1 2 (by decide)
      have ya3 := m1 3 (by decide)
      have yb0 := m2 0 (by decide)
      have yb1 := m2 1 (by decide)
      have yb2 := m2 2 (by decide)
      have yb3 := m2 3 (by decide)
      simp only [sz_RunFrame, Nat.add_zero, List.getElem?_cons_zero, List.getElem?_cons_succ] at ya0 yb0 ya1 yb1 ya2 yb2 ya3 yb3
      clear m1 m2 r1 r2 ha hb
      go_wp2_with fail
      go_region_with (go_at_call 143; refine (eqRunFrame_c xs[k] _ _ _ _ _ _ _ _ _ (by exact RL.same g1_0 rfl) (by exact RL.same g2_0 rfl) (by exact RL.same g1_1 rfl) (by exact RL.same g2_1 rfl)).mono ?_; rintro e w1 ⟨rfl, hc1⟩)
      all_goals
        have hc2 := hc.trans0 (Chg.un _ hc1)
        clear hc1
        go_wp2
        go_roundw
        case rel => exact ⟨k + 1, by omega, by go_num, hc2⟩
        case measure => simp [intOf]; omega
    · clear ha hb
      go_wp2
      go_ret
      exact ⟨rfl, hc⟩

set_option maxRecDepth 100000 in
set_option maxHeartbeats 1000000 in
theorem eqRunRun_c (x : RunRun) (vFrames vFrames' : Value) (FFrames FFrames' : List Nat) (w : World) (hFrames : RL w x.Frames vFrames FFrames) (hFrames' : RL w x.Frames vFrames' FFrames') : Calls Tryz.prog 28 #[.agg #[.int .i64 x.State, vFrames, .int .i64 x.Out, .int .i64 x.Proc, .int .i64 x.Pc], .agg #[.int .i64 x.State, vFrames', .int .i64 x.Out, .int .i64 x.Proc, .int .i64 x.Pc]] w fun e w' => e = .returned (.bool true) ∧ Chg [] w w' := by
  have tState : (x.State != x.State) = false := by simp
  have tOut : (x.Out != x.Out) = false := by simp
  have tProc : (x.Proc != x.Proc) = false := by simp
  have tPc : (x.Pc != x.Pc) = false := by simp
  go_enter Tryz.func28, Tryz.ntmps28
  go_wp2_with fail
  refine (eqRunFrameS_c x.Frames _ _ _ _ _ (hFrames.chg0 (Chg.e)) (hFrames'.chg0 (Chg.e))).mono ?_
  rintro e w1 ⟨rfl, hc1⟩
  have hw1 : Chg [] w w1 := Chg.trans0 (Chg.e) hc1
  obtain ⟨hcl1, hfz1⟩ := hc1.cells
  have hz1 := hc1.size
  repeat (first | rw [World.size_alloc] at hz1 | rw [World.size_setCell] at hz1 | rw [World.size_drew] at hz1 | rw [World.heap_drewN] at hz1)
  have hza1 : w.heap.size < w1.heap.size := by omega
  have hzb1 : w.heap.size + 1 < w1.heap.size := by omega
  clear hc1
  go_wp2
  go_ret
  exact ⟨rfl, Chg.e⟩

end Go.Proofs.YtjakhnhnjhafgaaGreat.Wk
