/- The program's RunOk. -/
import Derived.Test.YtjakhnhnjhafgaaGreatZImplFrm
set_option linter.unusedVariables false
set_option linter.unusedSimpArgs false
namespace Go.Proofs.YtjakhnhnjhafgaaGreat.Wk
open Go Go.RowKit Go.Deep Ow
open Rp (R sz)
theorem runOk_goes {p : PrgProg} {r : RunRun} (h1 : prgOk p = true) (hs : r.State = 1) (ho : numOk r.Out = true) (hz : r.Out = 0) (hp : r.Proc = 0) (hq : r.Pc = 0) : runOk p r = framesB p r.Frames := by
  unfold runOk framesB
  rw [h1, hs, ho, hz, hp, hq, ← nestOk_eq]
  simp
theorem isEmpty_len {α : Type} (l : List α) : l.isEmpty = ((l.length : Int) == 0) := by
  cases l <;> simp; omega

set_option maxRecDepth 100000 in
set_option maxHeartbeats 4000000 in
theorem implRunOk_c (p : PrgProg) (r : RunRun) (vP vF : Value) (FP FF : List Nat) (w : World) (hP : RL w p.Procs vP FP) (h : RL w r.Frames vF FF) :
    Calls Tryz.prog 64 #[.agg #[vP], .agg #[.int .i64 r.State, vF, .int .i64 r.Out, .int .i64 r.Proc, .int .i64 r.Pc]] w fun e w' => e = .returned (.bool (runOk p r)) ∧ Chg [] w w' := by
  obtain ⟨AP, cP, rfl, -, -⟩ := hP.form
  obtain ⟨A, ca, rfl, hl, hm⟩ := h.form
  have hn : r.Frames.length ≤ maxLen := by omega
  unfold maxLen at hn
  have hprg := fun (wx : World) (hx : Chg [] w wx) => implPrgOk_c p _ _ wx (hP.chg0 hx)
  have hat := fun (wx : World) (hx : Chg [] w wx) => implPrgAt_c p r.Proc r.Pc _ _ wx (hP.chg0 hx)
  have hfrm := fun (wx : World) (hx : Chg [] w wx) => implFrames_c p r.Frames _ _ _ _ wx (hP.chg0 hx) (h.chg0 hx)
  clear hP h
  by_cases h1 : prgOk p = true
  case neg =>
    rw [Bool.not_eq_true] at h1
    rw [h1] at hprg
    have hno := Lib.hid (show runOk p r = false by simp [runOk, h1])
    clear h1 hat hfrm
    go_enter Tryz.func64, Tryz.ntmps64
    go_wp2_with (go_at_call 54; refine (hprg _ (Chg.c)).mono ?_; rintro e w1 ⟨rfl, hc1⟩; have p0w1 : w1.cell? ⟨w.heap.size, 0, none⟩ = some (.slice AP p.Procs.length cP) := hc1.cell0 (by simp); have r0w1 : w1.cell? ⟨w.heap.size + 1, 0, none⟩ = some (.int .i64 r.State) := hc1.cell0 (by simp); have r1w1 : w1.cell? ⟨w.heap.size + 1, 1, none⟩ = some (.slice A r.Frames.length ca) := hc1.cell0 (by simp); have r2w1 : w1.cell? ⟨w.heap.size + 1, 2, none⟩ = some (.int .i64 r.Out) := hc1.cell0 (by simp); have r3w1 : w1.cell? ⟨w.heap.size + 1, 3, none⟩ = some (.int .i64 r.Proc) := hc1.cell0 (by simp); have r4w1 : w1.cell? ⟨w.heap.size + 1, 4, none⟩ = some (.int .i64 r.Pc) := hc1.cell0 (by simp); have hA : Chg [] w w1 := Chg.trans0 (show Chg [] w _ from Chg.c) hc1; have hzA := hc1.size; rw [World.size_alloc, World.size_alloc] at hzA; have hzA2 : w.heap.size + 1 < w1.heap.size := (by omega); clear hc1 hzA)
    go_ret
    exact ⟨by first | rfl | (rw [hno.out]; rfl) | (rw [hno.out]; simp; done), Chg.k⟩
  rw [h1] at hprg
  by_cases hs1 : r.State < 1
  case pos =>
    have hno := Lib.hid (show runOk p r = false by unfold runOk; rw [decide_eq_false (show ¬ 1 ≤ r.State by omega)]; simp)
    clear h1 hat hfrm
    go_enter Tryz.func64, Tryz.ntmps64
    go_wp2_with (go_at_call 54; refine (hprg _ (Chg.c)).mono ?_; rintro e w1 ⟨rfl, hc1⟩; have p0w1 : w1.cell? ⟨w.heap.size, 0, none⟩ = some (.slice AP p.Procs.length cP) := hc1.cell0 (by simp); have r0w1 : w1.cell? ⟨w.heap.size + 1, 0, none⟩ = some (.int .i64 r.State) := hc1.cell0 (by simp); have r1w1 : w1.cell? ⟨w.heap.size + 1, 1, none⟩ = some (.slice A r.Frames.length ca) := hc1.cell0 (by simp); have r2w1 : w1.cell? ⟨w.heap.size + 1, 2, none⟩ = some (.int .i64 r.Out) := hc1.cell0 (by simp); have r3w1 : w1.cell? ⟨w.heap.size + 1, 3, none⟩ = some (.int .i64 r.Proc) := hc1.cell0 (by simp); have r4w1 : w1.cell? ⟨w.heap.size + 1, 4, none⟩ = some (.int .i64 r.Pc) := hc1.cell0 (by simp); have hA : Chg [] w w1 := Chg.trans0 (show Chg [] w _ from Chg.c) hc1; have hzA := hc1.size; rw [World.size_alloc, World.size_alloc] at hzA; have hzA2 : w.heap.size + 1 < w1.heap.size := (by omega); clear hc1 hzA)
    go_ret
    exact ⟨by first | rfl | (rw [hno.out]; rfl) | (rw [hno.out]; simp; done), Chg.k⟩
  by_cases hs2 : 4 < r.State
  case pos =>
    have hno := Lib.hid (show runOk p r = false by unfold runOk; rw [decide_eq_false (show ¬ r.State ≤ 4 by omega)]; simp)
    clear h1 hat hfrm
    go_enter Tryz.func64, Tryz.ntmps64
    go_wp2_with (go_at_call 54; refine (hprg _ (Chg.c)).mono ?_; rintro e w1 ⟨rfl, hc1⟩; have p0w1 : w1.cell? ⟨w.heap.size, 0, none⟩ = some (.slice AP p.Procs.length cP) := hc1.cell0 (by simp); have r0w1 : w1.cell? ⟨w.heap.size + 1, 0, none⟩ = some (.int .i64 r.State) := hc1.cell0 (by simp); have r1w1 : w1.cell? ⟨w.heap.size + 1, 1, none⟩ = some (.slice A r.Frames.length ca) := hc1.cell0 (by simp); have r2w1 : w1.cell? ⟨w.heap.size + 1, 2, none⟩ = some (.int .i64 r.Out) := hc1.cell0 (by simp); have r3w1 : w1.cell? ⟨w.heap.size + 1, 3, none⟩ = some (.int .i64 r.Proc) := hc1.cell0 (by simp); have r4w1 : w1.cell? ⟨w.heap.size + 1, 4, none⟩ = some (.int .i64 r.Pc) := hc1.cell0 (by simp); have hA : Chg [] w w1 := Chg.trans0 (show Chg [] w _ from Chg.c) hc1; have hzA := hc1.size; rw [World.size_alloc, World.size_alloc] at hzA; have hzA2 : w.heap.size + 1 < w1.heap.size := (by omega); clear hc1 hzA)
    go_ret
    exact ⟨by first | rfl | (rw [hno.out]; rfl) | (rw [hno.out]; simp; done), Chg.k⟩
  by_cases hout : numOk r.Out = true
  case neg =>
    rw [Bool.not_eq_true] at hout
    have hno := Lib.hid (show runOk p r = false by simp [runOk, hout])
    clear h1 hat hfrm
    go_enter Tryz.func64, Tryz.ntmps64
    go_wp2_with (first | (go_at_call 54; refine (hprg _ (Chg.c)).mono ?_; rintro e w1 ⟨rfl, hc1⟩; have p0w1 : w1.cell? ⟨w.heap.size, 0, none⟩ = some (.slice AP p.Procs.length cP) := hc1.cell0 (by simp); have r0w1 : w1.cell? ⟨w.heap.size + 1, 0, none⟩ = some (.int .i64 r.State) := hc1.cell0 (by simp); have r1w1 : w1.cell? ⟨w.heap.size + 1, 1, none⟩ = some (.slice A r.Frames.length ca) := hc1.cell0 (by simp); have r2w1 : w1.cell? ⟨w.heap.size + 1, 2, none⟩ = some (.int .i64 r.Out) := hc1.cell0 (by simp); have r3w1 : w1.cell? ⟨w.heap.size + 1, 3, none⟩ = some (.int .i64 r.Proc) := hc1.cell0 (by simp); have r4w1 : w1.cell? ⟨w.heap.size + 1, 4, none⟩ = some (.int .i64 r.Pc) := hc1.cell0 (by simp); have hA : Chg [] w w1 := Chg.trans0 (show Chg [] w _ from Chg.c) hc1; have hzA := hc1.size; rw [World.size_alloc, World.size_alloc] at hzA; have hzA2 : w.heap.size + 1 < w1.heap.size := (by omega); clear hc1 hzA) | (go_at_call 63; refine (implNumOk_c _ _).mono ?_; rintro e w8 ⟨rfl, rfl⟩; rw [hout]))
    go_ret
    exact ⟨by first | rfl | (rw [hno.out]; rfl) | (rw [hno.out]; simp; done), Chg.k⟩
  have hd : (decide (1 ≤ r.State) && decide (r.State ≤ 4)) = true := by simp; omega
  by_cases hso : r.State = 2 ∨ r.Out = 0
  case neg =>
    have n1 : (r.State != 2) = true := by simp; omega
    have n2 : (r.Out != 0) = true := by simp; omega
    have n3 : (r.State == 2) = false := by simp; omega
    have n4 : (r.Out == 0) = false := by simp; omega
    have hno := Lib.hid (show runOk p r = false by unfold runOk; rw [n3, n4]; simp)
    clear h1 hat hfrm hso hd
    go_enter Tryz.func64, Tryz.ntmps64
    go_wp2_with (first | (go_at_call 54; refine (hprg _ (Chg.c)).mono ?_; rintro e w1 ⟨rfl, hc1⟩; have p0w1 : w1.cell? ⟨w.heap.size, 0, none⟩ = some (.slice AP p.Procs.length cP) := hc1.cell0 (by simp); have r0w1 : w1.cell? ⟨w.heap.size + 1, 0, none⟩ = some (.int .i64 r.State) := hc1.cell0 (by simp); have r1w1 : w1.cell? ⟨w.heap.size + 1, 1, none⟩ = some (.slice A r.Frames.length ca) := hc1.cell0 (by simp); have r2w1 : w1.cell? ⟨w.heap.size + 1, 2, none⟩ = some (.int .i64 r.Out) := hc1.cell0 (by simp); have r3w1 : w1.cell? ⟨w.heap.size + 1, 3, none⟩ = some (.int .i64 r.Proc) := hc1.cell0 (by simp); have r4w1 : w1.cell? ⟨w.heap.size + 1, 4, none⟩ = some (.int .i64 r.Pc) := hc1.cell0 (by simp); have hA : Chg [] w w1 := Chg.trans0 (show Chg [] w _ from Chg.c) hc1; have hzA := hc1.size; rw [World.size_alloc, World.size_alloc] at hzA; have hzA2 : w.heap.size + 1 < w1.heap.size := (by omega); clear hc1 hzA) | (go_at_call 63; refine (implNumOk_c _ _).mono ?_; rintro e w8 ⟨rfl, rfl⟩; rw [hout]))
    go_ret
    exact ⟨by first | rfl | (rw [hno.out]; rfl) | (rw [hno.out]; simp; done), Chg.k⟩
  have hzz : (r.State == 2 || r.Out == 0) = true := by simpa using hso
  by_cases hs3 : r.State = 3
  · have m1 : (r.State != 2) = true := by rw [hs3]; rfl
    have m2 : (r.Out != 0) = false := by simp; omega
    have m3 : (r.State == 3) = true := by rw [hs3]; rfl
    have m4 : (r.State == 1) = false := by rw [hs3]; rfl
    have hrun : ∀ x, prgAt p r.Proc r.Pc = x → runOk p r = (x.elim false (fun i => insRisks i.Op) && r.Frames.isEmpty) := by
      intro x hx
      unfold runOk
      rw [h1, hout, hzz, hx, if_pos hs3, if_neg (show ¬ r.State = 1 by omega)]
      simp only [Bool.true_and, Bool.and_true, hd]
    clear hso hs3 hfrm
    rcases hx : prgAt p r.Proc r.Pc with _ | i
    · rw [hx] at hat
      simp only [atV, Option.getD_none, Option.isSome_none] at hat
      have hno := Lib.hid (show runOk p r = false by rw [hrun none hx]; rfl)
      clear hx hrun h1 hzz hd
      go_enter Tryz.func64, Tryz.ntmps64
      go_wp2_with (first | (go_at_call 54; refine (hprg _ (Chg.c)).mono ?_; rintro e w1 ⟨rfl, hc1⟩; have p0w1 : w1.cell? ⟨w.heap.size, 0, none⟩ = some (.slice AP p.Procs.length cP) := hc1.cell0 (by simp); have r0w1 : w1.cell? ⟨w.heap.size + 1, 0, none⟩ = some (.int .i64 r.State) := hc1.cell0 (by simp); have r1w1 : w1.cell? ⟨w.heap.size + 1, 1, none⟩ = some (.slice A r.Frames.length ca) := hc1.cell0 (by simp); have r2w1 : w1.cell? ⟨w.heap.size + 1, 2, none⟩ = some (.int .i64 r.Out) := hc1.cell0 (by simp); have r3w1 : w1.cell? ⟨w.heap.size + 1, 3, none⟩ = some (.int .i64 r.Proc) := hc1.cell0 (by simp); have r4w1 : w1.cell? ⟨w.heap.size + 1, 4, none⟩ = some (.int .i64 r.Pc) := hc1.cell0 (by simp); have hA : Chg [] w w1 := Chg.trans0 (show Chg [] w _ from Chg.c) hc1; have hzA := hc1.size; rw [World.size_alloc, World.size_alloc] at hzA; have hzA2 : w.heap.size + 1 < w1.heap.size := (by omega); clear hc1 hzA) | (go_at_call 63; refine (implNumOk_c _ _).mono ?_; rintro e w8 ⟨rfl, rfl⟩; rw [hout]) | (go_at_call 75; refine (hat _ (Chg.k)).mono ?_; rintro e w2 ⟨rfl, hc2⟩; have p0w2 : w2.cell? ⟨w.heap.size, 0, none⟩ = some (.slice AP p.Procs.length cP) := hc2.cell0 p0w1; have r0w2 : w2.cell? ⟨w.heap.size + 1, 0, none⟩ = some (.int .i64 r.State) := hc2.cell0 r0w1; have r1w2 : w2.cell? ⟨w.heap.size + 1, 1, none⟩ = some (.slice A r.Frames.length ca) := hc2.cell0 r1w1; have r2w2 : w2.cell? ⟨w.heap.size + 1, 2, none⟩ = some (.int .i64 r.Out) := hc2.cell0 r2w1; have r3w2 : w2.cell? ⟨w.heap.size + 1, 3, none⟩ = some (.int .i64 r.Proc) := hc2.cell0 r3w1; have r4w2 : w2.cell? ⟨w.heap.size + 1, 4, none⟩ = some (.int .i64 r.Pc) := hc2.cell0 r4w1; have hB : Chg [] w w2 := Chg.trans0 (show Chg [] w _ from Chg.k) hc2; have hzB := hc2.size; have hzB2 : w.heap.size + 1 < w2.heap.size := (by omega); clear hc2))
      go_ret
      exact ⟨by first | rfl | (rw [hno.out]; rfl) | (rw [hno.out]; simp; done), Chg.k⟩
    rw [hx] at hat
    simp only [atV, Option.getD_some, Option.isSome_some] at hat
    by_cases hrisk : insRisks i.Op = true
    case neg =>
      rw [Bool.not_eq_true] at hrisk
      have hno := Lib.hid (show runOk p r = false by rw [hrun _ hx]; simp [hrisk])
      clear hx hrun h1 hzz hd
      go_enter Tryz.func64, Tryz.ntmps64
      go_wp2_with (first | (go_at_call 54; refine (hprg _ (Chg.c)).mono ?_; rintro e w1 ⟨rfl, hc1⟩; have p0w1 : w1.cell? ⟨w.heap.size, 0, none⟩ = some (.slice AP p.Procs.length cP) := hc1.cell0 (by simp); have r0w1 : w1.cell? ⟨w.heap.size + 1, 0, none⟩ = some (.int .i64 r.State) := hc1.cell0 (by simp); have r1w1 : w1.cell? ⟨w.heap.size + 1, 1, none⟩ = some (.slice A r.Frames.length ca) := hc1.cell0 (by simp); have r2w1 : w1.cell? ⟨w.heap.size + 1, 2, none⟩ = some (.int .i64 r.Out) := hc1.cell0 (by simp); have r3w1 : w1.cell? ⟨w.heap.size + 1, 3, none⟩ = some (.int .i64 r.Proc) := hc1.cell0 (by simp); have r4w1 : w1.cell? ⟨w.heap.size + 1, 4, none⟩ = some (.int .i64 r.Pc) := hc1.cell0 (by simp); have hA : Chg [] w w1 := Chg.trans0 (show Chg [] w _ from Chg.c) hc1; have hzA := hc1.size; rw [World.size_alloc, World.size_alloc] at hzA; have hzA2 : w.heap.size + 1 < w1.heap.size := (by omega); clear hc1 hzA) | (go_at_call 63; refine (implNumOk_c _ _).mono ?_; rintro e w8 ⟨rfl, rfl⟩; rw [hout]) | (go_at_call 75; refine (hat _ (Chg.k)).mono ?_; rintro e w2 ⟨rfl, hc2⟩; have p0w2 : w2.cell? ⟨w.heap.size, 0, none⟩ = some (.slice AP p.Procs.length cP) := hc2.cell0 p0w1; have r0w2 : w2.cell? ⟨w.heap.size + 1, 0, none⟩ = some (.int .i64 r.State) := hc2.cell0 r0w1; have r1w2 : w2.cell? ⟨w.heap.size + 1, 1, none⟩ = some (.slice A r.Frames.length ca) := hc2.cell0 r1w1; have r2w2 : w2.cell? ⟨w.heap.size + 1, 2, none⟩ = some (.int .i64 r.Out) := hc2.cell0 r2w1; have r3w2 : w2.cell? ⟨w.heap.size + 1, 3, none⟩ = some (.int .i64 r.Proc) := hc2.cell0 r3w1; have r4w2 : w2.cell? ⟨w.heap.size + 1, 4, none⟩ = some (.int .i64 r.Pc) := hc2.cell0 r4w1; have hB : Chg [] w w2 := Chg.trans0 (show Chg [] w _ from Chg.k) hc2; have hzB := hc2.size; have hzB2 : w.heap.size + 1 < w2.heap.size := (by omega); clear hc2) | (go_at_call 12; refine (implInsRisks_c _ _).mono ?_; rintro e w9 ⟨rfl, rfl⟩; rw [hrisk]))
      go_ret
      exact ⟨by first | rfl | (rw [hno.out]; rfl) | (rw [hno.out]; simp; done), Chg.k⟩
    have hno := Lib.hid (show runOk p r = ((r.Frames.length : Int) == 0) by rw [hrun _ hx, isEmpty_len]; simp [hrisk])
    clear hx hrun h1 hzz hd
    go_enter Tryz.func64, Tryz.ntmps64
    go_wp2_with (first | (go_at_call 54; refine (hprg _ (Chg.c)).mono ?_; rintro e w1 ⟨rfl, hc1⟩; have p0w1 : w1.cell? ⟨w.heap.size, 0, none⟩ = some (.slice AP p.Procs.length cP) := hc1.cell0 (by simp); have r0w1 : w1.cell? ⟨w.heap.size + 1, 0, none⟩ = some (.int .i64 r.State) := hc1.cell0 (by simp); have r1w1 : w1.cell? ⟨w.heap.size + 1, 1, none⟩ = some (.slice A r.Frames.length ca) := hc1.cell0 (by simp); have r2w1 : w1.cell? ⟨w.heap.size + 1, 2, none⟩ = some (.int .i64 r.Out) := hc1.cell0 (by simp); have r3w1 : w1.cell? ⟨w.heap.size + 1, 3, none⟩ = some (.int .i64 r.Proc) := hc1.cell0 (by simp); have r4w1 : w1.cell? ⟨w.heap.size + 1, 4, none⟩ = some (.int .i64 r.Pc) := hc1.cell0 (by simp); have hA : Chg [] w w1 := Chg.trans0 (show Chg [] w _ from Chg.c) hc1; have hzA := hc1.size; rw [World.size_alloc, World.size_alloc] at hzA; have hzA2 : w.heap.size + 1 < w1.heap.size := (by omega); clear hc1 hzA) | (go_at_call 63; refine (implNumOk_c _ _).mono ?_; rintro e w8 ⟨rfl, rfl⟩; rw [hout]) | (go_at_call 75; refine (hat _ (Chg.k)).mono ?_; rintro e w2 ⟨rfl, hc2⟩; have p0w2 : w2.cell? ⟨w.heap.size, 0, none⟩ = some (.slice AP p.Procs.length cP) := hc2.cell0 p0w1; have r0w2 : w2.cell? ⟨w.heap.size + 1, 0, none⟩ = some (.int .i64 r.State) := hc2.cell0 r0w1; have r1w2 : w2.cell? ⟨w.heap.size + 1, 1, none⟩ = some (.slice A r.Frames.length ca) := hc2.cell0 r1w1; have r2w2 : w2.cell? ⟨w.heap.size + 1, 2, none⟩ = some (.int .i64 r.Out) := hc2.cell0 r2w1; have r3w2 : w2.cell? ⟨w.heap.size + 1, 3, none⟩ = some (.int .i64 r.Proc) := hc2.cell0 r3w1; have r4w2 : w2.cell? ⟨w.heap.size + 1, 4, none⟩ = some (.int .i64 r.Pc) := hc2.cell0 r4w1; have hB : Chg [] w w2 := Chg.trans0 (show Chg [] w _ from Chg.k) hc2; have hzB := hc2.size; have hzB2 : w.heap.size + 1 < w2.heap.size := (by omega); clear hc2) | (go_at_call 12; refine (implInsRisks_c _ _).mono ?_; rintro e w9 ⟨rfl, rfl⟩; rw [hrisk]))
    go_ret
    exact ⟨by first | rfl | (rw [hno.out]; rfl) | (rw [hno.out]; simp; done), Chg.k⟩
  have m3 : (r.State == 3) = false := by simpa using hs3
  by_cases hp : r.Proc = 0
  case neg =>
    have q1 : (r.Proc != 0) = true := by simpa [bne] using hp
    have hno := Lib.hid (show runOk p r = false by unfold runOk; rw [if_neg hs3]; simp [hp])
    by_cases hS2 : r.State = 2
    · have m1 : (r.State != 2) = false := by rw [hS2]; rfl
      clear hso hS2 h1 hzz hd hp hs3 hat hfrm
      go_enter Tryz.func64, Tryz.ntmps64
      go_wp2_with (first | (go_at_call 54; refine (hprg _ (Chg.c)).mono ?_; rintro e w1 ⟨rfl, hc1⟩; have p0w1 : w1.cell? ⟨w.heap.size, 0, none⟩ = some (.slice AP p.Procs.length cP) := hc1.cell0 (by simp); have r0w1 : w1.cell? ⟨w.heap.size + 1, 0, none⟩ = some (.int .i64 r.State) := hc1.cell0 (by simp); have r1w1 : w1.cell? ⟨w.heap.size + 1, 1, none⟩ = some (.slice A r.Frames.length ca) := hc1.cell0 (by simp); have r2w1 : w1.cell? ⟨w.heap.size + 1, 2, none⟩ = some (.int .i64 r.Out) := hc1.cell0 (by simp); have r3w1 : w1.cell? ⟨w.heap.size + 1, 3, none⟩ = some (.int .i64 r.Proc) := hc1.cell0 (by simp); have r4w1 : w1.cell? ⟨w.heap.size + 1, 4, none⟩ = some (.int .i64 r.Pc) := hc1.cell0 (by simp); have hA : Chg [] w w1 := Chg.trans0 (show Chg [] w _ from Chg.c) hc1; have hzA := hc1.size; rw [World.size_alloc, World.size_alloc] at hzA; have hzA2 : w.heap.size + 1 < w1.heap.size := (by omega); clear hc1 hzA) | (go_at_call 63; refine (implNumOk_c _ _).mono ?_; rintro e w8 ⟨rfl, rfl⟩; rw [hout]))
      go_ret
      exact ⟨by first | rfl | (rw [hno.out]; rfl) | (rw [hno.out]; simp; done), Chg.k⟩
    · have m1 : (r.State != 2) = true := by simpa [bne] using hS2
      have m2 : (r.Out != 0) = false := by simp; omega
      clear hso hS2 h1 hzz hd hp hs3 hat hfrm
      go_enter Tryz.func64, Tryz.ntmps64
      go_wp2_with (first | (go_at_call 54; refine (hprg _ (Chg.c)).mono ?_; rintro e w1 ⟨rfl, hc1⟩; have p0w1 : w1.cell? ⟨w.heap.size, 0, none⟩ = some (.slice AP p.Procs.length cP) := hc1.cell0 (by simp); have r0w1 : w1.cell? ⟨w.heap.size + 1, 0, none⟩ = some (.int .i64 r.State) := hc1.cell0 (by simp); have r1w1 : w1.cell? ⟨w.heap.size + 1, 1, none⟩ = some (.slice A r.Frames.length ca) := hc1.cell0 (by simp); have r2w1 : w1.cell? ⟨w.heap.size + 1, 2, none⟩ = some (.int .i64 r.Out) := hc1.cell0 (by simp); have r3w1 : w1.cell? ⟨w.heap.size + 1, 3, none⟩ = some (.int .i64 r.Proc) := hc1.cell0 (by simp); have r4w1 : w1.cell? ⟨w.heap.size + 1, 4, none⟩ = some (.int .i64 r.Pc) := hc1.cell0 (by simp); have hA : Chg [] w w1 := Chg.trans0 (show Chg [] w _ from Chg.c) hc1; have hzA := hc1.size; rw [World.size_alloc, World.size_alloc] at hzA; have hzA2 : w.heap.size + 1 < w1.heap.size := (by omega); clear hc1 hzA) | (go_at_call 63; refine (implNumOk_c _ _).mono ?_; rintro e w8 ⟨rfl, rfl⟩; rw [hout]))
      go_ret
      exact ⟨by first | rfl | (rw [hno.out]; rfl) | (rw [hno.out]; simp; done), Chg.k⟩
  by_cases hq : r.Pc = 0
  case neg =>
    have q0 : (r.Proc != 0) = false := by rw [hp]; rfl
    have q1 : (r.Pc != 0) = true := by simpa [bne] using hq
    have hno := Lib.hid (show runOk p r = false by unfold runOk; rw [if_neg hs3]; simp [hq])
    by_cases hS2 : r.State = 2
    · have m1 : (r.State != 2) = false := by rw [hS2]; rfl
      clear hso hS2 h1 hzz hd hp hq hs3 hat hfrm
      go_enter Tryz.func64, Tryz.ntmps64
      go_wp2_with (first | (go_at_call 54; refine (hprg _ (Chg.c)).mono ?_; rintro e w1 ⟨rfl, hc1⟩; have p0w1 : w1.cell? ⟨w.heap.size, 0, none⟩ = some (.slice AP p.Procs.length cP) := hc1.cell0 (by simp); have r0w1 : w1.cell? ⟨w.heap.size + 1, 0, none⟩ = some (.int .i64 r.State) := hc1.cell0 (by simp); have r1w1 : w1.cell? ⟨w.heap.size + 1, 1, none⟩ = some (.slice A r.Frames.length ca) := hc1.cell0 (by simp); have r2w1 : w1.cell? ⟨w.heap.size + 1, 2, none⟩ = some (.int .i64 r.Out) := hc1.cell0 (by simp); have r3w1 : w1.cell? ⟨w.heap.size + 1, 3, none⟩ = some (.int .i64 r.Proc) := hc1.cell0 (by simp); have r4w1 : w1.cell? ⟨w.heap.size + 1, 4, none⟩ = some (.int .i64 r.Pc) := hc1.cell0 (by simp); have hA : Chg [] w w1 := Chg.trans0 (show Chg [] w _ from Chg.c) hc1; have hzA := hc1.size; rw [World.size_alloc, World.size_alloc] at hzA; have hzA2 : w.heap.size + 1 < w1.heap.size := (by omega); clear hc1 hzA) | (go_at_call 63; refine (implNumOk_c _ _).mono ?_; rintro e w8 ⟨rfl, rfl⟩; rw [hout]))
      go_ret
      exact ⟨by first | rfl | (rw [hno.out]; rfl) | (rw [hno.out]; simp; done), Chg.k⟩
    · have m1 : (r.State != 2) = true := by simpa [bne] using hS2
      have m2 : (r.Out != 0) = false := by simp; omega
      clear hso hS2 h1 hzz hd hp hq hs3 hat hfrm
      go_enter Tryz.func64, Tryz.ntmps64
      go_wp2_with (first | (go_at_call 54; refine (hprg _ (Chg.c)).mono ?_; rintro e w1 ⟨rfl, hc1⟩; have p0w1 : w1.cell? ⟨w.heap.size, 0, none⟩ = some (.slice AP p.Procs.length cP) := hc1.cell0 (by simp); have r0w1 : w1.cell? ⟨w.heap.size + 1, 0, none⟩ = some (.int .i64 r.State) := hc1.cell0 (by simp); have r1w1 : w1.cell? ⟨w.heap.size + 1, 1, none⟩ = some (.slice A r.Frames.length ca) := hc1.cell0 (by simp); have r2w1 : w1.cell? ⟨w.heap.size + 1, 2, none⟩ = some (.int .i64 r.Out) := hc1.cell0 (by simp); have r3w1 : w1.cell? ⟨w.heap.size + 1, 3, none⟩ = some (.int .i64 r.Proc) := hc1.cell0 (by simp); have r4w1 : w1.cell? ⟨w.heap.size + 1, 4, none⟩ = some (.int .i64 r.Pc) := hc1.cell0 (by simp); have hA : Chg [] w w1 := Chg.trans0 (show Chg [] w _ from Chg.c) hc1; have hzA := hc1.size; rw [World.size_alloc, World.size_alloc] at hzA; have hzA2 : w.heap.size + 1 < w1.heap.size := (by omega); clear hc1 hzA) | (go_at_call 63; refine (implNumOk_c _ _).mono ?_; rintro e w8 ⟨rfl, rfl⟩; rw [hout]))
      go_ret
      exact ⟨by first | rfl | (rw [hno.out]; rfl) | (rw [hno.out]; simp; done), Chg.k⟩
  have q0 : (r.Proc != 0) = false := by rw [hp]; rfl
  have q1 : (r.Pc != 0) = false := by rw [hq]; rfl
  by_cases hs : r.State = 1
  · have m1 : (r.State != 2) = true := by rw [hs]; rfl
    have m2 : (r.Out != 0) = false := by simp; omega
    have m4 : (r.State == 1) = true := by rw [hs]; rfl
    have hno := Lib.hid (runOk_goes h1 hs hout (by omega) hp hq)
    clear hso h1 hzz hd hp hq hs3 hat hs
    go_enter Tryz.func64, Tryz.ntmps64
    go_wp2_with (first | (go_at_call 54; refine (hprg _ (Chg.c)).mono ?_; rintro e w1 ⟨rfl, hc1⟩; have p0w1 : w1.cell? ⟨w.heap.size, 0, none⟩ = some (.slice AP p.Procs.length cP) := hc1.cell0 (by simp); have r0w1 : w1.cell? ⟨w.heap.size + 1, 0, none⟩ = some (.int .i64 r.State) := hc1.cell0 (by simp); have r1w1 : w1.cell? ⟨w.heap.size + 1, 1, none⟩ = some (.slice A r.Frames.length ca) := hc1.cell0 (by simp); have r2w1 : w1.cell? ⟨w.heap.size + 1, 2, none⟩ = some (.int .i64 r.Out) := hc1.cell0 (by simp); have r3w1 : w1.cell? ⟨w.heap.size + 1, 3, none⟩ = some (.int .i64 r.Proc) := hc1.cell0 (by simp); have r4w1 : w1.cell? ⟨w.heap.size + 1, 4, none⟩ = some (.int .i64 r.Pc) := hc1.cell0 (by simp); have hA : Chg [] w w1 := Chg.trans0 (show Chg [] w _ from Chg.c) hc1; have hzA := hc1.size; rw [World.size_alloc, World.size_alloc] at hzA; have hzA2 : w.heap.size + 1 < w1.heap.size := (by omega); clear hc1 hzA) | (go_at_call 63; refine (implNumOk_c _ _).mono ?_; rintro e w8 ⟨rfl, rfl⟩; rw [hout]) | (go_at_call 127; refine (hfrm _ (Chg.k)).mono ?_; rintro e w3 ⟨rfl, hc3⟩; have hC : Chg [] w w3 := Chg.trans0 (show Chg [] w _ from Chg.k) hc3; clear hc3))
    go_ret
    exact ⟨by first | rfl | (rw [hno.out]; rfl) | (rw [hno.out]; simp; done), Chg.k⟩
  have m4 : (r.State == 1) = false := by simpa using hs
  have hno := Lib.hid (show runOk p r = ((r.Frames.length : Int) == 0) by
    unfold runOk
    rw [h1, hout, hzz, if_neg hs3, if_neg hs, hp, hq, isEmpty_len]
    simp only [Bool.true_and, Bool.and_true, hd, beq_self_eq_true])
  by_cases hS2 : r.State = 2
  · have m1 : (r.State != 2) = false := by rw [hS2]; rfl
    clear hso hS2 h1 hzz hd hp hq hs3 hat hfrm hs
    go_enter Tryz.func64, Tryz.ntmps64
    go_wp2_with (first | (go_at_call 54; refine (hprg _ (Chg.c)).mono ?_; rintro e w1 ⟨rfl, hc1⟩; have p0w1 : w1.cell? ⟨w.heap.size, 0, none⟩ = some (.slice AP p.Procs.length cP) := hc1.cell0 (by simp); have r0w1 : w1.cell? ⟨w.heap.size + 1, 0, none⟩ = some (.int .i64 r.State) := hc1.cell0 (by simp); have r1w1 : w1.cell? ⟨w.heap.size + 1, 1, none⟩ = some (.slice A r.Frames.length ca) := hc1.cell0 (by simp); have r2w1 : w1.cell? ⟨w.heap.size + 1, 2, none⟩ = some (.int .i64 r.Out) := hc1.cell0 (by simp); have r3w1 : w1.cell? ⟨w.heap.size + 1, 3, none⟩ = some (.int .i64 r.Proc) := hc1.cell0 (by simp); have r4w1 : w1.cell? ⟨w.heap.size + 1, 4, none⟩ = some (.int .i64 r.Pc) := hc1.cell0 (by simp); have hA : Chg [] w w1 := Chg.trans0 (show Chg [] w _ from Chg.c) hc1; have hzA := hc1.size; rw [World.size_alloc, World.size_alloc] at hzA; have hzA2 : w.heap.size + 1 < w1.heap.size := (by omega); clear hc1 hzA) | (go_at_call 63; refine (implNumOk_c _ _).mono ?_; rintro e w8 ⟨rfl, rfl⟩; rw [hout]))
    go_ret
    exact ⟨by first | rfl | (rw [hno.out]; rfl) | (rw [hno.out]; simp; done), Chg.k⟩
  · have m1 : (r.State != 2) = true := by simpa [bne] using hS2
    have m2 : (r.Out != 0) = false := by simp; omega
    clear hso hS2 h1 hzz hd hp hq hs3 hat hfrm hs
    go_enter Tryz.func64, Tryz.ntmps64
    go_wp2_with (first | (go_at_call 54; refine (hprg _ (Chg.c)).mono ?_; rintro e w1 ⟨rfl, hc1⟩; have p0w1 : w1.cell? ⟨w.heap.size, 0, none⟩ = some (.slice AP p.Procs.length cP) := hc1.cell0 (by simp); have r0w1 : w1.cell? ⟨w.heap.size + 1, 0, none⟩ = some (.int .i64 r.State) := hc1.cell0 (by simp); have r1w1 : w1.cell? ⟨w.heap.size + 1, 1, none⟩ = some (.slice A r.Frames.length ca) := hc1.cell0 (by simp); have r2w1 : w1.cell? ⟨w.heap.size + 1, 2, none⟩ = some (.int .i64 r.Out) := hc1.cell0 (by simp); have r3w1 : w1.cell? ⟨w.heap.size + 1, 3, none⟩ = some (.int .i64 r.Proc) := hc1.cell0 (by simp); have r4w1 : w1.cell? ⟨w.heap.size + 1, 4, none⟩ = some (.int .i64 r.Pc) := hc1.cell0 (by simp); have hA : Chg [] w w1 := Chg.trans0 (show Chg [] w _ from Chg.c) hc1; have hzA := hc1.size; rw [World.size_alloc, World.size_alloc] at hzA; have hzA2 : w.heap.size + 1 < w1.heap.size := (by omega); clear hc1 hzA) | (go_at_call 63; refine (implNumOk_c _ _).mono ?_; rintro e w8 ⟨rfl, rfl⟩; rw [hout]))
    go_ret
    exact ⟨by first | rfl | (rw [hno.out]; rfl) | (rw [hno.out]; simp; done), Chg.k⟩
end Go.Proofs.YtjakhnhnjhafgaaGreat.Wk
