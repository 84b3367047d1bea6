/- A part of the proof. -/
import Derived.Test.YtjakhnhnjhafgaaGreatK08
import Derived.Deep.RegionHeld3
import Derived.Test.YtjakhnhnjhafgaaGreatK03
import Derived.Test.YtjakhnhnjhafgaaGreatK02
import Derived.Test.YtjakhnhnjhafgaaGreatK01
import Derived.Test.YtjakhnhnjhafgaaGreatK06
set_option linter.unusedVariables false
set_option linter.unusedSimpArgs false
namespace Go.Proofs.YtjakhnhnjhafgaaGreat.Wk
open Go Go.RowKit Go.Deep Ow
open Rp (R sz)
theorem runOk_goes {p : PrgProg} {r : RunRun} (h1 : prgOk p = true) (hs : r.State = 1) (ho : numOk r.Out = true) (hz : r.Out = 0) (hp : r.Proc = 0) (hq : r.Pc = 0) : runOk p r = framesB p r.Frames := by
 unfold runOk framesB
 rw [h1, hs, ho, hz, hp, hq, ← nestOk_eq]
 simp
theorem isEmpty_len {α : Type} (l : List α) : l.isEmpty = ((l.length : Int) == 0) := by
 cases l <;> simp; omega
set_option maxRecDepth 100000 in
set_option maxHeartbeats 4000000 in
theorem implRunOk_c (p : PrgProg) (r : RunRun) (vP vF : Value) (FP FF : List Nat) (w : World) (hP : RL w p.Procs vP FP) (h : RL w r.Frames vF FF) :
 Calls Tryz.prog 64 #[.agg #[vP], .agg #[.int .i64 r.State, vF, .int .i64 r.Out, .int .i64 r.Proc, .int .i64 r.Pc]] w fun e w' => e = .returned (.bool (runOk p r)) ∧ Chg [] w w' := by
 obtain ⟨AP, cP, rfl, -, -⟩ := hP.form
 obtain ⟨A, ca, rfl, hl, hm⟩ := h.form
 have hn : r.Frames.length ≤ maxLen := by omega
 unfold maxLen at hn
 have hprg := fun (wx : World) (hx : Chg [] w wx) => implPrgOk_c p _ _ wx (hP.chg0 hx)
 have hat := fun (wx : World) (hx : Chg [] w wx) => implPrgAt_c p r.Proc r.Pc _ _ wx (hP.chg0 hx)
 have hfrm := fun (wx : World) (hx : Chg [] w wx) => implFrames_c p r.Frames _ _ _ _ wx (hP.chg0 hx) (h.chg0 hx)
 clear hP h
 by_cases h1 : prgOk p = true
 case neg =>
  rw [Bool.not_eq_true] at h1
  rw [h1] at hprg
  have hno := Lib.hid (show runOk p r = false by simp [runOk, h1])
  clear h1 hat hfrm
  go_enter Tryz.func64, Tryz.ntmps64
  go_wp2_with (go_at_call 54; refine (hprg _ (Chg.c)).mono ?_; rintro e w1 ⟨rfl, hc1⟩; have p0w1 : w1.cell? ⟨w.heap.size, 0, none⟩ = some (.slice AP p.Procs.length cP) := hc1.cell0 (by simp); have r0w1 : w1.cell? ⟨w.heap.size + 1, 0, none⟩ = some (.int .i64 r.State) := hc1.cell0 (by simp); have r1w1 : w1.cell? ⟨w.heap.size + 1, 1, none⟩ = some (.slice A r.Frames.length ca) := hc1.cell0 (by simp); have r2w1 : w1.cell? ⟨w.heap.size + 1, 2, none⟩ = some (.int .i64 r.Out) := hc1.cell0 (by simp); have r3w1 : w1.cell? ⟨w.heap.size + 1, 3, none⟩ = some (.int .i64 r.Proc) := hc1.cell0 (by simp); have r4w1 : w1.cell? ⟨w.heap.size + 1, 4, none⟩ = some (.int .i64 r.Pc) := hc1.cell0 (by simp); have hA : Chg [] w w1 := Chg.trans0 (show Chg [] w _ from Chg.c) hc1; have hzA := hc1.size; rw [World.size_alloc, World.size_alloc] at hzA; have hzA2 : w.heap.size + 1 < w1.heap.size := (by omega); clear hc1 hzA)
  go_ret
  exact ⟨by first | rfl | (rw [hno.out]; rfl) | (rw [hno.out]; simp; done), Chg.k⟩
 rw [h1] at hprg
 by_cases hs1 : r.State < 1
 case pos =>
  have hno := Lib.hid (show runOk p r = false by unfold runOk; rw [decide_eq_false (show ¬ 1 ≤ r.State by omega)]; simp)
  clear h1 hat hfrm
  go_enter Tryz.func64, Tryz.ntmps64
  go_wp2_with (go_at_call 54; refine (hprg _ (Chg.c)).mono ?_; rintro e w1 ⟨rfl, hc1⟩; have p0w1 : w1.cell? ⟨w.heap.size, 0, none⟩ = some (.slice AP p.Procs.length cP) := hc1.cell0 (by simp); have r0w1 : w1.cell? ⟨w.heap.size + 1, 0, none⟩ = some (.int .i64 r.State) := hc1.cell0 (by simp); have r1w1 : w1.cell? ⟨w.heap.size + 1, 1, none⟩ = some (.slice A r.Frames.length ca) := hc1.cell0 (by simp); have r2w1 : w1.cell? ⟨w.heap.size + 1, 2, none⟩ = some (.int .i64 r.Out) := hc1.cell0 (by simp); have r3w1 : w1.cell? ⟨w.heap.size + 1, 3, none⟩ = some (.int .i64 r.Proc) := hc1.cell0 (by simp); have r4w1 : w1.cell? ⟨w.heap.size + 1, 4, none⟩ = some (.int .i64 r.Pc) := hc1.cell0 (by simp); have hA : Chg [] w w1 := Chg.trans0 (show Chg [] w _ from Chg.c) hc1; have hzA := hc1.size; rw [World.size_alloc, World.size_alloc] at hzA; have hzA2 : w.heap.size + 1 < w1.heap.size := (by omega); clear hc1 hzA)
  go_ret
  exact ⟨by first | rfl | (rw [hno.out]; rfl) | (rw [hno.out]; simp; done), Chg.k⟩
 by_cases hs2 : 4 < r.State
 case pos =>
  have hno := Lib.hid (show runOk p r = false by unfold runOk; rw [decide_eq_false (show ¬ r.State ≤ 4 by omega)]; simp)
  clear h1 hat hfrm
  go_enter Tryz.func64, Tryz.ntmps64
  go_wp2_with (go_at_call 54; refine (hprg _ (Chg.c)).mono ?_; rintro e w1 ⟨rfl, hc1⟩; have p0w1 : w1.cell? ⟨w.heap.size, 0, none⟩ = some (.slice AP p.Procs.length cP) := hc1.cell0 (by simp); have r0w1 : w1.cell? ⟨w.heap.size + 1, 0, none⟩ = some (.int .i64 r.State) := hc1.cell0 (by simp); have r1w1 : w1.cell? ⟨w.heap.size + 1, 1, none⟩ = some (.slice A r.Frames.length ca) := hc1.cell0 (by simp); have r2w1 : w1.cell? ⟨w.heap.size + 1, 2, none⟩ = some (.int .i64 r.Out) := hc1.cell0 (by simp); have r3w1 : w1.cell? ⟨w.heap.size + 1, 3, none⟩ = some (.int .i64 r.Proc) := hc1.cell0 (by simp); have r4w1 : w1.cell? ⟨w.heap.size + 1, 4, none⟩ = some (.int .i64 r.Pc) := hc1.cell0 (by simp); have hA : Chg [] w w1 := Chg.trans0 (show Chg [] w _ from Chg.c) hc1; have hzA := hc1.size; rw [World.size_alloc, World.size_alloc] at hzA; have hzA2 : w.heap.size + 1 < w1.heap.size := (by omega); clear hc1 hzA)
  go_ret
  exact ⟨by first | rfl | (rw [hno.out]; rfl) | (rw [hno.out]; simp; done), Chg.k⟩
 by_cases hout : numOk r.Out = true
 case neg =>
  rw [Bool.not_eq_true] at hout
  have hno := Lib.hid (show runOk p r = false by simp [runOk, hout])
  clear h1 hat hfrm
  go_enter Tryz.func64, Tryz.ntmps64
  go_wp2_with (first | (go_at_call 54; refine (hprg _ (Chg.c)).mono ?_; rintro e w1 ⟨rfl, hc1⟩; have p0w1 : w1.cell? ⟨w.heap.size, 0, none⟩ = some (.slice AP p.Procs.length cP) := hc1.cell0 (by simp); have r0w1 : w1.cell? ⟨w.heap.size + 1, 0, none⟩ = some (.int .i64 r.State) := hc1.cell0 (by simp); have r1w1 : w1.cell? ⟨w.heap.size + 1, 1, none⟩ = some (.slice A r.Frames.length ca) := hc1.cell0 (by simp); have r2w1 : w1.cell? ⟨w.heap.size + 1, 2, none⟩ = some (.int .i64 r.Out) := hc1.cell0 (by simp); have r3w1 : w1.cell? ⟨w.heap.size + 1, 3, none⟩ = some (.int .i64 r.Proc) := hc1.cell0 (by simp); have r4w1 : w1.cell? ⟨w.heap.size + 1, 4, none⟩ = some (.int .i64 r.Pc) := hc1.cell0 (by simp); have hA : Chg [] w w1 := Chg.trans0 (show Chg [] w _ from Chg.c) hc1; have hzA := hc1.size; rw [World.size_alloc, World.size_alloc] at hzA; have hzA2 : w.heap.size + 1 < w1.heap.size := (by omega); clear hc1 hzA) | (go_at_call 63; refine (implNumOk_c _ _).mono ?_; rintro e w8 ⟨rfl, rfl⟩; rw [hout]))
  go_ret
  exact ⟨by first | rfl | (rw [hno.out]; rfl) | (rw [hno.out]; simp; done), Chg.k⟩
 have hd : (decide (1 ≤ r.State) && decide (r.State ≤ 4)) = true := by simp; omega
 by_cases hso : r.State = 2 ∨ r.Out = 0
 case neg =>
  have n1 : (r.State != 2) = true := by simp; omega
  have n2 : (r.Out != 0) = true := by simp; omega
  have n3 : (r.State == 2) = false := by simp; omega
  have n4 : (r.Out == 0) = false := by simp; omega
  have hno := Lib.hid (show runOk p r = false by unfold runOk; rw [n3, n4]; simp)
  clear h1 hat hfrm hso hd
  go_enter Tryz.func64, Tryz.ntmps64
  go_wp2_with (first | (go_at_call 54; refine (hprg _ (Chg.c)).mono ?_; rintro e w1 ⟨rfl, hc1⟩; have p0w1 : w1.cell? ⟨w.heap.size, 0, none⟩ = some (.slice AP p.Procs.length cP) := hc1.cell0 (by simp); have r0w1 : w1.cell? ⟨w.heap.size + 1, 0, none⟩ = some (.int .i64 r.State) := hc1.cell0 (by simp); have r1w1 : w1.cell? ⟨w.heap.size + 1, 1, none⟩ = some (.slice A r.Frames.length ca) := hc1.cell0 (by simp); have r2w1 : w1.cell? ⟨w.heap.size + 1, 2, none⟩ = some (.int .i64 r.Out) := hc1.cell0 (by simp); have r3w1 : w1.cell? ⟨w.heap.size + 1, 3, none⟩ = some (.int .i64 r.Proc) := hc1.cell0 (by simp); have r4w1 : w1.cell? ⟨w.heap.size + 1, 4, none⟩ = some (.int .i64 r.Pc) := hc1.cell0 (by simp); have hA : Chg [] w w1 := Chg.trans0 (show Chg [] w _ from Chg.c) hc1; have hzA := hc1.size; rw [World.size_alloc, World.size_alloc] at hzA; have hzA2 : w.heap.size + 1 < w1.heap.size := (by omega); clear hc1 hzA) | (go_at_call 63; refine (implNumOk_c _ _).mono ?_; rintro e w8 ⟨rfl, rfl⟩; rw [hout]))
  go_ret
  exact ⟨by first | rfl | (rw [hno.out]; rfl) | (rw [hno.out]; simp; done), Chg.k⟩
 have hzz : (r.State == 2 || r.Out == 0) = true := by simpa using hso
 by_cases hs3 : r.State = 3
 · have m1 : (r.State != 2) = true := by rw [hs3]; rfl
   have m2 : (r.Out != 0) = false := by simp; omega
   have m3 : (r.State == 3) = true := by rw [hs3]; rfl
   have m4 : (r.State == 1) = false := by rw [hs3]; rfl
   have hrun : ∀ x, prgAt p r.Proc r.Pc = x → runOk p r = (x.elim false (fun i => insRisks i.Op) && r.Frames.isEmpty) := by
    intro x hx
    unfold runOk
    rw [h1, hout, hzz, hx, if_pos hs3, if_neg (show ¬ r.State = 1 by omega)]
    simp only [Bool.true_and, Bool.and_true, hd]
   clear hso hs3 hfrm
   rcases hx : prgAt p r.Proc r.Pc with _ | i
   · rw [hx] at hat
     simp only [atV, Option.getD_none, Option.isSome_none] at hat
     have hno := Lib.hid (show runOk p r = false by rw [hrun none hx]; rfl)
     clear hx hrun h1 hzz hd
     go_enter Tryz.func64, Tryz.ntmps64
     go_wp2_with (first | (go_at_call 54; refine (hprg _ (Chg.c)).mono ?_; rintro e w1 ⟨rfl, hc1⟩; have p0w1 : w1.cell? ⟨w.heap.size, 0, none⟩ = some (.slice AP p.Procs.length cP) := hc1.cell0 (by simp); have r0w1 : w1.cell? ⟨w.heap.size + 1, 0, none⟩ = some (.int .i64 r.State) := hc1.cell0 (by simp); have r1w1 : w1.cell? ⟨w.heap.size + 1, 1, none⟩ = some (.slice A r.Frames.length ca) := hc1.cell0 (by simp); have r2w1 : w1.cell? ⟨w.heap.size + 1, 2, none⟩ = some (.int .i64 r.Out) := hc1.cell0 (by simp); have r3w1 : w1.cell? ⟨w.heap.size + 1, 3, none⟩ = some (.int .i64 r.Proc) := hc1.cell0 (by simp); have r4w1 : w1.cell? ⟨w.heap.size + 1, 4, none⟩ = some (.int .i64 r.Pc) := hc1.cell0 (by simp); have hA : Chg [] w w1 := Chg.trans0 (show Chg [] w _ from Chg.c) hc1; have hzA := hc1.size; rw [World.size_alloc, World.size_alloc] at hzA; have hzA2 : w.heap.size + 1 < w1.heap.size := (by omega); clear hc1 hzA) | (go_at_call 63; refine (implNumOk_c _ _).mono ?_; rintro e w8 ⟨rfl, rfl⟩; rw [hout]) | (go_at_call 75; refine (hat _ (Chg.k)).mono ?_; rintro e w2 ⟨rfl, hc2⟩; have p0w2 : w2.cell? ⟨w.heap.size, 0, none⟩ = some (.slice AP p.Procs.length cP) := hc2.cell0 p0w1; have r0w2 : w2.cell? ⟨w.heap.size + 1, 0, none⟩ = some (.int .i64 r.State) := hc2.cell0 r0w1; have r1w2 : w2.cell? ⟨w.heap.size + 1, 1, none⟩ = some (.slice A r.Frames.length ca) := hc2.cell0 r1w1; have r2w2 : w2.cell? ⟨w.heap.size + 1, 2, none⟩ = some (.int .i64 r.Out) := hc2.cell0 r2w1; have r3w2 : w2.cell? ⟨w.heap.size + 1, 3, none⟩ = some (.int .i64 r.Proc) := hc2.cell0 r3w1; have r4w2 : w2.cell? ⟨w.heap.size + 1, 4, none⟩ = some (.int .i64 r.Pc) := hc2.cell0 r4w1; have hB : Chg [] w w2 := Chg.trans0 (show Chg [] w _ from Chg.k) hc2; have hzB := hc2.size; have hzB2 : w.heap.size + 1 < w2.heap.size := (by omega); clear hc2))
     go_ret
     exact ⟨by first | rfl | (rw [hno.out]; rfl) | (rw [hno.out]; simp; done), Chg.k⟩
   rw [hx] at hat
   simp only [atV, Option.getD_some, Option.isSome_some] at hat
   by_cases hrisk : insRisks i.Op = true
   case neg =>
    rw [Bool.not_eq_true] at hrisk
    have hno := Lib.hid (show runOk p r = false by rw [hrun _ hx]; simp [hrisk])
    clear hx hrun h1 hzz hd
    go_enter Tryz.func64, Tryz.ntmps64
    go_wp2_with (first | (go_at_call 54; refine (hprg _ (Chg.c)).mono ?_; rintro e w1 ⟨rfl, hc1⟩; have p0w1 : w1.cell? ⟨w.heap.size, 0, none⟩ = some (.slice AP p.Procs.length cP) := hc1.cell0 (by simp); have r0w1 : w1.cell? ⟨w.heap.size + 1, 0, none⟩ = some (.int .i64 r.State) := hc1.cell0 (by simp); have r1w1 : w1.cell? ⟨w.heap.size + 1, 1, none⟩ = some (.slice A r.Frames.length ca) := hc1.cell0 (by simp); have r2w1 : w1.cell? ⟨w.heap.size + 1, 2, none⟩ = some (.int .i64 r.Out) := hc1.cell0 (by simp); have r3w1 : w1.cell? ⟨w.heap.size + 1, 3, none⟩ = some (.int .i64 r.Proc) := hc1.cell0 (by simp); have r4w1 : w1.cell? ⟨w.heap.size + 1, 4, none⟩ = some (.int .i64 r.Pc) := hc1.cell0 (by simp); have hA : Chg [] w w1 := Chg.trans0 (show Chg [] w _ from Chg.c) hc1; have hzA := hc1.size; rw [World.size_alloc, World.size_alloc] at hzA; have hzA2 : w.heap.size + 1 < w1.heap.size := (by omega); clear hc1 hzA) | (go_at_call 63; refine (implNumOk_c _ _).mono ?_; rintro e w8 ⟨rfl, rfl⟩; rw [hout]) | (go_at_call 75; refine (hat _ (Chg.k)).mono ?_; rintro e w2 ⟨rfl, hc2⟩; have p0w2 : w2.cell? ⟨w.heap.size, 0, none⟩ = some (.slice AP p.Procs.length cP) := hc2.cell0 p0w1; have r0w2 : w2.cell? ⟨w.heap.size + 1, 0, none⟩ = some (.int .i64 r.State) := hc2.cell0 r0w1; have r1w2 : w2.cell? ⟨w.heap.size + 1, 1, none⟩ = some (.slice A r.Frames.length ca) := hc2.cell0 r1w1; have r2w2 : w2.cell? ⟨w.heap.size + 1, 2, none⟩ = some (.int .i64 r.Out) := hc2.cell0 r2w1; have r3w2 : w2.cell? ⟨w.heap.size + 1, 3, none⟩ = some (.int .i64 r.Proc) := hc2.cell0 r3w1; have r4w2 : w2.cell? ⟨w.heap.size + 1, 4, none⟩ = some (.int .i64 r.Pc) := hc2.cell0 r4w1; have hB : Chg [] w w2 := Chg.trans0 (show Chg [] w _ from Chg.k) hc2; have hzB := hc2.size; have hzB2 : w.heap.size + 1 < w2.heap.size := (by omega); clear hc2) | (go_at_call 12; refine (implInsRisks_c _ _).mono ?_; rintro e w9 ⟨rfl, rfl⟩; rw [hrisk]))
    go_ret
    exact ⟨by first | rfl | (rw [hno.out]; rfl) | (rw [hno.out]; simp; done), Chg.k⟩
   have hno := Lib.hid (show runOk p r = ((r.Frames.length : Int) == 0) by rw [hrun _ hx, isEmpty_len]; simp [hrisk])
   clear hx hrun h1 hzz hd
   go_enter Tryz.func64, Tryz.ntmps64
   go_wp2_with (first | (go_at_call 54; refine (hprg _ (Chg.c)).mono ?_; rintro e w1 ⟨rfl, hc1⟩; have p0w1 : w1.cell? ⟨w.heap.size, 0, none⟩ = some (.slice AP p.Procs.length cP) := hc1.cell0 (by simp); have r0w1 : w1.cell? ⟨w.heap.size + 1, 0, none⟩ = some (.int .i64 r.State) := hc1.cell0 (by simp); have r1w1 : w1.cell? ⟨w.heap.size + 1, 1, none⟩ = some (.slice A r.Frames.length ca) := hc1.cell0 (by simp); have r2w1 : w1.cell? ⟨w.heap.size + 1, 2, none⟩ = some (.int .i64 r.Out) := hc1.cell0 (by simp); have r3w1 : w1.cell? ⟨w.heap.size + 1, 3, none⟩ = some (.int .i64 r.Proc) := hc1.cell0 (by simp); have r4w1 : w1.cell? ⟨w.heap.size + 1, 4, none⟩ = some (.int .i64 r.Pc) := hc1.cell0 (by simp); have hA : Chg [] w w1 := Chg.trans0 (show Chg [] w _ from Chg.c) hc1; have hzA := hc1.size; rw [World.size_alloc, World.size_alloc] at hzA; have hzA2 : w.heap.size + 1 < w1.heap.size := (by omega); clear hc1 hzA) | (go_at_call 63; refine (implNumOk_c _ _).mono ?_; rintro e w8 ⟨rfl, rfl⟩; rw [hout]) | (go_at_call 75; refine (hat _ (Chg.k)).mono ?_; rintro e w2 ⟨rfl, hc2⟩; have p0w2 : w2.cell? ⟨w.heap.size, 0, none⟩ = some (.slice AP p.Procs.length cP) := hc2.cell0 p0w1; have r0w2 : w2.cell? ⟨w.heap.size + 1, 0, none⟩ = some (.int .i64 r.State) := hc2.cell0 r0w1; have r1w2 : w2.cell? ⟨w.heap.size + 1, 1, none⟩ = some (.slice A r.Frames.length ca) := hc2.cell0 r1w1; have r2w2 : w2.cell? ⟨w.heap.size + 1, 2, none⟩ = some (.int .i64 r.Out) := hc2.cell0 r2w1; have r3w2 : w2.cell? ⟨w.heap.size + 1, 3, none⟩ = some (.int .i64 r.Proc) := hc2.cell0 r3w1; have r4w2 : w2.cell? ⟨w.heap.size + 1, 4, none⟩ = some (.int .i64 r.Pc) := hc2.cell0 r4w1; have hB : Chg [] w w2 := Chg.trans0 (show Chg [] w _ from Chg.k) hc2; have hzB := hc2.size; have hzB2 : w.heap.size + 1 < w2.heap.size := (by omega); clear hc2) | (go_at_call 12; refine (implInsRisks_c _ _).mono ?_; rintro e w9 ⟨rfl, rfl⟩; rw [hrisk]))
   go_ret
   exact ⟨by first | rfl | (rw [hno.out]; rfl) | (rw [hno.out]; simp; done), Chg.k⟩
 have m3 : (r.State == 3) = false := by simpa using hs3
 by_cases hp : r.Proc = 0
 case neg =>
  have q1 : (r.Proc != 0) = true := by simpa [bne] using hp
  have hno := Lib.hid (show runOk p r = false by unfold runOk; rw [if_neg hs3]; simp [hp])
  by_cases hS2 : r.State = 2
  · have m1 : (r.State != 2) = false := by rw [hS2]; rfl
    clear hso hS2 h1 hzz hd hp hs3 hat hfrm
    go_enter Tryz.func64, Tryz.ntmps64
    go_wp2_with (first | (go_at_call 54; refine (hprg _ (Chg.c)).mono ?_; rintro e w1 ⟨rfl, hc1⟩; have p0w1 : w1.cell? ⟨w.heap.size, 0, none⟩ = some (.slice AP p.Procs.length cP) := hc1.cell0 (by simp); have r0w1 : w1.cell? ⟨w.heap.size + 1, 0, none⟩ = some (.int .i64 r.State) := hc1.cell0 (by simp); have r1w1 : w1.cell? ⟨w.heap.size + 1, 1, none⟩ = some (.slice A r.Frames.length ca) := hc1.cell0 (by simp); have r2w1 : w1.cell? ⟨w.heap.size + 1, 2, none⟩ = some (.int .i64 r.Out) := hc1.cell0 (by simp); have r3w1 : w1.cell? ⟨w.heap.size + 1, 3, none⟩ = some (.int .i64 r.Proc) := hc1.cell0 (by simp); have r4w1 : w1.cell? ⟨w.heap.size + 1, 4, none⟩ = some (.int .i64 r.Pc) := hc1.cell0 (by simp); have hA : Chg [] w w1 := Chg.trans0 (show Chg [] w _ from Chg.c) hc1; have hzA := hc1.size; rw [World.size_alloc, World.size_alloc] at hzA; have hzA2 : w.heap.size + 1 < w1.heap.size := (by omega); clear hc1 hzA) | (go_at_call 63; refine (implNumOk_c _ _).mono ?_; rintro e w8 ⟨rfl, rfl⟩; rw [hout]))
    go_ret
    exact ⟨by first | rfl | (rw [hno.out]; rfl) | (rw [hno.out]; simp; done), Chg.k⟩
  · have m1 : (r.State != 2) = true := by simpa [bne] using hS2
    have m2 : (r.Out != 0) = false := by simp; omega
    clear hso hS2 h1 hzz hd hp hs3 hat hfrm
    go_enter Tryz.func64, Tryz.ntmps64
    go_wp2_with (first | (go_at_call 54; refine (hprg _ (Chg.c)).mono ?_; rintro e w1 ⟨rfl, hc1⟩; have p0w1 : w1.cell? ⟨w.heap.size, 0, none⟩ = some (.slice AP p.Procs.length cP) := hc1.cell0 (by simp); have r0w1 : w1.cell? ⟨w.heap.size + 1, 0, none⟩ = some (.int .i64 r.State) := hc1.cell0 (by simp); have r1w1 : w1.cell? ⟨w.heap.size + 1, 1, none⟩ = some (.slice A r.Frames.length ca) := hc1.cell0 (by simp); have r2w1 : w1.cell? ⟨w.heap.size + 1, 2, none⟩ = some (.int .i64 r.Out) := hc1.cell0 (by simp); have r3w1 : w1.cell? ⟨w.heap.size + 1, 3, none⟩ = some (.int .i64 r.Proc) := hc1.cell0 (by simp); have r4w1 : w1.cell? ⟨w.heap.size + 1, 4, none⟩ = some (.int .i64 r.Pc) := hc1.cell0 (by simp); have hA : Chg [] w w1 := Chg.trans0 (show Chg [] w _ from Chg.c) hc1; have hzA := hc1.size; rw [World.size_alloc, World.size_alloc] at hzA; have hzA2 : w.heap.size + 1 < w1.heap.size := (by omega); clear hc1 hzA) | (go_at_call 63; refine (implNumOk_c _ _).mono ?_; rintro e w8 ⟨rfl, rfl⟩; rw [hout]))
    go_ret
    exact ⟨by first | rfl | (rw [hno.out]; rfl) | (rw [hno.out]; simp; done), Chg.k⟩
 by_cases hq : r.Pc = 0
 case neg =>
  have q0 : (r.Proc != 0) = false := by rw [hp]; rfl
  have q1 : (r.Pc != 0) = true := by simpa [bne] using hq
  have hno := Lib.hid (show runOk p r = false by unfold runOk; rw [if_neg hs3]; simp [hq])
  by_cases hS2 : r.State = 2
  · have m1 : (r.State != 2) = false := by rw [hS2]; rfl
    clear hso hS2 h1 hzz hd hp hq hs3 hat hfrm
    go_enter Tryz.func64, Tryz.ntmps64
    go_wp2_with (first | (go_at_call 54; refine (hprg _ (Chg.c)).mono ?_; rintro e w1 ⟨rfl, hc1⟩; have p0w1 : w1.cell? ⟨w.heap.size, 0, none⟩ = some (.slice AP p.Procs.length cP) := hc1.cell0 (by simp); have r0w1 : w1.cell? ⟨w.heap.size + 1, 0, none⟩ = some (.int .i64 r.State) := hc1.cell0 (by simp); have r1w1 : w1.cell? ⟨w.heap.size + 1, 1, none⟩ = some (.slice A r.Frames.length ca) := hc1.cell0 (by simp); have r2w1 : w1.cell? ⟨w.heap.size + 1, 2, none⟩ = some (.int .i64 r.Out) := hc1.cell0 (by simp); have r3w1 : w1.cell? ⟨w.heap.size + 1, 3, none⟩ = some (.int .i64 r.Proc) := hc1.cell0 (by simp); have r4w1 : w1.cell? ⟨w.heap.size + 1, 4, none⟩ = some (.int .i64 r.Pc) := hc1.cell0 (by simp); have hA : Chg [] w w1 := Chg.trans0 (show Chg [] w _ from Chg.c) hc1; have hzA := hc1.size; rw [World.size_alloc, World.size_alloc] at hzA; have hzA2 : w.heap.size + 1 < w1.heap.size := (by omega); clear hc1 hzA) | (go_at_call 63; refine (implNumOk_c _ _).mono ?_; rintro e w8 ⟨rfl, rfl⟩; rw [hout]))
    go_ret
    exact ⟨by first | rfl | (rw [hno.out]; rfl) | (rw [hno.out]; simp; done), Chg.k⟩
  · have m1 : (r.State != 2) = true := by simpa [bne] using hS2
    have m2 : (r.Out != 0) = false := by simp; omega
    clear hso hS2 h1 hzz hd hp hq hs3 hat hfrm
    go_enter Tryz.func64, Tryz.ntmps64
    go_wp2_with (first | (go_at_call 54; refine (hprg _ (Chg.c)).mono ?_; rintro e w1 ⟨rfl, hc1⟩; have p0w1 : w1.cell? ⟨w.heap.size, 0, none⟩ = some (.slice AP p.Procs.length cP) := hc1.cell0 (by simp); have r0w1 : w1.cell? ⟨w.heap.size + 1, 0, none⟩ = some (.int .i64 r.State) := hc1.cell0 (by simp); have r1w1 : w1.cell? ⟨w.heap.size + 1, 1, none⟩ = some (.slice A r.Frames.length ca) := hc1.cell0 (by simp); have r2w1 : w1.cell? ⟨w.heap.size + 1, 2, none⟩ = some (.int .i64 r.Out) := hc1.cell0 (by simp); have r3w1 : w1.cell? ⟨w.heap.size + 1, 3, none⟩ = some (.int .i64 r.Proc) := hc1.cell0 (by simp); have r4w1 : w1.cell? ⟨w.heap.size + 1, 4, none⟩ = some (.int .i64 r.Pc) := hc1.cell0 (by simp); have hA : Chg [] w w1 := Chg.trans0 (show Chg [] w _ from Chg.c) hc1; have hzA := hc1.size; rw [World.size_alloc, World.size_alloc] at hzA; have hzA2 : w.heap.size + 1 < w1.heap.size := (by omega); clear hc1 hzA) | (go_at_call 63; refine (implNumOk_c _ _).mono ?_; rintro e w8 ⟨rfl, rfl⟩; rw [hout]))
    go_ret
    exact ⟨by first | rfl | (rw [hno.out]; rfl) | (rw [hno.out]; simp; done), Chg.k⟩
 have q0 : (r.Proc != 0) = false := by rw [hp]; rfl
 have q1 : (r.Pc != 0) = false := by rw [hq]; rfl
 by_cases hs : r.State = 1
 · have m1 : (r.State != 2) = true := by rw [hs]; rfl
   have m2 : (r.Out != 0) = false := by simp; omega
   have m4 : (r.State == 1) = true := by rw [hs]; rfl
   have hno := Lib.hid (runOk_goes h1 hs hout (by omega) hp hq)
   clear hso h1 hzz hd hp hq hs3 hat hs
   go_enter Tryz.func64, Tryz.ntmps64
   go_wp2_with (first | (go_at_call 54; refine (hprg _ (Chg.c)).mono ?_; rintro e w1 ⟨rfl, hc1⟩; have p0w1 : w1.cell? ⟨w.heap.size, 0, none⟩ = some (.slice AP p.Procs.length cP) := hc1.cell0 (by simp); have r0w1 : w1.cell? ⟨w.heap.size + 1, 0, none⟩ = some (.int .i64 r.State) := hc1.cell0 (by simp); have r1w1 : w1.cell? ⟨w.heap.size + 1, 1, none⟩ = some (.slice A r.Frames.length ca) := hc1.cell0 (by simp); have r2w1 : w1.cell? ⟨w.heap.size + 1, 2, none⟩ = some (.int .i64 r.Out) := hc1.cell0 (by simp); have r3w1 : w1.cell? ⟨w.heap.size + 1, 3, none⟩ = some (.int .i64 r.Proc) := hc1.cell0 (by simp); have r4w1 : w1.cell? ⟨w.heap.size + 1, 4, none⟩ = some (.int .i64 r.Pc) := hc1.cell0 (by simp); have hA : Chg [] w w1 := Chg.trans0 (show Chg [] w _ from Chg.c) hc1; have hzA := hc1.size; rw [World.size_alloc, World.size_alloc] at hzA; have hzA2 : w.heap.size + 1 < w1.heap.size := (by omega); clear hc1 hzA) | (go_at_call 63; refine (implNumOk_c _ _).mono ?_; rintro e w8 ⟨rfl, rfl⟩; rw [hout]) | (go_at_call 127; refine (hfrm _ (Chg.k)).mono ?_; rintro e w3 ⟨rfl, hc3⟩; have hC : Chg [] w w3 := Chg.trans0 (show Chg [] w _ from Chg.k) hc3; clear hc3))
   go_ret
   exact ⟨by first | rfl | (rw [hno.out]; rfl) | (rw [hno.out]; simp; done), Chg.k⟩
 have m4 : (r.State == 1) = false := by simpa using hs
 have hno := Lib.hid (show runOk p r = ((r.Frames.length : Int) == 0) by
  unfold runOk
  rw [h1, hout, hzz, if_neg hs3, if_neg hs, hp, hq, isEmpty_len]
  simp only [Bool.true_and, Bool.and_true, hd, beq_self_eq_true])
 by_cases hS2 : r.State = 2
 · have m1 : (r.State != 2) = false := by rw [hS2]; rfl
   clear hso hS2 h1 hzz hd hp hq hs3 hat hfrm hs
   go_enter Tryz.func64, Tryz.ntmps64
   go_wp2_with (first | (go_at_call 54; refine (hprg _ (Chg.c)).mono ?_; rintro e w1 ⟨rfl, hc1⟩; have p0w1 : w1.cell? ⟨w.heap.size, 0, none⟩ = some (.slice AP p.Procs.length cP) := hc1.cell0 (by simp); have r0w1 : w1.cell? ⟨w.heap.size + 1, 0, none⟩ = some (.int .i64 r.State) := hc1.cell0 (by simp); have r1w1 : w1.cell? ⟨w.heap.size + 1, 1, none⟩ = some (.slice A r.Frames.length ca) := hc1.cell0 (by simp); have r2w1 : w1.cell? ⟨w.heap.size + 1, 2, none⟩ = some (.int .i64 r.Out) := hc1.cell0 (by simp); have r3w1 : w1.cell? ⟨w.heap.size + 1, 3, none⟩ = some (.int .i64 r.Proc) := hc1.cell0 (by simp); have r4w1 : w1.cell? ⟨w.heap.size + 1, 4, none⟩ = some (.int .i64 r.Pc) := hc1.cell0 (by simp); have hA : Chg [] w w1 := Chg.trans0 (show Chg [] w _ from Chg.c) hc1; have hzA := hc1.size; rw [World.size_alloc, World.size_alloc] at hzA; have hzA2 : w.heap.size + 1 < w1.heap.size := (by omega); clear hc1 hzA) | (go_at_call 63; refine (implNumOk_c _ _).mono ?_; rintro e w8 ⟨rfl, rfl⟩; rw [hout]))
   go_ret
   exact ⟨by first | rfl | (rw [hno.out]; rfl) | (rw [hno.out]; simp; done), Chg.k⟩
 · have m1 : (r.State != 2) = true := by simpa [bne] using hS2
   have m2 : (r.Out != 0) = false := by simp; omega
   clear hso hS2 h1 hzz hd hp hq hs3 hat hfrm hs
   go_enter Tryz.func64, Tryz.ntmps64
   go_wp2_with (first | (go_at_call 54; refine (hprg _ (Chg.c)).mono ?_; rintro e w1 ⟨rfl, hc1⟩; have p0w1 : w1.cell? ⟨w.heap.size, 0, none⟩ = some (.slice AP p.Procs.length cP) := hc1.cell0 (by simp); have r0w1 : w1.cell? ⟨w.heap.size + 1, 0, none⟩ = some (.int .i64 r.State) := hc1.cell0 (by simp); have r1w1 : w1.cell? ⟨w.heap.size + 1, 1, none⟩ = some (.slice A r.Frames.length ca) := hc1.cell0 (by simp); have r2w1 : w1.cell? ⟨w.heap.size + 1, 2, none⟩ = some (.int .i64 r.Out) := hc1.cell0 (by simp); have r3w1 : w1.cell? ⟨w.heap.size + 1, 3, none⟩ = some (.int .i64 r.Proc) := hc1.cell0 (by simp); have r4w1 : w1.cell? ⟨w.heap.size + 1, 4, none⟩ = some (.int .i64 r.Pc) := hc1.cell0 (by simp); have hA : Chg [] w w1 := Chg.trans0 (show Chg [] w _ from Chg.c) hc1; have hzA := hc1.size; rw [World.size_alloc, World.size_alloc] at hzA; have hzA2 : w.heap.size + 1 < w1.heap.size := (by omega); clear hc1 hzA) | (go_at_call 63; refine (implNumOk_c _ _).mono ?_; rintro e w8 ⟨rfl, rfl⟩; rw [hout]))
   go_ret
   exact ⟨by first | rfl | (rw [hno.out]; rfl) | (rw [hno.out]; simp; done), Chg.k⟩
end Go.Proofs.YtjakhnhnjhafgaaGreat.Wk
namespace Go.Proofs.YtjakhnhnjhafgaaGreat.Wk
open Go Go.RowKit Go.Deep Ow
open Rp (R sz)
theorem cell8 {w : World} {n : Nat} {u0 u1 u2 u3 u4 u5 u6 u7 : Value} {a : Addr} (ha : a.block ≠ n) :
 ((((((((w.setCell ⟨n, 0, none⟩ u0).setCell ⟨n, 1, none⟩ u1).setCell ⟨n, 2, none⟩ u2).setCell ⟨n, 3, none⟩ u3).setCell ⟨n, 4, none⟩ u4).setCell ⟨n, 5, none⟩ u5).setCell ⟨n, 6, none⟩ u6).setCell ⟨n, 7, none⟩ u7).cell? a = w.cell? a := by
 have h : ∀ (w : World) (j : Nat) (u : Value), (w.setCell ⟨n, j, none⟩ u).cell? a = w.cell? a := fun w j u => World.cell?_setCell_other _ _ _ _ (by intro e; apply ha; rw [← e])
 simp only [h]
end Go.Proofs.YtjakhnhnjhafgaaGreat.Wk
namespace Ow
open Go Go.RowKit Go.Deep
theorem RunX.fr {w : World} {X : Nat} {vP v : Value} {x : RunRun} (h : RunX w X vP x v) (fs : List RunFrame) : RunX w X vP { x with Frames := fs } v := ⟨h.c0, h.c1, h.c2, h.c3, h.c4, h.c5, h.fz⟩
end Ow
namespace Go.Proofs.YtjakhnhnjhafgaaGreat.Wk
open Go Go.RowKit Go.Deep Ow
open Rp (R sz)
theorem i64_of {n : Int} (h : numOk n = true) : I64 n := by
 rw [numOk_iff] at h
 unfold I64
 omega
end Go.Proofs.YtjakhnhnjhafgaaGreat.Wk
namespace Go.Proofs.YtjakhnhnjhafgaaGreat.Wk
open Go Go.RowKit Go.Deep Ow
open Rp (R sz)
theorem form3 {α : Type} [Rp α] {w : World} {xs : List α} {v : Value} {F : List Nat} (h : RL w xs v F) : ∃ A n c, v = .slice A n c := by
 obtain ⟨A, c, e, -, -⟩ := h.form
 exact ⟨A, _, c, e⟩
theorem below_get {n : Int} (h : below n 4 = true) : ∃ a : Nat, n = a ∧ a < 4 := by
 unfold below at h
 simp only [Bool.and_eq_true, decide_eq_true_eq] at h
 obtain ⟨a, rfl⟩ := Int.eq_ofNat_of_zero_le h.1
 exact ⟨a, rfl, by omega⟩
end Go.Proofs.YtjakhnhnjhafgaaGreat.Wk
namespace Go.Proofs.YtjakhnhnjhafgaaGreat.Wk
open Go Go.RowKit Go.Deep Ow
open Rp (R sz)
def StepRes (X : Nat) (vP : Value) (G : List Nat) (x : RunRun) (w : World) (e : Ending) (w' : World) : Prop :=
 StepOut X vP G x w e w' ∨ (StepBad 182 X G x w e w' ∧ x.Frames = [])
theorem codeOfA_c (i : InsIns) (w : World) (h : 1 ≤ i.Op ∧ i.Op ≤ 4) : Calls Tryz.prog 120 #[insV i] w fun e w' => e = .returned (.iface 175 (.agg #[.int .i64 i.Op, .int .i64 i.D, .int .i64 i.A, .int .i64 i.B])) ∧ Chg [] w w' := by
 rcases (by omega : i.Op = 1 ∨ i.Op = 2 ∨ i.Op = 3 ∨ i.Op = 4) with h | h | h | h
 · exact codeOf1_c i w h
 · exact codeOf2_c i w h
 · exact codeOf3_c i w h
 · exact codeOf4_c i w h
end Go.Proofs.YtjakhnhnjhafgaaGreat.Wk
namespace Go.Proofs.YtjakhnhnjhafgaaGreat.Wk
open Go Go.RowKit Go.Deep Ow
open Rp (R sz)
set_option maxRecDepth 100000 in
set_option maxHeartbeats 8000000 in
theorem impStep11_c (p : PrgProg) (fs : List RunFrame) (inp : Int) (X : Nat) (vP : Value) (FP : List Nat) (v : Value) (G : List Nat) (w : World) (hP : RL w p.Procs vP FP) (hXP : X ∉ FP) (hX : RunX w X vP (goes fs) v) (h : RL w fs v G) (ho : Own w G) (hXG : X ∉ G) (hroom : Room w 58 v fs.length) (hin : I64 inp) (hok : runOk p (goes fs) = true)
 (hsel : ∀ (m : Nat) (hml : m < fs.length) (i : InsIns), fs.length = m + 1 → prgAt p fs[m].Proc fs[m].Pc = some i → i.Op = 11) :
 Calls Tryz.prog 130 #[.pointer (some ⟨X, 0, none⟩), .int .i64 inp] w (StepRes X vP G (stepped p (goes fs) inp) w) := by
 have F := goes_facts hok rfl
 have hp := F.prg
 obtain ⟨m, hm'⟩ : ∃ m, Hid (fs.length = m + 1) := ⟨fs.length - 1, Lib.hid (by have := F.n1; simp only [goes] at this; omega)⟩
 have hml : m < fs.length := by have := hm'.out; omega
 have n5 : fs.length ≤ 5 := F.n5
 have hN : nestOk p fs = true := F.nest
 obtain ⟨i, hi, hV, hC, nV, nC⟩ := frame_facts ((nest_iff p _).1 hN m hml).1
 obtain ⟨kp, jp, At⟩ := prgAt_facts hp hi
 have I := ins_facts At.ok
 have hop := hsel m hml i hm'.out hi
 have hPc : I64 (fs[m].Pc + 1) := by have h1 := At.epc; have h2 := At.j10; unfold I64; omega
 obtain ⟨dA, hA⟩ := Int.eq_ofNat_of_zero_le I.a0
 obtain ⟨dB, hB⟩ := Int.eq_ofNat_of_zero_le I.b0
 obtain ⟨dD, hD⟩ := Int.eq_ofNat_of_zero_le I.d0
 have lA : dA < fs[m].Vars.length := by have := I.a4; omega
 have lB : dB < fs[m].Vars.length := by have := I.b4; omega
 have lD : dD < fs[m].Vars.length := by have := I.d4; omega
 have nA := nV _ (List.getElem_mem lA)
 have nB := nV _ (List.getElem_mem lB)
 have hsub : ((m : Int) + 1 - 1) = m := by omega
 have hm4 : (m : Int) ≤ 4 := by have := hm'.out; omega
 have hmB : (m : Int) + 1 ≤ 9223372036854775807 := by omega
 have hdA : (dA : Int) < fs[m].Vars.length := by omega
 have hdB : (dB : Int) < fs[m].Vars.length := by omega
 have hdD : (dD : Int) < fs[m].Vars.length := by omega
 obtain ⟨AP, cP, rfl, -, -⟩ := hP.form
 obtain ⟨b, off, cap, vV, vC, FV, FC, Fm⟩ := frame_in h ho (i := m) hml
 have ev := Fm.eq
 rw [hm'.out] at ev
 subst ev
 obtain ⟨bV, oV, cV, EA⟩ := int_at Fm.rV Fm.oV lA
 have eV := EA.eq
 subst eV
 obtain ⟨bB, oB, cB, EB⟩ := int_at Fm.rV Fm.oV lB
 have eB := EB.eq
 injection eB with eB1 _ eB2
 injection eB1 with eB1
 injection eB1 with eB1 eB3
 subst eB1 eB2 eB3
 obtain ⟨bE, oE, cE, ED⟩ := int_at Fm.rV Fm.oV lD
 have eD := ED.eq
 injection eD with eD1 _ eD2
 injection eD1 with eD1
 injection eD1 with eD1 eD3
 subst eD1 eD2 eD3
 obtain ⟨AC, kC, rfl, -, -⟩ := Fm.rC.form
 obtain ⟨iOp, iD, iA, iB, iRel, iLo, iHi, iTo⟩ := i
 simp only at hA hB hD
 subst hA hB hD
 have hat : ∀ wx, Chg [] w wx → Calls Tryz.prog 75 #[.agg #[.slice AP p.Procs.length cP], .int .i64 fs[m].Proc, .int .i64 fs[m].Pc] wx (fun e w' => e = .returned (atV (some ⟨iOp, dD, dA, dB, iRel, iLo, iHi, iTo⟩)) ∧ Chg [] wx w') := fun wx hx => by
  have := implPrgAt_c p fs[m].Proc fs[m].Pc _ _ wx (hP.chg0 hx)
  rw [hi] at this
  exact this
 have X0 := hX.c0
 have X2 := hX.c2
 have y0 := Fm.c0
 have y1 := Fm.c1
 have y2 := Fm.c2
 have y3 := Fm.c3
 have vA := EA.cell
 have vB := EB.cell
 have vD := ED.cell
 have lX := hX.lt
 have lb : b < w.heap.size := World.block_lt_of_cell? _ _ y0
 have lV : bV < w.heap.size := World.block_lt_of_cell? _ _ vA
 have hXb : ¬ X = b := fun e => hXG (e ▸ Fm.mem)
 have hnb : ¬ bV = b := fun e => Fm.bV (e ▸ EA.mem)
 have hnb' : ¬ b = bV := fun e => hnb e.symm
 have zP := Fm.fz (off + m * 4 + 1)
 have zD := ED.fz (oV + dD)
 have hP_ := Lib.hid hP
 have hX_ := Lib.hid hX
 have h_ := Lib.hid h
 have ho_ := Lib.hid ho
 have hXG_ := Lib.hid hXG
 have hXP_ := Lib.hid hXP
 have hroom_ := Lib.hid hroom
 have hp_ := Lib.hid hp
 have hN_ := Lib.hid hN
 have hi_ := Lib.hid hi
 have hV_ := Lib.hid hV
 have hC_ := Lib.hid hC
 have nV_ := Lib.hid nV
 have nC_ := Lib.hid nC
 have hop_ := Lib.hid hop
 have nA_ := Lib.hid nA
 have nB_ := Lib.hid nB
 have I_ := Lib.hid I
 have n5_ := Lib.hid n5
 have Fm_ := Lib.hid Fm
 have EA_ := Lib.hid EA
 have EB_ := Lib.hid EB
 have ED_ := Lib.hid ED
 have hPc_ := Lib.hid hPc
 clear hP hX h ho hXG hXP hroom hN hi hV hC nV nC hop nA nB I n5 Fm EA EB ED hPc hok F hsel hp
 have taarith := ta_assert_arith iRel (dA : Int) (dB : Int)
 have taany := ta_assert_any iRel (dA : Int) (dB : Int)
 have taload := ta_assert_load iRel (dA : Int) (dB : Int)
 have tastore := ta_assert_store iRel (dA : Int) (dB : Int)
 have taif := ta_assert_if iRel (dA : Int) (dB : Int)
 have tajump := ta_assert_jump iRel (dA : Int) (dB : Int)
 have tacall := ta_assert_call iRel (dA : Int) (dB : Int)
 have taassert := ta_assert_assert iRel (dA : Int) (dB : Int)
 go_enter Tryz.func130, Tryz.ntmps130
 go_wp2_with (go_at_call 174; refine (top_c X b off m cap _ X2 hmB).mono ?_; rintro e w1 ⟨rfl, hc1⟩; have hK1 := hc1; have sw1 := hc1.size; have X01 := hc1.cell0 X0; have y01 := hc1.cell0 y0; have y11 := hc1.cell0 y1; have lX1 := Nat.lt_of_lt_of_le lX hc1.size; have lb1 := Nat.lt_of_lt_of_le lb hc1.size; have n1X : ¬ X = w1.heap.size := Nat.ne_of_lt lX1; have n1b : ¬ b = w1.heap.size := Nat.ne_of_lt lb1; clear hc1)
 clear hmB
 go_region_held3 (fun w' => w'.cell? ⟨X, 0, none⟩ = some (.slice AP p.Procs.length cP) ∧ w'.cell? ⟨b, off + m * 4, none⟩ = some (.int .i64 fs[m].Proc) ∧ w'.cell? ⟨b, off + m * 4 + 1, none⟩ = some (.int .i64 fs[m].Pc)) (((try dsimp only); (repeat' apply And.intro) <;> (first | with_reducible assumption | (with_reducible refine (cell8 ?_).trans ?_ <;> (first | with_reducible assumption | exact n1X | exact n1b | exact n2X | exact n2b)) | (go_keep; done))))
  (first | (go_at_call 75; refine (hat _ (Chg.k)).mono ?_; rintro e w2 ⟨rfl, hq2⟩; have hK12 : Chg [] w1 w2 := Chg.trans0 (show Chg [] w1 _ from Chg.c) hq2; have hK2 := hK1.trans0 hK12; have X02 := hK12.cell0 X01; have y02 := hK12.cell0 y01; have y12 := hK12.cell0 y11; have lX2 := Nat.lt_of_lt_of_le lX1 hK12.size; have lb2 := Nat.lt_of_lt_of_le lb1 hK12.size; have n2X : ¬ X = w2.heap.size := Nat.ne_of_lt lX2; have n2b : ¬ b = w2.heap.size := Nat.ne_of_lt lb2; have zc0 := hq2.cells.1 w1.heap.size 0; have zc1 := hq2.cells.1 w1.heap.size 1; have zc2 := hq2.cells.1 w1.heap.size 2; have zc3 := hq2.cells.1 w1.heap.size 3; have zc4 := hq2.cells.1 w1.heap.size 4; have zc5 := hq2.cells.1 w1.heap.size 5; have zc6 := hq2.cells.1 w1.heap.size 6; have zc7 := hq2.cells.1 w1.heap.size 7; have zf0 := hq2.cells.2 w1.heap.size 0; have zf1 := hq2.cells.2 w1.heap.size 1; have zf2 := hq2.cells.2 w1.heap.size 2; have zf3 := hq2.cells.2 w1.heap.size 3; have zf4 := hq2.cells.2 w1.heap.size 4; have zf5 := hq2.cells.2 w1.heap.size 5; have zf6 := hq2.cells.2 w1.heap.size 6; have zf7 := hq2.cells.2 w1.heap.size 7; have sz2 := hq2.size; (try simp only [World.size_alloc, World.size_setCell, World.size_drew] at sz2); (try have lt12 := Nat.lt_of_succ_le sz2)))
 all_goals
  obtain ⟨hq1, hq2b⟩ := hPc_.out
  go_wp2_with fail
  clear hq1 hq2b
  refine (codeOf11_c ⟨iOp, dD, dA, dB, iRel, iLo, iHi, iTo⟩ _ hop_.out).mono ?_
  rintro e w4 ⟨rfl, hc4⟩
  have hK4 : Chg [] w w4 := Chg.trans0 (show Chg [] w _ from Chg.k) hc4
  replace X0 := hK4.cell0 X0
  replace X2 := hK4.cell0 X2
  replace y0 := hK4.cell0 y0
  replace y1 := hK4.cell0 y1
  replace y2 := hK4.cell0 y2
  replace y3 := hK4.cell0 y3
  replace vA := hK4.cell0 vA
  replace vB := hK4.cell0 vB
  replace vD := hK4.cell0 vD
  replace zP := (hK4.cells.2 b (off + m * 4 + 1) lb).trans zP
  replace zD := (hK4.cells.2 bV (oV + dD) lV).trans zD
  replace lX := Nat.lt_of_lt_of_le lX hK4.size
  replace lb := Nat.lt_of_lt_of_le lb hK4.size
  replace lV := Nat.lt_of_lt_of_le lV hK4.size
  clear hat hc4 hK2 hK1 hK12 hq2 X01 X02 y01 y02 y11 y12 lX1 lX2 lb1 lb2 n1X n1b n2X n2b sz2 sw1 zc0 zf0 zc1 zf1 zc2 zf2 zc3 zf3 zc4 zf4 zc5 zf5 zc6 zf6 zc7 zf7
  try clear lt12
  obtain rfl : iOp = 11 := hop_.out
  go_wp2_with fail
  generalize hWi : World.alloc _ _ = wi
  have hKi : Chg [] w4 wi := hWi ▸ Chg.c
  have hKw := hK4.trans0 hKi
  have bx0 : wi.cell? ⟨w4.heap.size, 0, none⟩ = some (.int .i64 iRel) := by rw [← hWi]; simp [go_sem]
  have bx1 : wi.cell? ⟨w4.heap.size, 1, none⟩ = some (.int .i64 (dA : Int)) := by rw [← hWi]; simp [go_sem]
  have bx2 : wi.cell? ⟨w4.heap.size, 2, none⟩ = some (.int .i64 (dB : Int)) := by rw [← hWi]; simp [go_sem]
  have lbx : w4.heap.size < wi.heap.size := by rw [← hWi]; simp [go_sem]
  have nbV : ¬ bV = w4.heap.size := Nat.ne_of_lt lV
  have nbV2 : ¬ w4.heap.size = bV := fun e => nbV e.symm
  have nbb : ¬ b = w4.heap.size := Nat.ne_of_lt lb
  have nbb2 : ¬ w4.heap.size = b := fun e => nbb e.symm
  replace X0 := hKi.cell0 X0
  replace X2 := hKi.cell0 X2
  replace y0 := hKi.cell0 y0
  replace y1 := hKi.cell0 y1
  replace y2 := hKi.cell0 y2
  replace y3 := hKi.cell0 y3
  replace vA := hKi.cell0 vA
  replace vB := hKi.cell0 vB
  replace vD := hKi.cell0 vD
  replace zP := (hKi.cells.2 b (off + m * 4 + 1) lb).trans zP
  replace zD := (hKi.cells.2 bV (oV + dD) lV).trans zD
  replace lX := Nat.lt_of_lt_of_le lX hKi.size
  replace lb := Nat.lt_of_lt_of_le lb hKi.size
  replace lV := Nat.lt_of_lt_of_le lV hKi.size
  clear hWi hKi taarith taany taload tastore taif tajump tacall taassert
  have hfl := fun (wx : World) (hx : Chg [] wi wx) => failYes_c X b off m cap fs[m] wx (hx.cell0 X2) (by omega) (hx.cell0 y0) (hx.cell0 y1)
  cases hr8 : relHolds iRel fs[m].Vars[dA] fs[m].Vars[dB]
  · have hst := Lib.hid (show stepped p (goes fs) inp = runFail fs[m] by rw [st_assert (inp := inp) hm'.out hi_.out rfl rfl rfl lA lB]; simp only [hr8]; rfl)
    have hrel := Lib.hid hr8
    clear hr8
    refine wp_region_held_drew (S := (fun w' => w'.cell? ⟨w4.heap.size, 0, none⟩ = some (.int .i64 iRel) ∧ w'.cell? ⟨w4.heap.size, 1, none⟩ = some (.int .i64 (dA : Int)) ∧ w'.cell? ⟨w4.heap.size, 2, none⟩ = some (.int .i64 (dB : Int)) ∧ w'.cell? ⟨b, off + m * 4 + 2, none⟩ = some (.slice (some ⟨bV, oV, none⟩) fs[m].Vars.length cV) ∧ w'.cell? ⟨bV, oV + dA, none⟩ = some (.int .i64 fs[m].Vars[dA]) ∧ w'.cell? ⟨bV, oV + dB, none⟩ = some (.int .i64 fs[m].Vars[dB]))) (by kernel_rfl) ?_ (fun hHeld => ?_)
    focus (((try dsimp only); (repeat' apply And.intro) <;> (first | with_reducible assumption | (go_keep; done))))
    refine wpAnyH_take (i := 0) (v := ?_) rfl (by kernel_rfl) (by kernel_rfl) (by kernel_rfl) (fun _ _ _ h => h) (Or.inl ⟨by rfl, ?_⟩) hHeld ?_
    rotate_left
    focus (intro w hSw; (try dsimp only at hSw); go_simp <;> with_reducible rfl)
    rotate_right
    try simp only [pS, pN, pA, pZ, pC]
    refine wpAnyH_take (i := 1) (v := ?_) rfl (by kernel_rfl) (by kernel_rfl) (by kernel_rfl) (fun _ _ _ h => h) (Or.inl ⟨by rfl, ?_⟩) hHeld ?_
    rotate_left
    focus (intro w hSw; (try dsimp only at hSw); go_simp <;> with_reducible rfl)
    rotate_right
    try simp only [pS, pN, pA, pZ, pC]
    refine wpAnyH_take (i := 2) (v := ?_) rfl (by kernel_rfl) (by kernel_rfl) (by kernel_rfl) (fun _ _ _ h => h) (Or.inl ⟨by rfl, ?_⟩) hHeld ?_
    rotate_left
    focus (intro w hSw; (try dsimp only at hSw); go_simp <;> with_reducible rfl)
    rotate_right
    try simp only [pS, pN, pA, pZ, pC]
    refine wpAnyH_take (i := 3) (v := ?_) rfl (by kernel_rfl) (by kernel_rfl) (by kernel_rfl) (fun _ _ _ h => h) (Or.inl ⟨by rfl, ?_⟩) hHeld ?_
    rotate_left
    focus (intro w hSw; (try dsimp only at hSw); go_simp <;> with_reducible rfl)
    rotate_right
    try simp only [pS, pN, pA, pZ, pC]
    refine wpAnyH_take (i := 4) (v := ?_) rfl (by kernel_rfl) (by kernel_rfl) (by kernel_rfl) (fun _ _ _ h => h) (Or.inl ⟨by rfl, ?_⟩) hHeld ?_
    rotate_left
    focus (intro w hSw; (try dsimp only at hSw); go_simp <;> with_reducible rfl)
    rotate_right
    try simp only [pS, pN, pA, pZ, pC]
    refine wpAnyH_take (i := 5) (v := ?_) rfl (by kernel_rfl) (by kernel_rfl) (by kernel_rfl) (fun _ _ _ h => h) (Or.inl ⟨by rfl, ?_⟩) hHeld ?_
    rotate_left
    focus (intro w hSw; (try dsimp only at hSw); go_simp <;> with_reducible rfl)
    rotate_right
    try simp only [pS, pN, pA, pZ, pC]
    refine wpAnyH_take (i := 6) (v := ?_) rfl (by kernel_rfl) (by kernel_rfl) (by kernel_rfl) (fun _ _ _ h => h) (Or.inl ⟨by rfl, ?_⟩) hHeld ?_
    rotate_left
    focus (intro w hSw; (try dsimp only at hSw); go_simp <;> with_reducible rfl)
    rotate_right
    try simp only [pS, pN, pA, pZ, pC]
    refine wpAnyH_take (i := 7) (v := ?_) rfl (by kernel_rfl) (by kernel_rfl) (by kernel_rfl) (fun _ _ _ h => h) (Or.inl ⟨by rfl, ?_⟩) hHeld ?_
    rotate_left
    focus (intro w hSw; (try dsimp only at hSw); go_simp <;> with_reducible rfl)
    rotate_right
    try simp only [pS, pN, pA, pZ, pC]
    refine wpAnyH_take (i := 8) (v := ?_) rfl (by kernel_rfl) (by kernel_rfl) (by kernel_rfl) (fun _ _ _ h => h) (Or.inl ⟨by rfl, ?_⟩) hHeld ?_
    rotate_left
    focus (intro w hSw; (try dsimp only at hSw); go_simp <;> with_reducible rfl)
    rotate_right
    try simp only [pS, pN, pA, pZ, pC]
    refine wpAnyH_take (i := 9) (v := ?_) rfl (by kernel_rfl) (by kernel_rfl) (by kernel_rfl) (fun _ _ _ h => h) (Or.inl ⟨by rfl, ?_⟩) hHeld ?_
    rotate_left
    focus (intro w hSw; (try dsimp only at hSw); go_simp <;> with_reducible rfl)
    rotate_right
    try simp only [pS, pN, pA, pZ, pC]
    refine wpAnyH_take (i := 10) (v := ?_) rfl (by kernel_rfl) (by kernel_rfl) (by kernel_rfl) (fun _ _ _ h => h) (Or.inl ⟨by rfl, ?_⟩) hHeld ?_
    rotate_left
    focus (intro w hSw; (try dsimp only at hSw); go_simp <;> with_reducible rfl)
    rotate_right
    try simp only [pS, pN, pA, pZ, pC]
    refine wpAnyH_take (i := 11) (v := ?_) rfl (by kernel_rfl) (by kernel_rfl) (by kernel_rfl) (fun _ _ _ h => h) (Or.inl ⟨by rfl, ?_⟩) hHeld ?_
    rotate_left
    focus (intro w hSw; (try dsimp only at hSw); go_simp <;> with_reducible rfl)
    rotate_right
    try simp only [pS, pN, pA, pZ, pC]
    refine wpAnyH_take (i := 12) (v := ?_) rfl (by kernel_rfl) (by kernel_rfl) (by kernel_rfl) (fun _ _ _ h => h) (Or.inl ⟨by rfl, ?_⟩) hHeld ?_
    rotate_left
    focus (intro w hSw; (try dsimp only at hSw); go_simp <;> with_reducible rfl)
    rotate_right
    try simp only [pS, pN, pA, pZ, pC]
    refine wpAnyH_take (i := 13) (v := ?_) rfl (by kernel_rfl) (by kernel_rfl) (by kernel_rfl) (fun _ _ _ h => h) (Or.inl ⟨by rfl, ?_⟩) hHeld ?_
    rotate_left
    focus (intro w hSw; (try dsimp only at hSw); go_simp <;> with_reducible rfl)
    rotate_right
    try simp only [pS, pN, pA, pZ, pC]
    refine wpAnyH_take (i := 14) (v := ?_) rfl (by kernel_rfl) (by kernel_rfl) (by kernel_rfl) (fun _ _ _ h => h) (Or.inl ⟨by rfl, ?_⟩) hHeld ?_
    rotate_left
    focus (intro w hSw; (try dsimp only at hSw); go_simp <;> with_reducible rfl)
    rotate_right
    try simp only [pS, pN, pA, pZ, pC]
    refine wpAnyH_take (i := 15) (v := ?_) rfl (by kernel_rfl) (by kernel_rfl) (by kernel_rfl) (fun _ _ _ h => h) (Or.inl ⟨by rfl, ?_⟩) hHeld ?_
    rotate_left
    focus (intro w hSw; (try dsimp only at hSw); go_simp <;> with_reducible rfl)
    rotate_right
    try simp only [pS, pN, pA, pZ, pC]
    refine wpAnyH_take (i := 16) (v := ?_) rfl (by kernel_rfl) (by kernel_rfl) (by kernel_rfl) (fun _ _ _ h => h) (Or.inl ⟨by rfl, ?_⟩) hHeld ?_
    rotate_left
    focus (intro w hSw; (try dsimp only at hSw); go_simp <;> with_reducible rfl)
    rotate_right
    try simp only [pS, pN, pA, pZ, pC]
    refine wpAnyH_take (i := 17) (v := ?_) rfl (by kernel_rfl) (by kernel_rfl) (by kernel_rfl) (fun _ _ _ h => h) (Or.inl ⟨by rfl, ?_⟩) hHeld ?_
    rotate_left
    focus (intro w hSw; (try dsimp only at hSw); go_simp <;> with_reducible rfl)
    rotate_right
    try simp only [pS, pN, pA, pZ, pC]
    refine wpAnyH_take (i := 18) (v := ?_) rfl (by kernel_rfl) (by kernel_rfl) (by kernel_rfl) (fun _ _ _ h => h) (Or.inl ⟨by rfl, ?_⟩) hHeld ?_
    rotate_left
    focus (intro w hSw; (try dsimp only at hSw); go_simp <;> with_reducible rfl)
    rotate_right
    try simp only [pS, pN, pA, pZ, pC]
    refine wpAnyH_ready (rs := [19]) (by kernel_rfl) (by simp) ?_
    refine AllReadyH.cons rfl (fun K hK => ?_) AllReadyH.nil
    go_simp
    go_wp2_with (go_at_call 178; refine (implRelHolds_c _ _ _ _).mono ?_; rintro e w7 ⟨rfl, rfl⟩; rw [hrel.out])
    refine hK.out _ _ ?_ (fun hHeld => ?_)
    focus (((try dsimp only); (repeat' apply And.intro) <;> (first | with_reducible assumption | (go_keep; done))))
    clear hK K
    try simp only [pS, pN, pA, pZ, pC]
    refine wpAnyH_take (i := 20) (v := ?_) rfl (by kernel_rfl) (by kernel_rfl) (by kernel_rfl) (fun _ _ _ h => h) (Or.inl ⟨by rfl, ?_⟩) hHeld ?_
    rotate_left
    focus (intro w hSw; (try dsimp only at hSw); go_simp <;> with_reducible rfl)
    rotate_right
    try simp only [pS, pN, pA, pZ, pC]
    refine wpAnyH_ready (rs := [21]) (by kernel_rfl) (by simp) ?_
    refine AllReadyH.cons rfl (fun K hK => ?_) AllReadyH.nil
    go_simp
    go_wp2_with (go_at_call 176; refine (hfl _ (Chg.c)).mono ?_; rintro e w9 ⟨rfl, hc9⟩; have hK9 : Chg [] wi w9 := Chg.trans0 (show Chg [] wi _ from Chg.c) hc9)
    refine ⟨rfl, ?_⟩
    show StepRes X _ G (stepped p (goes fs) inp) w _ _
    rw [hst.out]
    exact Or.inr ⟨⟨rfl, (hKw.trans0 hK9).of0⟩, rfl⟩
  · have hst := Lib.hid (show stepped p (goes fs) inp = goes (fs.set m { fs[m] with Pc := fs[m].Pc + 1 }) by rw [st_assert (inp := inp) hm'.out hi_.out rfl rfl rfl lA lB]; simp only [hr8]; rfl)
    have hrel := Lib.hid hr8
    clear hr8 hfl
    go_region_held3 (fun w' => w'.cell? ⟨w4.heap.size, 0, none⟩ = some (.int .i64 iRel) ∧ w'.cell? ⟨w4.heap.size, 1, none⟩ = some (.int .i64 (dA : Int)) ∧ w'.cell? ⟨w4.heap.size, 2, none⟩ = some (.int .i64 (dB : Int)) ∧ w'.cell? ⟨b, off + m * 4 + 2, none⟩ = some (.slice (some ⟨bV, oV, none⟩) fs[m].Vars.length cV) ∧ w'.cell? ⟨bV, oV + dA, none⟩ = some (.int .i64 fs[m].Vars[dA]) ∧ w'.cell? ⟨bV, oV + dB, none⟩ = some (.int .i64 fs[m].Vars[dB])) (((try dsimp only); (repeat' apply And.intro) <;> (first | with_reducible assumption | (go_keep; done))))
     (first | (go_at_call 178; refine (implRelHolds_c _ _ _ _).mono ?_; rintro e w7 ⟨rfl, rfl⟩; rw [hrel.out]) | (go_at_call 176; refine (failNo_c X _).mono ?_; rintro e w8 ⟨rfl, hc8⟩; have hK8 : Chg [] wi w8 := Chg.trans0 (show Chg [] wi _ from Chg.c) hc8; have bx0w8 := hK8.cell0 bx0; have bx1w8 := hK8.cell0 bx1; have bx2w8 := hK8.cell0 bx2; have y2w8 := hK8.cell0 y2; have vAw8 := hK8.cell0 vA; have vBw8 := hK8.cell0 vB; have y1w8 := hK8.cell0 y1; have vDw8 := hK8.cell0 vD; have lbw8 := Nat.lt_of_lt_of_le lb hK8.size; have lVw8 := Nat.lt_of_lt_of_le lV hK8.size; have zPw8 := (hK8.cells.2 b (off + m * 4 + 1) lb).trans zP))
    all_goals
     have hKw8 := hKw.trans0 hK8
     go_wp2
     go_end0
     have hs := Fm_.out.setP w8 (fs[m].Pc + 1) hKw8 hPc_.out
     have hcb : Chg [b] w8 (w8.setCell ⟨b, off + m * 4 + 1, none⟩ (.int .i64 (fs[m].Pc + 1))) := (Chg.refl [b] w8).setCell (Or.inl (by simp)) _
     have hcx : Chg (X :: G) w (w8.setCell ⟨b, off + m * 4 + 1, none⟩ (.int .i64 (fs[m].Pc + 1))) := (hKw8.of0).setCell (Or.inl (List.mem_cons_of_mem _ Fm_.out.mem)) _
     have hXf := (hX_.out.chg0 hKw8).chg hcb (fun hx => hXb (List.mem_singleton.1 hx))
     show StepRes X _ G (stepped p (goes fs) inp) w _ _
     rw [hst.out]
     refine Or.inl ⟨rfl, _, G, (hXf.fr _).chg0 (by repeat (with_reducible first | exact Chg.refl _ _ | refine Chg.alloc ?_ _ | refine Chg.drew ?_)), ?_, hs.1.chg0 (by repeat (with_reducible first | exact Chg.refl _ _ | refine Chg.alloc ?_ _ | refine Chg.drew ?_)), hs.2.chg0 (by repeat (with_reducible first | exact Chg.refl _ _ | refine Chg.alloc ?_ _ | refine Chg.drew ?_)), fun g hg => Or.inl hg⟩
     repeat (with_reducible first | exact hcx | refine Chg.alloc ?_ _ | refine Chg.drew ?_)
end Go.Proofs.YtjakhnhnjhafgaaGreat.Wk
