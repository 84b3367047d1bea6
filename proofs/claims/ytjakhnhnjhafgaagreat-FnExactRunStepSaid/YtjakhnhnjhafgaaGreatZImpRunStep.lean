/- The program's RunStep: written by a program of mine (wip/gen/gen_imprun.py). -/
import Derived.Test.YtjakhnhnjhafgaaGreatZImpStep
import Derived.Test.YtjakhnhnjhafgaaGreatZImplRun
set_option linter.unusedVariables false
set_option linter.unusedSimpArgs false
namespace Go.Proofs.YtjakhnhnjhafgaaGreat.Wk
open Go Go.RowKit Go.Deep Ow
open Rp (R sz)

theorem retCopy_run {x : RunRun} {w : World} {e : Ending} {w' : World} (h : RetCopy x w e w') : RetRun [] x w e w' := by
  obtain ⟨v, base, he, hc, hG, hb⟩ := h
  obtain ⟨G, hR, hO, hge, -⟩ := hG.out
  exact ⟨v, G, he, hc, hR, hO, fun g hg => Or.inr (Nat.le_trans hb (hge g hg))⟩
theorem implStepNo_c (p : PrgProg) (r : RunRun) (inp : Int) (vP vF : Value) (FP FF : List Nat) (w : World) (hP : RL w p.Procs vP FP) (h : RL w r.Frames vF FF) (hno : runOk p r = false) :
    Calls Tryz.prog 14 #[.agg #[vP], runV r vF, .int .i64 inp] w (RetRun [] (runStep p r inp) w) := by
  have hst := Lib.hid (show runStep p r inp = runZero by unfold runStep; rw [hno]; rfl)
  have hrk : ∀ wx, Chg [] w wx → Calls Tryz.prog 64 #[.agg #[vP], runV r vF] wx (fun e w' => e = .returned (.bool false) ∧ Chg [] wx w') := fun wx hx => by
    have := implRunOk_c p r _ _ _ _ wx (hP.chg0 hx) (h.chg0 hx)
    rw [hno] at this
    exact this
  obtain ⟨AP, cP, rfl, -, -⟩ := hP.form
  obtain ⟨AF, cF, rfl, -, -⟩ := h.form
  clear hP h hno
  go_enter Tryz.func14, Tryz.ntmps14
  go_wp2_with (go_at_call 64; refine (hrk _ (Chg.c)).mono ?_; rintro e w8 ⟨rfl, hc8⟩; have q0 : w8.cell? ⟨w.heap.size + 2, 0, none⟩ = some (.int .i64 0) := hc8.cell0 (by simp [go_sem]); have q1 : w8.cell? ⟨w.heap.size + 2, 1, none⟩ = some (.slice none 0 0) := hc8.cell0 (by simp [go_sem]); have q2 : w8.cell? ⟨w.heap.size + 2, 2, none⟩ = some (.int .i64 0) := hc8.cell0 (by simp [go_sem]); have q3 : w8.cell? ⟨w.heap.size + 2, 3, none⟩ = some (.int .i64 0) := hc8.cell0 (by simp [go_sem]); have q4 : w8.cell? ⟨w.heap.size + 2, 4, none⟩ = some (.int .i64 0) := hc8.cell0 (by simp [go_sem]); have z0 : w8.frozen? ⟨w.heap.size + 2, 0, none⟩ = false := (hc8.cells.2 (w.heap.size + 2) 0 (by simp [go_sem])).trans (by simp [go_sem]); have z1 : w8.frozen? ⟨w.heap.size + 2, 1, none⟩ = false := (hc8.cells.2 (w.heap.size + 2) 1 (by simp [go_sem])).trans (by simp [go_sem]); have z2 : w8.frozen? ⟨w.heap.size + 2, 2, none⟩ = false := (hc8.cells.2 (w.heap.size + 2) 2 (by simp [go_sem])).trans (by simp [go_sem]); have z3 : w8.frozen? ⟨w.heap.size + 2, 3, none⟩ = false := (hc8.cells.2 (w.heap.size + 2) 3 (by simp [go_sem])).trans (by simp [go_sem]); have z4 : w8.frozen? ⟨w.heap.size + 2, 4, none⟩ = false := (hc8.cells.2 (w.heap.size + 2) 4 (by simp [go_sem])).trans (by simp [go_sem]); have lz : w.heap.size + 2 < w8.heap.size := Nat.lt_of_lt_of_le (by simp [go_sem]) hc8.size)
  refine bodyPost_ret (v := runV runZero (.slice none 0 0)) ?_ rfl ?_
  · simp [results, Tryz.results14, go_sem, runZero, q0, q1, q2, q3, q4]
  · show RetRun [] (runStep p r inp) w _ _
    rw [hst.out]
    exact RetRun.nil_ rfl (Chg.k)
set_option maxHeartbeats 1000000 in
theorem implStepCopy_c (p : PrgProg) (r : RunRun) (inp : Int) (vP vF : Value) (FP FF : List Nat) (w : World) (hP : RL w p.Procs vP FP) (h : RL w r.Frames vF FF) (hin : I64 inp) (hok : runOk p r = true) (hs : ¬ r.State = 1) :
    Calls Tryz.prog 14 #[.agg #[vP], runV r vF, .int .i64 inp] w (RetRun [] (runStep p r inp) w) := by
  have hst : runStep p r inp = r := by unfold runStep; rw [if_pos hok, if_neg hs]
  have hnil : r.Frames = [] := by
    have hh := hok
    unfold runOk at hh
    rw [if_neg hs] at hh
    simp at hh
    exact hh.2
  have hcp : ∀ wx, Chg [] w wx → Calls Tryz.prog 65 #[runV r vF] wx (RetRun [] (runStep p r inp) wx) := fun wx hx => by
    rw [hst]
    exact (copyRun_c r _ _ wx (h.chg0 hx) (by rw [hnil]; simp) (by rw [hnil]; simp)).mono (fun e w' hh => retCopy_run hh)
  have hsn : (r.State != 1) = true := by simpa using hs
  have hrk : ∀ wx, Chg [] w wx → Calls Tryz.prog 64 #[.agg #[vP], runV r vF] wx (fun e w' => e = .returned (.bool true) ∧ Chg [] wx w') := fun wx hx => by
    have := implRunOk_c p r _ _ _ _ wx (hP.chg0 hx) (h.chg0 hx)
    rw [hok] at this
    exact this
  obtain ⟨AP, cP, rfl, -, -⟩ := hP.form
  obtain ⟨AF, cF, rfl, -, -⟩ := h.form
  clear hP h hok hs hin  hnil hst
  generalize runStep p r inp = x at hcp ⊢
  go_enter Tryz.func14, Tryz.ntmps14
  go_wp2_with (first
    | (go_at_call 64; refine (hrk _ (Chg.c)).mono ?_; rintro e w8 ⟨rfl, hc8⟩; have hK8 : Chg [] w w8 := Chg.trans0 (show Chg [] w _ from Chg.c) hc8; have r0 := hc8.cell0 (p := ⟨w.heap.size + 1, 0, none⟩) (v := .int .i64 r.State) (by simp [go_sem]); have r1 := hc8.cell0 (p := ⟨w.heap.size + 1, 1, none⟩) (v := .slice AF r.Frames.length cF) (by simp [go_sem]); have r2 := hc8.cell0 (p := ⟨w.heap.size + 1, 2, none⟩) (v := .int .i64 r.Out) (by simp [go_sem]); have r3 := hc8.cell0 (p := ⟨w.heap.size + 1, 3, none⟩) (v := .int .i64 r.Proc) (by simp [go_sem]); have r4 := hc8.cell0 (p := ⟨w.heap.size + 1, 4, none⟩) (v := .int .i64 r.Pc) (by simp [go_sem]); have p0 := hc8.cell0 (p := ⟨w.heap.size, 0, none⟩) (v := .slice AP p.Procs.length cP) (by simp [go_sem]); have q0 : w8.cell? ⟨w.heap.size + 2, 0, none⟩ = some (.int .i64 0) := hc8.cell0 (by simp [go_sem]); have q1 : w8.cell? ⟨w.heap.size + 2, 1, none⟩ = some (.slice none 0 0) := hc8.cell0 (by simp [go_sem]); have q2 : w8.cell? ⟨w.heap.size + 2, 2, none⟩ = some (.int .i64 0) := hc8.cell0 (by simp [go_sem]); have q3 : w8.cell? ⟨w.heap.size + 2, 3, none⟩ = some (.int .i64 0) := hc8.cell0 (by simp [go_sem]); have q4 : w8.cell? ⟨w.heap.size + 2, 4, none⟩ = some (.int .i64 0) := hc8.cell0 (by simp [go_sem]); have z0 : w8.frozen? ⟨w.heap.size + 2, 0, none⟩ = false := (hc8.cells.2 (w.heap.size + 2) 0 (by simp [go_sem])).trans (by simp [go_sem]); have z1 : w8.frozen? ⟨w.heap.size + 2, 1, none⟩ = false := (hc8.cells.2 (w.heap.size + 2) 1 (by simp [go_sem])).trans (by simp [go_sem]); have z2 : w8.frozen? ⟨w.heap.size + 2, 2, none⟩ = false := (hc8.cells.2 (w.heap.size + 2) 2 (by simp [go_sem])).trans (by simp [go_sem]); have z3 : w8.frozen? ⟨w.heap.size + 2, 3, none⟩ = false := (hc8.cells.2 (w.heap.size + 2) 3 (by simp [go_sem])).trans (by simp [go_sem]); have z4 : w8.frozen? ⟨w.heap.size + 2, 4, none⟩ = false := (hc8.cells.2 (w.heap.size + 2) 4 (by simp [go_sem])).trans (by simp [go_sem]); have lz : w.heap.size + 2 < w8.heap.size := Nat.lt_of_lt_of_le (by simp [go_sem]) hc8.size)
    | (go_at_call 65; refine (hcp _ (Chg.k)).mono ?_; rintro e w9 ⟨v9, G9, rfl, hc9, r9, o9, g9⟩; obtain ⟨A9, k9, c9, rfl⟩ := form3 r9; have hY : Chg [] w8 w9 := Chg.trans0 (show Chg [] w8 _ from Chg.c) hc9; have hK9 := hK8.trans0 hY; have hY0 := (show Chg [] w8 _ from Chg.c).size; have u0 := hY.cell0 q0; have u1 := hY.cell0 q1; have u2 := hY.cell0 q2; have u3 := hY.cell0 q3; have u4 := hY.cell0 q4; have y0 : w9.frozen? ⟨w.heap.size + 2, 0, none⟩ = false := (hY.cells.2 (w.heap.size + 2) 0 lz).trans z0; have y1 : w9.frozen? ⟨w.heap.size + 2, 1, none⟩ = false := (hY.cells.2 (w.heap.size + 2) 1 lz).trans z1; have y2 : w9.frozen? ⟨w.heap.size + 2, 2, none⟩ = false := (hY.cells.2 (w.heap.size + 2) 2 lz).trans z2; have y3 : w9.frozen? ⟨w.heap.size + 2, 3, none⟩ = false := (hY.cells.2 (w.heap.size + 2) 3 lz).trans z3; have y4 : w9.frozen? ⟨w.heap.size + 2, 4, none⟩ = false := (hY.cells.2 (w.heap.size + 2) 4 lz).trans z4; have lz9 := Nat.lt_of_lt_of_le lz hY.size; have lz9b : w.heap.size + 1 < w9.heap.size := Nat.lt_of_succ_lt lz9))
  all_goals
    have g9' : ∀ g ∈ G9, w.heap.size + 2 < g := fun g hg => (g9 g hg).elim (fun h1 => absurd h1 (by simp)) (fun h1 => Nat.lt_of_lt_of_le (Nat.lt_of_lt_of_le lz hY0) h1)
    have n9 : ∀ g ∈ G9, g ∉ [w.heap.size + 2] := fun g hg hb => by have h1 := g9' g hg; have h2 := List.mem_singleton.1 hb; omega
    refine bodyPost_ret (v := runV x (.slice A9 k9 c9)) ?_ rfl ?_
    · simp [results, Tryz.results14, go_sem, u0, u1, u2, u3, u4, lz9]
    · exact ⟨_, G9, rfl, Chg.k, r9.chg (G := [w.heap.size + 2]) (Chg.g) n9, o9.chg (G := [w.heap.size + 2]) (Chg.g) n9, fun g hg => Or.inr (Nat.le_of_lt (Nat.lt_trans (by omega) (g9' g hg)))⟩
set_option maxHeartbeats 1000000 in
theorem implStepGo_c (p : PrgProg) (r : RunRun) (inp : Int) (vP vF : Value) (FP FF : List Nat) (w : World) (hP : RL w p.Procs vP FP) (h : RL w r.Frames vF FF) (hin : I64 inp) (hok : runOk p r = true) (hs : r.State = 1) :
    Calls Tryz.prog 14 #[.agg #[vP], runV r vF, .int .i64 inp] w (RetRun [] (runStep p r inp) w) := by
  have hst : runStep p r inp = stepped p r inp := by unfold runStep; rw [if_pos hok, if_pos hs]
  have eg := goes_eq (goes_facts hok hs) hs
  have hcp : ∀ wx, Chg [] w wx → Calls Tryz.prog 66 #[.agg #[vP], runV r vF, .int .i64 inp] wx (RetRun [] (runStep p r inp) wx) := fun wx hx => by
    rw [hst]
    have hok2 : runOk p (goes r.Frames) = true := eg ▸ hok
    have := implStepped_c p r.Frames inp _ _ _ _ wx (hP.chg0 hx) (h.chg0 hx) hin hok2
    have e2 : stepped p r inp = stepped p (goes r.Frames) inp := congrArg (fun q => stepped p q inp) eg
    rw [e2]
    have f := goes_facts hok hs
    simp only [runV]
    rw [hs, f.out, f.proc, f.pc]
    exact this
  have hsn : (r.State != 1) = false := by rw [hs]; rfl
  have hrk : ∀ wx, Chg [] w wx → Calls Tryz.prog 64 #[.agg #[vP], runV r vF] wx (fun e w' => e = .returned (.bool true) ∧ Chg [] wx w') := fun wx hx => by
    have := implRunOk_c p r _ _ _ _ wx (hP.chg0 hx) (h.chg0 hx)
    rw [hok] at this
    exact this
  obtain ⟨AP, cP, rfl, -, -⟩ := hP.form
  obtain ⟨AF, cF, rfl, -, -⟩ := h.form
  clear hP h hok hs hin hst eg
  generalize runStep p r inp = x at hcp ⊢
  go_enter Tryz.func14, Tryz.ntmps14
  go_wp2_with (first
    | (go_at_call 64; refine (hrk _ (Chg.c)).mono ?_; rintro e w8 ⟨rfl, hc8⟩; have hK8 : Chg [] w w8 := Chg.trans0 (show Chg [] w _ from Chg.c) hc8; have r0 := hc8.cell0 (p := ⟨w.heap.size + 1, 0, none⟩) (v := .int .i64 r.State) (by simp [go_sem]); have r1 := hc8.cell0 (p := ⟨w.heap.size + 1, 1, none⟩) (v := .slice AF r.Frames.length cF) (by simp [go_sem]); have r2 := hc8.cell0 (p := ⟨w.heap.size + 1, 2, none⟩) (v := .int .i64 r.Out) (by simp [go_sem]); have r3 := hc8.cell0 (p := ⟨w.heap.size + 1, 3, none⟩) (v := .int .i64 r.Proc) (by simp [go_sem]); have r4 := hc8.cell0 (p := ⟨w.heap.size + 1, 4, none⟩) (v := .int .i64 r.Pc) (by simp [go_sem]); have p0 := hc8.cell0 (p := ⟨w.heap.size, 0, none⟩) (v := .slice AP p.Procs.length cP) (by simp [go_sem]); have q0 : w8.cell? ⟨w.heap.size + 2, 0, none⟩ = some (.int .i64 0) := hc8.cell0 (by simp [go_sem]); have q1 : w8.cell? ⟨w.heap.size + 2, 1, none⟩ = some (.slice none 0 0) := hc8.cell0 (by simp [go_sem]); have q2 : w8.cell? ⟨w.heap.size + 2, 2, none⟩ = some (.int .i64 0) := hc8.cell0 (by simp [go_sem]); have q3 : w8.cell? ⟨w.heap.size + 2, 3, none⟩ = some (.int .i64 0) := hc8.cell0 (by simp [go_sem]); have q4 : w8.cell? ⟨w.heap.size + 2, 4, none⟩ = some (.int .i64 0) := hc8.cell0 (by simp [go_sem]); have z0 : w8.frozen? ⟨w.heap.size + 2, 0, none⟩ = false := (hc8.cells.2 (w.heap.size + 2) 0 (by simp [go_sem])).trans (by simp [go_sem]); have z1 : w8.frozen? ⟨w.heap.size + 2, 1, none⟩ = false := (hc8.cells.2 (w.heap.size + 2) 1 (by simp [go_sem])).trans (by simp [go_sem]); have z2 : w8.frozen? ⟨w.heap.size + 2, 2, none⟩ = false := (hc8.cells.2 (w.heap.size + 2) 2 (by simp [go_sem])).trans (by simp [go_sem]); have z3 : w8.frozen? ⟨w.heap.size + 2, 3, none⟩ = false := (hc8.cells.2 (w.heap.size + 2) 3 (by simp [go_sem])).trans (by simp [go_sem]); have z4 : w8.frozen? ⟨w.heap.size + 2, 4, none⟩ = false := (hc8.cells.2 (w.heap.size + 2) 4 (by simp [go_sem])).trans (by simp [go_sem]); have lz : w.heap.size + 2 < w8.heap.size := Nat.lt_of_lt_of_le (by simp [go_sem]) hc8.size)
    | (go_at_call 66; refine (hcp _ (Chg.k)).mono ?_; rintro e w9 ⟨v9, G9, rfl, hc9, r9, o9, g9⟩; obtain ⟨A9, k9, c9, rfl⟩ := form3 r9; have hY : Chg [] w8 w9 := Chg.trans0 (show Chg [] w8 _ from Chg.c) hc9; have hK9 := hK8.trans0 hY; have hY0 := (show Chg [] w8 _ from Chg.c).size; have u0 := hY.cell0 q0; have u1 := hY.cell0 q1; have u2 := hY.cell0 q2; have u3 := hY.cell0 q3; have u4 := hY.cell0 q4; have y0 : w9.frozen? ⟨w.heap.size + 2, 0, none⟩ = false := (hY.cells.2 (w.heap.size + 2) 0 lz).trans z0; have y1 : w9.frozen? ⟨w.heap.size + 2, 1, none⟩ = false := (hY.cells.2 (w.heap.size + 2) 1 lz).trans z1; have y2 : w9.frozen? ⟨w.heap.size + 2, 2, none⟩ = false := (hY.cells.2 (w.heap.size + 2) 2 lz).trans z2; have y3 : w9.frozen? ⟨w.heap.size + 2, 3, none⟩ = false := (hY.cells.2 (w.heap.size + 2) 3 lz).trans z3; have y4 : w9.frozen? ⟨w.heap.size + 2, 4, none⟩ = false := (hY.cells.2 (w.heap.size + 2) 4 lz).trans z4; have lz9 := Nat.lt_of_lt_of_le lz hY.size; have lz9b : w.heap.size + 1 < w9.heap.size := Nat.lt_of_succ_lt lz9))
  all_goals
    have g9' : ∀ g ∈ G9, w.heap.size + 2 < g := fun g hg => (g9 g hg).elim (fun h1 => absurd h1 (by simp)) (fun h1 => Nat.lt_of_lt_of_le (Nat.lt_of_lt_of_le lz hY0) h1)
    have n9 : ∀ g ∈ G9, g ∉ [w.heap.size + 2] := fun g hg hb => by have h1 := g9' g hg; have h2 := List.mem_singleton.1 hb; omega
    refine bodyPost_ret (v := runV x (.slice A9 k9 c9)) ?_ rfl ?_
    · simp [results, Tryz.results14, go_sem, u0, u1, u2, u3, u4, lz9]
    · exact ⟨_, G9, rfl, Chg.k, r9.chg (G := [w.heap.size + 2]) (Chg.g) n9, o9.chg (G := [w.heap.size + 2]) (Chg.g) n9, fun g hg => Or.inr (Nat.le_of_lt (Nat.lt_trans (by omega) (g9' g hg)))⟩
theorem implRunStep_c (p : PrgProg) (r : RunRun) (inp : Int) (vP vF : Value) (FP FF : List Nat) (w : World) (hP : RL w p.Procs vP FP) (h : RL w r.Frames vF FF) (hin : I64 inp) :
    Calls Tryz.prog 14 #[.agg #[vP], runV r vF, .int .i64 inp] w (RetRun [] (runStep p r inp) w) := by
  cases hok : runOk p r
  · exact implStepNo_c p r inp vP vF FP FF w hP h hok
  · by_cases hs : r.State = 1
    · exact implStepGo_c p r inp vP vF FP FF w hP h hin hok hs
    · exact implStepCopy_c p r inp vP vF FP FF w hP h hin hok hs
end Go.Proofs.YtjakhnhnjhafgaaGreat.Wk
