/- RunMany of the reference: written by a program of mine (wip/gen/gen_many2.py). -/
import Derived.Test.YtjakhnhnjhafgaaGreatMany
import Derived.Test.YtjakhnhnjhafgaaGreatZRefStep7
import Derived.Test.YtjakhnhnjhafgaaGreatZRefStep0
import Derived.Test.YtjakhnhnjhafgaaGreatZRefRunC
import Derived.Test.YtjakhnhnjhafgaaGreatZRefRunOk
import Derived.Test.YtjakhnhnjhafgaaGreatZRefPrg
set_option linter.unusedVariables false
set_option linter.unusedSimpArgs false
namespace Go.Proofs.YtjakhnhnjhafgaaGreat.Wk
open Go Go.RowKit Go.Deep Ow
open Rp (R sz)

theorem retCopy_refMany {x : RunRun} {w : World} {e : Ending} {w' : World} (h : RetCopy x w e w') : RetRun [] x w e w' := by
  obtain ⟨v, base, he, hc, hG, hb⟩ := h
  obtain ⟨G, hR, hO, hge, -⟩ := hG.out
  exact ⟨v, G, he, hc, hR, hO, fun g hg => Or.inr (Nat.le_trans hb (hge g hg))⟩
theorem refManyNo_c (p : PrgProg) (r : RunRun) (ins : List Int) (fuel : Int) (vP vF vI : Value) (FP FF FI : List Nat) (w : World) (hP : RL w p.Procs vP FP) (h : RL w r.Frames vF FF) (hI : RL w ins vI FI) (hfu : I64 fuel) (hno : runOk p r = false ∨ 300 < fuel) :
    Calls Tryz.prog 33 #[.agg #[vP], runV r vF, vI, .int .i64 fuel] w (RetRun [] (runMany p r ins fuel) w) := by
  have hX := Lib.hid (many_no (ins := ins) hno)
  have hrk : ∀ wx, Chg [] w wx → Calls Tryz.prog 18 #[.agg #[vP], runV r vF] wx (fun e w' => e = .returned (.bool (runOk p r)) ∧ Chg [] wx w') := fun wx hx => refRunOk_c p r _ _ _ _ wx (hP.chg0 hx) (h.chg0 hx)
  obtain ⟨AP, cP, rfl, -, -⟩ := hP.form
  obtain ⟨AF, cF, rfl, -, -⟩ := h.form
  obtain ⟨AI, cI, rfl, hI1, hI2⟩ := hI.form
  have hIlen : (ins.length : Int) ≤ 9223372036854775807 := by have h2 := hI2; unfold maxLen at h2; omega
  clear hI1 hI2
  clear hI hP h
  generalize runOk p r = ok at hrk hno
  cases ok
  · clear hno
    go_enter Tryz.func33, Tryz.ntmps33
    go_wp2_with (go_at_call 18; refine (hrk _ (by repeat (first | with_reducible refine Chg.setCell ?_ (Or.inr (by first | (simp; done) | (simp; omega))) _ | with_reducible refine Chg.alloc ?_ _ | with_reducible refine Chg.drewN ?_ _ | with_reducible refine Chg.drew ?_ | with_reducible exact Chg.refl _ _ | with_reducible assumption))).mono ?_; rintro e w8 ⟨rfl, hc8⟩; have q0 : w8.cell? ⟨w.heap.size + 2, 0, none⟩ = some (.int .i64 0) := hc8.cell0 (by simp [go_sem]); have q1 : w8.cell? ⟨w.heap.size + 2, 1, none⟩ = some (.slice none 0 0) := hc8.cell0 (by simp [go_sem]); have q2 : w8.cell? ⟨w.heap.size + 2, 2, none⟩ = some (.int .i64 0) := hc8.cell0 (by simp [go_sem]); have q3 : w8.cell? ⟨w.heap.size + 2, 3, none⟩ = some (.int .i64 0) := hc8.cell0 (by simp [go_sem]); have q4 : w8.cell? ⟨w.heap.size + 2, 4, none⟩ = some (.int .i64 0) := hc8.cell0 (by simp [go_sem]); have z0 : w8.frozen? ⟨w.heap.size + 2, 0, none⟩ = false := (hc8.cells.2 (w.heap.size + 2) 0 (by simp [go_sem])).trans (by simp [go_sem]); have z1 : w8.frozen? ⟨w.heap.size + 2, 1, none⟩ = false := (hc8.cells.2 (w.heap.size + 2) 1 (by simp [go_sem])).trans (by simp [go_sem]); have z2 : w8.frozen? ⟨w.heap.size + 2, 2, none⟩ = false := (hc8.cells.2 (w.heap.size + 2) 2 (by simp [go_sem])).trans (by simp [go_sem]); have z3 : w8.frozen? ⟨w.heap.size + 2, 3, none⟩ = false := (hc8.cells.2 (w.heap.size + 2) 3 (by simp [go_sem])).trans (by simp [go_sem]); have z4 : w8.frozen? ⟨w.heap.size + 2, 4, none⟩ = false := (hc8.cells.2 (w.heap.size + 2) 4 (by simp [go_sem])).trans (by simp [go_sem]); have lz : w.heap.size + 2 < w8.heap.size := Nat.lt_of_lt_of_le (by simp [go_sem]) hc8.size)
    refine bodyPost_ret (v := runV runZero (.slice none 0 0)) ?_ rfl ?_
    · simp [results, Tryz.results33, go_sem, runZero, q0, q1, q2, q3, q4]
    · rw [hX.out]
      exact RetRun.nil_ rfl (by repeat (first | with_reducible refine Chg.setCell ?_ (Or.inr (by first | (simp; done) | (simp; omega))) _ | with_reducible refine Chg.alloc ?_ _ | with_reducible refine Chg.drewN ?_ _ | with_reducible refine Chg.drew ?_ | with_reducible exact Chg.refl _ _ | with_reducible assumption | with_reducible refine Chg.trans0 ?_ hc8))
  · have hf : 300 < fuel := hno.elim (fun h => by cases h) id
    clear hno
    go_enter Tryz.func33, Tryz.ntmps33
    go_wp2_with (go_at_call 18; refine (hrk _ (by repeat (first | with_reducible refine Chg.setCell ?_ (Or.inr (by first | (simp; done) | (simp; omega))) _ | with_reducible refine Chg.alloc ?_ _ | with_reducible refine Chg.drewN ?_ _ | with_reducible refine Chg.drew ?_ | with_reducible exact Chg.refl _ _ | with_reducible assumption))).mono ?_; rintro e w8 ⟨rfl, hc8⟩; have q0 : w8.cell? ⟨w.heap.size + 2, 0, none⟩ = some (.int .i64 0) := hc8.cell0 (by simp [go_sem]); have q1 : w8.cell? ⟨w.heap.size + 2, 1, none⟩ = some (.slice none 0 0) := hc8.cell0 (by simp [go_sem]); have q2 : w8.cell? ⟨w.heap.size + 2, 2, none⟩ = some (.int .i64 0) := hc8.cell0 (by simp [go_sem]); have q3 : w8.cell? ⟨w.heap.size + 2, 3, none⟩ = some (.int .i64 0) := hc8.cell0 (by simp [go_sem]); have q4 : w8.cell? ⟨w.heap.size + 2, 4, none⟩ = some (.int .i64 0) := hc8.cell0 (by simp [go_sem]); have z0 : w8.frozen? ⟨w.heap.size + 2, 0, none⟩ = false := (hc8.cells.2 (w.heap.size + 2) 0 (by simp [go_sem])).trans (by simp [go_sem]); have z1 : w8.frozen? ⟨w.heap.size + 2, 1, none⟩ = false := (hc8.cells.2 (w.heap.size + 2) 1 (by simp [go_sem])).trans (by simp [go_sem]); have z2 : w8.frozen? ⟨w.heap.size + 2, 2, none⟩ = false := (hc8.cells.2 (w.heap.size + 2) 2 (by simp [go_sem])).trans (by simp [go_sem]); have z3 : w8.frozen? ⟨w.heap.size + 2, 3, none⟩ = false := (hc8.cells.2 (w.heap.size + 2) 3 (by simp [go_sem])).trans (by simp [go_sem]); have z4 : w8.frozen? ⟨w.heap.size + 2, 4, none⟩ = false := (hc8.cells.2 (w.heap.size + 2) 4 (by simp [go_sem])).trans (by simp [go_sem]); have lz : w.heap.size + 2 < w8.heap.size := Nat.lt_of_lt_of_le (by simp [go_sem]) hc8.size)
    refine bodyPost_ret (v := runV runZero (.slice none 0 0)) ?_ rfl ?_
    · simp [results, Tryz.results33, go_sem, runZero, q0, q1, q2, q3, q4]
    · rw [hX.out]
      exact RetRun.nil_ rfl (by repeat (first | with_reducible refine Chg.setCell ?_ (Or.inr (by first | (simp; done) | (simp; omega))) _ | with_reducible refine Chg.alloc ?_ _ | with_reducible refine Chg.drewN ?_ _ | with_reducible refine Chg.drew ?_ | with_reducible exact Chg.refl _ _ | with_reducible assumption | with_reducible refine Chg.trans0 ?_ hc8))
set_option maxRecDepth 100000 in
set_option maxHeartbeats 8000000 in
theorem refManyGo_c (p : PrgProg) (r : RunRun) (ins : List Int) (fuel : Int) (vP vF vI : Value) (FP FF FI : List Nat) (w : World) (hP : RL w p.Procs vP FP) (h : RL w r.Frames vF FF) (hI : RL w ins vI FI) (hfu : I64 fuel) (hok : runOk p r = true) (hf : fuel ≤ 300) :
    Calls Tryz.prog 33 #[.agg #[vP], runV r vF, vI, .int .i64 fuel] w (RetRun [] (runMany p r ins fuel) w) := by
  have hM0 := Lib.hid (Many.start (ins := ins) hok hf)
  have hfr := runOk_frames hok
  generalize runMany p r ins fuel = X at hM0 ⊢
  have hrk : ∀ wx, Chg [] w wx → Calls Tryz.prog 18 #[.agg #[vP], runV r vF] wx (fun e w' => e = .returned (.bool true) ∧ Chg [] wx w') := fun wx hx => by
    have := refRunOk_c p r _ _ _ _ wx (hP.chg0 hx) (h.chg0 hx)
    rw [hok] at this
    exact this
  have hcp : ∀ wx, Chg [] w wx → Calls Tryz.prog 79 #[runV r vF] wx (RetRun [] r wx) := fun wx hx => (refRun_c r _ _ wx (h.chg0 hx) hfr.1 hfr.2).mono (fun e w' hh => retCopy_refMany hh)
  have hat : ∀ wx proc pc, Chg [] w wx → Calls Tryz.prog 22 #[.agg #[vP], .int .i64 proc, .int .i64 pc] wx (fun e w' => e = .returned (atV (prgAt p proc pc)) ∧ Chg [] wx w') := fun wx proc pc hx => refPrgAt_c p proc pc _ _ wx (hP.chg0 hx)
  have hst : ∀ wx (x : RunRun) v G inp, Chg [] w wx → RL wx x.Frames v G → I64 inp → Calls Tryz.prog 25 #[.agg #[vP], runV x v, .int .i64 inp] wx (RetRun [] (runStep p x inp) wx) := fun wx x v G inp hx hR hi => refStep_c p x inp _ _ _ _ wx (hP.chg0 hx) hR hi
  have hI_ := Lib.hid hI
  obtain ⟨AP, cP, rfl, -, -⟩ := hP.form
  obtain ⟨AF, cF, rfl, -, -⟩ := h.form
  obtain ⟨AI, cI, rfl, hI1, hI2⟩ := hI.form
  have hIlen : (ins.length : Int) ≤ 9223372036854775807 := by have h2 := hI2; unfold maxLen at h2; omega
  clear hI1 hI2
  clear hI hP h hok hfr
  go_enter Tryz.func33, Tryz.ntmps33
  go_wp2_with (first
    | (go_at_call 18; refine (hrk _ (by repeat (first | with_reducible refine Chg.setCell ?_ (Or.inr (by first | (simp; done) | (simp; omega))) _ | with_reducible refine Chg.alloc ?_ _ | with_reducible refine Chg.drewN ?_ _ | with_reducible refine Chg.drew ?_ | with_reducible exact Chg.refl _ _ | with_reducible assumption))).mono ?_; rintro e w1 ⟨rfl, hc1⟩; have hK1 : Chg [] w w1 := Chg.trans0 (show Chg [] w _ from by repeat (first | with_reducible refine Chg.setCell ?_ (Or.inr (by first | (simp; done) | (simp; omega))) _ | with_reducible refine Chg.alloc ?_ _ | with_reducible refine Chg.drewN ?_ _ | with_reducible refine Chg.drew ?_ | with_reducible exact Chg.refl _ _ | with_reducible assumption)) hc1; have r0 := hc1.cell0 (p := ⟨w.heap.size + 1, 0, none⟩) (v := .int .i64 r.State) (by simp [go_sem]); have r1 := hc1.cell0 (p := ⟨w.heap.size + 1, 1, none⟩) (v := .slice AF r.Frames.length cF) (by simp [go_sem]); have r2 := hc1.cell0 (p := ⟨w.heap.size + 1, 2, none⟩) (v := .int .i64 r.Out) (by simp [go_sem]); have r3 := hc1.cell0 (p := ⟨w.heap.size + 1, 3, none⟩) (v := .int .i64 r.Proc) (by simp [go_sem]); have r4 := hc1.cell0 (p := ⟨w.heap.size + 1, 4, none⟩) (v := .int .i64 r.Pc) (by simp [go_sem]); have pb1 := hc1.cell0 (p := ⟨w.heap.size, 0, none⟩) (v := .slice AP p.Procs.length cP) (by simp [go_sem]); have q0 : w1.cell? ⟨w.heap.size + 2, 0, none⟩ = some (.int .i64 0) := hc1.cell0 (by simp [go_sem]); have q1 : w1.cell? ⟨w.heap.size + 2, 1, none⟩ = some (.slice none 0 0) := hc1.cell0 (by simp [go_sem]); have q2 : w1.cell? ⟨w.heap.size + 2, 2, none⟩ = some (.int .i64 0) := hc1.cell0 (by simp [go_sem]); have q3 : w1.cell? ⟨w.heap.size + 2, 3, none⟩ = some (.int .i64 0) := hc1.cell0 (by simp [go_sem]); have q4 : w1.cell? ⟨w.heap.size + 2, 4, none⟩ = some (.int .i64 0) := hc1.cell0 (by simp [go_sem]); have z0 : w1.frozen? ⟨w.heap.size + 2, 0, none⟩ = false := (hc1.cells.2 (w.heap.size + 2) 0 (by simp [go_sem])).trans (by simp [go_sem]); have z1 : w1.frozen? ⟨w.heap.size + 2, 1, none⟩ = false := (hc1.cells.2 (w.heap.size + 2) 1 (by simp [go_sem])).trans (by simp [go_sem]); have z2 : w1.frozen? ⟨w.heap.size + 2, 2, none⟩ = false := (hc1.cells.2 (w.heap.size + 2) 2 (by simp [go_sem])).trans (by simp [go_sem]); have z3 : w1.frozen? ⟨w.heap.size + 2, 3, none⟩ = false := (hc1.cells.2 (w.heap.size + 2) 3 (by simp [go_sem])).trans (by simp [go_sem]); have z4 : w1.frozen? ⟨w.heap.size + 2, 4, none⟩ = false := (hc1.cells.2 (w.heap.size + 2) 4 (by simp [go_sem])).trans (by simp [go_sem]); have lz : w.heap.size + 2 < w1.heap.size := Nat.lt_of_lt_of_le (by simp [go_sem]) hc1.size; have fzn1 : ∀ j, w1.frozen? ⟨w.heap.size + 2, j, none⟩ = false := fun j => (hc1.cells.2 (w.heap.size + 2) j (by simp [go_sem])).trans (by simp [go_sem]); clear hc1 hrk)
    | (go_at_call 79; refine (hcp _ (by repeat (first | with_reducible refine Chg.setCell ?_ (Or.inr (by first | (simp; done) | (simp; omega))) _ | with_reducible refine Chg.alloc ?_ _ | with_reducible refine Chg.drewN ?_ _ | with_reducible refine Chg.drew ?_ | with_reducible exact Chg.refl _ _ | with_reducible assumption | with_reducible refine Chg.trans0 ?_ hK1))).mono ?_; rintro e w9 ⟨v9, G9, rfl, hc9, r9, o9, g9⟩; obtain ⟨A9, k9, c9, rfl⟩ := form3 r9; have hY : Chg [] w1 w9 := Chg.trans0 (show Chg [] w1 _ from by repeat (first | with_reducible refine Chg.setCell ?_ (Or.inr (by first | (simp; done) | (simp; omega))) _ | with_reducible refine Chg.alloc ?_ _ | with_reducible refine Chg.drewN ?_ _ | with_reducible refine Chg.drew ?_ | with_reducible exact Chg.refl _ _ | with_reducible assumption)) hc9; have hY0 := Nat.le_trans lz (show Chg [] w1 _ from by repeat (first | with_reducible refine Chg.setCell ?_ (Or.inr (by first | (simp; done) | (simp; omega))) _ | with_reducible refine Chg.alloc ?_ _ | with_reducible refine Chg.drewN ?_ _ | with_reducible refine Chg.drew ?_ | with_reducible exact Chg.refl _ _ | with_reducible assumption)).size; have hK9 := hK1.trans0 hY; have uq0 := hY.cell0 q0; have uq1 := hY.cell0 q1; have uq2 := hY.cell0 q2; have uq3 := hY.cell0 q3; have uq4 := hY.cell0 q4; have y0 : w9.frozen? ⟨w.heap.size + 2, 0, none⟩ = false := (hY.cells.2 (w.heap.size + 2) 0 lz).trans z0; have y1 : w9.frozen? ⟨w.heap.size + 2, 1, none⟩ = false := (hY.cells.2 (w.heap.size + 2) 1 lz).trans z1; have y2 : w9.frozen? ⟨w.heap.size + 2, 2, none⟩ = false := (hY.cells.2 (w.heap.size + 2) 2 lz).trans z2; have y3 : w9.frozen? ⟨w.heap.size + 2, 3, none⟩ = false := (hY.cells.2 (w.heap.size + 2) 3 lz).trans z3; have y4 : w9.frozen? ⟨w.heap.size + 2, 4, none⟩ = false := (hY.cells.2 (w.heap.size + 2) 4 lz).trans z4; have pb9 := hY.cell0 pb1; have fz9 : ∀ j, w9.frozen? ⟨w.heap.size + 2, j, none⟩ = false := fun j => (hY.cells.2 (w.heap.size + 2) j lz).trans (fzn1 j); have lz9 := Nat.lt_of_lt_of_le lz hY.size; clear hc9 hcp))
  go_loopw [10, 11] (fun ks ns wr => ∃ (k n : Nat) (x : RunRun) (v : Value) (G : List Nat), ks = .int .i64 k ∧ ns = .int .i64 n ∧ k ≤ ins.length ∧ Many p X fuel.toNat n x (ins.drop k) ∧ Chg [] w wr ∧ ManyBox w.heap.size w9.heap.size (.slice AP p.Procs.length cP) x v wr ∧ RL wr x.Frames v G ∧ Own wr G ∧ ∀ g ∈ G, w.heap.size + 2 < g ∧ g ≠ w9.heap.size) (fun _ i _ => fuel.toNat - (intOf i).toNat)
  case atStart =>
    have g9q : ∀ g ∈ G9, w.heap.size + 2 < g := fun g hg => (g9 g hg).elim (fun h1 => absurd h1 (by simp)) (fun h1 => Nat.le_trans hY0 h1)
    refine ⟨0, 0, r, .slice A9 k9 c9, G9, rfl, rfl, Nat.zero_le _, hM0.out, by repeat (first | with_reducible refine Chg.setCell ?_ (Or.inr (by first | (simp; done) | (simp; omega))) _ | with_reducible refine Chg.alloc ?_ _ | with_reducible refine Chg.drewN ?_ _ | with_reducible refine Chg.drew ?_ | with_reducible exact Chg.refl _ _ | with_reducible assumption | with_reducible refine Chg.trans0 ?_ hK9), ?_, r9.chg0 (by repeat (first | with_reducible refine Chg.setCell ?_ (Or.inr (by first | (simp; done) | (simp; omega))) _ | with_reducible refine Chg.alloc ?_ _ | with_reducible refine Chg.drewN ?_ _ | with_reducible refine Chg.drew ?_ | with_reducible exact Chg.refl _ _ | with_reducible assumption)), o9.chg0 (by repeat (first | with_reducible refine Chg.setCell ?_ (Or.inr (by first | (simp; done) | (simp; omega))) _ | with_reducible refine Chg.alloc ?_ _ | with_reducible refine Chg.drewN ?_ _ | with_reducible refine Chg.drew ?_ | with_reducible exact Chg.refl _ _ | with_reducible assumption)), fun g hg => ⟨g9q g hg, fun e => absurd (o9.lt g hg) (by omega)⟩⟩
    exact ⟨(show Chg [] w9 _ from by repeat (first | with_reducible refine Chg.setCell ?_ (Or.inr (by first | (simp; done) | (simp; omega))) _ | with_reducible refine Chg.alloc ?_ _ | with_reducible refine Chg.drewN ?_ _ | with_reducible refine Chg.drew ?_ | with_reducible exact Chg.refl _ _ | with_reducible assumption)).cell0 pb9, (show Chg [] w9 _ from by repeat (first | with_reducible refine Chg.setCell ?_ (Or.inr (by first | (simp; done) | (simp; omega))) _ | with_reducible refine Chg.alloc ?_ _ | with_reducible refine Chg.drewN ?_ _ | with_reducible refine Chg.drew ?_ | with_reducible exact Chg.refl _ _ | with_reducible assumption)).cell0 uq0, (show Chg [] w9 _ from by repeat (first | with_reducible refine Chg.setCell ?_ (Or.inr (by first | (simp; done) | (simp; omega))) _ | with_reducible refine Chg.alloc ?_ _ | with_reducible refine Chg.drewN ?_ _ | with_reducible refine Chg.drew ?_ | with_reducible exact Chg.refl _ _ | with_reducible assumption)).cell0 uq1, (show Chg [] w9 _ from by repeat (first | with_reducible refine Chg.setCell ?_ (Or.inr (by first | (simp; done) | (simp; omega))) _ | with_reducible refine Chg.alloc ?_ _ | with_reducible refine Chg.drewN ?_ _ | with_reducible refine Chg.drew ?_ | with_reducible exact Chg.refl _ _ | with_reducible assumption)).cell0 uq2, (show Chg [] w9 _ from by repeat (first | with_reducible refine Chg.setCell ?_ (Or.inr (by first | (simp; done) | (simp; omega))) _ | with_reducible refine Chg.alloc ?_ _ | with_reducible refine Chg.drewN ?_ _ | with_reducible refine Chg.drew ?_ | with_reducible exact Chg.refl _ _ | with_reducible assumption)).cell0 uq3, (show Chg [] w9 _ from by repeat (first | with_reducible refine Chg.setCell ?_ (Or.inr (by first | (simp; done) | (simp; omega))) _ | with_reducible refine Chg.alloc ?_ _ | with_reducible refine Chg.drewN ?_ _ | with_reducible refine Chg.drew ?_ | with_reducible exact Chg.refl _ _ | with_reducible assumption)).cell0 uq4, fun j => ((show Chg [] w9 _ from by repeat (first | with_reducible refine Chg.setCell ?_ (Or.inr (by first | (simp; done) | (simp; omega))) _ | with_reducible refine Chg.alloc ?_ _ | with_reducible refine Chg.drewN ?_ _ | with_reducible refine Chg.drew ?_ | with_reducible exact Chg.refl _ _ | with_reducible assumption)).cells.2 _ j lz9).trans (fz9 j), by simp [go_sem], by simp [go_sem], by simp [go_sem], by simp [go_sem], by simp [go_sem], fun j => by simp [go_sem], lz9, by simp [go_sem]⟩
  case round =>
    obtain ⟨k, n, x, v, G, rfl, rfl, hk, hM, hc, hB, hR, hO, hG⟩ := hrel
    have hKz := Lib.hid hK9
    clear hY hY0 hK9 hK1 uq0 uq1 uq2 uq3 uq4 y0 y1 y2 y3 y4 pb9 fz9 lz9 q0 q1 q2 q3 q4 z0 z1 z2 z3 z4 lz r0 r1 r2 r3 r4 pb1 fzn1 r9 o9 g9 hM0
    have p0 := hB.p0
    have c0 := hB.c0
    have c1 := hB.c1
    have c2 := hB.c2
    have c3 := hB.c3
    have c4 := hB.c4
    have lt := hB.lt
    have ltB := hB.ltB
    have lN : w.heap.size < wr.heap.size := by omega
    have lN2 : w.heap.size + 2 < wr.heap.size := by omega
    have hnN := hM.le
    by_cases hnf : (n : Int) < fuel
    · by_cases hs : x.State = 1
      · have ok := hM.ok
        obtain ⟨m, i, ha⟩ := stand_at ok hs
        have ml := ha.lt
        obtain ⟨b, off, cap, cs, Fi, ev, r1, m1, -⟩ := hR.elem ml
        have lb : b < wr.heap.size := by
          have := m1 0 (by decide)
          obtain ⟨vV, FV, vC, FC, rfl, -⟩ := R_RunFrame.1 r1
          exact World.block_lt_of_cell? _ _ this
        obtain ⟨vV, FV, vC, FC, rfl, hF1, iP, iC, gV, gC⟩ := R_RunFrame.1 r1
        rw [ha.len] at ev
        subst ev
        have ya0 := m1 0 (by decide)
        have ya1 := m1 1 (by decide)
        have ya2 := m1 2 (by decide)
        have ya3 := m1 3 (by decide)
        simp only [sz_RunFrame, Nat.add_zero, List.getElem?_cons_zero, List.getElem?_cons_succ] at ya0 ya1 ya2 ya3
        obtain ⟨AV, nV, cV, rfl⟩ := form3 gV
        obtain ⟨AC, nC, cC, rfl⟩ := form3 gC
        have hm5 : (m : Int) ≤ 4 := by have h1 := ha.len; have h2 := (runOk_frames ok).1; omega
        have hsub : ((m : Int) + 1 - 1) = m := by omega
        rw [hs] at c0
        have eg := ha.eq
        have hat' : ∀ wx, Chg [] w wx → Calls Tryz.prog 22 #[.agg #[.slice AP p.Procs.length cP], .int .i64 x.Frames[m].Proc, .int .i64 x.Frames[m].Pc] wx (fun e w' => e = .returned (atV (some i)) ∧ Chg [] wx w') := fun wx hx => by
          have := hat wx x.Frames[m].Proc x.Frames[m].Pc hx
          rw [ha.at_] at this
          exact this
        have hM_ := Lib.hid hM
        have hs_ := Lib.hid hs
        have eg_ := Lib.hid eg
        have ha_ := Lib.hid ha
        have hR_ := Lib.hid hR
        have hO_ := Lib.hid hO
        have hG_ := Lib.hid hG
        have hB_ := Lib.hid hB
        have hok_ := Lib.hid ok
        have hst_ := Lib.hid hst
        clear hM hs eg ha hR hO hG hB ok hst hat m1 r1 gV gC iP iC
        go_wp2_with fail
        generalize hWq : World.alloc _ _ = wq
        have hKq : Chg [] wr wq := hWq ▸ by repeat (first | with_reducible refine Chg.setCell ?_ (Or.inr (by first | (simp; done) | (simp; omega))) _ | with_reducible refine Chg.alloc ?_ _ | with_reducible refine Chg.drewN ?_ _ | with_reducible refine Chg.drew ?_ | with_reducible exact Chg.refl _ _ | with_reducible assumption)
        clear hWq
        refine (hat' _ (hc.trans0 hKq)).mono ?_
        rintro e w3 ⟨rfl, hc3⟩
        have hK3 := hKq.trans0 hc3
        have hw3 := hc.trans0 hK3
        have hB3 := hB_.out.chg hK3
        have p0 := hB3.p0
        have c0 := hB3.c0
        have c1 := hB3.c1
        have c2 := hB3.c2
        have c3 := hB3.c3
        have c4 := hB3.c4
        rw [hs_.out] at c0
        have lt3 := hB3.lt
        have ltB3 := hB3.ltB
        have lN3 : w.heap.size < w3.heap.size := by omega
        have hR3 := Lib.hid (hR_.out.chg0 hK3)
        have hO3 := Lib.hid (hO_.out.chg0 hK3)
        have hGs := Lib.hid (show ∀ g ∈ G, g < wr.heap.size from hO_.out.lt)
        have hB3_ := Lib.hid hB3
        clear hB3 hat' hc3 hKq hc hB_ hR_ hO_ ya0 ya1 ya2 ya3
        obtain ⟨iOp, iD, iA, iB, iRel, iLo, iHi, iTo⟩ := i
        by_cases h5 : iOp = 5
        · subst h5
          by_cases hkl : k < ins.length
          · obtain ⟨bI, oI, qI, eI, yI, jI, lI⟩ := (hI_.out.chg0 hw3).at1 hkl
            injection eI with eI1 _ eI2
            subst eI1 eI2
            have hkl2 : (k : Int) < ins.length := by omega
            have hkl3 : (k : Int) < 9223372036854775807 := by omega
            have hN := Lib.hid (hM_.out.drop_in (by omega) hs_.out ha_.out rfl hkl)
            have es := Lib.hid (show runStep p x ins[k] = stepped p x ins[k] by unfold runStep; rw [if_pos hok_.out, if_pos hs_.out])
            have hcl : ∀ wx, Chg [] w3 wx → Calls Tryz.prog 25 #[.agg #[.slice AP p.Procs.length cP], .agg #[.int .i64 1, .slice (some ⟨b, off, none⟩) (m + 1) cap, .int .i64 x.Out, .int .i64 x.Proc, .int .i64 x.Pc], .int .i64 ins[k]] wx (RetRun [] (stepped p x ins[k]) wx) := fun wx hx => by
              have := hst_.out wx x _ G ins[k] (hw3.trans0 hx) (hR3.out.chg0 hx) jI
              rw [es.out] at this
              simp only [runV] at this
              rw [hs_.out] at this
              exact this
            clear es
            generalize stepped p x ins[k] = x5 at hcl hN
            go_wp2_with fail
            refine (hcl _ (by repeat (first | with_reducible refine Chg.setCell ?_ (Or.inr (by first | (simp; done) | (simp; omega))) _ | with_reducible refine Chg.alloc ?_ _ | with_reducible refine Chg.drewN ?_ _ | with_reducible refine Chg.drew ?_ | with_reducible exact Chg.refl _ _ | with_reducible assumption))).mono ?_
            rintro e w5 ⟨v5, G5, rfl, hc5, r5, o5, g5⟩
            obtain ⟨A5, n5, e5, rfl⟩ := form3 r5
            have hK5 : Chg [] w3 w5 := Chg.trans0 (show Chg [] w3 _ from by repeat (first | with_reducible refine Chg.setCell ?_ (Or.inr (by first | (simp; done) | (simp; omega))) _ | with_reducible refine Chg.alloc ?_ _ | with_reducible refine Chg.drewN ?_ _ | with_reducible refine Chg.drew ?_ | with_reducible exact Chg.refl _ _ | with_reducible assumption)) hc5
            have hB5 := hB3_.out.chg hK5
            have hs5 := hK5.size
            have g5q := Lib.hid (show ∀ g ∈ G5, w3.heap.size ≤ g from fun g hg => (g5 g hg).elim (fun h1 => absurd h1 (by simp)) (fun h1 => Nat.le_trans (show Chg [] w3 _ from by repeat (first | with_reducible refine Chg.setCell ?_ (Or.inr (by first | (simp; done) | (simp; omega))) _ | with_reducible refine Chg.alloc ?_ _ | with_reducible refine Chg.drewN ?_ _ | with_reducible refine Chg.drew ?_ | with_reducible exact Chg.refl _ _ | with_reducible assumption)).size h1))
            have r5_ := Lib.hid r5
            have o5_ := Lib.hid o5
            have hw5 := hw3.trans0 hK5
            have d0 := hB5.c0
            have d1 := hB5.c1
            have d2 := hB5.c2
            have d3 := hB5.c3
            have d4 := hB5.c4
            have lB5 := hB5.ltB
            have zB := hB5.zB
            have zb0 := zB 0
            have zb1 := zB 1
            have zb2 := zB 2
            have zb3 := zB 3
            have zb4 := zB 4
            have hB5_ := Lib.hid hB5
            clear hc5 r5 o5 g5 hB5 zB hcl
            go_wp2
            go_roundw
            case rel =>
              have n5q : ∀ g ∈ G5, g ∉ [w9.heap.size] := fun g hg hb => by have h1 := g5q.out g hg; have h2 := List.mem_singleton.1 hb; omega
              refine ⟨k + 1, n + 1, x5, .slice A5 _ e5, G5, by go_num, by go_num, by omega, hN.out, by repeat (first | with_reducible refine Chg.setCell ?_ (Or.inr (by first | (simp; done) | (simp; omega))) _ | with_reducible refine Chg.alloc ?_ _ | with_reducible refine Chg.drewN ?_ _ | with_reducible refine Chg.drew ?_ | with_reducible exact Chg.refl _ _ | with_reducible assumption | with_reducible refine Chg.trans0 ?_ hw5), hB5_.out.turn (by repeat (first | with_reducible refine Chg.setCell ?_ (Or.inl (by first | (simp; done) | (simp; omega))) _ | with_reducible refine Chg.alloc ?_ _ | with_reducible refine Chg.drewN ?_ _ | with_reducible refine Chg.drew ?_ | with_reducible exact Chg.refl _ _ | with_reducible assumption)) ?_ ?_ ?_ ?_ ?_ ?_, r5_.out.chg (G := [w9.heap.size]) (by repeat (first | with_reducible refine Chg.setCell ?_ (Or.inl (by first | (simp; done) | (simp; omega))) _ | with_reducible refine Chg.alloc ?_ _ | with_reducible refine Chg.drewN ?_ _ | with_reducible refine Chg.drew ?_ | with_reducible exact Chg.refl _ _ | with_reducible assumption)) n5q, o5_.out.chg (G := [w9.heap.size]) (by repeat (first | with_reducible refine Chg.setCell ?_ (Or.inl (by first | (simp; done) | (simp; omega))) _ | with_reducible refine Chg.alloc ?_ _ | with_reducible refine Chg.drewN ?_ _ | with_reducible refine Chg.drew ?_ | with_reducible exact Chg.refl _ _ | with_reducible assumption)) n5q, fun g hg => ⟨by have := g5q.out g hg; omega, by have := g5q.out g hg; omega⟩⟩
              all_goals first | (simp [go_sem, lB5, d0, d1, d2, d3, d4]; done) | (intro j; simp [go_sem, hB5_.out.zB j])
            case measure => simp [intOf]; omega
          · have hkl2 : ¬ (k : Int) < ins.length := by omega
            have hN := Lib.hid (hM_.out.drop_out (by omega) hs_.out ha_.out (Or.inr (List.drop_eq_nil_of_le (by omega))))
            have es := Lib.hid (show runStep p x 0 = stepped p x 0 by unfold runStep; rw [if_pos hok_.out, if_pos hs_.out])
            have hcl : ∀ wx, Chg [] w3 wx → Calls Tryz.prog 25 #[.agg #[.slice AP p.Procs.length cP], .agg #[.int .i64 1, .slice (some ⟨b, off, none⟩) (m + 1) cap, .int .i64 x.Out, .int .i64 x.Proc, .int .i64 x.Pc], .int .i64 0] wx (RetRun [] (stepped p x 0) wx) := fun wx hx => by
              have := hst_.out wx x _ G 0 (hw3.trans0 hx) (hR3.out.chg0 hx) I64_0
              rw [es.out] at this
              simp only [runV] at this
              rw [hs_.out] at this
              exact this
            clear es
            generalize stepped p x 0 = x5 at hcl hN
            go_wp2_with fail
            refine (hcl _ (by repeat (first | with_reducible refine Chg.setCell ?_ (Or.inr (by first | (simp; done) | (simp; omega))) _ | with_reducible refine Chg.alloc ?_ _ | with_reducible refine Chg.drewN ?_ _ | with_reducible refine Chg.drew ?_ | with_reducible exact Chg.refl _ _ | with_reducible assumption))).mono ?_
            rintro e w5 ⟨v5, G5, rfl, hc5, r5, o5, g5⟩
            obtain ⟨A5, n5, e5, rfl⟩ := form3 r5
            have hK5 : Chg [] w3 w5 := Chg.trans0 (show Chg [] w3 _ from by repeat (first | with_reducible refine Chg.setCell ?_ (Or.inr (by first | (simp; done) | (simp; omega))) _ | with_reducible refine Chg.alloc ?_ _ | with_reducible refine Chg.drewN ?_ _ | with_reducible refine Chg.drew ?_ | with_reducible exact Chg.refl _ _ | with_reducible assumption)) hc5
            have hB5 := hB3_.out.chg hK5
            have hs5 := hK5.size
            have g5q := Lib.hid (show ∀ g ∈ G5, w3.heap.size ≤ g from fun g hg => (g5 g hg).elim (fun h1 => absurd h1 (by simp)) (fun h1 => Nat.le_trans (show Chg [] w3 _ from by repeat (first | with_reducible refine Chg.setCell ?_ (Or.inr (by first | (simp; done) | (simp; omega))) _ | with_reducible refine Chg.alloc ?_ _ | with_reducible refine Chg.drewN ?_ _ | with_reducible refine Chg.drew ?_ | with_reducible exact Chg.refl _ _ | with_reducible assumption)).size h1))
            have r5_ := Lib.hid r5
            have o5_ := Lib.hid o5
            have hw5 := hw3.trans0 hK5
            have d0 := hB5.c0
            have d1 := hB5.c1
            have d2 := hB5.c2
            have d3 := hB5.c3
            have d4 := hB5.c4
            have lB5 := hB5.ltB
            have zB := hB5.zB
            have zb0 := zB 0
            have zb1 := zB 1
            have zb2 := zB 2
            have zb3 := zB 3
            have zb4 := zB 4
            have hB5_ := Lib.hid hB5
            clear hc5 r5 o5 g5 hB5 zB hcl
            go_wp2
            go_roundw
            case rel =>
              have n5q : ∀ g ∈ G5, g ∉ [w9.heap.size] := fun g hg hb => by have h1 := g5q.out g hg; have h2 := List.mem_singleton.1 hb; omega
              refine ⟨k, n + 1, x5, .slice A5 _ e5, G5, rfl, by go_num, by omega, hN.out, by repeat (first | with_reducible refine Chg.setCell ?_ (Or.inr (by first | (simp; done) | (simp; omega))) _ | with_reducible refine Chg.alloc ?_ _ | with_reducible refine Chg.drewN ?_ _ | with_reducible refine Chg.drew ?_ | with_reducible exact Chg.refl _ _ | with_reducible assumption | with_reducible refine Chg.trans0 ?_ hw5), hB5_.out.turn (by repeat (first | with_reducible refine Chg.setCell ?_ (Or.inl (by first | (simp; done) | (simp; omega))) _ | with_reducible refine Chg.alloc ?_ _ | with_reducible refine Chg.drewN ?_ _ | with_reducible refine Chg.drew ?_ | with_reducible exact Chg.refl _ _ | with_reducible assumption)) ?_ ?_ ?_ ?_ ?_ ?_, r5_.out.chg (G := [w9.heap.size]) (by repeat (first | with_reducible refine Chg.setCell ?_ (Or.inl (by first | (simp; done) | (simp; omega))) _ | with_reducible refine Chg.alloc ?_ _ | with_reducible refine Chg.drewN ?_ _ | with_reducible refine Chg.drew ?_ | with_reducible exact Chg.refl _ _ | with_reducible assumption)) n5q, o5_.out.chg (G := [w9.heap.size]) (by repeat (first | with_reducible refine Chg.setCell ?_ (Or.inl (by first | (simp; done) | (simp; omega))) _ | with_reducible refine Chg.alloc ?_ _ | with_reducible refine Chg.drewN ?_ _ | with_reducible refine Chg.drew ?_ | with_reducible exact Chg.refl _ _ | with_reducible assumption)) n5q, fun g hg => ⟨by have := g5q.out g hg; omega, by have := g5q.out g hg; omega⟩⟩
              all_goals first | (simp [go_sem, lB5, d0, d1, d2, d3, d4]; done) | (intro j; simp [go_sem, hB5_.out.zB j])
            case measure => simp [intOf]; omega
        · have h51 : (iOp == 5) = false := beq_eq_false_iff_ne.2 h5
          have hN := Lib.hid (hM_.out.drop_out (by omega) hs_.out ha_.out (Or.inl h5))
          have es := Lib.hid (show runStep p x 0 = stepped p x 0 by unfold runStep; rw [if_pos hok_.out, if_pos hs_.out])
          have hcl : ∀ wx, Chg [] w3 wx → Calls Tryz.prog 25 #[.agg #[.slice AP p.Procs.length cP], .agg #[.int .i64 1, .slice (some ⟨b, off, none⟩) (m + 1) cap, .int .i64 x.Out, .int .i64 x.Proc, .int .i64 x.Pc], .int .i64 0] wx (RetRun [] (stepped p x 0) wx) := fun wx hx => by
            have := hst_.out wx x _ G 0 (hw3.trans0 hx) (hR3.out.chg0 hx) I64_0
            rw [es.out] at this
            simp only [runV] at this
            rw [hs_.out] at this
            exact this
          clear es
          generalize stepped p x 0 = x5 at hcl hN
          go_wp2_with fail
          refine (hcl _ (by repeat (first | with_reducible refine Chg.setCell ?_ (Or.inr (by first | (simp; done) | (simp; omega))) _ | with_reducible refine Chg.alloc ?_ _ | with_reducible refine Chg.drewN ?_ _ | with_reducible refine Chg.drew ?_ | with_reducible exact Chg.refl _ _ | with_reducible assumption))).mono ?_
          rintro e w5 ⟨v5, G5, rfl, hc5, r5, o5, g5⟩
          obtain ⟨A5, n5, e5, rfl⟩ := form3 r5
          have hK5 : Chg [] w3 w5 := Chg.trans0 (show Chg [] w3 _ from by repeat (first | with_reducible refine Chg.setCell ?_ (Or.inr (by first | (simp; done) | (simp; omega))) _ | with_reducible refine Chg.alloc ?_ _ | with_reducible refine Chg.drewN ?_ _ | with_reducible refine Chg.drew ?_ | with_reducible exact Chg.refl _ _ | with_reducible assumption)) hc5
          have hB5 := hB3_.out.chg hK5
          have hs5 := hK5.size
          have g5q := Lib.hid (show ∀ g ∈ G5, w3.heap.size ≤ g from fun g hg => (g5 g hg).elim (fun h1 => absurd h1 (by simp)) (fun h1 => Nat.le_trans (show Chg [] w3 _ from by repeat (first | with_reducible refine Chg.setCell ?_ (Or.inr (by first | (simp; done) | (simp; omega))) _ | with_reducible refine Chg.alloc ?_ _ | with_reducible refine Chg.drewN ?_ _ | with_reducible refine Chg.drew ?_ | with_reducible exact Chg.refl _ _ | with_reducible assumption)).size h1))
          have r5_ := Lib.hid r5
          have o5_ := Lib.hid o5
          have hw5 := hw3.trans0 hK5
          have d0 := hB5.c0
          have d1 := hB5.c1
          have d2 := hB5.c2
          have d3 := hB5.c3
          have d4 := hB5.c4
          have lB5 := hB5.ltB
          have zB := hB5.zB
          have zb0 := zB 0
          have zb1 := zB 1
          have zb2 := zB 2
          have zb3 := zB 3
          have zb4 := zB 4
          have hB5_ := Lib.hid hB5
          clear hc5 r5 o5 g5 hB5 zB hcl
          go_wp2
          go_roundw
          case rel =>
            have n5q : ∀ g ∈ G5, g ∉ [w9.heap.size] := fun g hg hb => by have h1 := g5q.out g hg; have h2 := List.mem_singleton.1 hb; omega
            refine ⟨k, n + 1, x5, .slice A5 _ e5, G5, rfl, by go_num, by omega, hN.out, by repeat (first | with_reducible refine Chg.setCell ?_ (Or.inr (by first | (simp; done) | (simp; omega))) _ | with_reducible refine Chg.alloc ?_ _ | with_reducible refine Chg.drewN ?_ _ | with_reducible refine Chg.drew ?_ | with_reducible exact Chg.refl _ _ | with_reducible assumption | with_reducible refine Chg.trans0 ?_ hw5), hB5_.out.turn (by repeat (first | with_reducible refine Chg.setCell ?_ (Or.inl (by first | (simp; done) | (simp; omega))) _ | with_reducible refine Chg.alloc ?_ _ | with_reducible refine Chg.drewN ?_ _ | with_reducible refine Chg.drew ?_ | with_reducible exact Chg.refl _ _ | with_reducible assumption)) ?_ ?_ ?_ ?_ ?_ ?_, r5_.out.chg (G := [w9.heap.size]) (by repeat (first | with_reducible refine Chg.setCell ?_ (Or.inl (by first | (simp; done) | (simp; omega))) _ | with_reducible refine Chg.alloc ?_ _ | with_reducible refine Chg.drewN ?_ _ | with_reducible refine Chg.drew ?_ | with_reducible exact Chg.refl _ _ | with_reducible assumption)) n5q, o5_.out.chg (G := [w9.heap.size]) (by repeat (first | with_reducible refine Chg.setCell ?_ (Or.inl (by first | (simp; done) | (simp; omega))) _ | with_reducible refine Chg.alloc ?_ _ | with_reducible refine Chg.drewN ?_ _ | with_reducible refine Chg.drew ?_ | with_reducible exact Chg.refl _ _ | with_reducible assumption)) n5q, fun g hg => ⟨by have := g5q.out g hg; omega, by have := g5q.out g hg; omega⟩⟩
            all_goals first | (simp [go_sem, lB5, d0, d1, d2, d3, d4]; done) | (intro j; simp [go_sem, hB5_.out.zB j])
          case measure => simp [intOf]; omega
      · have eX := hM.stop (Or.inr hs)
        have hs1 : (x.State == 1) = false := beq_eq_false_iff_ne.2 hs
        subst eX
        have q0 := hB.q0
        have q1 := hB.q1
        have q2 := hB.q2
        have q3 := hB.q3
        have q4 := hB.q4
        have z := hB.z
        have z0 := z 0
        have z1 := z 1
        have z2 := z 2
        have z3 := z 3
        have z4 := z 4
        obtain ⟨Av, nv, cv, rfl⟩ := form3 hR
        have n9 : ∀ g ∈ G, g ∉ [w.heap.size + 2] := fun g hg hb => by have h1 := hG g hg; have h2 := List.mem_singleton.1 hb; omega
        have hR_ := Lib.hid hR
        have hO_ := Lib.hid hO
        have hG_ := Lib.hid hG
        have n9_ := Lib.hid n9
        have hc_ := Lib.hid hc
        clear hB hR hO hG n9 z hM hat hst
        go_wp2
        have hc := hc_.out
        refine bodyPost_ret (v := runV x (.slice Av nv cv)) ?_ rfl ?_
        · simp [results, Tryz.results33, go_sem, q0, q1, q2, q3, q4, lN2]
        · exact ⟨_, G, rfl, by repeat (first | with_reducible refine Chg.setCell ?_ (Or.inr (by first | (simp; done) | (simp; omega))) _ | with_reducible refine Chg.alloc ?_ _ | with_reducible refine Chg.drewN ?_ _ | with_reducible refine Chg.drew ?_ | with_reducible exact Chg.refl _ _ | with_reducible assumption | with_reducible refine Chg.trans0 ?_ hc), hR_.out.chg (G := [w.heap.size + 2]) (by repeat (first | with_reducible refine Chg.setCell ?_ (Or.inl (by first | (simp; done) | (simp; omega))) _ | with_reducible refine Chg.alloc ?_ _ | with_reducible refine Chg.drewN ?_ _ | with_reducible refine Chg.drew ?_ | with_reducible exact Chg.refl _ _ | with_reducible assumption)) n9_.out, hO_.out.chg (G := [w.heap.size + 2]) (by repeat (first | with_reducible refine Chg.setCell ?_ (Or.inl (by first | (simp; done) | (simp; omega))) _ | with_reducible refine Chg.alloc ?_ _ | with_reducible refine Chg.drewN ?_ _ | with_reducible refine Chg.drew ?_ | with_reducible exact Chg.refl _ _ | with_reducible assumption)) n9_.out, fun g hg => Or.inr (by have := hG_.out g hg; omega)⟩
    · have eX := hM.stop (Or.inl (by omega))
      subst eX
      have q0 := hB.q0
      have q1 := hB.q1
      have q2 := hB.q2
      have q3 := hB.q3
      have q4 := hB.q4
      have z := hB.z
      have z0 := z 0
      have z1 := z 1
      have z2 := z 2
      have z3 := z 3
      have z4 := z 4
      obtain ⟨Av, nv, cv, rfl⟩ := form3 hR
      have n9 : ∀ g ∈ G, g ∉ [w.heap.size + 2] := fun g hg hb => by have h1 := hG g hg; have h2 := List.mem_singleton.1 hb; omega
      have hR_ := Lib.hid hR
      have hO_ := Lib.hid hO
      have hG_ := Lib.hid hG
      have n9_ := Lib.hid n9
      have hc_ := Lib.hid hc
      clear hB hR hO hG n9 z hM hat hst
      go_wp2
      have hc := hc_.out
      refine bodyPost_ret (v := runV x (.slice Av nv cv)) ?_ rfl ?_
      · simp [results, Tryz.results33, go_sem, q0, q1, q2, q3, q4, lN2]
      · exact ⟨_, G, rfl, by repeat (first | with_reducible refine Chg.setCell ?_ (Or.inr (by first | (simp; done) | (simp; omega))) _ | with_reducible refine Chg.alloc ?_ _ | with_reducible refine Chg.drewN ?_ _ | with_reducible refine Chg.drew ?_ | with_reducible exact Chg.refl _ _ | with_reducible assumption | with_reducible refine Chg.trans0 ?_ hc), hR_.out.chg (G := [w.heap.size + 2]) (by repeat (first | with_reducible refine Chg.setCell ?_ (Or.inl (by first | (simp; done) | (simp; omega))) _ | with_reducible refine Chg.alloc ?_ _ | with_reducible refine Chg.drewN ?_ _ | with_reducible refine Chg.drew ?_ | with_reducible exact Chg.refl _ _ | with_reducible assumption)) n9_.out, hO_.out.chg (G := [w.heap.size + 2]) (by repeat (first | with_reducible refine Chg.setCell ?_ (Or.inl (by first | (simp; done) | (simp; omega))) _ | with_reducible refine Chg.alloc ?_ _ | with_reducible refine Chg.drewN ?_ _ | with_reducible refine Chg.drew ?_ | with_reducible exact Chg.refl _ _ | with_reducible assumption)) n9_.out, fun g hg => Or.inr (by have := hG_.out g hg; omega)⟩
theorem refMany_c (p : PrgProg) (r : RunRun) (ins : List Int) (fuel : Int) (vP vF vI : Value) (FP FF FI : List Nat) (w : World) (hP : RL w p.Procs vP FP) (h : RL w r.Frames vF FF) (hI : RL w ins vI FI) (hfu : I64 fuel) :
    Calls Tryz.prog 33 #[.agg #[vP], runV r vF, vI, .int .i64 fuel] w (RetRun [] (runMany p r ins fuel) w) := by
  cases hok : runOk p r
  · exact refManyNo_c p r ins fuel vP vF vI FP FF FI w hP h hI hfu (Or.inl hok)
  · by_cases hf : fuel ≤ 300
    · exact refManyGo_c p r ins fuel vP vF vI FP FF FI w hP h hI hfu hok hf
    · exact refManyNo_c p r ins fuel vP vF vI FP FF FI w hP h hI hfu (Or.inr (by omega))
end Go.Proofs.YtjakhnhnjhafgaaGreat.Wk
