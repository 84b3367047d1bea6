/- The reference's l5Cell at a store: written by a program of mine (wip/gen/gen_refstore.py). -/
import Derived.Test.YtjakhnhnjhafgaaGreatZRefMut
set_option linter.unusedVariables false
set_option linter.unusedSimpArgs false
namespace Go.Proofs.YtjakhnhnjhafgaaGreat.Wk
open Go Go.RowKit Go.Deep Ow
open Rp (R sz)

set_option maxRecDepth 100000 in
set_option maxHeartbeats 4000000 in
theorem refStore_c (r : RunRun) (i : InsIns) (v : Value) (G : List Nat) (w : World) (h : RL w r.Frames v G) (ho : Own w G) (m : Nat) (hm : r.Frames.length = m + 1) (hop : i.Op = 7) (dA : Nat) (hA : i.A = dA) (hdA : dA < r.Frames[m].Vars.length)
    (dB : Nat) (hB : i.B = dB) (hdB : dB < r.Frames[m].Vars.length) (a : Nat) (hav : r.Frames[m].Vars[dA] = a) (ha4 : a < 4) (haC : a < r.Frames[m].Cells.length) (hq : I64 (r.Frames[m].Pc + 1)) :
    Calls Tryz.prog 82 #[runV r v, insV i] w (RetRun G { r with Frames := r.Frames.set m { r.Frames[m] with Cells := r.Frames[m].Cells.set a r.Frames[m].Vars[dB], Pc := r.Frames[m].Pc + 1 } } w) := by
  obtain ⟨b, off, cap, vV, vC, FV, FC, F⟩ := frame_at h ho (i := m) (by omega)
  obtain ⟨bA, oA, cA, EA⟩ := int_at F.rV F.oV hdA
  obtain ⟨bX, oX, kX, EX⟩ := int_at F.rC F.oC haC
  have eX := EX.eq
  subst eX
  have cX := EX.cell
  have hbX : bX < w.heap.size := World.block_lt_of_cell? _ _ cX
  have haI : (a : Int) < r.Frames[m].Cells.length := by omega
  have hbX1 : bX < w.heap.size + 1 := by omega
  have hbX2 : bX < w.heap.size + 1 + 1 := by omega
  have hbX3 : bX < w.heap.size + 1 + 1 + 1 := by omega
  have ev := F.eq
  rw [hm] at ev
  subst ev
  have eV := EA.eq
  subst eV
  have c0 := F.c0
  have c1 := F.c1
  have c2 := F.c2
  have c3 := F.c3
  have cA' := EA.cell
  have hb : b < w.heap.size := World.block_lt_of_cell? _ _ c1
  have hbA : bA < w.heap.size := World.block_lt_of_cell? _ _ cA'
  have hsub : ((m : Int) + 1 - 1) = m := by omega
  have hdI : (dA : Int) < r.Frames[m].Vars.length := by omega
  have hc5 : (m : Int) + 1 ≤ 9223372036854775807 := by
    obtain ⟨A, c, e, h1, h2⟩ := h.form
    unfold maxLen at h2
    omega
  have hb1 : b < w.heap.size + 1 := by omega
  have hb2 : b < w.heap.size + 1 + 1 := by omega
  have hb3 : b < w.heap.size + 1 + 1 + 1 := by omega
  have hbA1 : bA < w.heap.size + 1 := by omega
  have hbA2 : bA < w.heap.size + 1 + 1 := by omega
  have hbA3 : bA < w.heap.size + 1 + 1 + 1 := by omega
  have hin := Lib.hid (show (decide (0 ≤ (a : Int)) && decide ((a : Int) ≤ 3)) = true by simp; omega)
  obtain ⟨bB, oB, cB, EB⟩ := int_at F.rV F.oV hdB
  have eB := EB.eq
  injection eB with eB1 _ eB2
  injection eB1 with eB1
  injection eB1 with eB1 eB3
  subst eB1 eB2 eB3
  have cBB := EB.cell
  have hdBI : (dB : Int) < r.Frames[m].Vars.length := by omega
  have fzX := EX.fz (oX + a)
  have hlt := Lib.hid (fun g (hg : g ∈ G) => h.lt g hg)
  rw [hav] at cA'
  have hR1 : ∀ n, I64 n → RL (w.setCell ⟨bX, oX + a, none⟩ (.int .i64 n)) (r.Frames.set m { r.Frames[m] with Cells := r.Frames[m].Cells.set a n }) (.slice (some ⟨b, off, none⟩) (m + 1) cap) G ∧ Own (w.setCell ⟨bX, oX + a, none⟩ (.int .i64 n)) G ∧ Chg G w (w.setCell ⟨bX, oX + a, none⟩ (.int .i64 n)) := fun n hn =>
    have e := EX.set w n (Chg.refl _ _) hn
    have s := F.setC _ _ e.1 e.2.1 e.2.2
    ⟨s.1, s.2, e.2.2.mono F.subC⟩
  have HR := Lib.hid (hR1 _ EB.bnd)
  have hm' := Lib.hid (show (r.Frames.set m { r.Frames[m] with Cells := r.Frames[m].Cells.set a r.Frames[m].Vars[dB] }).length = m + 1 by rw [List.length_set]; exact hm)
  have hgo := fun (wx : World) (hx : Chg [] (w.setCell ⟨bX, oX + a, none⟩ (.int .i64 r.Frames[m].Vars[dB])) wx) => refGo_c { r with Frames := r.Frames.set m { r.Frames[m] with Cells := r.Frames[m].Cells.set a r.Frames[m].Vars[dB] } } _ G wx (HR.out.1.chg0 hx) (HR.out.2.1.chg0 hx) m hm'.out (r.Frames[m].Pc + 1) hq
  have hfr := Lib.hid (show (r.Frames.set m { r.Frames[m] with Cells := r.Frames[m].Cells.set a r.Frames[m].Vars[dB] }).set m { (r.Frames.set m { r.Frames[m] with Cells := r.Frames[m].Cells.set a r.Frames[m].Vars[dB] })[m]'(by rw [List.length_set]; omega) with Pc := r.Frames[m].Pc + 1 } = r.Frames.set m { r.Frames[m] with Cells := r.Frames[m].Cells.set a r.Frames[m].Vars[dB], Pc := r.Frames[m].Pc + 1 } by simp [List.set_set])
  obtain ⟨hq1, hq2⟩ := hq
  clear F EA EX EB h ho hav hR1
  obtain ⟨iOp, iD, iA, iB, iRel, iLo, iHi, iTo⟩ := i
  simp only at hA hB hop
  subst hA hB hop
  go_enter Tryz.func82, Tryz.ntmps82
  go_wp2_with (go_at_call 71; refine (specL1In_c _ _ _ _).mono ?_; rintro e w7 ⟨rfl, rfl⟩; rw [hin.out]; clear hc5 hsub)
  go_region
  all_goals
    go_wp2_with fail
    refine (hgo _ (Chg.c)).mono ?_
    rintro e w9 ⟨v9, G9, rfl, hc9, r9, o9, g9⟩
    rw [hfr.out] at r9
    have hcG : Chg G w w9 := Chg.trans (show Chg G w _ from (HR.out.2.2).trans0 (show Chg [] _ _ from Chg.c)) hc9 (fun g hg => Or.inl hg)
    obtain ⟨A9, c9, rfl, -, -⟩ := r9.form
    have q0 : w9.cell? ⟨w.heap.size + 2, 0, none⟩ = some (.int .i64 0) := (hc9.cell (p := ⟨w.heap.size + 2, 0, none⟩) (by simp [go_sem]) (fun hg => absurd (hlt.out _ hg) (by simp))).trans (by simp [go_sem])
    have q1 : w9.cell? ⟨w.heap.size + 2, 1, none⟩ = some (.slice none 0 0) := (hc9.cell (p := ⟨w.heap.size + 2, 1, none⟩) (by simp [go_sem]) (fun hg => absurd (hlt.out _ hg) (by simp))).trans (by simp [go_sem])
    have q2 : w9.cell? ⟨w.heap.size + 2, 2, none⟩ = some (.int .i64 0) := (hc9.cell (p := ⟨w.heap.size + 2, 2, none⟩) (by simp [go_sem]) (fun hg => absurd (hlt.out _ hg) (by simp))).trans (by simp [go_sem])
    have q3 : w9.cell? ⟨w.heap.size + 2, 3, none⟩ = some (.int .i64 0) := (hc9.cell (p := ⟨w.heap.size + 2, 3, none⟩) (by simp [go_sem]) (fun hg => absurd (hlt.out _ hg) (by simp))).trans (by simp [go_sem])
    have q4 : w9.cell? ⟨w.heap.size + 2, 4, none⟩ = some (.int .i64 0) := (hc9.cell (p := ⟨w.heap.size + 2, 4, none⟩) (by simp [go_sem]) (fun hg => absurd (hlt.out _ hg) (by simp))).trans (by simp [go_sem])
    have z0 : w9.frozen? ⟨w.heap.size + 2, 0, none⟩ = false := (World.frozen?_of_block (hc9.block (w.heap.size + 2) (by simp [go_sem]) (fun hg => absurd (hlt.out _ hg) (by simp)))).trans (by simp [go_sem])
    have z1 : w9.frozen? ⟨w.heap.size + 2, 1, none⟩ = false := (World.frozen?_of_block (hc9.block (w.heap.size + 2) (by simp [go_sem]) (fun hg => absurd (hlt.out _ hg) (by simp)))).trans (by simp [go_sem])
    have z2 : w9.frozen? ⟨w.heap.size + 2, 2, none⟩ = false := (World.frozen?_of_block (hc9.block (w.heap.size + 2) (by simp [go_sem]) (fun hg => absurd (hlt.out _ hg) (by simp)))).trans (by simp [go_sem])
    have z3 : w9.frozen? ⟨w.heap.size + 2, 3, none⟩ = false := (World.frozen?_of_block (hc9.block (w.heap.size + 2) (by simp [go_sem]) (fun hg => absurd (hlt.out _ hg) (by simp)))).trans (by simp [go_sem])
    have z4 : w9.frozen? ⟨w.heap.size + 2, 4, none⟩ = false := (World.frozen?_of_block (hc9.block (w.heap.size + 2) (by simp [go_sem]) (fun hg => absurd (hlt.out _ hg) (by simp)))).trans (by simp [go_sem])
    have n9 : ∀ b ∈ G9, b ∉ [w.heap.size + 2] := fun b hb hb' => by
      have h2 := List.mem_singleton.1 hb'
      rcases g9 b hb with h1 | h1
      · have h3 := hlt.out b h1; omega
      · (try simp at h1); omega
    clear hq1 hq2
    go_wp2
    refine bodyPost_ret (v := runV r (.slice A9 (r.Frames.set m { r.Frames[m] with Cells := r.Frames[m].Cells.set a r.Frames[m].Vars[dB], Pc := r.Frames[m].Pc + 1 }).length c9)) ?_ rfl ?_
    · simp [results, Tryz.results82, go_sem, q0, q1, q2, q3, q4, hm]
    · exact ⟨_, G9, rfl, Chg.c, r9.chg (G := [w.heap.size + 2]) (Chg.g) n9, o9.chg (G := [w.heap.size + 2]) (Chg.g) n9, fun g hg => (g9 g hg).imp id (fun h1 => Nat.le_trans (by first | (simp; done) | (simp; omega)) h1)⟩
end Go.Proofs.YtjakhnhnjhafgaaGreat.Wk
