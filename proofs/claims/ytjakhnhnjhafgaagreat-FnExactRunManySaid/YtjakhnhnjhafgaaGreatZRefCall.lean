/- The reference's l5Call where it ends: written by a program of mine (wip/gen/gen_refcall.py). -/
import Derived.Test.YtjakhnhnjhafgaaGreatZRefMut
import Derived.Test.YtjakhnhnjhafgaaGreatZRefCopy
import Derived.Test.YtjakhnhnjhafgaaGreatZRefRunC
set_option linter.unusedVariables false
set_option linter.unusedSimpArgs false
namespace Go.Proofs.YtjakhnhnjhafgaaGreat.Wk
open Go Go.RowKit Go.Deep Ow
open Rp (R sz)

set_option maxRecDepth 100000 in
set_option maxHeartbeats 2000000 in
theorem refCallBad_c (p : PrgProg) (r : RunRun) (i : InsIns) (arg : Int) (vP v : Value) (FP G : List Nat) (w : World) (hP : RL w p.Procs vP FP) (h : RL w r.Frames v G) (ho : Own w G) (m : Nat) (hm : r.Frames.length = m + 1) (k : Nat) (hTo : i.To = k) (hk : k < p.Procs.length) (hbad : ¬ (p.Procs[k].Lo ≤ arg ∧ arg ≤ p.Procs[k].Hi)) :
    Calls Tryz.prog 85 #[.agg #[vP], runV r v, insV i, .int .i64 arg] w (RetRun G (runFail r.Frames[m]) w) := by
  obtain ⟨b, off, cap, vV, vC, FV, FC, F⟩ := frame_in h ho (i := m) (by omega)
  obtain ⟨AV, kV, rfl, -, -⟩ := F.rV.form
  obtain ⟨AC, kC, rfl, -, -⟩ := F.rC.form
  have ev := F.eq
  rw [hm] at ev
  subst ev
  have c0 := F.c0
  have c1 := F.c1
  have c2 := F.c2
  have c3 := F.c3
  have hb : b < w.heap.size := World.block_lt_of_cell? _ _ c1
  have hsub : ((m : Int) + 1 - 1) = m := by omega
  have hc5 : (m : Int) + 1 ≤ 9223372036854775807 := by
    obtain ⟨A, c, e, h1, h2⟩ := h.form
    unfold maxLen at h2
    omega
  have hb1 : b < w.heap.size + 1 := by omega
  have hb2 : b < w.heap.size + 1 + 1 := by omega
  have hb3 : b < w.heap.size + 1 + 1 + 1 := by omega
  have hb4 : b < w.heap.size + 1 + 1 + 1 + 1 := by omega
  obtain ⟨bp, op, kp, cs1, f1, rfl, r1, m1, -⟩ := hP.elem hk
  obtain ⟨vD, FD, rfl, rfl, -, -, g1⟩ := R_PrcProc.1 r1
  obtain ⟨AD, kD, rfl, -, -⟩ := g1.form
  have y0 := m1 0 (by decide)
  have y1 := m1 1 (by decide)
  have y2 := m1 2 (by decide)
  simp only [sz_PrcProc, Nat.add_zero, List.getElem?_cons_zero, List.getElem?_cons_succ] at y0 y1 y2
  have hp : bp < w.heap.size := World.block_lt_of_cell? _ _ y0
  have hp1 : bp < w.heap.size + 1 := by omega
  have hp2 : bp < w.heap.size + 1 + 1 := by omega
  have hp3 : bp < w.heap.size + 1 + 1 + 1 := by omega
  have hp4 : bp < w.heap.size + 1 + 1 + 1 + 1 := by omega
  have hkI : (k : Int) < p.Procs.length := by omega
  have hin := Lib.hid (show (decide (p.Procs[k].Lo ≤ arg) && decide (arg ≤ p.Procs[k].Hi)) = false by
    rw [Bool.eq_false_iff]
    intro hh
    simp only [Bool.and_eq_true, decide_eq_true_eq] at hh
    exact hbad hh)
  clear F h ho hbad hP m1 r1 g1
  obtain ⟨iOp, iD, iA, iB, iRel, iLo, iHi, iTo⟩ := i
  simp only at hTo
  subst hTo
  go_enter Tryz.func85, Tryz.ntmps85
  go_wp2_with (first | (go_at_call 71; refine (specL1In_c _ _ _ _).mono ?_; rintro e w7 ⟨rfl, rfl⟩; rw [hin.out]; have H5 := Lib.hid hc5; clear hc5; simp only []; go_simp; have hc5 := H5.out) | (go_at_call 86; refine (refFail_c r.Frames[m] _ _ _).mono ?_; rintro e w8 ⟨rfl, hc8⟩; clear hc5 hsub; have q0 : w8.cell? ⟨w.heap.size + 3, 0, none⟩ = some (.int .i64 0) := hc8.cell0 (by simp [go_sem]); have q1 : w8.cell? ⟨w.heap.size + 3, 1, none⟩ = some (.slice none 0 0) := hc8.cell0 (by simp [go_sem]); have q2 : w8.cell? ⟨w.heap.size + 3, 2, none⟩ = some (.int .i64 0) := hc8.cell0 (by simp [go_sem]); have q3 : w8.cell? ⟨w.heap.size + 3, 3, none⟩ = some (.int .i64 0) := hc8.cell0 (by simp [go_sem]); have q4 : w8.cell? ⟨w.heap.size + 3, 4, none⟩ = some (.int .i64 0) := hc8.cell0 (by simp [go_sem]); have z0 : w8.frozen? ⟨w.heap.size + 3, 0, none⟩ = false := (hc8.cells.2 (w.heap.size + 3) 0 (by simp [go_sem])).trans (by simp [go_sem]); have z1 : w8.frozen? ⟨w.heap.size + 3, 1, none⟩ = false := (hc8.cells.2 (w.heap.size + 3) 1 (by simp [go_sem])).trans (by simp [go_sem]); have z2 : w8.frozen? ⟨w.heap.size + 3, 2, none⟩ = false := (hc8.cells.2 (w.heap.size + 3) 2 (by simp [go_sem])).trans (by simp [go_sem]); have z3 : w8.frozen? ⟨w.heap.size + 3, 3, none⟩ = false := (hc8.cells.2 (w.heap.size + 3) 3 (by simp [go_sem])).trans (by simp [go_sem]); have z4 : w8.frozen? ⟨w.heap.size + 3, 4, none⟩ = false := (hc8.cells.2 (w.heap.size + 3) 4 (by simp [go_sem])).trans (by simp [go_sem]); have lz : w.heap.size + 3 < w8.heap.size := Nat.lt_of_lt_of_le (by simp [go_sem]) hc8.size))
  refine bodyPost_ret (v := runV (runFail r.Frames[m]) (.slice none 0 0)) ?_ rfl ?_
  · simp [results, Tryz.results85, go_sem, runFail, q0, q1, q2, q3, q4]
  · refine RetRun.nil_ rfl ?_
    have hc9 := hc8.of0 (F := G)
    repeat (with_reducible first | refine Chg.r ?_ _ | refine Chg.alloc ?_ _ | refine Chg.drewN ?_ _ | refine Chg.drew ?_ | exact Chg.refl _ _ | assumption | refine Chg.trans0 ?_ hc8)
set_option maxRecDepth 100000 in
set_option maxHeartbeats 2000000 in
theorem refCallDeep_c (p : PrgProg) (r : RunRun) (i : InsIns) (arg : Int) (vP v : Value) (FP G : List Nat) (w : World) (hP : RL w p.Procs vP FP) (h : RL w r.Frames v G) (ho : Own w G) (m : Nat) (hm : r.Frames.length = m + 1) (k : Nat) (hTo : i.To = k) (hk : k < p.Procs.length) (hok : p.Procs[k].Lo ≤ arg ∧ arg ≤ p.Procs[k].Hi) (h5 : m = 4) :
    Calls Tryz.prog 85 #[.agg #[vP], runV r v, insV i, .int .i64 arg] w (RetRun G runDeep w) := by
  obtain ⟨b, off, cap, vV, vC, FV, FC, F⟩ := frame_in h ho (i := m) (by omega)
  obtain ⟨AV, kV, rfl, -, -⟩ := F.rV.form
  obtain ⟨AC, kC, rfl, -, -⟩ := F.rC.form
  have ev := F.eq
  rw [hm] at ev
  subst ev
  have c0 := F.c0
  have c1 := F.c1
  have c2 := F.c2
  have c3 := F.c3
  have hb : b < w.heap.size := World.block_lt_of_cell? _ _ c1
  have hsub : ((m : Int) + 1 - 1) = m := by omega
  have hc5 : (m : Int) + 1 ≤ 9223372036854775807 := by
    obtain ⟨A, c, e, h1, h2⟩ := h.form
    unfold maxLen at h2
    omega
  have hb1 : b < w.heap.size + 1 := by omega
  have hb2 : b < w.heap.size + 1 + 1 := by omega
  have hb3 : b < w.heap.size + 1 + 1 + 1 := by omega
  have hb4 : b < w.heap.size + 1 + 1 + 1 + 1 := by omega
  obtain ⟨bp, op, kp, cs1, f1, rfl, r1, m1, -⟩ := hP.elem hk
  obtain ⟨vD, FD, rfl, rfl, -, -, g1⟩ := R_PrcProc.1 r1
  obtain ⟨AD, kD, rfl, -, -⟩ := g1.form
  have y0 := m1 0 (by decide)
  have y1 := m1 1 (by decide)
  have y2 := m1 2 (by decide)
  simp only [sz_PrcProc, Nat.add_zero, List.getElem?_cons_zero, List.getElem?_cons_succ] at y0 y1 y2
  have hp : bp < w.heap.size := World.block_lt_of_cell? _ _ y0
  have hp1 : bp < w.heap.size + 1 := by omega
  have hp2 : bp < w.heap.size + 1 + 1 := by omega
  have hp3 : bp < w.heap.size + 1 + 1 + 1 := by omega
  have hp4 : bp < w.heap.size + 1 + 1 + 1 + 1 := by omega
  have hkI : (k : Int) < p.Procs.length := by omega
  have hin := Lib.hid (show (decide (p.Procs[k].Lo ≤ arg) && decide (arg ≤ p.Procs[k].Hi)) = true by simp [hok.1, hok.2])
  have hm5 : ((m : Int) + 1 == 5) = true := by rw [h5]; rfl
  clear F h ho hok hP m1 r1 g1 h5
  obtain ⟨iOp, iD, iA, iB, iRel, iLo, iHi, iTo⟩ := i
  simp only at hTo
  subst hTo
  go_enter Tryz.func85, Tryz.ntmps85
  go_wp2_with (go_at_call 71; refine (specL1In_c _ _ _ _).mono ?_; rintro e w7 ⟨rfl, rfl⟩; rw [hin.out]; clear hc5 hsub)
  refine bodyPost_ret (v := runV runDeep (.slice none 0 0)) ?_ rfl ?_
  · simp [results, Tryz.results85, go_sem, runDeep]
  · refine RetRun.nil_ rfl ?_
    repeat (with_reducible first | refine Chg.r ?_ _ | refine Chg.alloc ?_ _ | refine Chg.drewN ?_ _ | refine Chg.drew ?_ | exact Chg.refl _ _ | assumption)
end Go.Proofs.YtjakhnhnjhafgaaGreat.Wk
namespace Go.Proofs.YtjakhnhnjhafgaaGreat.Wk
open Go Go.RowKit Go.Deep Ow
open Rp (R sz)

set_option maxRecDepth 100000 in
set_option maxHeartbeats 4000000 in
theorem refCallGo_c (p : PrgProg) (r : RunRun) (i : InsIns) (arg : Int) (vP v : Value) (FP G : List Nat) (w : World) (hP : RL w p.Procs vP FP) (h : RL w r.Frames v G) (ho : Own w G) (m : Nat) (hm : r.Frames.length = m + 1) (k : Nat) (hTo : i.To = k) (hk : k < p.Procs.length) (hroom : Room w 58 v r.Frames.length) (hok : p.Procs[k].Lo ≤ arg ∧ arg ≤ p.Procs[k].Hi) (h5 : m < 4) (ha : I64 arg) (hkk : I64 k) :
    Calls Tryz.prog 85 #[.agg #[vP], runV r v, insV i, .int .i64 arg] w (RetRun G { r with Frames := r.Frames ++ [entered k arg] } w) := by
  have hroom' := Lib.hid hroom
  have h' := Lib.hid h
  have ho' := Lib.hid ho
  have hlt := Lib.hid (fun g (hg : g ∈ G) => h.lt g hg)
  have ha' := Lib.hid ha
  have hkk' := Lib.hid hkk
  obtain ⟨b, off, cap, vV, vC, FV, FC, F⟩ := frame_in h ho (i := m) (by omega)
  obtain ⟨AV, kV, rfl, -, -⟩ := F.rV.form
  obtain ⟨AC, kC, rfl, -, -⟩ := F.rC.form
  have ev := F.eq
  rw [hm] at ev
  subst ev
  have c0 := F.c0
  have c1 := F.c1
  have c2 := F.c2
  have c3 := F.c3
  have hb : b < w.heap.size := World.block_lt_of_cell? _ _ c1
  have hsub : ((m : Int) + 1 - 1) = m := by omega
  have hc5 : (m : Int) + 1 ≤ 9223372036854775807 := by
    obtain ⟨A, c, e, h1, h2⟩ := h.form
    unfold maxLen at h2
    omega
  have hb1 : b < w.heap.size + 1 := by omega
  have hb2 : b < w.heap.size + 1 + 1 := by omega
  have hb3 : b < w.heap.size + 1 + 1 + 1 := by omega
  have hb4 : b < w.heap.size + 1 + 1 + 1 + 1 := by omega
  obtain ⟨bp, op, kp, cs1, f1, rfl, r1, m1, -⟩ := hP.elem hk
  obtain ⟨vD, FD, rfl, rfl, -, -, g1⟩ := R_PrcProc.1 r1
  obtain ⟨AD, kD, rfl, -, -⟩ := g1.form
  have y0 := m1 0 (by decide)
  have y1 := m1 1 (by decide)
  have y2 := m1 2 (by decide)
  simp only [sz_PrcProc, Nat.add_zero, List.getElem?_cons_zero, List.getElem?_cons_succ] at y0 y1 y2
  have hp : bp < w.heap.size := World.block_lt_of_cell? _ _ y0
  have hp1 : bp < w.heap.size + 1 := by omega
  have hp2 : bp < w.heap.size + 1 + 1 := by omega
  have hp3 : bp < w.heap.size + 1 + 1 + 1 := by omega
  have hp4 : bp < w.heap.size + 1 + 1 + 1 + 1 := by omega
  have hkI : (k : Int) < p.Procs.length := by omega
  have hin := Lib.hid (show (decide (p.Procs[k].Lo ≤ arg) && decide (arg ≤ p.Procs[k].Hi)) = true by simp [hok.1, hok.2])
  have hm5 : ((m : Int) + 1 == 5) = false := by simp; omega
  have hne := Lib.hid (show r.Frames ≠ [] by intro e; rw [e] at hm; simp at hm)
  have hl9 := Lib.hid (show r.Frames.length < 1000 by omega)
  have hm' := Lib.hid hm
  clear F h ho hok hP m1 r1 g1 h5 hroom ha hkk
  obtain ⟨iOp, iD, iA, iB, iRel, iLo, iHi, iTo⟩ := i
  simp only at hTo
  subst hTo
  go_enter Tryz.func85, Tryz.ntmps85
  go_wp2_with (go_at_call 71; refine (specL1In_c _ _ _ _).mono ?_; rintro e w7 ⟨rfl, rfl⟩; rw [hin.out]; clear hc5 hsub)
  go_region_law (first
    | (refine step_push2 _ rfl (.tmp 38) (.tmp 43) rfl w r.Frames _ G h'.out ho'.out hroom'.out hne.out ?_ hl9.out (m + 1) hm'.out rfl _ _ (entered k arg) AVn cVn GVn ACn cCn GCn rfl (frame_alloc _ (entered k arg) _ _ _ _ _) ?_ ?_
       · repeat (with_reducible first | refine Chg.r ?_ _ | refine Chg.alloc ?_ _ | refine Chg.drewN ?_ _ | refine Chg.drew ?_ | exact Chg.refl _ _ | assumption | refine Chg.trans0 ?_ hK5)
       · exact hN5.chg ((Chg.refl _ _).alloc _)
       intro g cap6 w6 G6 hR6 hO6 hC6 nG6
       have m10 : w6.cell? ⟨w.heap.size + 1, 0, none⟩ = some (.int .i64 r.State) := (hC6.cell (p := ⟨w.heap.size + 1, 0, none⟩) (by simp; omega) (fun hg => absurd (hlt.out _ hg) (by simp))).trans (by simp [go_sem, k10, l5, l5b])
       have m11 : w6.cell? ⟨w.heap.size + 1, 1, none⟩ = some (.slice (some ⟨b, off, none⟩) (m + 1) cap) := (hC6.cell (p := ⟨w.heap.size + 1, 1, none⟩) (by simp; omega) (fun hg => absurd (hlt.out _ hg) (by simp))).trans (by simp [go_sem, k11, l5, l5b])
       have m12 : w6.cell? ⟨w.heap.size + 1, 2, none⟩ = some (.int .i64 r.Out) := (hC6.cell (p := ⟨w.heap.size + 1, 2, none⟩) (by simp; omega) (fun hg => absurd (hlt.out _ hg) (by simp))).trans (by simp [go_sem, k12, l5, l5b])
       have m13 : w6.cell? ⟨w.heap.size + 1, 3, none⟩ = some (.int .i64 r.Proc) := (hC6.cell (p := ⟨w.heap.size + 1, 3, none⟩) (by simp; omega) (fun hg => absurd (hlt.out _ hg) (by simp))).trans (by simp [go_sem, k13, l5, l5b])
       have m14 : w6.cell? ⟨w.heap.size + 1, 4, none⟩ = some (.int .i64 r.Pc) := (hC6.cell (p := ⟨w.heap.size + 1, 4, none⟩) (by simp; omega) (fun hg => absurd (hlt.out _ hg) (by simp))).trans (by simp [go_sem, k14, l5, l5b])
       have m30 : w6.cell? ⟨w.heap.size + 3, 0, none⟩ = some (.int .i64 0) := (hC6.cell (p := ⟨w.heap.size + 3, 0, none⟩) (by simp; omega) (fun hg => absurd (hlt.out _ hg) (by simp))).trans (by simp [go_sem, k30, l5, l5b])
       have m31 : w6.cell? ⟨w.heap.size + 3, 1, none⟩ = some (.slice none 0 0) := (hC6.cell (p := ⟨w.heap.size + 3, 1, none⟩) (by simp; omega) (fun hg => absurd (hlt.out _ hg) (by simp))).trans (by simp [go_sem, k31, l5, l5b])
       have m32 : w6.cell? ⟨w.heap.size + 3, 2, none⟩ = some (.int .i64 0) := (hC6.cell (p := ⟨w.heap.size + 3, 2, none⟩) (by simp; omega) (fun hg => absurd (hlt.out _ hg) (by simp))).trans (by simp [go_sem, k32, l5, l5b])
       have m33 : w6.cell? ⟨w.heap.size + 3, 3, none⟩ = some (.int .i64 0) := (hC6.cell (p := ⟨w.heap.size + 3, 3, none⟩) (by simp; omega) (fun hg => absurd (hlt.out _ hg) (by simp))).trans (by simp [go_sem, k33, l5, l5b])
       have m34 : w6.cell? ⟨w.heap.size + 3, 4, none⟩ = some (.int .i64 0) := (hC6.cell (p := ⟨w.heap.size + 3, 4, none⟩) (by simp; omega) (fun hg => absurd (hlt.out _ hg) (by simp))).trans (by simp [go_sem, k34, l5, l5b])
       have mz : w6.frozen? ⟨w.heap.size + 1, 1, none⟩ = false := (World.frozen?_of_block (hC6.block (w.heap.size + 1) (by simp; omega) (fun hg => absurd (hlt.out _ hg) (by simp)))).trans (by simp [go_sem, kz, l5b])
       have mq0 : w6.frozen? ⟨w.heap.size + 3, 0, none⟩ = false := (World.frozen?_of_block (hC6.block (w.heap.size + 3) (by simp; omega) (fun hg => absurd (hlt.out _ hg) (by simp)))).trans (by simp [go_sem, kq0, l5])
       have mq1 : w6.frozen? ⟨w.heap.size + 3, 1, none⟩ = false := (World.frozen?_of_block (hC6.block (w.heap.size + 3) (by simp; omega) (fun hg => absurd (hlt.out _ hg) (by simp)))).trans (by simp [go_sem, kq1, l5])
       have mq2 : w6.frozen? ⟨w.heap.size + 3, 2, none⟩ = false := (World.frozen?_of_block (hC6.block (w.heap.size + 3) (by simp; omega) (fun hg => absurd (hlt.out _ hg) (by simp)))).trans (by simp [go_sem, kq2, l5])
       have mq3 : w6.frozen? ⟨w.heap.size + 3, 3, none⟩ = false := (World.frozen?_of_block (hC6.block (w.heap.size + 3) (by simp; omega) (fun hg => absurd (hlt.out _ hg) (by simp)))).trans (by simp [go_sem, kq3, l5])
       have mq4 : w6.frozen? ⟨w.heap.size + 3, 4, none⟩ = false := (World.frozen?_of_block (hC6.block (w.heap.size + 3) (by simp; omega) (fun hg => absurd (hlt.out _ hg) (by simp)))).trans (by simp [go_sem, kq4, l5]))
    | (go_simp
       go_at_call 139
       refine (refEnter_c _ _ _ ha'.out).mono ?_
       rintro e w5 ⟨AVn, cVn, GVn, ACn, cCn, GCn, rfl, hc5, r5V, r5C, o5, n5⟩
       have hK5 : Chg [] w w5 := Chg.trans0 (show Chg [] w _ from Chg.c) hc5
       have hN5 : NewFrame w5 (entered k arg) AVn cVn GVn ACn cCn GCn w.heap.size := ⟨r5V, r5C, o5, fun g hg => Nat.le_trans (show Chg [] w _ from Chg.c).size (n5 g hg), hkk'.out, I64_0⟩
       have k10 : w5.cell? ⟨w.heap.size + 1, 0, none⟩ = some (.int .i64 r.State) := hc5.cell0 (by simp [go_sem])
       have k11 : w5.cell? ⟨w.heap.size + 1, 1, none⟩ = some (.slice (some ⟨b, off, none⟩) (m + 1) cap) := hc5.cell0 (by simp [go_sem])
       have k12 : w5.cell? ⟨w.heap.size + 1, 2, none⟩ = some (.int .i64 r.Out) := hc5.cell0 (by simp [go_sem])
       have k13 : w5.cell? ⟨w.heap.size + 1, 3, none⟩ = some (.int .i64 r.Proc) := hc5.cell0 (by simp [go_sem])
       have k14 : w5.cell? ⟨w.heap.size + 1, 4, none⟩ = some (.int .i64 r.Pc) := hc5.cell0 (by simp [go_sem])
       have k30 : w5.cell? ⟨w.heap.size + 3, 0, none⟩ = some (.int .i64 0) := hc5.cell0 (by simp [go_sem])
       have k31 : w5.cell? ⟨w.heap.size + 3, 1, none⟩ = some (.slice none 0 0) := hc5.cell0 (by simp [go_sem])
       have k32 : w5.cell? ⟨w.heap.size + 3, 2, none⟩ = some (.int .i64 0) := hc5.cell0 (by simp [go_sem])
       have k33 : w5.cell? ⟨w.heap.size + 3, 3, none⟩ = some (.int .i64 0) := hc5.cell0 (by simp [go_sem])
       have k34 : w5.cell? ⟨w.heap.size + 3, 4, none⟩ = some (.int .i64 0) := hc5.cell0 (by simp [go_sem])
       have kz : w5.frozen? ⟨w.heap.size + 1, 1, none⟩ = false := (hc5.cells.2 (w.heap.size + 1) 1 (by simp [go_sem])).trans (by simp [go_sem])
       have kq0 : w5.frozen? ⟨w.heap.size + 3, 0, none⟩ = false := (hc5.cells.2 (w.heap.size + 3) 0 (by simp [go_sem])).trans (by simp [go_sem])
       have kq1 : w5.frozen? ⟨w.heap.size + 3, 1, none⟩ = false := (hc5.cells.2 (w.heap.size + 3) 1 (by simp [go_sem])).trans (by simp [go_sem])
       have kq2 : w5.frozen? ⟨w.heap.size + 3, 2, none⟩ = false := (hc5.cells.2 (w.heap.size + 3) 2 (by simp [go_sem])).trans (by simp [go_sem])
       have kq3 : w5.frozen? ⟨w.heap.size + 3, 3, none⟩ = false := (hc5.cells.2 (w.heap.size + 3) 3 (by simp [go_sem])).trans (by simp [go_sem])
       have kq4 : w5.frozen? ⟨w.heap.size + 3, 4, none⟩ = false := (hc5.cells.2 (w.heap.size + 3) 4 (by simp [go_sem])).trans (by simp [go_sem])
       have l5 : w.heap.size + 3 < w5.heap.size := Nat.lt_of_lt_of_le (by simp [go_sem]) hc5.size
       have l5b : w.heap.size + 1 < w5.heap.size := by omega))
  all_goals
    have n9 : ∀ c ∈ G6, c ∉ [w.heap.size + 1, w.heap.size + 3] := fun c hb hb' => by
      simp only [List.mem_cons, List.not_mem_nil, or_false] at hb'
      rcases nG6 c hb with h1 | h1 | h1
      · have h3 := hlt.out c h1; omega
      · have h3 := n5 c h1
        (try simp at h3); omega
      · (try simp at h1); omega
    have hcG : Chg G w w6 := Chg.trans (show Chg G w _ from hK5.of0.alloc _) hC6 (fun g hg => Or.inl hg)
    go_wp2
    refine bodyPost_ret (v := runV r (.slice (some ⟨g, 0, none⟩) (m + 1 + 1) cap6)) ?_ rfl ?_
    · simp [results, Tryz.results85, go_sem, m10, m11, m12, m13, m14, m30, m31, m32, m33, m34]
    · refine ⟨_, G6, rfl, Chg.c, hR6.chg (G := [w.heap.size + 1, w.heap.size + 3]) (Chg.g) n9, hO6.chg (G := [w.heap.size + 1, w.heap.size + 3]) (Chg.g) n9, fun c hc => ?_⟩
      rcases nG6 c hc with h1 | h1 | h1
      · exact Or.inl h1
      · have h3 := n5 c h1
        (try simp at h3)
        exact Or.inr (by omega)
      · (try simp at h1)
        exact Or.inr (by omega)
end Go.Proofs.YtjakhnhnjhafgaaGreat.Wk
