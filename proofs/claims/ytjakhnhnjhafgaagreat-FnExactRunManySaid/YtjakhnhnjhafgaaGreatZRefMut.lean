/- The reference's l5Any, l5Fail, l5Go, l5Set: written by a program of mine (wip/gen/gen_refmut.py). -/
import Derived.Test.YtjakhnhnjhafgaaGreatZRunMem
import Derived.Test.YtjakhnhnjhafgaaGreatZBase
import Derived.Test.YtjakhnhnjhafgaaGreatZRefCopy
set_option linter.unusedVariables false
set_option linter.unusedSimpArgs false
namespace Go.Proofs.YtjakhnhnjhafgaaGreat.Wk
open Go Go.RowKit Go.Deep Ow
open Rp (R sz)

theorem itv_bounds {lo hi : Int} (h : itvOk ⟨lo, hi⟩ = true) : -32768 ≤ lo ∧ lo ≤ hi ∧ hi ≤ 32767 := by
  unfold itvOk at h
  simp only [Bool.and_eq_true, decide_eq_true_eq, numOk_iff] at h
  omega

set_option maxHeartbeats 1000000 in
theorem refAny_c (i : InsIns) (inp : Int) (w : World) (hi : itvOk ⟨i.Lo, i.Hi⟩ = true) (hin : I64 inp) : Calls Tryz.prog 81 #[insV i, .int .i64 inp] w fun e w' => e = .returned (.int .i64 (i.Lo + inp % (i.Hi - i.Lo + 1))) ∧ Chg [] w w' := by
  obtain ⟨h1, h2, h3⟩ := itv_bounds hi
  obtain ⟨h4, h5⟩ := hin
  generalize hN : i.Hi - i.Lo + 1 = N
  have hn1 : 1 ≤ N := by omega
  have hn2 : N ≤ 65536 := by omega
  have hne : N ≠ 0 := by omega
  have e1 : inp % N = if inp.tmod N < 0 then inp.tmod N + N else inp.tmod N := by
    by_cases hs : 0 ≤ inp
    · rw [Int.tmod_eq_emod_of_nonneg hs]
      have := Int.emod_nonneg inp hne
      rw [if_neg (by omega)]
    · have h6 := Int.neg_tmod (a := -inp) (b := N)
      rw [Int.neg_neg] at h6
      rw [h6, Int.tmod_eq_emod_of_nonneg (by omega)]
      have h7 := Int.emod_nonneg (-inp) hne
      have h8 := Int.emod_lt_of_pos (-inp) (show 0 < N by omega)
      have h9 := Int.emod_nonneg inp hne
      have h10 := Int.emod_lt_of_pos inp (show 0 < N by omega)
      have h11 := Int.emod_add_mul_ediv inp N
      have h12 := Int.emod_add_mul_ediv (-inp) N
      have h13 : (inp % N + (-inp) % N) % N = 0 := by
        rw [← Int.add_emod, Int.add_right_neg]; simp
      split
      · rename_i hlt
        have h14 : (inp % N + (-inp) % N) = N := by
          have h15 := Int.emod_emod_of_dvd
          clear h15
          by_cases hb : inp % N + (-inp) % N < N
          · rw [Int.emod_eq_of_lt (by omega) hb] at h13
            omega
          · have h16 : (inp % N + (-inp) % N - N) % N = 0 := by rw [Int.sub_emod, h13]; simp
            rw [Int.emod_eq_of_lt (by omega) (by omega)] at h16
            omega
        omega
      · have h17 : (-inp) % N = 0 := by omega
        rw [h17, Int.add_zero, Int.emod_emod] at h13
        omega
  have hb1 : -65536 < inp.tmod N ∧ inp.tmod N < 65536 := by
    have h7 := Int.tmod_lt_of_pos inp (show 0 < N by omega)
    have h8 := Int.neg_tmod (a := inp) (b := N)
    have h9 := Int.tmod_lt_of_pos (-inp) (show 0 < N by omega)
    omega
  have hM := Lib.hid e1
  clear e1
  generalize hm : inp.tmod N = m at *
  obtain ⟨hb1, hb2⟩ := hb1
  by_cases hneg : m < 0
  · have hM2 := Lib.hid (hM.out.trans (if_pos hneg))
    have h18 : m + N < N := by omega
    go_enter Tryz.func81, Tryz.ntmps81
    go_wp2
    go_ret
    exact ⟨by rw [hM2.out]; rfl, Chg.c⟩
  · have hM2 := Lib.hid (hM.out.trans (if_neg hneg))
    go_enter Tryz.func81, Tryz.ntmps81
    go_wp2
    go_ret
    exact ⟨by rw [hM2.out]; rfl, Chg.c⟩

theorem refFail_c (f : RunFrame) (vV vC : Value) (w : World) : Calls Tryz.prog 86 #[.agg #[.int .i64 f.Proc, .int .i64 f.Pc, vV, vC]] w fun e w' => e = .returned (runV (runFail f) (.slice none 0 0)) ∧ Chg [] w w' := by
  go_enter Tryz.func86, Tryz.ntmps86
  go_wp2
  exact bodyPost_ret (v := runV (runFail f) (.slice none 0 0)) (by simp [results, Tryz.results86, go_sem, runFail]) rfl ⟨rfl, Chg.c⟩

set_option maxRecDepth 100000 in
set_option maxHeartbeats 1000000 in
theorem refGo_c (r : RunRun) (v : Value) (G : List Nat) (w : World) (h : RL w r.Frames v G) (ho : Own w G) (m : Nat) (hm : r.Frames.length = m + 1) (q : Int) (hq : I64 q) :
    Calls Tryz.prog 84 #[runV r v, .int .i64 q] w (RetRun G { r with Frames := r.Frames.set m { r.Frames[m] with Pc := q } } w) := by
  obtain ⟨b, off, cap, vV, vC, FV, FC, F⟩ := frame_in h ho (i := m) (by omega)
  have ev := F.eq
  rw [hm] at ev
  subst ev
  have c1 := F.c1
  have fz := F.fz (off + m * 4 + 1)
  have hb : b < w.heap.size := World.block_lt_of_cell? _ _ c1
  have hsub : ((m : Int) + 1 - 1) = m := by omega
  have hcap := Lib.hid h.form
  have F' := Lib.hid F
  have hlt := Lib.hid h.lt
  have hc5 : (m : Int) + 1 ≤ 9223372036854775807 := by
    obtain ⟨A, c, e, h1, h2⟩ := h.form
    unfold maxLen at h2
    omega
  have hq' := Lib.hid hq
  have ho' := Lib.hid ho
  clear F h ho hq
  go_enter Tryz.func84, Tryz.ntmps84
  go_wp2
  refine bodyPost_ret (v := runV r (.slice (some ⟨b, off, none⟩) (m + 1) cap)) ?_ rfl ?_
  · simp [results, Tryz.results84, go_sem]
  · have hs := F'.out.setP w q (Chg.refl _ _) hq'.out
    exact ⟨_, G, rfl, (((Chg.refl G w).setCell (Or.inl F'.out.mem) _).alloc _).alloc _, hs.1.chg0 (((Chg.refl _ _).alloc _).alloc _), hs.2.chg0 (((Chg.refl _ _).alloc _).alloc _), fun g hg => Or.inl hg⟩

set_option maxRecDepth 100000 in
set_option maxHeartbeats 2000000 in
theorem refSet_c (r : RunRun) (v : Value) (G : List Nat) (w : World) (h : RL w r.Frames v G) (ho : Own w G) (m : Nat) (hm : r.Frames.length = m + 1) (d : Nat) (hd : d < r.Frames[m].Vars.length) (n : Int) (hn : I64 n) (hq : I64 (r.Frames[m].Pc + 1)) :
    Calls Tryz.prog 80 #[runV r v, .int .i64 d, .int .i64 n] w (RetRun G { r with Frames := r.Frames.set m { r.Frames[m] with Vars := r.Frames[m].Vars.set d n, Pc := r.Frames[m].Pc + 1 } } w) := by
  obtain ⟨b, off, cap, vV, vC, FV, FC, F⟩ := frame_in h ho (i := m) (by omega)
  obtain ⟨bV, oV, cV, E⟩ := int_at F.rV F.oV hd
  have ev := F.eq
  rw [hm] at ev
  subst ev
  have eV := E.eq
  subst eV
  have c1 := F.c1
  have c2 := F.c2
  have cD := E.cell
  have fz := F.fz (off + m * 4 + 1)
  have fzV := E.fz (oV + d)
  have hb : b < w.heap.size := World.block_lt_of_cell? _ _ c1
  have hbV : bV < w.heap.size := World.block_lt_of_cell? _ _ cD
  have hnb : ¬ bV = b := fun e => F.bV (e ▸ E.mem)
  have hnb' : ¬ b = bV := fun e => hnb e.symm
  have hsub : ((m : Int) + 1 - 1) = m := by omega
  have hc5 : (m : Int) + 1 ≤ 9223372036854775807 := by
    obtain ⟨A, c, e, h1, h2⟩ := h.form
    unfold maxLen at h2
    omega
  have hdI : (d : Int) < r.Frames[m].Vars.length := by omega
  have hl5 : (r.Frames[m].Vars.length : Int) ≤ 9223372036854775807 := by
    obtain ⟨A, c, e, h1, h2⟩ := F.rV.form
    unfold maxLen at h2
    omega
  obtain ⟨hq1, hq2⟩ := hq
  have F' := Lib.hid F
  have E' := Lib.hid E
  have hn' := Lib.hid hn
  clear F E h ho hn
  go_enter Tryz.func80, Tryz.ntmps80
  go_wp2_with fail
  go_region
  all_goals
    go_wp2
    refine bodyPost_ret (v := runV r (.slice (some ⟨b, off, none⟩) (m + 1) cap)) ?_ rfl ?_
    · simp [results, Tryz.results80, go_sem]
    · have e := E'.out.set w n (Chg.refl _ _) hn'.out
      have hs := F'.out.setVP _ _ (r.Frames[m].Pc + 1) e.1 e.2.1 e.2.2 ⟨hq1, hq2⟩
      exact ⟨_, G, rfl, (((((Chg.refl G w).setCell (Or.inl (F'.out.subV _ E'.out.mem)) _).setCell (Or.inl F'.out.mem) _).alloc _).alloc _).drew, hs.1.chg0 (((Chg.refl _ _).alloc _).alloc _).drew, hs.2.chg0 (((Chg.refl _ _).alloc _).alloc _).drew, fun g hg => Or.inl hg⟩

theorem ints_new {w : World} {b : Nat} {e : TypeId} {a0 a1 a2 a3 : Int} (h : w.heap[b]? = some (.cells #[.int .i64 a0, .int .i64 a1, .int .i64 a2, .int .i64 a3] e (0, 0))) (h0 : I64 a0) (h1 : I64 a1) (h2 : I64 a2) (h3 : I64 a3) :
    RL w [a0, a1, a2, a3] (.slice (some ⟨b, 0, none⟩) 4 4) [b] ∧ Own w [b] := by
  have hlt : b < w.heap.size := by
    rcases Nat.lt_or_ge b w.heap.size with h5 | h5
    · exact h5
    · rw [Array.getElem?_eq_none h5] at h; cases h
  refine ⟨⟨some ⟨b, 0, none⟩, 4, rfl, by simp, by unfold maxLen; omega, Or.inr ⟨b, 0, fun i => ([a0, a1, a2, a3][i]?).elim [] (fun n => [.int .i64 n]), fun _ => [], rfl, by simp [footOf], by simp, ⟨hlt, fun i hi j hj => ?_, fun i hi => ?_⟩⟩⟩, ⟨by simp, fun g hg => ?_⟩⟩
  · rw [sz_int] at hj ⊢
    obtain rfl : j = 0 := by omega
    have hi4 : i < 4 := by simpa using hi
    rcases (by omega : i = 0 ∨ i = 1 ∨ i = 2 ∨ i = 3) with rfl | rfl | rfl | rfl <;> simp [World.cell?, h]
  · have hi4 : i < 4 := by simpa using hi
    rcases (by omega : i = 0 ∨ i = 1 ∨ i = 2 ∨ i = 3) with rfl | rfl | rfl | rfl
    · exact R_int.2 ⟨rfl, rfl, h0⟩
    · exact R_int.2 ⟨rfl, rfl, h1⟩
    · exact R_int.2 ⟨rfl, rfl, h2⟩
    · exact R_int.2 ⟨rfl, rfl, h3⟩
  · obtain rfl := List.mem_singleton.1 hg
    exact ⟨_, _, h⟩
end Go.Proofs.YtjakhnhnjhafgaaGreat.Wk
namespace Go.Proofs.YtjakhnhnjhafgaaGreat.Wk
open Go Go.RowKit Go.Deep Ow
open Rp (R sz)

theorem in_below (n : Int) : (decide (0 ≤ n) && decide (n ≤ 3)) = below n 4 := by
  unfold below
  rw [Bool.eq_iff_iff]
  simp only [Bool.and_eq_true, decide_eq_true_eq]
  omega
theorem refEnter_c (proc arg : Int) (w : World) (ha : I64 arg) : Calls Tryz.prog 139 #[.int .i64 proc, .int .i64 arg] w (RetFrame (entered proc arg) w) := by
  have ha' := Lib.hid ha
  clear ha
  go_enter Tryz.func139, Tryz.ntmps139
  go_wp2
  refine bodyPost_ret (v := .agg #[.int .i64 proc, .int .i64 0, .slice (some ⟨w.heap.size + 1, 0, none⟩) 4 4, .slice (some ⟨w.heap.size + 2, 0, none⟩) 4 4]) ?_ rfl ?_
  · simp [results, Tryz.results139, go_sem]
  · refine ⟨_, _, [w.heap.size + 1], _, _, [w.heap.size + 2], rfl, Chg.c, ?_, ?_, ?_, fun g hg => by simp only [List.mem_append, List.mem_singleton] at hg; omega⟩
    · exact (ints_new (heap_past (by simp) (heap_at (by simp))) ha'.out I64_0 I64_0 I64_0).1
    · exact (ints_new (heap_at (by simp)) I64_0 I64_0 I64_0 I64_0).1
    · exact Own.append (ints_new (heap_past (by simp) (heap_at (by simp))) ha'.out I64_0 I64_0 I64_0).2 (ints_new (heap_at (by simp)) I64_0 I64_0 I64_0 I64_0).2 (fun b hb hb' => by have h1 := List.mem_singleton.1 hb; have h2 := List.mem_singleton.1 hb'; omega)

set_option maxRecDepth 100000 in
set_option maxHeartbeats 2000000 in
theorem refCellBad_c (r : RunRun) (i : InsIns) (v : Value) (G : List Nat) (w : World) (h : RL w r.Frames v G) (ho : Own w G) (m : Nat) (hm : r.Frames.length = m + 1) (dA : Nat) (hA : i.A = dA) (hdA : dA < r.Frames[m].Vars.length) (hbad : below r.Frames[m].Vars[dA] 4 = false) :
    Calls Tryz.prog 82 #[runV r v, insV i] w (RetRun G (runFail r.Frames[m]) w) := by
  obtain ⟨b, off, cap, vV, vC, FV, FC, F⟩ := frame_in h ho (i := m) (by omega)
  obtain ⟨bA, oA, cA, EA⟩ := int_at F.rV F.oV hdA
  obtain ⟨AC, kC, rfl, -, -⟩ := F.rC.form
  have ev := F.eq
  rw [hm] at ev
  subst ev
  have eV := EA.eq
  subst eV
  have c0 := F.c0
  have c1 := F.c1
  have c2 := F.c2
  have c3 := F.c3
  have cA' := EA.cell
  have hb : b < w.heap.size := World.block_lt_of_cell? _ _ c1
  have hbA : bA < w.heap.size := World.block_lt_of_cell? _ _ cA'
  have hsub : ((m : Int) + 1 - 1) = m := by omega
  have hdI : (dA : Int) < r.Frames[m].Vars.length := by omega
  have hc5 : (m : Int) + 1 ≤ 9223372036854775807 := by
    obtain ⟨A, c, e, h1, h2⟩ := h.form
    unfold maxLen at h2
    omega
  have hb1 : b < w.heap.size + 1 := by omega
  have hb2 : b < w.heap.size + 1 + 1 := by omega
  have hb3 : b < w.heap.size + 1 + 1 + 1 := by omega
  have hbA1 : bA < w.heap.size + 1 := by omega
  have hbA2 : bA < w.heap.size + 1 + 1 := by omega
  have hbA3 : bA < w.heap.size + 1 + 1 + 1 := by omega
  have hin := Lib.hid (show (decide (0 ≤ r.Frames[m].Vars[dA]) && decide (r.Frames[m].Vars[dA] ≤ 3)) = false by rw [in_below]; exact hbad)
  clear F EA h ho hbad
  obtain ⟨iOp, iD, iA, iB, iRel, iLo, iHi, iTo⟩ := i
  simp only at hA
  subst hA
  go_enter Tryz.func82, Tryz.ntmps82
  go_wp2_with (first | (go_at_call 71; refine (specL1In_c _ _ _ _).mono ?_; rintro e w7 ⟨rfl, rfl⟩; rw [hin.out]; clear hc5 hsub) | (go_at_call 86; refine (refFail_c r.Frames[m] _ _ _).mono ?_; rintro e w8 ⟨rfl, hc8⟩; have q0 : w8.cell? ⟨w.heap.size + 2, 0, none⟩ = some (.int .i64 0) := hc8.cell0 (by simp [go_sem]); have q1 : w8.cell? ⟨w.heap.size + 2, 1, none⟩ = some (.slice none 0 0) := hc8.cell0 (by simp [go_sem]); have q2 : w8.cell? ⟨w.heap.size + 2, 2, none⟩ = some (.int .i64 0) := hc8.cell0 (by simp [go_sem]); have q3 : w8.cell? ⟨w.heap.size + 2, 3, none⟩ = some (.int .i64 0) := hc8.cell0 (by simp [go_sem]); have q4 : w8.cell? ⟨w.heap.size + 2, 4, none⟩ = some (.int .i64 0) := hc8.cell0 (by simp [go_sem]); have z0 : w8.frozen? ⟨w.heap.size + 2, 0, none⟩ = false := (hc8.cells.2 (w.heap.size + 2) 0 (by simp [go_sem])).trans (by simp [go_sem]); have z1 : w8.frozen? ⟨w.heap.size + 2, 1, none⟩ = false := (hc8.cells.2 (w.heap.size + 2) 1 (by simp [go_sem])).trans (by simp [go_sem]); have z2 : w8.frozen? ⟨w.heap.size + 2, 2, none⟩ = false := (hc8.cells.2 (w.heap.size + 2) 2 (by simp [go_sem])).trans (by simp [go_sem]); have z3 : w8.frozen? ⟨w.heap.size + 2, 3, none⟩ = false := (hc8.cells.2 (w.heap.size + 2) 3 (by simp [go_sem])).trans (by simp [go_sem]); have z4 : w8.frozen? ⟨w.heap.size + 2, 4, none⟩ = false := (hc8.cells.2 (w.heap.size + 2) 4 (by simp [go_sem])).trans (by simp [go_sem]); have lz : w.heap.size + 2 < w8.heap.size := Nat.lt_of_lt_of_le (by simp [go_sem]) hc8.size))
  refine bodyPost_ret (v := runV (runFail r.Frames[m]) (.slice none 0 0)) ?_ rfl ?_
  · simp [results, Tryz.results82, go_sem, runFail, q0, q1, q2, q3, q4]
  · refine RetRun.nil_ rfl ?_
    have hc9 := hc8.of0 (F := G)
    repeat (with_reducible first | refine Chg.r ?_ _ | refine Chg.alloc ?_ _ | refine Chg.drewN ?_ _ | refine Chg.drew ?_ | exact Chg.refl _ _ | assumption | refine Chg.trans0 ?_ hc8)
end Go.Proofs.YtjakhnhnjhafgaaGreat.Wk
