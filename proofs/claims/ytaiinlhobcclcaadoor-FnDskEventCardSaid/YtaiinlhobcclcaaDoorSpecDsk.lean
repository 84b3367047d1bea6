/- Contract: the reference's DskEvent. -/
import Derived.Test.YtaiinlhobcclcaaDoorText17
import Derived.Test.YtaiinlhobcclcaaDoorMadeW
import Derived.Deep.Cut
import Derived.Deep.CutRange
namespace Go.Proofs.YtaiinlhobcclcaaDoor.Wk
set_option linter.unusedVariables false
set_option linter.unusedSimpArgs false
open Go Go.RowKit Go.Deep Ow
open Rp (R sz)

theorem numS_bound (s : Bs) : -1000000 < numS s ∧ numS s < 1000000 := by
  unfold numS
  rcases h : numReadS s with _ | n
  · simp
  · have := (numReadS_iff s n).1 h
    simp only [Option.getD_some]
    omega

/-- the reference's box of what happens, and the result's -/
structure EvW (w w2 W : World) (K : Nat) (a p v : Int) : Prop where
  chg : Chg [] w2 W
  x0 : W.cell? ⟨w2.heap.size, 0, none⟩ = some (.int .i64 K)
  x1 : W.cell? ⟨w2.heap.size, 1, none⟩ = some (.int .i64 a)
  x2 : W.cell? ⟨w2.heap.size, 2, none⟩ = some (.int .i64 p)
  x3 : W.cell? ⟨w2.heap.size, 3, none⟩ = some (.int .i64 v)
  x4 : W.cell? ⟨w2.heap.size, 4, none⟩ = some (.slice none 0 0)
  xf : ∀ o, W.frozen? ⟨w2.heap.size, o, none⟩ = false
  r0 : W.cell? ⟨w.heap.size, 0, none⟩ = some (.int .i64 0)
  r1 : W.cell? ⟨w.heap.size, 1, none⟩ = some (.int .i64 0)
  r2 : W.cell? ⟨w.heap.size, 2, none⟩ = some (.int .i64 0)
  r3 : W.cell? ⟨w.heap.size, 3, none⟩ = some (.int .i64 0)
  r4 : W.cell? ⟨w.heap.size, 4, none⟩ = some (.slice none 0 0)
  rf : ∀ o, W.frozen? ⟨w.heap.size, o, none⟩ = false
theorem EvW.lt {w w2 W : World} {K : Nat} {a p v : Int} (h : EvW w w2 W K a p v) : w2.heap.size < W.heap.size := World.block_lt_of_cell? _ _ h.x0
theorem EvW.ltr {w w2 W : World} {K : Nat} {a p v : Int} (h : EvW w w2 W K a p v) : w.heap.size < W.heap.size := World.block_lt_of_cell? _ _ h.r0
theorem EvW.on {w w2 W W' : World} {K : Nat} {a p v : Int} (h : EvW w w2 W K a p v) (hc : Chg [] W W') : EvW w w2 W' K a p v :=
  ⟨h.chg.trans0 hc, hc.cell0 h.x0, hc.cell0 h.x1, hc.cell0 h.x2, hc.cell0 h.x3, hc.cell0 h.x4, fun o => (hc.cells.2 _ o h.lt).trans (h.xf o), hc.cell0 h.r0, hc.cell0 h.r1, hc.cell0 h.r2, hc.cell0 h.r3, hc.cell0 h.r4, fun o => (hc.cells.2 _ o h.ltr).trans (h.rf o)⟩
theorem EvW.set1 {w w2 W : World} {K : Nat} {a p v : Int} (h : EvW w w2 W K a p v) (hne : ¬ w.heap.size = w2.heap.size) (n : Int) : EvW w w2 (W.setCell ⟨w2.heap.size, 1, none⟩ (.int .i64 n)) K n p v := by
  have hne2 : ¬ w2.heap.size = w.heap.size := fun e => hne e.symm
  refine ⟨h.chg.setCell (Or.inr (Nat.le_refl _)) _, ?_, ?_, ?_, ?_, ?_, ?_, ?_, ?_, ?_, ?_, ?_, ?_⟩
  all_goals (first | (intro o; simp [go_sem, h.xf, h.rf]; done) | simp [go_sem, hne, hne2, h.x0, h.x1, h.x2, h.x3, h.x4, h.r0, h.r1, h.r2, h.r3, h.r4])
theorem EvW.set2 {w w2 W : World} {K : Nat} {a p v : Int} (h : EvW w w2 W K a p v) (hne : ¬ w.heap.size = w2.heap.size) (n : Int) : EvW w w2 (W.setCell ⟨w2.heap.size, 2, none⟩ (.int .i64 n)) K a n v := by
  have hne2 : ¬ w2.heap.size = w.heap.size := fun e => hne e.symm
  refine ⟨h.chg.setCell (Or.inr (Nat.le_refl _)) _, ?_, ?_, ?_, ?_, ?_, ?_, ?_, ?_, ?_, ?_, ?_, ?_⟩
  all_goals (first | (intro o; simp [go_sem, h.xf, h.rf]; done) | simp [go_sem, hne, hne2, h.x0, h.x1, h.x2, h.x3, h.x4, h.r0, h.r1, h.r2, h.r3, h.r4])
theorem EvW.set3 {w w2 W : World} {K : Nat} {a p v : Int} (h : EvW w w2 W K a p v) (hne : ¬ w.heap.size = w2.heap.size) (n : Int) : EvW w w2 (W.setCell ⟨w2.heap.size, 3, none⟩ (.int .i64 n)) K a p n := by
  have hne2 : ¬ w2.heap.size = w.heap.size := fun e => hne e.symm
  refine ⟨h.chg.setCell (Or.inr (Nat.le_refl _)) _, ?_, ?_, ?_, ?_, ?_, ?_, ?_, ?_, ?_, ?_, ?_, ?_⟩
  all_goals (first | (intro o; simp [go_sem, h.xf, h.rf]; done) | simp [go_sem, hne, hne2, h.x0, h.x1, h.x2, h.x3, h.x4, h.r0, h.r1, h.r2, h.r3, h.r4])
theorem getD_len (l : Bs) (k : Nat) : ((words l).getD k []).length ≤ l.length := by
  by_cases h : k < (words l).length
  · rw [List.getD_eq_getElem?_getD, List.getElem?_eq_getElem h]; exact words_len l _ (List.getElem_mem _)
  · rw [List.getD_eq_getElem?_getD, List.getElem?_eq_none (by omega)]; simp

set_option maxRecDepth 100000 in
set_option maxHeartbeats 4000000 in
theorem specDsk_c (l : Bs) (hl : (l.length : Int) ≤ 1100000) (w : World) : Calls Tryd.prog 5 #[str l] w (RetEv (dskS l) w) := by
  have HWL : Hid (∀ x ∈ words l, (x.length : Int) ≤ 1100000) := Lib.hid (fun x hx => by have := words_len l x hx; omega)
  go_enter Tryd.func5, Tryd.ntmps5
  go_wp2_with fail
  refine (l4Words_c l hl _).mono ?_
  rintro e w1 ⟨v, G, rfl, hc1, hr1, ho1, hg1⟩
  obtain ⟨hcl1, hfz1⟩ := hc1.cells
  have hza1 : w.heap.size < w1.heap.size := Nat.lt_of_lt_of_le (by simp) hc1.size
  obtain ⟨wd, rest, hw⟩ : ∃ wd rest, words l = wd :: rest := by
    rcases h : words l with _ | ⟨a, b⟩
    · exact absurd h (wordsFrom_ne [] l)
    · exact ⟨a, b, rfl⟩
  obtain ⟨bk, off, cap, e1, m1, hb, -⟩ := word_cell hr1 (i := 0) (by rw [hw]; simp)
  obtain ⟨N, hN⟩ : ∃ N, (words l).length = N := ⟨_, rfl⟩
  have hN1 : 0 < N := by rw [← hN, hw]; simp
  have hNl : (N : Int) ≤ 1100001 := by
    have := words_count l
    omega
  rw [hN] at e1
  have HN := Lib.hid hN
  subst e1
  have hwd : (words l).getD 0 [] = wd := by rw [hw]; rfl
  rw [hwd, Nat.add_zero] at m1
  have HW := Lib.hid hw
  have HR1 := Lib.hid hr1
  obtain ⟨K, hK⟩ : ∃ K, kindOf wd = K := ⟨_, rfl⟩
  have hK13 : K ≤ 13 := by rw [← hK]; exact kindOf_lt wd
  have HK := Lib.hid hK
  clear hwd hw hN hr1 hK
  go_wp2_with fail
  refine (l17Kind_c wd _).mono ?_
  rw [HK.out]
  rintro e w2 ⟨rfl, hc2⟩
  obtain ⟨hcl2, hfz2⟩ := hc2.cells
  have hza2 : w.heap.size < w2.heap.size := Nat.lt_of_lt_of_le hza1 hc2.size
  have hbk2 : bk < w2.heap.size := Nat.lt_of_lt_of_le hb hc2.size
  go_upto_region 3 with fail
  generalize hW : World.alloc w2 _ = w3
  have hc3 : Chg [] w2 w3 := by rw [← hW]; exact (Chg.refl _ _).alloc _
  have x0 : w3.cell? ⟨w2.heap.size, 0, none⟩ = some (.int .i64 K) := by rw [← hW]; simp
  have x1 : w3.cell? ⟨w2.heap.size, 1, none⟩ = some (.int .i64 0) := by rw [← hW]; simp
  have x2 : w3.cell? ⟨w2.heap.size, 2, none⟩ = some (.int .i64 0) := by rw [← hW]; simp
  have x3 : w3.cell? ⟨w2.heap.size, 3, none⟩ = some (.int .i64 0) := by rw [← hW]; simp
  have x4 : w3.cell? ⟨w2.heap.size, 4, none⟩ = some (.slice none 0 0) := by rw [← hW]; simp
  have xf : ∀ o, w3.frozen? ⟨w2.heap.size, o, none⟩ = false := fun o => by rw [← hW]; simp
  have r0 : w3.cell? ⟨w.heap.size, 0, none⟩ = some (.int .i64 0) := by rw [← hW]; simp [go_sem, hcl2, hcl1, hza1, hza2]
  have r1 : w3.cell? ⟨w.heap.size, 1, none⟩ = some (.int .i64 0) := by rw [← hW]; simp [go_sem, hcl2, hcl1, hza1, hza2]
  have r2 : w3.cell? ⟨w.heap.size, 2, none⟩ = some (.int .i64 0) := by rw [← hW]; simp [go_sem, hcl2, hcl1, hza1, hza2]
  have r3 : w3.cell? ⟨w.heap.size, 3, none⟩ = some (.int .i64 0) := by rw [← hW]; simp [go_sem, hcl2, hcl1, hza1, hza2]
  have r4 : w3.cell? ⟨w.heap.size, 4, none⟩ = some (.slice none 0 0) := by rw [← hW]; simp [go_sem, hcl2, hcl1, hza1, hza2]
  have rf : ∀ o, w3.frozen? ⟨w.heap.size, o, none⟩ = false := fun o => by rw [← hW]; simp [go_sem, hfz2, hfz1, hza1, hza2]
  have hzx : w2.heap.size < w3.heap.size := by rw [← hW]; simp
  have hzr : w.heap.size < w3.heap.size := Nat.lt_trans hza2 hzx
  have hne : ¬ w.heap.size = w2.heap.size := Nat.ne_of_lt hza2
  clear hW hcl1 hfz1 hcl2 hfz2
  by_cases hk0 : K = 0
  · subst hk0
    have E : Hid (dskS l = none) := Lib.hid (by unfold dskS; simp only [HW.out, List.headD_cons, HK.out, if_true])
    go_wp2
    refine bodyPost_ret (v := .tuple #[evV ev0 (.slice none 0 0), .bool false]) (by simp [results, Tryd.results5, go_sem, ev0, r0, r1, r2, r3, r4]) rfl ?_
    rw [E.out]
    exact RetEv.none_ (by repeat (first | with_reducible exact Chg.refl _ _ | with_reducible assumption | with_reducible refine Chg.setCell ?_ (Or.inr (by first | (simp; done) | (simp; omega))) _ |  with_reducible refine Chg.trans0 ?_ hc3 | with_reducible refine Chg.trans0 ?_ hc2 | with_reducible refine Chg.trans0 ?_ hc1 | with_reducible refine Chg.alloc ?_ _ | with_reducible refine Chg.drewN ?_ _ | with_reducible refine Chg.drew ?_))
  have hb0 : ((K : Int) == 0) = false := by rw [beq_eq_false_iff_ne]; omega
  by_cases hk7 : K = 7
  · subst hk7
    have E : Hid (dskS l = match hexB ((words l).getD 2 []), numReadS ((words l).getD 1 []) with | some b, some n => if n < 0 ∨ N ≠ 3 then none else some ⟨7, n, 0, 0, b⟩ | _, _ => none) := Lib.hid (by
      unfold dskS; rw [← HN.out]; simp only [HW.out, List.headD_cons, HK.out]; rfl)
    have hl2 := getD_len l 2
    have hl1 := getD_len l 1
    have A2 := Lib.hid (fun w0 (hr : RL w0 (bws (words l)) (.slice (some ⟨bk, off, none⟩) N cap) G) => l4At_c (words l) 2 (by decide) _ G w0 hr)
    have A1 := Lib.hid (fun w0 (hr : RL w0 (bws (words l)) (.slice (some ⟨bk, off, none⟩) N cap) G) => l4At_c (words l) 1 (by decide) _ G w0 hr)
    generalize (words l).getD 2 [] = c at *
    generalize (words l).getD 1 [] = b at *
    go_wp2_with fail
    refine (A2.out _ (HR1.out.chg0 (by repeat (first | with_reducible exact Chg.refl _ _ | with_reducible assumption | with_reducible refine Chg.setCell ?_ (Or.inr (by first | (simp; done) | (simp; omega))) _ |  with_reducible refine Chg.trans0 ?_ hc3 | with_reducible refine Chg.trans0 ?_ hc2 | with_reducible refine Chg.trans0 ?_ hc1 | with_reducible refine Chg.alloc ?_ _ | with_reducible refine Chg.drewN ?_ _ | with_reducible refine Chg.drew ?_)))).mono ?_
    rintro e w4 ⟨rfl, hc4⟩
    go_wp2_with fail
    refine (l17Hex_c c (by omega) _).mono ?_
    rintro e w5 ⟨vb, G5, rfl, hc5, hr5, ho5, hg5⟩
    go_wp2_with fail
    refine (A1.out _ (HR1.out.chg0 (by repeat (first | with_reducible exact Chg.refl _ _ | with_reducible assumption | with_reducible refine Chg.setCell ?_ (Or.inr (by first | (simp; done) | (simp; omega))) _ | with_reducible refine Chg.trans0 ?_ hc5 | with_reducible refine Chg.trans0 ?_ hc4 | with_reducible refine Chg.trans0 ?_ hc3 | with_reducible refine Chg.trans0 ?_ hc2 | with_reducible refine Chg.trans0 ?_ hc1 | with_reducible refine Chg.alloc ?_ _ | with_reducible refine Chg.drewN ?_ _ | with_reducible refine Chg.drew ?_)))).mono ?_
    rintro e w6 ⟨rfl, hc6⟩
    go_wp2_with fail
    refine (specNumRead_c b (by omega) _).mono ?_
    rintro e w7 ⟨rfl, hc7⟩
    have hca : Chg [] w3 w7 := ((hc4.trans0 hc5).trans0 hc6).trans0 hc7
    obtain ⟨hcla, hfza⟩ := hca.cells
    have hza : w.heap.size < w7.heap.size := Nat.lt_of_lt_of_le hzr hca.size
    obtain ⟨Ab, cb, rfl, -, -⟩ := hr5.form
    have HR5 := Lib.hid (hr5.chg0 (hc6.trans0 hc7))
    have HO5 := Lib.hid (ho5.chg0 (hc6.trans0 hc7))
    have HG5 : Hid (∀ g ∈ G5, w.heap.size < g) := Lib.hid (fun g hg => Nat.lt_of_lt_of_le hzr (Nat.le_trans hc4.size (hg5 g hg)))
    clear hr5 ho5 hg5
    rcases hx : hexB c with _ | x
    · have E : Hid (dskS l = none) := Lib.hid (by rw [E.out, hx])
      clear hx
      go_wp2
      refine bodyPost_ret (v := .tuple #[evV ev0 (.slice none 0 0), .bool false]) (by simp [results, Tryd.results5, go_sem, ev0, r0, r1, r2, r3, r4, hcla, hzr, hza]) rfl ?_
      rw [E.out]
      exact RetEv.none_ (by repeat (first | with_reducible exact Chg.refl _ _ | with_reducible assumption | with_reducible refine Chg.setCell ?_ (Or.inr (by first | (simp; done) | (simp; omega))) _ | with_reducible refine Chg.trans0 ?_ hca | with_reducible refine Chg.trans0 ?_ hc3 | with_reducible refine Chg.trans0 ?_ hc2 | with_reducible refine Chg.trans0 ?_ hc1 | with_reducible refine Chg.alloc ?_ _ | with_reducible refine Chg.drewN ?_ _ | with_reducible refine Chg.drew ?_))
    rcases hn : numReadS b with _ | n
    · have E : Hid (dskS l = none) := Lib.hid (by rw [E.out, hx, hn])
      clear hx hn
      go_wp2
      refine bodyPost_ret (v := .tuple #[evV ev0 (.slice none 0 0), .bool false]) (by simp [results, Tryd.results5, go_sem, ev0, r0, r1, r2, r3, r4, hcla, hzr, hza]) rfl ?_
      rw [E.out]
      exact RetEv.none_ (by repeat (first | with_reducible exact Chg.refl _ _ | with_reducible assumption | with_reducible refine Chg.setCell ?_ (Or.inr (by first | (simp; done) | (simp; omega))) _ | with_reducible refine Chg.trans0 ?_ hca | with_reducible refine Chg.trans0 ?_ hc3 | with_reducible refine Chg.trans0 ?_ hc2 | with_reducible refine Chg.trans0 ?_ hc1 | with_reducible refine Chg.alloc ?_ _ | with_reducible refine Chg.drewN ?_ _ | with_reducible refine Chg.drew ?_))
    by_cases hn0 : n < 0
    · have E : Hid (dskS l = none) := Lib.hid (by rw [E.out, hx, hn]; simp only [hn0, true_or, if_true])
      clear hx hn
      go_wp2
      refine bodyPost_ret (v := .tuple #[evV ev0 (.slice none 0 0), .bool false]) (by simp [results, Tryd.results5, go_sem, ev0, r0, r1, r2, r3, r4, hcla, hzr, hza]) rfl ?_
      rw [E.out]
      exact RetEv.none_ (by repeat (first | with_reducible exact Chg.refl _ _ | with_reducible assumption | with_reducible refine Chg.setCell ?_ (Or.inr (by first | (simp; done) | (simp; omega))) _ | with_reducible refine Chg.trans0 ?_ hca | with_reducible refine Chg.trans0 ?_ hc3 | with_reducible refine Chg.trans0 ?_ hc2 | with_reducible refine Chg.trans0 ?_ hc1 | with_reducible refine Chg.alloc ?_ _ | with_reducible refine Chg.drewN ?_ _ | with_reducible refine Chg.drew ?_))
    by_cases hN3 : N = 3
    · have E : Hid (dskS l = some ⟨7, n, 0, 0, x⟩) := Lib.hid (by rw [E.out, hx, hn]; simp only [hn0, hN3, ne_eq, not_true_eq_false, or_self, if_false])
      rw [hx] at HR5
      have HR5' : Hid (RL w7 x (.slice Ab x.length cb) G5) := HR5
      have hN3b : ((N : Int) != 3) = false := by simp; omega
      clear hx hn HR5 hN3
      go_wp2
      refine bodyPost_ret (v := .tuple #[evV ⟨7, n, 0, 0, x⟩ (.slice Ab x.length cb), .bool true]) (by simp [results, Tryd.results5, go_sem, r0, r1, r2, r3, r4, hcla, hzr, hza]) rfl ?_
      rw [E.out]
      refine ⟨_, G5, rfl, by repeat (first | with_reducible exact Chg.refl _ _ | with_reducible assumption | with_reducible refine Chg.setCell ?_ (Or.inr (by first | (simp; done) | (simp; omega))) _ | with_reducible refine Chg.trans0 ?_ hca | with_reducible refine Chg.trans0 ?_ hc3 | with_reducible refine Chg.trans0 ?_ hc2 | with_reducible refine Chg.trans0 ?_ hc1 | with_reducible refine Chg.alloc ?_ _ | with_reducible refine Chg.drewN ?_ _ | with_reducible refine Chg.drew ?_), ?_, ?_, fun g hg => Nat.le_of_lt (HG5.out g hg)⟩
      · exact RL.chg (G := [w.heap.size]) HR5'.out (by repeat (first | with_reducible exact Chg.refl _ _ | with_reducible refine Chg.setCell ?_ (Or.inl (by first | (simp; done) | (simp; omega))) _)) (fun g h1 h2 => by have := HG5.out g h1; simp at h2; omega)
      · exact Own.chg (G := [w.heap.size]) HO5.out (by repeat (first | with_reducible exact Chg.refl _ _ | with_reducible refine Chg.setCell ?_ (Or.inl (by first | (simp; done) | (simp; omega))) _)) (fun g h1 h2 => by have := HG5.out g h1; simp at h2; omega)
    · have E : Hid (dskS l = none) := Lib.hid (by rw [E.out, hx, hn]; simp only [hN3, ne_eq, not_false_eq_true, or_true, if_true])
      have hN3b : ((N : Int) != 3) = true := by simp; omega
      clear hx hn hN3
      go_wp2
      refine bodyPost_ret (v := .tuple #[evV ev0 (.slice none 0 0), .bool false]) (by simp [results, Tryd.results5, go_sem, ev0, r0, r1, r2, r3, r4, hcla, hzr, hza]) rfl ?_
      rw [E.out]
      exact RetEv.none_ (by repeat (first | with_reducible exact Chg.refl _ _ | with_reducible assumption | with_reducible refine Chg.setCell ?_ (Or.inr (by first | (simp; done) | (simp; omega))) _ | with_reducible refine Chg.trans0 ?_ hca | with_reducible refine Chg.trans0 ?_ hc3 | with_reducible refine Chg.trans0 ?_ hc2 | with_reducible refine Chg.trans0 ?_ hc1 | with_reducible refine Chg.alloc ?_ _ | with_reducible refine Chg.drewN ?_ _ | with_reducible refine Chg.drew ?_))
  have hb7 : ((K : Int) == 7) = false := by rw [beq_eq_false_iff_ne]; omega
  by_cases h60 : (60 : Int) < ((l.length : Nat) : Int)
  · have E : Hid (dskS l = none) := Lib.hid (by unfold dskS; simp only [HW.out, List.headD_cons, HK.out, hk0, hk7, if_false]; rw [if_pos (by omega)])
    clear hk0 hk7
    go_wp2
    refine bodyPost_ret (v := .tuple #[evV ev0 (.slice none 0 0), .bool false]) (by simp [results, Tryd.results5, go_sem, ev0, r0, r1, r2, r3, r4]) rfl ?_
    rw [E.out]
    exact RetEv.none_ (by repeat (first | with_reducible exact Chg.refl _ _ | with_reducible assumption | with_reducible refine Chg.setCell ?_ (Or.inr (by first | (simp; done) | (simp; omega))) _ |  with_reducible refine Chg.trans0 ?_ hc3 | with_reducible refine Chg.trans0 ?_ hc2 | with_reducible refine Chg.trans0 ?_ hc1 | with_reducible refine Chg.alloc ?_ _ | with_reducible refine Chg.drewN ?_ _ | with_reducible refine Chg.drew ?_))
  obtain ⟨a, ha⟩ : ∃ a, (if 1 < N then numS ((words l).getD 1 []) else 0) = a := ⟨_, rfl⟩
  obtain ⟨p, hp⟩ : ∃ p, (if 2 < N then numS ((words l).getD 2 []) else 0) = p := ⟨_, rfl⟩
  obtain ⟨v, hv⟩ : ∃ v, (if 3 < N then numS ((words l).getD 3 []) else 0) = v := ⟨_, rfl⟩
  have ba : -1000000 < a ∧ a < 1000000 := by rw [← ha]; split; exact numS_bound _; omega
  have bp : -1000000 < p ∧ p < 1000000 := by rw [← hp]; split; exact numS_bound _; omega
  have bv : -1000000 < v ∧ v < 1000000 := by rw [← hv]; split; exact numS_bound _; omega
  have E : Hid (dskS l = if a < 0 ∨ p < 0 ∨ v < 0 ∨ textS K a p v ≠ l then none else some ⟨K, a, p, v, []⟩) := Lib.hid (by
    unfold dskS
    have h1 := HN.out
    rw [HW.out] at h1 ha hp hv
    simp only [HW.out, List.headD_cons, HK.out, hk0, hk7, if_false, h1, ha, hp, hv]
    rw [if_neg (by omega)])
  have Ha := Lib.hid ha
  have Hp := Lib.hid hp
  have Hv := Lib.hid hv
  have Hba := Lib.hid ba
  have Hbp := Lib.hid bp
  have Hbv := Lib.hid bv
  have HK1 : Hid (1 ≤ K ∧ K ≤ 13) := Lib.hid ⟨by omega, hK13⟩
  have HE1 : Hid (EvW w w2 w3 K 0 0 0) := Lib.hid ⟨hc3, x0, x1, x2, x3, x4, xf, r0, r1, r2, r3, r4, rf⟩
  clear ha hp hv ba bp bv hk0 hk7
  go_upto_if 61 with fail
  go_cut [] from 61 to 66 (fun wx => Hid (EvW w w2 wx K a 0 0))
  case first =>
    by_cases h1 : 1 < N
    · have hi1 : (1 : Int) < (N : Int) := by omega
      obtain ⟨bk2, off2, cap2, q1, q2, q3, q4⟩ := word_cell (HR1.out.chg0 (hc2.trans0 HE1.out.chg)) (i := 1) (by rw [HN.out]; exact h1)
      injection q1 with q1 ql q1c
      clear ql
      injection q1 with q1
      injection q1 with q1 q1o
      subst q1 q1o
      have HVAL : Hid (numS ((words l).getD 1 []) = a) := Lib.hid (by rw [← Ha.out, if_pos h1])
      clear q1c h1
      generalize (words l).getD 1 [] = x at *
      have gx0 := HE1.out.x0; have gx1 := HE1.out.x1; have gx2 := HE1.out.x2; have gx3 := HE1.out.x3; have gxf := HE1.out.xf
      go_wp2_with (go_at_call 18; refine (l4Num_c x q4 _).mono ?_; rw [HVAL.out]; rintro e w5 ⟨rfl, hc5⟩; have kx := hc5.cell0 gx1; have kf : ∀ o, w5.frozen? ⟨w2.heap.size, o, none⟩ = false := fun o => (hc5.cells.2 _ o HE1.out.lt).trans (gxf o))
      go_meet
      exact Lib.hid ((HE1.out.on hc5).set1 hne _)
    · have hi1 : ¬ ((1 : Int) < (N : Int)) := by omega
      have HVAL : Hid (0 = a) := Lib.hid (by rw [← Ha.out, if_neg h1])
      clear h1
      go_wp2
      go_meet
      have := HVAL.out
      exact Lib.hid (this ▸ HE1.out)
  case rest =>
  have HE2 := hcut
  clear hcut
  go_upto_if 69 with fail
  go_cut [] from 69 to 74 (fun wx => Hid (EvW w w2 wx K a p 0))
  case first =>
    by_cases h2 : 2 < N
    · have hi2 : (2 : Int) < (N : Int) := by omega
      obtain ⟨bk2, off2, cap2, q1, q2, q3, q4⟩ := word_cell (HR1.out.chg0 (hc2.trans0 HE2.out.chg)) (i := 2) (by rw [HN.out]; exact h2)
      injection q1 with q1 ql q1c
      clear ql
      injection q1 with q1
      injection q1 with q1 q1o
      subst q1 q1o
      have HVAL : Hid (numS ((words l).getD 2 []) = p) := Lib.hid (by rw [← Hp.out, if_pos h2])
      clear q1c h2
      generalize (words l).getD 2 [] = x at *
      have gx0 := HE2.out.x0; have gx1 := HE2.out.x1; have gx2 := HE2.out.x2; have gx3 := HE2.out.x3; have gxf := HE2.out.xf
      go_wp2_with (go_at_call 18; refine (l4Num_c x q4 _).mono ?_; rw [HVAL.out]; rintro e w5 ⟨rfl, hc5⟩; have kx := hc5.cell0 gx2; have kf : ∀ o, w5.frozen? ⟨w2.heap.size, o, none⟩ = false := fun o => (hc5.cells.2 _ o HE2.out.lt).trans (gxf o))
      go_meet
      exact Lib.hid ((HE2.out.on hc5).set2 hne _)
    · have hi2 : ¬ ((2 : Int) < (N : Int)) := by omega
      have HVAL : Hid (0 = p) := Lib.hid (by rw [← Hp.out, if_neg h2])
      clear h2
      go_wp2
      go_meet
      have := HVAL.out
      exact Lib.hid (this ▸ HE2.out)
  case rest =>
  have HE3 := hcut
  clear hcut
  go_upto_if 77 with fail
  go_cut [] from 77 to 82 (fun wx => Hid (EvW w w2 wx K a p v))
  case first =>
    by_cases h3 : 3 < N
    · have hi3 : (3 : Int) < (N : Int) := by omega
      obtain ⟨bk2, off2, cap2, q1, q2, q3, q4⟩ := word_cell (HR1.out.chg0 (hc2.trans0 HE3.out.chg)) (i := 3) (by rw [HN.out]; exact h3)
      injection q1 with q1 ql q1c
      clear ql
      injection q1 with q1
      injection q1 with q1 q1o
      subst q1 q1o
      have HVAL : Hid (numS ((words l).getD 3 []) = v) := Lib.hid (by rw [← Hv.out, if_pos h3])
      clear q1c h3
      generalize (words l).getD 3 [] = x at *
      have gx0 := HE3.out.x0; have gx1 := HE3.out.x1; have gx2 := HE3.out.x2; have gx3 := HE3.out.x3; have gxf := HE3.out.xf
      go_wp2_with (go_at_call 18; refine (l4Num_c x q4 _).mono ?_; rw [HVAL.out]; rintro e w5 ⟨rfl, hc5⟩; have kx := hc5.cell0 gx3; have kf : ∀ o, w5.frozen? ⟨w2.heap.size, o, none⟩ = false := fun o => (hc5.cells.2 _ o HE3.out.lt).trans (gxf o))
      go_meet
      exact Lib.hid ((HE3.out.on hc5).set3 hne _)
    · have hi3 : ¬ ((3 : Int) < (N : Int)) := by omega
      have HVAL : Hid (0 = v) := Lib.hid (by rw [← Hv.out, if_neg h3])
      clear h3
      go_wp2
      go_meet
      have := HVAL.out
      exact Lib.hid (this ▸ HE3.out)
  case rest =>
  have HE4 := hcut
  clear hcut
  obtain ⟨he, y0, y1, y2, y3, y4, yf, s0, s1, s2, s3, s4, sf⟩ := HE4.out
  clear x0 x1 x2 x3 x4 xf r0 r1 r2 r3 r4 rf hc3 hzx hzr
  by_cases ha : a < 0
  · have E : Hid (dskS l = none) := Lib.hid (by rw [E.out, if_pos (Or.inl ha)])
    go_wp2
    refine bodyPost_ret (v := .tuple #[evV ev0 (.slice none 0 0), .bool false]) (by simp [results, Tryd.results5, go_sem, ev0, s0, s1, s2, s3, s4]) rfl ?_
    rw [E.out]
    exact RetEv.none_ (by repeat (first | with_reducible exact Chg.refl _ _ | with_reducible assumption | with_reducible refine Chg.setCell ?_ (Or.inr (by first | (simp; done) | (simp; omega))) _ |  with_reducible refine Chg.trans0 ?_ he | with_reducible refine Chg.trans0 ?_ hc2 | with_reducible refine Chg.trans0 ?_ hc1 | with_reducible refine Chg.alloc ?_ _ | with_reducible refine Chg.drewN ?_ _ | with_reducible refine Chg.drew ?_))
  by_cases hp : p < 0
  · have E : Hid (dskS l = none) := Lib.hid (by rw [E.out, if_pos (Or.inr (Or.inl hp))])
    go_wp2
    refine bodyPost_ret (v := .tuple #[evV ev0 (.slice none 0 0), .bool false]) (by simp [results, Tryd.results5, go_sem, ev0, s0, s1, s2, s3, s4]) rfl ?_
    rw [E.out]
    exact RetEv.none_ (by repeat (first | with_reducible exact Chg.refl _ _ | with_reducible assumption | with_reducible refine Chg.setCell ?_ (Or.inr (by first | (simp; done) | (simp; omega))) _ |  with_reducible refine Chg.trans0 ?_ he | with_reducible refine Chg.trans0 ?_ hc2 | with_reducible refine Chg.trans0 ?_ hc1 | with_reducible refine Chg.alloc ?_ _ | with_reducible refine Chg.drewN ?_ _ | with_reducible refine Chg.drew ?_))
  by_cases hv : v < 0
  · have E : Hid (dskS l = none) := Lib.hid (by rw [E.out, if_pos (Or.inr (Or.inr (Or.inl hv)))])
    go_wp2
    refine bodyPost_ret (v := .tuple #[evV ev0 (.slice none 0 0), .bool false]) (by simp [results, Tryd.results5, go_sem, ev0, s0, s1, s2, s3, s4]) rfl ?_
    rw [E.out]
    exact RetEv.none_ (by repeat (first | with_reducible exact Chg.refl _ _ | with_reducible assumption | with_reducible refine Chg.setCell ?_ (Or.inr (by first | (simp; done) | (simp; omega))) _ |  with_reducible refine Chg.trans0 ?_ he | with_reducible refine Chg.trans0 ?_ hc2 | with_reducible refine Chg.trans0 ?_ hc1 | with_reducible refine Chg.alloc ?_ _ | with_reducible refine Chg.drewN ?_ _ | with_reducible refine Chg.drew ?_))
  obtain ⟨T, hT⟩ : ∃ T, textS K a p v = T := ⟨_, rfl⟩
  have HT := Lib.hid hT
  by_cases ht : T = l
  · have E : Hid (dskS l = some ⟨K, a, p, v, []⟩) := Lib.hid (by
      rw [E.out, if_neg]
      rintro (h | h | h | h)
      · exact ha h
      · exact hp h
      · exact hv h
      · exact h (hT.trans ht))
    have htb : (T == l) = true := by rw [ht, beq_self_eq_true]
    clear hT ht
    go_wp2_with (go_at_call 19; refine (l17Text_c K HK1.out a p v Hba.out.1 Hba.out.2 Hbp.out.1 Hbp.out.2 Hbv.out.1 Hbv.out.2 (.slice none 0 0) _).mono ?_; rw [HT.out]; rintro e w9 ⟨rfl, hc9⟩; have t0 := hc9.cell0 s0; have t1 := hc9.cell0 s1; have t2 := hc9.cell0 s2; have t3 := hc9.cell0 s3; have t4 := hc9.cell0 s4; have z0 := hc9.cell0 y0; have z1 := hc9.cell0 y1; have z2 := hc9.cell0 y2; have z3 := hc9.cell0 y3; have z4 := hc9.cell0 y4; have tf : ∀ o, w9.frozen? ⟨w.heap.size, o, none⟩ = false := fun o => (hc9.cells.2 _ o HE4.out.ltr).trans (sf o))
    refine bodyPost_ret (v := .tuple #[evV ⟨K, a, p, v, []⟩ (.slice none 0 0), .bool true]) (by simp [results, Tryd.results5, go_sem, t0, t1, t2, t3, t4, z0, z1, z2, z3, z4]) rfl ?_
    rw [E.out]
    exact ⟨_, [], rfl, by repeat (first | with_reducible exact Chg.refl _ _ | with_reducible assumption | with_reducible refine Chg.setCell ?_ (Or.inr (by first | (simp; done) | (simp; omega))) _ | with_reducible refine Chg.trans0 ?_ hc9 | with_reducible refine Chg.trans0 ?_ he | with_reducible refine Chg.trans0 ?_ hc2 | with_reducible refine Chg.trans0 ?_ hc1 | with_reducible refine Chg.alloc ?_ _ | with_reducible refine Chg.drewN ?_ _ | with_reducible refine Chg.drew ?_), RL.nil_, Own.nil_ _, by simp⟩
  · have E : Hid (dskS l = none) := Lib.hid (by rw [E.out, if_pos (Or.inr (Or.inr (Or.inr (fun h => ht (hT.symm.trans h)))))])
    have htb : (T == l) = false := beq_eq_false_iff_ne.2 ht
    clear hT ht
    go_wp2_with (go_at_call 19; refine (l17Text_c K HK1.out a p v Hba.out.1 Hba.out.2 Hbp.out.1 Hbp.out.2 Hbv.out.1 Hbv.out.2 (.slice none 0 0) _).mono ?_; rw [HT.out]; rintro e w9 ⟨rfl, hc9⟩; have t0 := hc9.cell0 s0; have t1 := hc9.cell0 s1; have t2 := hc9.cell0 s2; have t3 := hc9.cell0 s3; have t4 := hc9.cell0 s4; have z0 := hc9.cell0 y0; have z1 := hc9.cell0 y1; have z2 := hc9.cell0 y2; have z3 := hc9.cell0 y3; have z4 := hc9.cell0 y4; have tf : ∀ o, w9.frozen? ⟨w.heap.size, o, none⟩ = false := fun o => (hc9.cells.2 _ o HE4.out.ltr).trans (sf o))
    refine bodyPost_ret (v := .tuple #[evV ev0 (.slice none 0 0), .bool false]) (by simp [results, Tryd.results5, go_sem, ev0, t0, t1, t2, t3, t4]) rfl ?_
    rw [E.out]
    exact RetEv.none_ (by repeat (first | with_reducible exact Chg.refl _ _ | with_reducible assumption | with_reducible refine Chg.setCell ?_ (Or.inr (by first | (simp; done) | (simp; omega))) _ | with_reducible refine Chg.trans0 ?_ hc9 | with_reducible refine Chg.trans0 ?_ he | with_reducible refine Chg.trans0 ?_ hc2 | with_reducible refine Chg.trans0 ?_ hc1 | with_reducible refine Chg.alloc ?_ _ | with_reducible refine Chg.drewN ?_ _ | with_reducible refine Chg.drew ?_))
end Go.Proofs.YtaiinlhobcclcaaDoor.Wk
