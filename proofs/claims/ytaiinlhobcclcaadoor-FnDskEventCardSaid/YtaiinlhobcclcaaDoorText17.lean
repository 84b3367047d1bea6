/- Contract: how the reference writes what happens (written by a program of mine, wip/gen/gen_text17.py). -/
import Derived.Test.YtaiinlhobcclcaaDoorHexW
namespace Go.Proofs.YtaiinlhobcclcaaDoor.Wk
set_option linter.unusedVariables false
set_option linter.unusedSimpArgs false
open Go Go.RowKit Go.Deep Ow
open Rp (R sz)

theorem wp_region_quietC {P : Program} {C : World → Prop} {id : Nat} {Q : Exit → Act → World → Prop} {a : Act} {w : World} {l : List Oper} (hm : P.follows .mixedOrders = true) (hB : Region.lexB .any l.toArray = true) (hC : C w.drew)
    (h : wpQuiet P l.toArray C (fun a' => ∀ w', C w' → Q .normal a' w') l a) : (Code.region id l.toArray true).wp P Q a w :=
  wp_region_quiet (C := C) hm hB hC (by simpa using h)
section
variable {P : Program} {C : World → Prop} {a : Act} {o : Oper} {K : Act → Prop}
theorem quiet_val (v : Value) (h : ∀ w, C w → (execOp a.eval o).run P w = .ok (.value v) w) (hk : K (a.put o.dst v)) : o.quiet P a C K :=
  ⟨v, fun w hw => by unfold Oper.quietAt; rw [h w hw]; exact ⟨rfl, rfl⟩, hk⟩
theorem quiet_enter (v : Value) (f : FuncId) (args : Array Value) (h : ∀ w, C w → (execOp a.eval o).run P w = .ok (.enter f args) w) (hc : ∀ w, C w → Calls P f args w (fun e w'' => e = .returned v ∧ C w'')) (hk : K (a.put o.dst v)) : o.quiet P a C K :=
  ⟨v, fun w hw => by unfold Oper.quietAt; rw [h w hw]; exact ⟨rfl, hc w hw⟩, hk⟩
end
theorem itoa_len (n : Int) (h0 : -1000000 < n) (h1 : n < 1000000) : (Lib.itoa n).length ≤ 7 := by
  unfold Lib.itoa
  split
  · have := digits_length n.natAbs (by omega); simp only [List.length_cons]; omega
  · have := digits_length n.toNat (by omega); omega
theorem name_len (k : Nat) : (evNames.getD k []).length ≤ 5 := by
  by_cases h : k < 14
  · have : ∀ k : Fin 14, (evNames.getD k.val []).length ≤ 5 := by decide
    exact this ⟨k, h⟩
  · have hl : evNames.length = 14 := rfl
    rw [List.getD_eq_getElem?_getD, List.getElem?_eq_none (by omega)]; decide
/-- the box of what happens -/
abbrev evCells (k a p v : Int) (vb : Value) : Array Value := #[.int .i64 k, .int .i64 a, .int .i64 p, .int .i64 v, vb]

set_option maxRecDepth 100000 in
set_option maxHeartbeats 4000000 in
theorem l17Text_tick (k : Nat) (hk : 1 ≤ k ∧ k ≤ 13) (hw : k = 8 ∨ k = 9 ∨ k = 11) (a p v : Int) (ha0 : -1000000 < a) (ha1 : a < 1000000) (hp0 : -1000000 < p) (hp1 : p < 1000000) (hv0 : -1000000 < v) (hv1 : v < 1000000) (vb : Value) (w : World) :
    Calls Tryd.prog 19 #[.agg #[.int .i64 k, .int .i64 a, .int .i64 p, .int .i64 v, vb]] w fun e w' => e = .returned (str (textS k a p v)) ∧ Chg [] w w' := by
  have HT : Hid (evNames.getD k [] = textS k a p v) := Lib.hid (by unfold textS; rw [if_pos hw])
  have hki0 : (0 : Int) ≤ (k : Int) ∧ (k : Int) < 14 := by omega
  have hki1 : k < 14 := by omega
  have la := itoa_len a ha0 ha1
  have lp := itoa_len p hp0 hp1
  have lv := itoa_len v hv0 hv1
  have ln := name_len k
  have hl14 : Hid (evNames.length = 14) := Lib.hid rfl
  obtain ⟨nm, hnm⟩ : ∃ nm, evNames.getD k [] = nm := ⟨_, rfl⟩
  have NM := Lib.hid hnm
  rw [hnm] at HT ln
  clear hnm
  rcases hw with hw | hw | hw
  · have hb8 : ((k : Int) == 8) = true := by rw [beq_iff_eq]; omega
    have hb9 : ((k : Int) == 9) = false := by rw [beq_eq_false_iff_ne]; omega
    have hb11 : ((k : Int) == 11) = false := by rw [beq_eq_false_iff_ne]; omega
    clear hw
    go_enter Tryd.func19, Tryd.ntmps19
    go_wp2_with fail
    go_region_with (go_at_call 33; refine (l17Names_c _).mono ?_; rintro e w1 ⟨vn, Gn, rfl, hc1, hr1, -, -⟩; obtain ⟨bn, on, cn, en, mn, hbn, -⟩ := word_cell hr1 (i := k) hki1; rw [NM.out] at mn; rw [hl14.out] at en; subst en; have hcl1 := hc1.cells.1; have hza1 : w.heap.size < w1.heap.size := Nat.lt_of_lt_of_le (by simp) hc1.size)
    all_goals
      clear hr1
      go_wp2
      go_ret
      exact ⟨by rw [← HT.out]; rfl, by repeat (first | with_reducible exact Chg.refl _ _ | with_reducible assumption | with_reducible refine Chg.trans0 ?_ hc1 | with_reducible refine Chg.trans0 ?_ hc2 | with_reducible refine Chg.alloc ?_ _ | with_reducible refine Chg.drewN ?_ _ | with_reducible refine Chg.drew ?_)⟩
  · have hb8 : ((k : Int) == 8) = false := by rw [beq_eq_false_iff_ne]; omega
    have hb9 : ((k : Int) == 9) = true := by rw [beq_iff_eq]; omega
    have hb11 : ((k : Int) == 11) = false := by rw [beq_eq_false_iff_ne]; omega
    clear hw
    go_enter Tryd.func19, Tryd.ntmps19
    go_wp2_with fail
    go_region_with (go_at_call 33; refine (l17Names_c _).mono ?_; rintro e w1 ⟨vn, Gn, rfl, hc1, hr1, -, -⟩; obtain ⟨bn, on, cn, en, mn, hbn, -⟩ := word_cell hr1 (i := k) hki1; rw [NM.out] at mn; rw [hl14.out] at en; subst en; have hcl1 := hc1.cells.1; have hza1 : w.heap.size < w1.heap.size := Nat.lt_of_lt_of_le (by simp) hc1.size)
    all_goals
      clear hr1
      go_wp2
      go_ret
      exact ⟨by rw [← HT.out]; rfl, by repeat (first | with_reducible exact Chg.refl _ _ | with_reducible assumption | with_reducible refine Chg.trans0 ?_ hc1 | with_reducible refine Chg.trans0 ?_ hc2 | with_reducible refine Chg.alloc ?_ _ | with_reducible refine Chg.drewN ?_ _ | with_reducible refine Chg.drew ?_)⟩
  · have hb8 : ((k : Int) == 8) = false := by rw [beq_eq_false_iff_ne]; omega
    have hb9 : ((k : Int) == 9) = false := by rw [beq_eq_false_iff_ne]; omega
    have hb11 : ((k : Int) == 11) = true := by rw [beq_iff_eq]; omega
    clear hw
    go_enter Tryd.func19, Tryd.ntmps19
    go_wp2_with fail
    go_region_with (go_at_call 33; refine (l17Names_c _).mono ?_; rintro e w1 ⟨vn, Gn, rfl, hc1, hr1, -, -⟩; obtain ⟨bn, on, cn, en, mn, hbn, -⟩ := word_cell hr1 (i := k) hki1; rw [NM.out] at mn; rw [hl14.out] at en; subst en; have hcl1 := hc1.cells.1; have hza1 : w.heap.size < w1.heap.size := Nat.lt_of_lt_of_le (by simp) hc1.size)
    all_goals
      clear hr1
      go_wp2
      go_ret
      exact ⟨by rw [← HT.out]; rfl, by repeat (first | with_reducible exact Chg.refl _ _ | with_reducible assumption | with_reducible refine Chg.trans0 ?_ hc1 | with_reducible refine Chg.trans0 ?_ hc2 | with_reducible refine Chg.alloc ?_ _ | with_reducible refine Chg.drewN ?_ _ | with_reducible refine Chg.drew ?_)⟩

set_option maxRecDepth 100000 in
set_option maxHeartbeats 4000000 in
theorem l17Text_one (k : Nat) (hk : 1 ≤ k ∧ k ≤ 13) (hw : ¬ (k = 8 ∨ k = 9 ∨ k = 11)) (hw6 : k ≠ 6) (hw10 : k ≠ 10) (a p v : Int) (ha0 : -1000000 < a) (ha1 : a < 1000000) (hp0 : -1000000 < p) (hp1 : p < 1000000) (hv0 : -1000000 < v) (hv1 : v < 1000000) (vb : Value) (w : World) :
    Calls Tryd.prog 19 #[.agg #[.int .i64 k, .int .i64 a, .int .i64 p, .int .i64 v, vb]] w fun e w' => e = .returned (str (textS k a p v)) ∧ Chg [] w w' := by
  have HT : Hid (((evNames.getD k []) ++ [32]) ++ Lib.itoa a = textS k a p v) := Lib.hid (by unfold textS; rw [if_neg hw, if_neg hw6, if_neg hw10, List.append_assoc]; rfl)
  have hki0 : (0 : Int) ≤ (k : Int) ∧ (k : Int) < 14 := by omega
  have hki1 : k < 14 := by omega
  have la := itoa_len a ha0 ha1
  have lp := itoa_len p hp0 hp1
  have lv := itoa_len v hv0 hv1
  have ln := name_len k
  have hl14 : Hid (evNames.length = 14) := Lib.hid rfl
  have hb8 : ((k : Int) == 8) = false := by rw [beq_eq_false_iff_ne]; omega
  have hb9 : ((k : Int) == 9) = false := by rw [beq_eq_false_iff_ne]; omega
  have hb11 : ((k : Int) == 11) = false := by rw [beq_eq_false_iff_ne]; omega
  have hb6 : ((k : Int) == 6) = false := by rw [beq_eq_false_iff_ne]; omega
  have hb10 : ((k : Int) == 10) = false := by rw [beq_eq_false_iff_ne]; omega
  clear hw hw6 hw10
  obtain ⟨nm, hnm⟩ : ∃ nm, evNames.getD k [] = nm := ⟨_, rfl⟩
  have NM := Lib.hid hnm
  rw [hnm] at HT ln
  clear hnm
  go_enter Tryd.func19, Tryd.ntmps19
  go_wp2_with fail
  go_region_with (go_at_call 33; refine (l17Names_c _).mono ?_; rintro e w1 ⟨vn, Gn, rfl, hc1, hr1, -, -⟩; obtain ⟨bn, on, cn, en, mn, hbn, -⟩ := word_cell hr1 (i := k) hki1; rw [NM.out] at mn; rw [hl14.out] at en; subst en; have hcl1 := hc1.cells.1; have hza1 : w.heap.size < w1.heap.size := Nat.lt_of_lt_of_le (by simp) hc1.size)
  all_goals
    clear hr1
    have hx1 := add_str nm ([32]) (by (try simp only [List.length_cons, List.length_nil]); omega)
    have lx1 : (nm ++ [32]).length ≤ nm.length + 7 := by simp only [List.length_append, List.length_cons, List.length_nil]; omega
    obtain ⟨x1, ex1⟩ : ∃ x, nm ++ [32] = x := ⟨_, rfl⟩
    rw [ex1] at hx1 HT lx1
    clear ex1
    have hx2 := add_str x1 (Lib.itoa a) (by (try simp only [List.length_cons, List.length_nil]); omega)
    have lx2 : (x1 ++ Lib.itoa a).length ≤ x1.length + 7 := by simp only [List.length_append, List.length_cons, List.length_nil]; omega
    obtain ⟨x2, ex2⟩ : ∃ x, x1 ++ Lib.itoa a = x := ⟨_, rfl⟩
    rw [ex2] at hx2 HT lx2
    clear ex2
    clear la lp lv ln
    go_wp2_with (go_at_call 37; refine (l1Digits_c a ha0 ha1 _).mono ?_; rintro e w2 ⟨rfl, hc2⟩)
    go_ret
    exact ⟨by rw [← HT.out]; rfl, by repeat (first | with_reducible exact Chg.refl _ _ | with_reducible assumption | with_reducible refine Chg.trans0 ?_ hc1 | with_reducible refine Chg.trans0 ?_ hc2 | with_reducible refine Chg.alloc ?_ _ | with_reducible refine Chg.drewN ?_ _ | with_reducible refine Chg.drew ?_)⟩

set_option maxRecDepth 100000 in
set_option maxHeartbeats 4000000 in
theorem l17Text_bend (k : Nat) (hk : 1 ≤ k ∧ k ≤ 13) (hw : k = 6) (a p v : Int) (ha0 : -1000000 < a) (ha1 : a < 1000000) (hp0 : -1000000 < p) (hp1 : p < 1000000) (hv0 : -1000000 < v) (hv1 : v < 1000000) (vb : Value) (w : World) :
    Calls Tryd.prog 19 #[.agg #[.int .i64 k, .int .i64 a, .int .i64 p, .int .i64 v, vb]] w fun e w' => e = .returned (str (textS k a p v)) ∧ Chg [] w w' := by
  have HT : Hid (((((((evNames.getD k []) ++ [32]) ++ Lib.itoa a) ++ [32]) ++ Lib.itoa p) ++ [32]) ++ Lib.itoa v = textS k a p v) := Lib.hid (by unfold textS; rw [if_neg (by omega), if_pos hw]; simp only [List.append_assoc, List.cons_append, List.nil_append])
  have hki0 : (0 : Int) ≤ (k : Int) ∧ (k : Int) < 14 := by omega
  have hki1 : k < 14 := by omega
  have la := itoa_len a ha0 ha1
  have lp := itoa_len p hp0 hp1
  have lv := itoa_len v hv0 hv1
  have ln := name_len k
  have hl14 : Hid (evNames.length = 14) := Lib.hid rfl
  have hb8 : ((k : Int) == 8) = false := by rw [beq_eq_false_iff_ne]; omega
  have hb9 : ((k : Int) == 9) = false := by rw [beq_eq_false_iff_ne]; omega
  have hb11 : ((k : Int) == 11) = false := by rw [beq_eq_false_iff_ne]; omega
  have hb6 : ((k : Int) == 6) = true := by rw [beq_iff_eq]; omega
  clear hw
  obtain ⟨nm, hnm⟩ : ∃ nm, evNames.getD k [] = nm := ⟨_, rfl⟩
  have NM := Lib.hid hnm
  rw [hnm] at HT ln
  clear hnm
  go_enter Tryd.func19, Tryd.ntmps19
  go_wp2_with fail
  go_region_with (go_at_call 33; refine (l17Names_c _).mono ?_; rintro e w1 ⟨vn, Gn, rfl, hc1, hr1, -, -⟩; obtain ⟨bn, on, cn, en, mn, hbn, -⟩ := word_cell hr1 (i := k) hki1; rw [NM.out] at mn; rw [hl14.out] at en; subst en; have hcl1 := hc1.cells.1; have hza1 : w.heap.size < w1.heap.size := Nat.lt_of_lt_of_le (by simp) hc1.size)
  all_goals
    clear hr1
    have hx1 := add_str nm ([32]) (by (try simp only [List.length_cons, List.length_nil]); omega)
    have lx1 : (nm ++ [32]).length ≤ nm.length + 7 := by simp only [List.length_append, List.length_cons, List.length_nil]; omega
    obtain ⟨x1, ex1⟩ : ∃ x, nm ++ [32] = x := ⟨_, rfl⟩
    rw [ex1] at hx1 HT lx1
    clear ex1
    have hx2 := add_str x1 (Lib.itoa a) (by (try simp only [List.length_cons, List.length_nil]); omega)
    have lx2 : (x1 ++ Lib.itoa a).length ≤ x1.length + 7 := by simp only [List.length_append, List.length_cons, List.length_nil]; omega
    obtain ⟨x2, ex2⟩ : ∃ x, x1 ++ Lib.itoa a = x := ⟨_, rfl⟩
    rw [ex2] at hx2 HT lx2
    clear ex2
    have hx3 := add_str x2 ([32]) (by (try simp only [List.length_cons, List.length_nil]); omega)
    have lx3 : (x2 ++ [32]).length ≤ x2.length + 7 := by simp only [List.length_append, List.length_cons, List.length_nil]; omega
    obtain ⟨x3, ex3⟩ : ∃ x, x2 ++ [32] = x := ⟨_, rfl⟩
    rw [ex3] at hx3 HT lx3
    clear ex3
    have hx4 := add_str x3 (Lib.itoa p) (by (try simp only [List.length_cons, List.length_nil]); omega)
    have lx4 : (x3 ++ Lib.itoa p).length ≤ x3.length + 7 := by simp only [List.length_append, List.length_cons, List.length_nil]; omega
    obtain ⟨x4, ex4⟩ : ∃ x, x3 ++ Lib.itoa p = x := ⟨_, rfl⟩
    rw [ex4] at hx4 HT lx4
    clear ex4
    have hx5 := add_str x4 ([32]) (by (try simp only [List.length_cons, List.length_nil]); omega)
    have lx5 : (x4 ++ [32]).length ≤ x4.length + 7 := by simp only [List.length_append, List.length_cons, List.length_nil]; omega
    obtain ⟨x5, ex5⟩ : ∃ x, x4 ++ [32] = x := ⟨_, rfl⟩
    rw [ex5] at hx5 HT lx5
    clear ex5
    have hx6 := add_str x5 (Lib.itoa v) (by (try simp only [List.length_cons, List.length_nil]); omega)
    have lx6 : (x5 ++ Lib.itoa v).length ≤ x5.length + 7 := by simp only [List.length_append, List.length_cons, List.length_nil]; omega
    obtain ⟨x6, ex6⟩ : ∃ x, x5 ++ Lib.itoa v = x := ⟨_, rfl⟩
    rw [ex6] at hx6 HT lx6
    clear ex6
    clear la lp lv ln lx1 lx2 lx3 lx4 lx5 lx6
    go_wp2_with fail
    have hm1 : w1.cell? ⟨w.heap.size, 1, none⟩ = some (.int .i64 a) := by rw [hcl1 _ _ (by simp)]; simp
    have hm2 : w1.cell? ⟨w.heap.size, 2, none⟩ = some (.int .i64 p) := by rw [hcl1 _ _ (by simp)]; simp
    have hm3 : w1.cell? ⟨w.heap.size, 3, none⟩ = some (.int .i64 v) := by rw [hcl1 _ _ (by simp)]; simp
    refine wp_region_quietC (C := fun W => Chg [] w1 W) (by kernel_rfl) (by kernel_rfl) (Chg.drew (by repeat (first | with_reducible exact Chg.refl _ _ | with_reducible refine Chg.drewN ?_ _ | with_reducible refine Chg.drew ?_))) ?_
    go_big_quiet_want
    refine quiet_val (str nm) (fun wq hq => ?_) ?_
    · rfl
    go_big_quiet_on
    (try simp only [Act.put, List.setIfInBounds_toArray, List.set_cons_zero, List.set_cons_succ])
    go_big_quiet_want
    refine quiet_val (str x1) (fun wq hq => ?_) ?_
    · simp [go_sem, hx1]
    go_big_quiet_on
    (try simp only [Act.put, List.setIfInBounds_toArray, List.set_cons_zero, List.set_cons_succ])
    go_big_quiet_want
    refine quiet_val (.pointer (some ⟨w.heap.size, 1, none⟩)) (fun wq hq => ?_) ?_
    · (first | rfl | simp [go_sem])
    go_big_quiet_on
    (try simp only [Act.put, List.setIfInBounds_toArray, List.set_cons_zero, List.set_cons_succ])
    go_big_quiet_want
    refine quiet_val (.int .i64 a) (fun wq hq => ?_) ?_
    · (have hq2 := Chg.cell0 hq hm1; simp [go_sem, hq2])
    go_big_quiet_on
    (try simp only [Act.put, List.setIfInBounds_toArray, List.set_cons_zero, List.set_cons_succ])
    go_big_quiet_want
    refine quiet_enter (str (Lib.itoa a)) 37 #[.int .i64 a] (fun wq hq => ?_) (fun wq hq => ?_) ?_
    · simp [go_sem]
    · exact (l1Digits_c a (by omega) (by omega) wq).mono fun _ _ h => ⟨h.1, Chg.trans0 hq h.2⟩
    go_big_quiet_on
    (try simp only [Act.put, List.setIfInBounds_toArray, List.set_cons_zero, List.set_cons_succ])
    go_big_quiet_want
    refine quiet_val (str x2) (fun wq hq => ?_) ?_
    · simp [go_sem, hx2]
    go_big_quiet_on
    (try simp only [Act.put, List.setIfInBounds_toArray, List.set_cons_zero, List.set_cons_succ])
    go_big_quiet_want
    refine quiet_val (str x3) (fun wq hq => ?_) ?_
    · simp [go_sem, hx3]
    go_big_quiet_on
    (try simp only [Act.put, List.setIfInBounds_toArray, List.set_cons_zero, List.set_cons_succ])
    go_big_quiet_want
    refine quiet_val (.pointer (some ⟨w.heap.size, 2, none⟩)) (fun wq hq => ?_) ?_
    · (first | rfl | simp [go_sem])
    go_big_quiet_on
    (try simp only [Act.put, List.setIfInBounds_toArray, List.set_cons_zero, List.set_cons_succ])
    go_big_quiet_want
    refine quiet_val (.int .i64 p) (fun wq hq => ?_) ?_
    · (have hq2 := Chg.cell0 hq hm2; simp [go_sem, hq2])
    go_big_quiet_on
    (try simp only [Act.put, List.setIfInBounds_toArray, List.set_cons_zero, List.set_cons_succ])
    go_big_quiet_want
    refine quiet_enter (str (Lib.itoa p)) 37 #[.int .i64 p] (fun wq hq => ?_) (fun wq hq => ?_) ?_
    · simp [go_sem]
    · exact (l1Digits_c p (by omega) (by omega) wq).mono fun _ _ h => ⟨h.1, Chg.trans0 hq h.2⟩
    go_big_quiet_on
    (try simp only [Act.put, List.setIfInBounds_toArray, List.set_cons_zero, List.set_cons_succ])
    go_big_quiet_want
    refine quiet_val (str x4) (fun wq hq => ?_) ?_
    · simp [go_sem, hx4]
    go_big_quiet_on
    (try simp only [Act.put, List.setIfInBounds_toArray, List.set_cons_zero, List.set_cons_succ])
    go_big_quiet_want
    refine quiet_val (str x5) (fun wq hq => ?_) ?_
    · simp [go_sem, hx5]
    go_big_quiet_on
    (try simp only [Act.put, List.setIfInBounds_toArray, List.set_cons_zero, List.set_cons_succ])
    go_big_quiet_want
    refine quiet_val (.pointer (some ⟨w.heap.size, 3, none⟩)) (fun wq hq => ?_) ?_
    · (first | rfl | simp [go_sem])
    go_big_quiet_on
    (try simp only [Act.put, List.setIfInBounds_toArray, List.set_cons_zero, List.set_cons_succ])
    go_big_quiet_want
    refine quiet_val (.int .i64 v) (fun wq hq => ?_) ?_
    · (have hq2 := Chg.cell0 hq hm3; simp [go_sem, hq2])
    go_big_quiet_on
    (try simp only [Act.put, List.setIfInBounds_toArray, List.set_cons_zero, List.set_cons_succ])
    go_big_quiet_want
    refine quiet_enter (str (Lib.itoa v)) 37 #[.int .i64 v] (fun wq hq => ?_) (fun wq hq => ?_) ?_
    · simp [go_sem]
    · exact (l1Digits_c v (by omega) (by omega) wq).mono fun _ _ h => ⟨h.1, Chg.trans0 hq h.2⟩
    go_big_quiet_on
    (try simp only [Act.put, List.setIfInBounds_toArray, List.set_cons_zero, List.set_cons_succ])
    go_big_quiet_want
    refine quiet_val (str x6) (fun wq hq => ?_) ?_
    · simp [go_sem, hx6]
    go_big_quiet_on
    (try simp only [Act.put, List.setIfInBounds_toArray, List.set_cons_zero, List.set_cons_succ])
    go_big_quiet_want
    refine quiet_val (str x6) (fun wq hq => ?_) ?_
    · rfl
    go_big_quiet_on
    (try simp only [Act.put, List.setIfInBounds_toArray, List.set_cons_zero, List.set_cons_succ])
    refine wpQuiet_nil (fun w2 hc2 => ?_)
    go_wp2
    go_ret
    exact ⟨by rw [← HT.out]; rfl, by repeat (first | with_reducible exact Chg.refl _ _ | with_reducible assumption | with_reducible refine Chg.trans0 ?_ hc1 | with_reducible refine Chg.trans0 ?_ hc2 | with_reducible refine Chg.alloc ?_ _ | with_reducible refine Chg.drewN ?_ _ | with_reducible refine Chg.drew ?_)⟩

set_option maxRecDepth 100000 in
set_option maxHeartbeats 4000000 in
theorem l17Text_torn (k : Nat) (hk : 1 ≤ k ∧ k ≤ 13) (hw : k = 10) (a p v : Int) (ha0 : -1000000 < a) (ha1 : a < 1000000) (hp0 : -1000000 < p) (hp1 : p < 1000000) (hv0 : -1000000 < v) (hv1 : v < 1000000) (vb : Value) (w : World) :
    Calls Tryd.prog 19 #[.agg #[.int .i64 k, .int .i64 a, .int .i64 p, .int .i64 v, vb]] w fun e w' => e = .returned (str (textS k a p v)) ∧ Chg [] w w' := by
  have HT : Hid (((((evNames.getD k []) ++ [32]) ++ Lib.itoa a) ++ [32]) ++ Lib.itoa p = textS k a p v) := Lib.hid (by unfold textS; rw [if_neg (by omega), if_neg (by omega), if_pos hw]; simp only [List.append_assoc, List.cons_append, List.nil_append])
  have hki0 : (0 : Int) ≤ (k : Int) ∧ (k : Int) < 14 := by omega
  have hki1 : k < 14 := by omega
  have la := itoa_len a ha0 ha1
  have lp := itoa_len p hp0 hp1
  have lv := itoa_len v hv0 hv1
  have ln := name_len k
  have hl14 : Hid (evNames.length = 14) := Lib.hid rfl
  have hb8 : ((k : Int) == 8) = false := by rw [beq_eq_false_iff_ne]; omega
  have hb9 : ((k : Int) == 9) = false := by rw [beq_eq_false_iff_ne]; omega
  have hb11 : ((k : Int) == 11) = false := by rw [beq_eq_false_iff_ne]; omega
  have hb6 : ((k : Int) == 6) = false := by rw [beq_eq_false_iff_ne]; omega
  have hb10 : ((k : Int) == 10) = true := by rw [beq_iff_eq]; omega
  clear hw
  obtain ⟨nm, hnm⟩ : ∃ nm, evNames.getD k [] = nm := ⟨_, rfl⟩
  have NM := Lib.hid hnm
  rw [hnm] at HT ln
  clear hnm
  go_enter Tryd.func19, Tryd.ntmps19
  go_wp2_with fail
  go_region_with (go_at_call 33; refine (l17Names_c _).mono ?_; rintro e w1 ⟨vn, Gn, rfl, hc1, hr1, -, -⟩; obtain ⟨bn, on, cn, en, mn, hbn, -⟩ := word_cell hr1 (i := k) hki1; rw [NM.out] at mn; rw [hl14.out] at en; subst en; have hcl1 := hc1.cells.1; have hza1 : w.heap.size < w1.heap.size := Nat.lt_of_lt_of_le (by simp) hc1.size)
  all_goals
    clear hr1
    have hx1 := add_str nm ([32]) (by (try simp only [List.length_cons, List.length_nil]); omega)
    have lx1 : (nm ++ [32]).length ≤ nm.length + 7 := by simp only [List.length_append, List.length_cons, List.length_nil]; omega
    obtain ⟨x1, ex1⟩ : ∃ x, nm ++ [32] = x := ⟨_, rfl⟩
    rw [ex1] at hx1 HT lx1
    clear ex1
    have hx2 := add_str x1 (Lib.itoa a) (by (try simp only [List.length_cons, List.length_nil]); omega)
    have lx2 : (x1 ++ Lib.itoa a).length ≤ x1.length + 7 := by simp only [List.length_append, List.length_cons, List.length_nil]; omega
    obtain ⟨x2, ex2⟩ : ∃ x, x1 ++ Lib.itoa a = x := ⟨_, rfl⟩
    rw [ex2] at hx2 HT lx2
    clear ex2
    have hx3 := add_str x2 ([32]) (by (try simp only [List.length_cons, List.length_nil]); omega)
    have lx3 : (x2 ++ [32]).length ≤ x2.length + 7 := by simp only [List.length_append, List.length_cons, List.length_nil]; omega
    obtain ⟨x3, ex3⟩ : ∃ x, x2 ++ [32] = x := ⟨_, rfl⟩
    rw [ex3] at hx3 HT lx3
    clear ex3
    have hx4 := add_str x3 (Lib.itoa p) (by (try simp only [List.length_cons, List.length_nil]); omega)
    have lx4 : (x3 ++ Lib.itoa p).length ≤ x3.length + 7 := by simp only [List.length_append, List.length_cons, List.length_nil]; omega
    obtain ⟨x4, ex4⟩ : ∃ x, x3 ++ Lib.itoa p = x := ⟨_, rfl⟩
    rw [ex4] at hx4 HT lx4
    clear ex4
    clear la lp lv ln lx1 lx2 lx3 lx4
    go_wp2_with fail
    have hm1 : w1.cell? ⟨w.heap.size, 1, none⟩ = some (.int .i64 a) := by rw [hcl1 _ _ (by simp)]; simp
    have hm2 : w1.cell? ⟨w.heap.size, 2, none⟩ = some (.int .i64 p) := by rw [hcl1 _ _ (by simp)]; simp
    refine wp_region_quietC (C := fun W => Chg [] w1 W) (by kernel_rfl) (by kernel_rfl) (Chg.drew (by repeat (first | with_reducible exact Chg.refl _ _ | with_reducible refine Chg.drewN ?_ _ | with_reducible refine Chg.drew ?_))) ?_
    go_big_quiet_want
    refine quiet_val (str nm) (fun wq hq => ?_) ?_
    · rfl
    go_big_quiet_on
    (try simp only [Act.put, List.setIfInBounds_toArray, List.set_cons_zero, List.set_cons_succ])
    go_big_quiet_want
    refine quiet_val (str x1) (fun wq hq => ?_) ?_
    · simp [go_sem, hx1]
    go_big_quiet_on
    (try simp only [Act.put, List.setIfInBounds_toArray, List.set_cons_zero, List.set_cons_succ])
    go_big_quiet_want
    refine quiet_val (.pointer (some ⟨w.heap.size, 1, none⟩)) (fun wq hq => ?_) ?_
    · (first | rfl | simp [go_sem])
    go_big_quiet_on
    (try simp only [Act.put, List.setIfInBounds_toArray, List.set_cons_zero, List.set_cons_succ])
    go_big_quiet_want
    refine quiet_val (.int .i64 a) (fun wq hq => ?_) ?_
    · (have hq2 := Chg.cell0 hq hm1; simp [go_sem, hq2])
    go_big_quiet_on
    (try simp only [Act.put, List.setIfInBounds_toArray, List.set_cons_zero, List.set_cons_succ])
    go_big_quiet_want
    refine quiet_enter (str (Lib.itoa a)) 37 #[.int .i64 a] (fun wq hq => ?_) (fun wq hq => ?_) ?_
    · simp [go_sem]
    · exact (l1Digits_c a (by omega) (by omega) wq).mono fun _ _ h => ⟨h.1, Chg.trans0 hq h.2⟩
    go_big_quiet_on
    (try simp only [Act.put, List.setIfInBounds_toArray, List.set_cons_zero, List.set_cons_succ])
    go_big_quiet_want
    refine quiet_val (str x2) (fun wq hq => ?_) ?_
    · simp [go_sem, hx2]
    go_big_quiet_on
    (try simp only [Act.put, List.setIfInBounds_toArray, List.set_cons_zero, List.set_cons_succ])
    go_big_quiet_want
    refine quiet_val (str x3) (fun wq hq => ?_) ?_
    · simp [go_sem, hx3]
    go_big_quiet_on
    (try simp only [Act.put, List.setIfInBounds_toArray, List.set_cons_zero, List.set_cons_succ])
    go_big_quiet_want
    refine quiet_val (.pointer (some ⟨w.heap.size, 2, none⟩)) (fun wq hq => ?_) ?_
    · (first | rfl | simp [go_sem])
    go_big_quiet_on
    (try simp only [Act.put, List.setIfInBounds_toArray, List.set_cons_zero, List.set_cons_succ])
    go_big_quiet_want
    refine quiet_val (.int .i64 p) (fun wq hq => ?_) ?_
    · (have hq2 := Chg.cell0 hq hm2; simp [go_sem, hq2])
    go_big_quiet_on
    (try simp only [Act.put, List.setIfInBounds_toArray, List.set_cons_zero, List.set_cons_succ])
    go_big_quiet_want
    refine quiet_enter (str (Lib.itoa p)) 37 #[.int .i64 p] (fun wq hq => ?_) (fun wq hq => ?_) ?_
    · simp [go_sem]
    · exact (l1Digits_c p (by omega) (by omega) wq).mono fun _ _ h => ⟨h.1, Chg.trans0 hq h.2⟩
    go_big_quiet_on
    (try simp only [Act.put, List.setIfInBounds_toArray, List.set_cons_zero, List.set_cons_succ])
    go_big_quiet_want
    refine quiet_val (str x4) (fun wq hq => ?_) ?_
    · simp [go_sem, hx4]
    go_big_quiet_on
    (try simp only [Act.put, List.setIfInBounds_toArray, List.set_cons_zero, List.set_cons_succ])
    go_big_quiet_want
    refine quiet_val (str x4) (fun wq hq => ?_) ?_
    · rfl
    go_big_quiet_on
    (try simp only [Act.put, List.setIfInBounds_toArray, List.set_cons_zero, List.set_cons_succ])
    refine wpQuiet_nil (fun w2 hc2 => ?_)
    go_wp2
    go_ret
    exact ⟨by rw [← HT.out]; rfl, by repeat (first | with_reducible exact Chg.refl _ _ | with_reducible assumption | with_reducible refine Chg.trans0 ?_ hc1 | with_reducible refine Chg.trans0 ?_ hc2 | with_reducible refine Chg.alloc ?_ _ | with_reducible refine Chg.drewN ?_ _ | with_reducible refine Chg.drew ?_)⟩

theorem l17Text_c (k : Nat) (hk : 1 ≤ k ∧ k ≤ 13) (a p v : Int) (ha0 : -1000000 < a) (ha1 : a < 1000000) (hp0 : -1000000 < p) (hp1 : p < 1000000) (hv0 : -1000000 < v) (hv1 : v < 1000000) (vb : Value) (w : World) :
    Calls Tryd.prog 19 #[.agg #[.int .i64 k, .int .i64 a, .int .i64 p, .int .i64 v, vb]] w fun e w' => e = .returned (str (textS k a p v)) ∧ Chg [] w w' := by
  by_cases h1 : k = 8 ∨ k = 9 ∨ k = 11
  · exact l17Text_tick k hk h1 a p v ha0 ha1 hp0 hp1 hv0 hv1 vb w
  by_cases h6 : k = 6
  · exact l17Text_bend k hk h6 a p v ha0 ha1 hp0 hp1 hv0 hv1 vb w
  by_cases h10 : k = 10
  · exact l17Text_torn k hk h10 a p v ha0 ha1 hp0 hp1 hv0 hv1 vb w
  · exact l17Text_one k hk h1 h6 h10 a p v ha0 ha1 hp0 hp1 hv0 hv1 vb w
end Go.Proofs.YtaiinlhobcclcaaDoor.Wk
