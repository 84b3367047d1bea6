/- A part of the proof. -/
import Derived.Test.YtjakhnhnjhafgaaGreatK05
import Derived.Test.YtjakhnhnjhafgaaGreatK03
import Derived.Test.YtjakhnhnjhafgaaGreatK01
import Derived.Deep.RegionLaw
import Derived.Test.YtjakhnhnjhafgaaGreatK02
set_option linter.unusedVariables false
set_option linter.unusedSimpArgs false
namespace Go.Proofs.YtjakhnhnjhafgaaGreat.Wk
open Go Go.RowKit Go.Deep Ow
open Rp (R sz)
def Idx (b : Bool) (e : Ending) : Prop := ∃ r : Int, e = .returned (.int .i64 r) ∧ -1 ≤ r ∧ r ≤ 9223372036854775807 ∧ decide (0 ≤ r) = b
set_option maxRecDepth 100000 in
set_option maxHeartbeats 2000000 in
theorem indexIns_c (q : InsIns → Bool) (xs : List InsIns) (v : Value) (F : List Nat) (w : World) (a1 a2 : Addr) (h : RL w xs v F)
 (hq : ∀ (x : InsIns) (wx : World), Chg [] w wx → Calls Tryz.prog 119 #[insV x, .pointer (some a1), .pointer (some a2)] wx fun e w' => e = .returned (.bool (q x)) ∧ Chg [] wx w') :
 Calls Tryz.prog 169 #[v, .func (.func 119) #[] #[.pointer (some a1), .pointer (some a2)]] w fun e w' => Idx (xs.any q) e ∧ Chg [] w w' := by
 obtain ⟨A, ca, rfl, hl, hm⟩ := h.form
 have hn : xs.length ≤ maxLen := by omega
 unfold maxLen at hn
 go_enter Tryz.func169, Tryz.ntmps169
 go_wp2
 go_loopw [8] (fun i wr => ∃ k : Nat, k ≤ xs.length ∧ i = .int .i64 k ∧ Chg [] w wr ∧ (xs.take k).any q = false) (fun i _ => xs.length - (intOf i).toNat)
 case atStart => exact ⟨0, Nat.zero_le _, rfl, Chg.refl _ _, by simp⟩
 case round =>
  obtain ⟨k, hk, rfl, hc, hall⟩ := hrel
  by_cases hlt : k < xs.length
  · obtain ⟨b1, o1, p1, c1, f1, e1, r1, m1, -⟩ := (h.chg0 hc).elem hlt
    obtain ⟨rfl, rfl, -⟩ := R_InsIns.1 r1
    injection e1 with e1 _ e1c
    subst e1 e1c
    have ya0 := m1 0 (by decide)
    have ya1 := m1 1 (by decide)
    have ya2 := m1 2 (by decide)
    have ya3 := m1 3 (by decide)
    have ya4 := m1 4 (by decide)
    have ya5 := m1 5 (by decide)
    have ya6 := m1 6 (by decide)
    have ya7 := m1 7 (by decide)
    simp only [sz_InsIns, Nat.mul_one, Nat.add_zero, List.getElem?_cons_zero, List.getElem?_cons_succ] at ya0 ya1 ya2 ya3 ya4 ya5 ya6 ya7
    have hall' := Lib.hid hall
    clear hall m1 r1 h
    have hq' := hq xs[k]
    clear hq
    by_cases hi : q xs[k] = true
    · rw [hi] at hq'
      go_wp2_with (go_at_call 119; refine (hq' _ hc).mono ?_; rintro e w1 ⟨rfl, hc1⟩)
      go_ret
      exact ⟨⟨_, rfl, by omega, by omega, by
       rw [decide_eq_true (by omega)]
       exact (List.any_eq_true.2 ⟨xs[k], List.getElem_mem hlt, hi⟩).symm⟩, hc.trans0 hc1⟩
    · rw [Bool.not_eq_true] at hi
      rw [hi] at hq'
      go_wp2_with (go_at_call 119; refine (hq' _ hc).mono ?_; rintro e w1 ⟨rfl, hc1⟩)
      go_roundw
      case rel => exact ⟨k + 1, by omega, by go_num, hc.trans0 hc1, by rw [List.take_succ_eq_append_getElem hlt, List.any_append, hall'.out]; simp [hi]⟩
      case measure => simp [intOf]; omega
  · obtain rfl : k = xs.length := by omega
    rw [List.take_length] at hall
    have hall' := Lib.hid hall
    clear h hq hall
    go_wp2
    go_ret
    exact ⟨⟨-1, rfl, by omega, by omega, by rw [hall'.out]; rfl⟩, hc⟩
theorem containsIns_c (q : InsIns → Bool) (xs : List InsIns) (v : Value) (F : List Nat) (w : World) (a1 a2 : Addr) (h : RL w xs v F)
 (hq : ∀ (x : InsIns) (wx : World), Chg [] w wx → Calls Tryz.prog 119 #[insV x, .pointer (some a1), .pointer (some a2)] wx fun e w' => e = .returned (.bool (q x)) ∧ Chg [] wx w') :
 Calls Tryz.prog 118 #[v, .func (.func 119) #[] #[.pointer (some a1), .pointer (some a2)]] w fun e w' => e = .returned (.bool (xs.any q)) ∧ Chg [] w w' := by
 obtain ⟨A, ca, rfl, hl, hm⟩ := h.form
 go_enter Tryz.func118, Tryz.ntmps118
 go_wp2_with fail
 refine (indexIns_c q xs _ F w a1 a2 h hq).mono ?_
 rintro e w1 ⟨⟨r, rfl, hr1, hr2, hr⟩, hc1⟩
 have hr' := Lib.hid hr
 clear hr h hq
 by_cases h0 : 0 ≤ r
 all_goals
  go_wp2
  go_ret
  exact ⟨by rw [← hr'.out]; simp [h0], hc1⟩
set_option maxRecDepth 100000 in
set_option maxHeartbeats 2000000 in
theorem indexNum_c (q : Int → Bool) (xs : List Int) (v : Value) (F : List Nat) (w : World) (h : RL w xs v F)
 (hq : ∀ (x : Int) (wx : World), Chg [] w wx → Calls Tryz.prog 204 #[.int .i64 x] wx fun e w' => e = .returned (.bool (q x)) ∧ Chg [] wx w') :
 Calls Tryz.prog 165 #[v, .func (.func 204) #[] #[]] w fun e w' => Idx (xs.any q) e ∧ Chg [] w w' := by
 obtain ⟨A, ca, rfl, hl, hm⟩ := h.form
 have hn : xs.length ≤ maxLen := by omega
 unfold maxLen at hn
 go_enter Tryz.func165, Tryz.ntmps165
 go_wp2
 go_loopw [8] (fun i wr => ∃ k : Nat, k ≤ xs.length ∧ i = .int .i64 k ∧ Chg [] w wr ∧ (xs.take k).any q = false) (fun i _ => xs.length - (intOf i).toNat)
 case atStart => exact ⟨0, Nat.zero_le _, rfl, Chg.refl _ _, by simp⟩
 case round =>
  obtain ⟨k, hk, rfl, hc, hall⟩ := hrel
  by_cases hlt : k < xs.length
  · obtain ⟨b1, o1, p1, c1, f1, e1, r1, m1, -⟩ := (h.chg0 hc).elem hlt
    obtain ⟨rfl, rfl, -⟩ := R_int.1 r1
    injection e1 with e1 _ e1c
    subst e1 e1c
    have ya0 := m1 0 (by decide)
    simp only [sz_int, Nat.mul_one, Nat.add_zero, List.getElem?_cons_zero, List.getElem?_cons_succ] at ya0
    have hall' := Lib.hid hall
    clear hall m1 r1 h
    have hq' := hq xs[k]
    clear hq
    by_cases hi : q xs[k] = true
    · rw [hi] at hq'
      go_wp2_with (go_at_call 204; refine (hq' _ hc).mono ?_; rintro e w1 ⟨rfl, hc1⟩)
      go_ret
      exact ⟨⟨_, rfl, by omega, by omega, by
       rw [decide_eq_true (by omega)]
       exact (List.any_eq_true.2 ⟨xs[k], List.getElem_mem hlt, hi⟩).symm⟩, hc.trans0 hc1⟩
    · rw [Bool.not_eq_true] at hi
      rw [hi] at hq'
      go_wp2_with (go_at_call 204; refine (hq' _ hc).mono ?_; rintro e w1 ⟨rfl, hc1⟩)
      go_roundw
      case rel => exact ⟨k + 1, by omega, by go_num, hc.trans0 hc1, by rw [List.take_succ_eq_append_getElem hlt, List.any_append, hall'.out]; simp [hi]⟩
      case measure => simp [intOf]; omega
  · obtain rfl : k = xs.length := by omega
    rw [List.take_length] at hall
    have hall' := Lib.hid hall
    clear h hq hall
    go_wp2
    go_ret
    exact ⟨⟨-1, rfl, by omega, by omega, by rw [hall'.out]; rfl⟩, hc⟩
theorem containsNum_c (q : Int → Bool) (xs : List Int) (v : Value) (F : List Nat) (w : World) (h : RL w xs v F)
 (hq : ∀ (x : Int) (wx : World), Chg [] w wx → Calls Tryz.prog 204 #[.int .i64 x] wx fun e w' => e = .returned (.bool (q x)) ∧ Chg [] wx w') :
 Calls Tryz.prog 109 #[v, .func (.func 204) #[] #[]] w fun e w' => e = .returned (.bool (xs.any q)) ∧ Chg [] w w' := by
 obtain ⟨A, ca, rfl, hl, hm⟩ := h.form
 go_enter Tryz.func109, Tryz.ntmps109
 go_wp2_with fail
 refine (indexNum_c q xs _ F w h hq).mono ?_
 rintro e w1 ⟨⟨r, rfl, hr1, hr2, hr⟩, hc1⟩
 have hr' := Lib.hid hr
 clear hr h hq
 by_cases h0 : 0 ≤ r
 all_goals
  go_wp2
  go_ret
  exact ⟨by rw [← hr'.out]; simp [h0], hc1⟩
theorem num1_c (n : Int) (w : World) : Calls Tryz.prog 204 #[.int .i64 n] w fun e w' => e = .returned (.bool (!numOk n)) ∧ Chg [] w w' := by
 go_enter Tryz.func204, Tryz.ntmps204
 go_wp2_with (go_at_call 63; refine (implNumOk_c _ _).mono ?_; rintro e w3 ⟨rfl, rfl⟩)
 go_ret
 exact ⟨rfl, Chg.refl _ _⟩
set_option maxHeartbeats 1000000 in
theorem implNums_c (l : List Int) (v : Value) (F : List Nat) (w : World) (h : RL w l v F) : Calls Tryz.prog 173 #[v, .int .i64 4] w fun e w' => e = .returned (.bool (numsOk l 4)) ∧ Chg [] w w' := by
 obtain ⟨A, ca, rfl, hl, hm⟩ := h.form
 have hn : l.length ≤ maxLen := by omega
 unfold maxLen at hn
 by_cases h4 : ((l.length : Int) == 4) = true
 case neg =>
  have h6 : l.length ≠ 4 := by intro e; apply h4; rw [e]; rfl
  rw [Bool.not_eq_true] at h4
  clear h
  go_enter Tryz.func173, Tryz.ntmps173
  go_wp2
  go_ret
  exact ⟨by simp [numsOk, h6], Chg.c⟩
 have h6 : l.length = 4 := by simp at h4; omega
 have hpo : numsOk l 4 = !(l.any fun n => !numOk n) := by
  have : l.all numOk = !(l.any fun n => !numOk n) := by rw [List.not_any_eq_all_not]; simp
  simp [numsOk, h6, this]
 rw [hpo]
 clear hpo h6
 have hcon := containsNum_c (fun n => !numOk n) l _ F w h (fun x wx _ => num1_c x wx)
 generalize (l.any fun n => !numOk n) = b at hcon ⊢
 clear h
 go_enter Tryz.func173, Tryz.ntmps173
 go_wp2_with (go_at_call 109; refine hcon.mono ?_; rintro e w3 ⟨rfl, hc3⟩)
 go_ret
 exact ⟨by cases b <;> rfl, hc3⟩
theorem itv_c (lo hi : Int) (v : Value) (w : World) : Calls Tryz.prog 116 #[.agg #[.int .i64 lo, .int .i64 hi, v]] w fun e w' => e = .returned (.agg #[.int .i64 lo, .int .i64 hi]) ∧ Chg [] w w' := by
 go_enter Tryz.func116, Tryz.ntmps116
 go_wp2
 exact bodyPost_ret (v := .agg #[.int .i64 lo, .int .i64 hi]) (by simp [results, Tryz.results116, go_sem]) rfl ⟨rfl, Chg.c⟩
set_option maxHeartbeats 1000000 in
theorem prg1_c (i : InsIns) (n : Nat) (size : Int) (A : Option Addr) (ca : Nat) (b1 b2 : Nat) (w : World) (h1 : w.cell? ⟨b1, 0, none⟩ = some (.slice A n ca)) (h2 : w.cell? ⟨b2, 0, none⟩ = some (.int .i64 size)) :
 Calls Tryz.prog 119 #[insV i, .pointer (some ⟨b1, 0, none⟩), .pointer (some ⟨b2, 0, none⟩)] w fun e w' => e = .returned (.bool (!insOk i n size)) ∧ Chg [] w w' := by
 have hb1 : b1 < w.heap.size := World.block_lt_of_cell? _ _ h1
 have hb2 : b2 < w.heap.size := World.block_lt_of_cell? _ _ h2
 go_enter Tryz.func119, Tryz.ntmps119
 go_wp2_with (go_at_call 55; refine (implInsOk_c i _ _ _).mono ?_; rintro e w3 ⟨rfl, hc3⟩)
 go_ret
 exact ⟨rfl, Chg.k⟩
theorem prgOk_no {p : PrgProg} {k : Nat} (hlt : k < p.Procs.length) (h : procOk p.Procs[k] p.Procs.length = false) : prgOk p = false := by
 have : p.Procs.all (fun c => procOk c p.Procs.length) = false := by
  rw [List.all_eq_false]
  exact ⟨p.Procs[k], List.getElem_mem hlt, by simp [h]⟩
 unfold prgOk
 rw [this, Bool.and_false]
set_option maxRecDepth 100000 in
set_option maxHeartbeats 4000000 in
theorem implPrgOk_c (p : PrgProg) (v : Value) (F : List Nat) (w : World) (h : RL w p.Procs v F) : Calls Tryz.prog 54 #[.agg #[v]] w fun e w' => e = .returned (.bool (prgOk p)) ∧ Chg [] w w' := by
 obtain ⟨A, ca, rfl, hl, hm⟩ := h.form
 have hn : p.Procs.length ≤ maxLen := by omega
 unfold maxLen at hn
 by_cases h1 : p.Procs.length < 1
 case pos =>
  have h6 : prgOk p = false := by simp [prgOk]; omega
  rw [h6]
  clear h h6
  go_enter Tryz.func54, Tryz.ntmps54
  go_wp2
  go_ret
  exact ⟨rfl, Chg.c⟩
 by_cases h2 : 4 < p.Procs.length
 case pos =>
  have h6 : prgOk p = false := by
   have h7 : decide (p.Procs.length ≤ 4) = false := decide_eq_false (by omega)
   simp [prgOk, h7]
  rw [h6]
  clear h h6
  go_enter Tryz.func54, Tryz.ntmps54
  go_wp2
  go_ret
  exact ⟨rfl, Chg.c⟩
 have hall1 : p.Procs.all (fun c => procOk c p.Procs.length) = true → prgOk p = true := by
  intro hh
  simp only [prgOk, hh, Bool.and_true, Bool.and_eq_true, decide_eq_true_eq]
  omega
 have hlen := Lib.hid hall1
 clear hall1
 have hI2 : (p.Procs.length : Int) ≤ 4 := by omega
 have hI1 : (1 : Int) ≤ p.Procs.length := by omega
 go_enter Tryz.func54, Tryz.ntmps54
 go_wp2
 clear h1 h2
 go_loopw [19] (fun i wr => ∃ k : Nat, k ≤ p.Procs.length ∧ i = .int .i64 k ∧ Chg [] w wr ∧ wr.cell? ⟨w.heap.size, 0, none⟩ = some (.slice A p.Procs.length ca) ∧ w.heap.size < wr.heap.size ∧ (p.Procs.take k).all (fun c => procOk c p.Procs.length) = true) (fun i _ => p.Procs.length - (intOf i).toNat)
 case atStart => exact ⟨0, Nat.zero_le _, rfl, Chg.c, by simp, by simp, by simp⟩
 case round =>
  obtain ⟨k, hk, rfl, hc, hcell, hsz, hall⟩ := hrel
  by_cases hlt : k < p.Procs.length
  · obtain ⟨b1, o1, p1, c1, f1, e1, r1, m1, -⟩ := (h.chg0 hc).elem hlt
    obtain ⟨vC, FC, rfl, rfl, -, -, g1⟩ := R_PrcProc.1 r1
    injection e1 with e1 _ e1c
    subst e1 e1c
    have ya0 := m1 0 (by decide)
    have ya1 := m1 1 (by decide)
    have ya2 := m1 2 (by decide)
    simp only [sz_PrcProc, Nat.add_zero, List.getElem?_cons_zero, List.getElem?_cons_succ] at ya0 ya1 ya2
    have hall' := Lib.hid hall
    clear hall m1 r1 h
    obtain ⟨B, cb, rfl, hlb, hmb⟩ := g1.form
    have hnb : p.Procs[k].Code.length ≤ maxLen := by omega
    unfold maxLen at hnb
    have hpo : procOk p.Procs[k] p.Procs.length = (itvOk ⟨p.Procs[k].Lo, p.Procs[k].Hi⟩ && decide (1 ≤ p.Procs[k].Code.length) && decide (p.Procs[k].Code.length ≤ 10) && !(p.Procs[k].Code.any fun i => !insOk i p.Procs.length p.Procs[k].Code.length) && (p.Procs[k].Code.getLast?.elim false insEnds)) := by
     unfold procOk
     congr 2
     rw [List.not_any_eq_all_not]
     simp
    by_cases hitv : itvOk ⟨p.Procs[k].Lo, p.Procs[k].Hi⟩ = true
    case neg =>
     rw [Bool.not_eq_true] at hitv
     have hno := Lib.hid (prgOk_no hlt (by rw [hpo, hitv]; rfl))
     clear hpo g1
     go_wp2_with (first | (go_at_call 116; refine (itv_c _ _ _ _).mono ?_; rintro e w1 ⟨rfl, hc1⟩; have x2 : w1.cell? ⟨wr.heap.size, 2, none⟩ = some (.slice B p.Procs[k].Code.length cb) := hc1.cell0 (by simp); have x0 : w1.cell? ⟨wr.heap.size + 1, 0, none⟩ = some (.int .i64 p.Procs[k].Code.length) := hc1.cell0 (by simp); have x9 : w1.cell? ⟨w.heap.size, 0, none⟩ = some (.slice (some ⟨b1, o1, none⟩) p.Procs.length ca) := (Chg.trans0 (show Chg [] wr _ from Chg.c) hc1).cell0 hcell) | (go_at_call 113; refine (implItvOk_c _ _ _).mono ?_; rintro e w2 ⟨rfl, hc2⟩; rw [hitv]; have y2 := hc2.cell0 x2; have y0 := hc2.cell0 x0; have y9 := hc2.cell0 x9; have hcA : Chg [] wr w2 := Chg.trans0 (Chg.trans0 (show Chg [] wr _ from Chg.c) hc1) hc2; have hzA := hc2.size; have hzB := hc1.size; rw [World.size_alloc, World.size_alloc] at hzB; clear hc2 hc1 x2 x0 x9))
     go_ret
     exact ⟨by rw [hno.out]; rfl, Chg.k⟩
    by_cases hs1 : p.Procs[k].Code.length < 1
    case pos =>
     have hno := Lib.hid (prgOk_no hlt (by rw [hpo, decide_eq_false (show ¬ 1 ≤ p.Procs[k].Code.length by omega)]; simp))
     clear hpo g1
     go_wp2_with (first | (go_at_call 116; refine (itv_c _ _ _ _).mono ?_; rintro e w1 ⟨rfl, hc1⟩; have x2 : w1.cell? ⟨wr.heap.size, 2, none⟩ = some (.slice B p.Procs[k].Code.length cb) := hc1.cell0 (by simp); have x0 : w1.cell? ⟨wr.heap.size + 1, 0, none⟩ = some (.int .i64 p.Procs[k].Code.length) := hc1.cell0 (by simp); have x9 : w1.cell? ⟨w.heap.size, 0, none⟩ = some (.slice (some ⟨b1, o1, none⟩) p.Procs.length ca) := (Chg.trans0 (show Chg [] wr _ from Chg.c) hc1).cell0 hcell) | (go_at_call 113; refine (implItvOk_c _ _ _).mono ?_; rintro e w2 ⟨rfl, hc2⟩; rw [hitv]; have y2 := hc2.cell0 x2; have y0 := hc2.cell0 x0; have y9 := hc2.cell0 x9; have hcA : Chg [] wr w2 := Chg.trans0 (Chg.trans0 (show Chg [] wr _ from Chg.c) hc1) hc2; have hzA := hc2.size; have hzB := hc1.size; rw [World.size_alloc, World.size_alloc] at hzB; clear hc2 hc1 x2 x0 x9))
     go_ret
     exact ⟨by rw [hno.out]; rfl, Chg.k⟩
    by_cases hs2 : 10 < p.Procs[k].Code.length
    case pos =>
     have hno := Lib.hid (prgOk_no hlt (by rw [hpo, decide_eq_false (show ¬ p.Procs[k].Code.length ≤ 10 by omega)]; simp))
     clear hpo g1
     go_wp2_with (first | (go_at_call 116; refine (itv_c _ _ _ _).mono ?_; rintro e w1 ⟨rfl, hc1⟩; have x2 : w1.cell? ⟨wr.heap.size, 2, none⟩ = some (.slice B p.Procs[k].Code.length cb) := hc1.cell0 (by simp); have x0 : w1.cell? ⟨wr.heap.size + 1, 0, none⟩ = some (.int .i64 p.Procs[k].Code.length) := hc1.cell0 (by simp); have x9 : w1.cell? ⟨w.heap.size, 0, none⟩ = some (.slice (some ⟨b1, o1, none⟩) p.Procs.length ca) := (Chg.trans0 (show Chg [] wr _ from Chg.c) hc1).cell0 hcell) | (go_at_call 113; refine (implItvOk_c _ _ _).mono ?_; rintro e w2 ⟨rfl, hc2⟩; rw [hitv]; have y2 := hc2.cell0 x2; have y0 := hc2.cell0 x0; have y9 := hc2.cell0 x9; have hcA : Chg [] wr w2 := Chg.trans0 (Chg.trans0 (show Chg [] wr _ from Chg.c) hc1) hc2; have hzA := hc2.size; have hzB := hc1.size; rw [World.size_alloc, World.size_alloc] at hzB; clear hc2 hc1 x2 x0 x9))
     go_ret
     exact ⟨by rw [hno.out]; rfl, Chg.k⟩
    obtain ⟨m, hm1⟩ : ∃ m, p.Procs[k].Code.length = m + 1 := ⟨p.Procs[k].Code.length - 1, by omega⟩
    have hmlt : m < p.Procs[k].Code.length := by omega
    obtain ⟨b2, o2, p2, c2, f2, e2, r2, m2, -⟩ := g1.elem hmlt
    obtain ⟨rfl, rfl, -⟩ := R_InsIns.1 r2
    injection e2 with e2 _ e2c
    subst e2 e2c
    have za0 := m2 0 (by decide)
    have za1 := m2 1 (by decide)
    have za2 := m2 2 (by decide)
    have za3 := m2 3 (by decide)
    have za4 := m2 4 (by decide)
    have za5 := m2 5 (by decide)
    have za6 := m2 6 (by decide)
    have za7 := m2 7 (by decide)
    simp only [sz_InsIns, Nat.mul_one, Nat.add_zero, List.getElem?_cons_zero, List.getElem?_cons_succ] at za0 za1 za2 za3 za4 za5 za6 za7
    have hlast : p.Procs[k].Code.getLast? = some p.Procs[k].Code[m] := by
     rw [List.getLast?_eq_getElem?, List.getElem?_eq_getElem (by omega)]
     congr 2
     omega
    have hsub : ((p.Procs[k].Code.length : Int) - 1) = (m : Int) := by omega
    have hsub2 : ((p.Procs[k].Code.length : Int) - 1).toNat = m := by omega
    rw [hlast] at hpo
    have hpo' : procOk p.Procs[k] p.Procs.length = (!(p.Procs[k].Code.any fun i => !insOk i p.Procs.length p.Procs[k].Code.length) && insEnds p.Procs[k].Code[m]) := by
     rw [hpo, hitv, decide_eq_true (show 1 ≤ p.Procs[k].Code.length by omega), decide_eq_true (show p.Procs[k].Code.length ≤ 10 by omega)]
     rfl
    have hmI : (m : Int) < p.Procs[k].Code.length := by omega
    clear hpo hlast m2 r2 hm1
    by_cases hend : insEnds p.Procs[k].Code[m] = true
    case neg =>
     rw [Bool.not_eq_true] at hend
     have hno := Lib.hid (prgOk_no hlt (by rw [hpo', hend]; simp))
     clear hpo' g1 hlen
     go_wp2_with (first | (go_at_call 116; refine (itv_c _ _ _ _).mono ?_; rintro e w1 ⟨rfl, hc1⟩; have x2 : w1.cell? ⟨wr.heap.size, 2, none⟩ = some (.slice (some ⟨b2, o2, none⟩) p.Procs[k].Code.length cb) := hc1.cell0 (by simp); have x0 : w1.cell? ⟨wr.heap.size + 1, 0, none⟩ = some (.int .i64 p.Procs[k].Code.length) := hc1.cell0 (by simp); have x9 : w1.cell? ⟨w.heap.size, 0, none⟩ = some (.slice (some ⟨b1, o1, none⟩) p.Procs.length ca) := (Chg.trans0 (show Chg [] wr _ from Chg.c) hc1).cell0 hcell) | (go_at_call 113; refine (implItvOk_c _ _ _).mono ?_; rintro e w2 ⟨rfl, hc2⟩; rw [hitv]; have y2 := hc2.cell0 x2; have y0 := hc2.cell0 x0; have y9 := hc2.cell0 x9; have hcA : Chg [] wr w2 := Chg.trans0 (Chg.trans0 (show Chg [] wr _ from Chg.c) hc1) hc2; have hzA := hc2.size; have hzB := hc1.size; rw [World.size_alloc, World.size_alloc] at hzB; clear hc2 hc1 x2 x0 x9; have zb0 := hcA.cell0 za0; have zb1 := hcA.cell0 za1; have zb2 := hcA.cell0 za2; have zb3 := hcA.cell0 za3; have zb4 := hcA.cell0 za4; have zb5 := hcA.cell0 za5; have zb6 := hcA.cell0 za6; have zb7 := hcA.cell0 za7; clear za0 za1 za2 za3 za4 za5 za6 za7) | (go_at_call 117; refine (implEnds_c p.Procs[k].Code[m] _).mono ?_; rintro e w4 ⟨rfl, hc4⟩; rw [hend]; have v2 := hc4.cell0 y2; have v0 := hc4.cell0 y0; have v9 := hc4.cell0 y9; have hcE : Chg [] wr w4 := Chg.trans0 hcA hc4; have hzE := hc4.size; clear hc4 y2 y0 y9))
     go_ret
     exact ⟨by rw [hno.out]; rfl, Chg.k⟩
    have hcon : ∀ (wx : World) (hrx : Chg [] wr wx) (z1 : wx.cell? ⟨w.heap.size, 0, none⟩ = some (.slice (some ⟨b1, o1, none⟩) p.Procs.length ca)) (z2 : wx.cell? ⟨wr.heap.size + 1, 0, none⟩ = some (.int .i64 p.Procs[k].Code.length)), Calls Tryz.prog 118 #[.slice (some ⟨b2, o2, none⟩) p.Procs[k].Code.length cb, .func (.func 119) #[] #[.pointer (some ⟨w.heap.size, 0, none⟩), .pointer (some ⟨wr.heap.size + 1, 0, none⟩)]] wx fun e w' => e = .returned (.bool (p.Procs[k].Code.any fun i => !insOk i p.Procs.length p.Procs[k].Code.length)) ∧ Chg [] wx w' := by
     intro wx hrx z1 z2
     exact containsIns_c (fun i => !insOk i p.Procs.length p.Procs[k].Code.length) p.Procs[k].Code _ _ wx _ _ (g1.chg0 hrx) (fun x wy hy => prg1_c x p.Procs.length p.Procs[k].Code.length (some ⟨b1, o1, none⟩) ca _ _ wy (hy.cell0 z1) (hy.cell0 z2))
    clear g1
    by_cases hany : (p.Procs[k].Code.any fun i => !insOk i p.Procs.length p.Procs[k].Code.length) = true
    case pos =>
     have hno := Lib.hid (prgOk_no hlt (by rw [hpo', hany]; simp))
     rw [hany] at hcon
     clear hpo' hlen hany
     go_wp2_with (first | (go_at_call 116; refine (itv_c _ _ _ _).mono ?_; rintro e w1 ⟨rfl, hc1⟩; have x2 : w1.cell? ⟨wr.heap.size, 2, none⟩ = some (.slice (some ⟨b2, o2, none⟩) p.Procs[k].Code.length cb) := hc1.cell0 (by simp); have x0 : w1.cell? ⟨wr.heap.size + 1, 0, none⟩ = some (.int .i64 p.Procs[k].Code.length) := hc1.cell0 (by simp); have x9 : w1.cell? ⟨w.heap.size, 0, none⟩ = some (.slice (some ⟨b1, o1, none⟩) p.Procs.length ca) := (Chg.trans0 (show Chg [] wr _ from Chg.c) hc1).cell0 hcell) | (go_at_call 113; refine (implItvOk_c _ _ _).mono ?_; rintro e w2 ⟨rfl, hc2⟩; rw [hitv]; have y2 := hc2.cell0 x2; have y0 := hc2.cell0 x0; have y9 := hc2.cell0 x9; have hcA : Chg [] wr w2 := Chg.trans0 (Chg.trans0 (show Chg [] wr _ from Chg.c) hc1) hc2; have hzA := hc2.size; have hzB := hc1.size; rw [World.size_alloc, World.size_alloc] at hzB; clear hc2 hc1 x2 x0 x9; have zb0 := hcA.cell0 za0; have zb1 := hcA.cell0 za1; have zb2 := hcA.cell0 za2; have zb3 := hcA.cell0 za3; have zb4 := hcA.cell0 za4; have zb5 := hcA.cell0 za5; have zb6 := hcA.cell0 za6; have zb7 := hcA.cell0 za7; clear za0 za1 za2 za3 za4 za5 za6 za7) | (go_at_call 117; refine (implEnds_c p.Procs[k].Code[m] _).mono ?_; rintro e w4 ⟨rfl, hc4⟩; rw [hend]; have v2 := hc4.cell0 y2; have v0 := hc4.cell0 y0; have v9 := hc4.cell0 y9; have hcE : Chg [] wr w4 := Chg.trans0 hcA hc4; have hzE := hc4.size; clear hc4 y2 y0 y9) | (go_at_call 118; refine (hcon _ hcE v9 v0).mono ?_; rintro e w5 ⟨rfl, hc5⟩))
     go_ret
     exact ⟨by rw [hno.out]; rfl, Chg.k⟩
    rw [Bool.not_eq_true] at hany
    rw [hany, hend] at hpo'
    rw [hany] at hcon
    clear hany
    have hpo2 := Lib.hid hpo'
    clear hpo'
    go_wp2_with (first | (go_at_call 116; refine (itv_c _ _ _ _).mono ?_; rintro e w1 ⟨rfl, hc1⟩; have x2 : w1.cell? ⟨wr.heap.size, 2, none⟩ = some (.slice (some ⟨b2, o2, none⟩) p.Procs[k].Code.length cb) := hc1.cell0 (by simp); have x0 : w1.cell? ⟨wr.heap.size + 1, 0, none⟩ = some (.int .i64 p.Procs[k].Code.length) := hc1.cell0 (by simp); have x9 : w1.cell? ⟨w.heap.size, 0, none⟩ = some (.slice (some ⟨b1, o1, none⟩) p.Procs.length ca) := (Chg.trans0 (show Chg [] wr _ from Chg.c) hc1).cell0 hcell) | (go_at_call 113; refine (implItvOk_c _ _ _).mono ?_; rintro e w2 ⟨rfl, hc2⟩; rw [hitv]; have y2 := hc2.cell0 x2; have y0 := hc2.cell0 x0; have y9 := hc2.cell0 x9; have hcA : Chg [] wr w2 := Chg.trans0 (Chg.trans0 (show Chg [] wr _ from Chg.c) hc1) hc2; have hzA := hc2.size; have hzB := hc1.size; rw [World.size_alloc, World.size_alloc] at hzB; clear hc2 hc1 x2 x0 x9; have zb0 := hcA.cell0 za0; have zb1 := hcA.cell0 za1; have zb2 := hcA.cell0 za2; have zb3 := hcA.cell0 za3; have zb4 := hcA.cell0 za4; have zb5 := hcA.cell0 za5; have zb6 := hcA.cell0 za6; have zb7 := hcA.cell0 za7; clear za0 za1 za2 za3 za4 za5 za6 za7) | (go_at_call 117; refine (implEnds_c p.Procs[k].Code[m] _).mono ?_; rintro e w4 ⟨rfl, hc4⟩; rw [hend]; have v2 := hc4.cell0 y2; have v0 := hc4.cell0 y0; have v9 := hc4.cell0 y9; have hcE : Chg [] wr w4 := Chg.trans0 hcA hc4; have hzE := hc4.size; clear hc4 y2 y0 y9) | (go_at_call 118; refine (hcon _ hcE v9 v0).mono ?_; rintro e w5 ⟨rfl, hc5⟩))
    have hw5 := hc5.size
    go_roundw
    case rel => exact ⟨k + 1, by omega, by go_num, Chg.k, hc5.cell0 v9, by omega, by rw [List.take_succ_eq_append_getElem hlt, List.all_append, hall'.out]; simp [hpo2.out]⟩
    case measure => simp [intOf]; omega
  · obtain rfl : k = p.Procs.length := by omega
    rw [List.take_length] at hall
    have hno := Lib.hid (hlen.out hall)
    clear h hlen hall
    go_wp2
    go_ret
    exact ⟨by rw [hno.out]; rfl, hc⟩
end Go.Proofs.YtjakhnhnjhafgaaGreat.Wk
namespace Go.Proofs.YtjakhnhnjhafgaaGreat.Wk
open Go Go.RowKit Go.Deep Ow
open Rp (R sz)
def RetCopy (x : RunRun) (w : World) (e : Ending) (w' : World) : Prop := ∃ v base, e = .returned (runV x v) ∧ Chg [] w w' ∧ Grow base w' 58 x.Frames v ∧ w.heap.size ≤ base
theorem frame_alloc (w : World) (f : RunFrame) (AV : Option Addr) (cV : Nat) (AC : Option Addr) (cC : Nat) (t : TypeId) : ∀ j u, (frameCells f AV cV AC cC)[j]? = some u → (w.alloc (.cells #[.int .i64 f.Proc, .int .i64 f.Pc, .slice AV 4 cV, .slice AC 4 cC] t)).cell? ⟨w.heap.size, j, none⟩ = some u := by
 intro j u hj
 rw [World.cell?_alloc_new]
 simpa using hj
end Go.Proofs.YtjakhnhnjhafgaaGreat.Wk
