/- A part of the proof. -/
import Derived.Test.YtjakhnhnjhafgaaGreatK26
import Derived.Test.YtjakhnhnjhafgaaGreatK27
import Derived.Test.YtjakhnhnjhafgaaGreatK25
import Derived.Test.YtjakhnhnjhafgaaGreatK05
import Derived.Test.YtjakhnhnjhafgaaGreatK01
import Derived.Test.YtjakhnhnjhafgaaGreatK24
import Derived.Deep.RegionHeld3
import Derived.Test.YtjakhnhnjhafgaaGreatK03
set_option linter.unusedVariables false
set_option linter.unusedSimpArgs false
namespace Go.Proofs.YtjakhnhnjhafgaaGreat.Wq
open Go Go.RowKit Go.Deep
open Ow hiding Rp RL I64 R_int sz_int footOf Row R_InsIns sz_InsIns R_PrcProc sz_PrcProc
open Oq
open Go.Proofs.YtjakhnhnjhafgaaGreat.Wk
open Oq.Rp (R sz)
set_option maxRecDepth 100000 in
set_option maxHeartbeats 2000000 in
theorem indexItv_c (q : ItvItv → Bool) (xs : List ItvItv) (v : Value) (F : List Nat) (w : World) (h : RL w xs v F)
 (hq : ∀ (x : ItvItv) (wx : World), Chg [] w wx → Calls Tryz.prog 115 #[.agg #[.int .i64 x.Lo, .int .i64 x.Hi]] wx fun e w' => e = .returned (.bool (q x)) ∧ Chg [] wx w') :
 Calls Tryz.prog 168 #[v, .func (.func 115) #[] #[]] w fun e w' => Idx (xs.any q) e ∧ Chg [] w w' := by
 obtain ⟨A, ca, rfl, hl, hm⟩ := h.form
 have hn : xs.length ≤ maxLen := by omega
 unfold maxLen at hn
 go_enter Tryz.func168, Tryz.ntmps168
 go_wp2
 go_loopw [8] (fun i wr => ∃ k : Nat, k ≤ xs.length ∧ i = .int .i64 k ∧ Chg [] w wr ∧ (xs.take k).any q = false) (fun i _ => xs.length - (intOf i).toNat)
 case atStart => exact ⟨0, Nat.zero_le _, rfl, Chg.refl _ _, by simp⟩
 case round =>
  obtain ⟨k, hk, rfl, hc, hall⟩ := hrel
  by_cases hlt : k < xs.length
  · obtain ⟨b1, o1, p1, c1, f1, e1, r1, m1, -⟩ := (h.chg0 hc).elem hlt
    obtain ⟨rfl, rfl, -⟩ := R_ItvItv.1 r1
    injection e1 with e1 _ e1c
    subst e1 e1c
    have ya0 := m1 0 (by decide)
    have ya1 := m1 1 (by decide)
    simp only [sz_ItvItv, Nat.add_zero, List.getElem?_cons_zero, List.getElem?_cons_succ] at ya0 ya1
    have hall' := Lib.hid hall
    clear hall m1 r1 h
    have hq' := hq xs[k]
    clear hq
    by_cases hi : q xs[k] = true
    · rw [hi] at hq'
      go_wp2_with (go_at_call 115; refine (hq' _ hc).mono ?_; rintro e w1 ⟨rfl, hc1⟩)
      go_ret
      exact ⟨⟨_, rfl, by omega, by omega, by
       rw [decide_eq_true (by omega)]
       exact (List.any_eq_true.2 ⟨xs[k], List.getElem_mem hlt, hi⟩).symm⟩, hc.trans0 hc1⟩
    · rw [Bool.not_eq_true] at hi
      rw [hi] at hq'
      go_wp2_with (go_at_call 115; refine (hq' _ hc).mono ?_; rintro e w1 ⟨rfl, hc1⟩)
      go_roundw
      case rel => exact ⟨k + 1, by omega, by go_num, hc.trans0 hc1, by rw [List.take_succ_eq_append_getElem hlt, List.any_append, hall'.out]; simp [hi]⟩
      case measure => simp [RowKit.intOf]; omega
  · obtain rfl : k = xs.length := by omega
    rw [List.take_length] at hall
    have hall' := Lib.hid hall
    clear h hq hall
    go_wp2
    go_ret
    exact ⟨⟨-1, rfl, by omega, by omega, by rw [hall'.out]; rfl⟩, hc⟩
theorem containsItv_c (q : ItvItv → Bool) (xs : List ItvItv) (v : Value) (F : List Nat) (w : World) (h : RL w xs v F)
 (hq : ∀ (x : ItvItv) (wx : World), Chg [] w wx → Calls Tryz.prog 115 #[.agg #[.int .i64 x.Lo, .int .i64 x.Hi]] wx fun e w' => e = .returned (.bool (q x)) ∧ Chg [] wx w') :
 Calls Tryz.prog 114 #[v, .func (.func 115) #[] #[]] w fun e w' => e = .returned (.bool (xs.any q)) ∧ Chg [] w w' := by
 obtain ⟨A, ca, rfl, hl, hm⟩ := h.form
 go_enter Tryz.func114, Tryz.ntmps114
 go_wp2_with fail
 refine (indexItv_c q xs _ F w h hq).mono ?_
 rintro e w1 ⟨⟨r, rfl, hr1, hr2, hr⟩, hc1⟩
 have hr' := Lib.hid hr
 clear hr h hq
 by_cases h0 : 0 ≤ r
 all_goals
  go_wp2
  go_ret
  exact ⟨by rw [← hr'.out]; simp [h0], hc1⟩
theorem itvBad_c (x : ItvItv) (w : World) : Calls Tryz.prog 115 #[.agg #[.int .i64 x.Lo, .int .i64 x.Hi]] w fun e w' => e = .returned (.bool (!itvOk x)) ∧ Chg [] w w' := by
 go_enter Tryz.func115, Tryz.ntmps115
 go_wp2_with (go_at_call 113; refine (iItvOk_c _ _ _).mono ?_; rintro e w3 ⟨rfl, hc3⟩)
 go_ret
 exact ⟨rfl, Chg.q⟩
theorem run_s2a (b o n c : Nat) (h : 4 ≤ n) (w : World) : (Instr.arrayAt 149 (.slice (some ⟨b, o, none⟩) n c)).run Tryz.prog w = .ok (.pointer (some ⟨b, o, none⟩)) w := by
 have hu := Tryz.underlying149
 have hn : ¬ n < 4 := by omega
 simp [Instr.arrayAt, run_underlying hu, hn]
structure StateAt (w : World) (b : Nat) (s : AbsState) : Prop where
 lo : ∀ i (hi : i < s.Vars.length), w.cell? ⟨b, 2 * i, none⟩ = some (.int .i64 s.Vars[i].Lo)
 hi : ∀ i (hi : i < s.Vars.length), w.cell? ⟨b, 2 * i + 1, none⟩ = some (.int .i64 s.Vars[i].Hi)
 clo : w.cell? ⟨b, 8, none⟩ = some (.int .i64 s.Cells.Lo)
 chi : w.cell? ⟨b, 9, none⟩ = some (.int .i64 s.Cells.Hi)
def RetState (s : AbsState) (w : World) (e : Ending) (w' : World) : Prop :=
 Chg [] w w' ∧ ((absOk s && s.On) = true ∧ (∃ b, w.heap.size ≤ b ∧ e = .returned (.tuple #[.pointer (some ⟨b, 0, none⟩), .bool true]) ∧ StateAt w' b s) ∨ (absOk s && s.On) = false ∧ e = .returned (.tuple #[.pointer none, .bool (absOk s)]))
theorem absOk_off {s : AbsState} (h : s.On = false) : absOk s = ((s.Vars.length : Int) == 0 && (s.Cells.Lo == 0 && s.Cells.Hi == 0)) := by
 have e : decide (s.Vars.length = 0) = ((s.Vars.length : Int) == 0) := by
  rw [Bool.eq_iff_iff]; simp
 simp only [absOk, h, l7None, e, Bool.false_eq_true, if_false]
set_option maxRecDepth 100000 in
set_option maxHeartbeats 4000000 in
theorem readState_c (s : AbsState) (v : Value) (F : List Nat) (w : World) (h : RL w s.Vars v F) : Calls Tryz.prog 53 #[.agg #[.bool s.On, v, .int .i64 s.Cells.Lo, .int .i64 s.Cells.Hi]] w (RetState s w) := by
 obtain ⟨A, ca, rfl, hl, hm⟩ := h.form
 have hn : s.Vars.length ≤ maxLen := by omega
 unfold maxLen at hn
 cases hon : s.On
 case false =>
  have hok := Lib.hid (absOk_off hon)
  clear h
  have hv : absOk s = false ∨ absOk s = true := by cases absOk s <;> simp
  by_cases h0 : ((s.Vars.length : Int) == 0) = true
  case neg =>
   go_enter Tryz.func53, Tryz.ntmps53
   go_wp2
   go_region
   go_wp2
   refine bodyPost_ret (v := .tuple #[.pointer none, .bool false]) (by simp [results, Tryz.results53, go_sem]) rfl ⟨Chg.q, .inr ⟨by simp [hon], by rw [hok.out]; simp [h0]⟩⟩
  by_cases e1 : s.Cells.Lo = 0 <;> by_cases e2 : s.Cells.Hi = 0
  all_goals
   go_enter Tryz.func53, Tryz.ntmps53
   go_wp2
   go_region
   go_wp2
   refine bodyPost_ret (v := .tuple #[.pointer none, .bool (decide (s.Cells.Lo = 0) && decide (s.Cells.Hi = 0))]) (by simp [results, Tryz.results53, go_sem, e1, e2]) rfl ⟨Chg.q, .inr ⟨by simp [hon], by rw [hok.out]; simp [h0, e1, e2]⟩⟩
 case true =>
 by_cases h4 : ((s.Vars.length : Int) == 4) = true
 case neg =>
  have hbad : absOk s = false := by
   have : ¬ s.Vars.length = 4 := by intro e; apply h4; rw [e]; rfl
   simp [absOk, hon, this]
  have hok := Lib.hid hbad
  have h5 : ¬ (s.Vars.length : Int) = 4 := by simpa using h4
  clear h hbad h4
  go_enter Tryz.func53, Tryz.ntmps53
  go_wp2
  refine bodyPost_ret (v := .tuple #[.pointer none, .bool false]) (by simp [results, Tryz.results53, go_sem]) rfl ⟨Chg.q, .inr ⟨by rw [hok.out]; rfl, by rw [hok.out]⟩⟩
 have h6 : s.Vars.length = 4 := by simp at h4; omega
 have hany : s.Vars.all itvOk = !(s.Vars.any fun x => !itvOk x) := by rw [List.not_any_eq_all_not]; simp
 have hval : absOk s = (itvOk ⟨s.Cells.Lo, s.Cells.Hi⟩ && !(s.Vars.any fun x => !itvOk x)) := by simp [absOk, hon, h6, hany]
 have hok := Lib.hid hval
 have hcon := fun (wx : World) (hx : Chg [] w wx) => containsItv_c (fun x => !itvOk x) s.Vars _ F wx (h.chg0 hx) (fun x wy _ => itvBad_c x wy)
 obtain ⟨b1, o1, p1, c1, f1, q1, r1, m1, -⟩ := h.elem (i := 0) (by omega)
 injection q1 with q1 _ q1c
 subst q1 q1c
 obtain ⟨rfl, rfl, -⟩ := R_ItvItv.1 r1
 have gA : ∀ i (hi : i < s.Vars.length), w.cell? ⟨b1, o1 + 2 * i, none⟩ = some (.int .i64 s.Vars[i].Lo) ∧ w.cell? ⟨b1, o1 + 2 * i + 1, none⟩ = some (.int .i64 s.Vars[i].Hi) := fun i hi => by
  obtain ⟨b2, o2, p2, c2, f2, q2, r2, m2, -⟩ := h.elem (i := i) hi
  injection q2 with q2 _ _
  injection q2 with q2
  injection q2 with q2a q2b
  subst q2a q2b
  obtain ⟨rfl, rfl, -⟩ := R_ItvItv.1 r2
  have z0 := m2 0 (by decide)
  have z1 := m2 1 (by decide)
  simp only [sz_ItvItv, Nat.mul_comm i 2, Nat.add_zero, List.getElem?_cons_zero, List.getElem?_cons_succ] at z0 z1
  exact ⟨z0, z1⟩
 clear hany hval m1 r1 h4
 have h6i : (s.Vars.length : Int) = 4 := by omega
 cases hc : itvOk ⟨s.Cells.Lo, s.Cells.Hi⟩
 case false =>
  clear hcon h h6
  go_enter Tryz.func53, Tryz.ntmps53
  go_wp2_with (go_at_call 113; refine (iItvOk_c _ _ _).mono ?_; rintro e w2 ⟨rfl, hc2⟩; obtain ⟨hcl2, hfz2⟩ := hc2.cells; have hz2 := hc2.size; (try simp only [World.size_alloc, World.size_setCell] at hz2); have hy2 : w.heap.size < w2.heap.size := (by omega))
  refine bodyPost_ret (v := .tuple #[.pointer none, .bool false]) (by simp [results, Tryz.results53, go_sem]) rfl ⟨Chg.q, .inr ⟨by rw [hok.out, hc]; rfl, by rw [hok.out, hc]; rfl⟩⟩
 have H6 := Lib.hid h6
 cases ha : (s.Vars.any fun x => !itvOk x)
 all_goals
  rw [ha] at hcon
  clear h
 case true =>
  clear h6 gA
  go_enter Tryz.func53, Tryz.ntmps53
  go_wp2_with (go_at_call 113; refine (iItvOk_c _ _ _).mono ?_; rintro e w2 ⟨rfl, hc2⟩; obtain ⟨hcl2, hfz2⟩ := hc2.cells; have hz2 := hc2.size; (try simp only [World.size_alloc, World.size_setCell] at hz2); have hy2 : w.heap.size < w2.heap.size := (by omega))
  go_at_call 114
  refine (hcon _ ?_).mono ?_
  focus (repeat (first | with_reducible exact Chg.refl _ _ | with_reducible refine Chg.setCell ?_ (Or.inr (by first | (simp; done) | (simp; omega))) _ | with_reducible refine Chg.drewN ?_ _ | with_reducible refine Chg.drew ?_ | with_reducible refine Chg.alloc ?_ _ | with_reducible refine Chg.trans0 ?_ ‹Chg [] _ _›))
  rintro e w3 ⟨rfl, hc3⟩
  obtain ⟨hcl3, hfz3⟩ := hc3.cells
  have hz3 := hc3.size
  (try simp only [World.size_alloc, World.size_setCell] at hz3)
  have hy3 : w.heap.size < w3.heap.size := (by omega)
  clear hcon
  go_wp2
  refine bodyPost_ret (v := .tuple #[.pointer none, .bool false]) (by simp [results, Tryz.results53, go_sem]) rfl ⟨Chg.q, .inr ⟨by rw [hok.out, hc, ha]; rfl, by rw [hok.out, hc, ha]; rfl⟩⟩
 have e0 : 0 < s.Vars.length := by omega
 have e1 : 1 < s.Vars.length := by omega
 have e2 : 2 < s.Vars.length := by omega
 have e3 : 3 < s.Vars.length := by omega
 obtain ⟨g0, g1⟩ := gA 0 e0
 obtain ⟨g2, g3⟩ := gA 1 e1
 obtain ⟨g4, g5⟩ := gA 2 e2
 obtain ⟨g6, g7⟩ := gA 3 e3
 simp only [Nat.mul_zero, Nat.add_zero, Nat.mul_one, Nat.reduceMul, Nat.add_assoc, Nat.reduceAdd] at g0 g1 g2 g3 g4 g5 g6 g7
 have hbw := World.block_lt_of_cell? _ _ g0
 have hs2a := run_s2a b1 o1 s.Vars.length ca (by omega)
 clear h6 gA
 go_enter Tryz.func53, Tryz.ntmps53
 go_wp2_with (go_at_call 113; refine (iItvOk_c _ _ _).mono ?_; rintro e w2 ⟨rfl, hc2⟩; obtain ⟨hcl2, hfz2⟩ := hc2.cells; have hz2 := hc2.size; (try simp only [World.size_alloc, World.size_setCell] at hz2); have hy2 : w.heap.size < w2.heap.size := (by omega))
 go_at_call 114
 refine (hcon _ ?_).mono ?_
 focus (repeat (first | with_reducible exact Chg.refl _ _ | with_reducible refine Chg.setCell ?_ (Or.inr (by first | (simp; done) | (simp; omega))) _ | with_reducible refine Chg.drewN ?_ _ | with_reducible refine Chg.drew ?_ | with_reducible refine Chg.alloc ?_ _ | with_reducible refine Chg.trans0 ?_ ‹Chg [] _ _›))
 rintro e w3 ⟨rfl, hc3⟩
 obtain ⟨hcl3, hfz3⟩ := hc3.cells
 have hz3 := hc3.size
 (try simp only [World.size_alloc, World.size_setCell] at hz3)
 have hy3 : w.heap.size < w3.heap.size := (by omega)
 have hbw2 : b1 < w2.heap.size := by omega
 have hbw3 : b1 < w3.heap.size := by omega
 go_wp2
 go_region
 go_wp2
 refine bodyPost_ret (v := .tuple #[.pointer (some ⟨w3.heap.size, 0, none⟩), .bool true]) (by simp [results, Tryz.results53, go_sem]) rfl ⟨Chg.q, .inl ⟨by rw [hok.out, hc, ha, hon]; rfl, w3.heap.size, Nat.le_of_lt hy3, rfl, ?_⟩⟩
 have h6 := H6.out
 refine ⟨fun i hi => ?_, fun i hi => ?_, by simp [go_sem], by simp [go_sem]⟩
 all_goals
  rcases (by omega : i = 0 ∨ i = 1 ∨ i = 2 ∨ i = 3) with rfl | rfl | rfl | rfl <;> simp [go_sem]
end Go.Proofs.YtjakhnhnjhafgaaGreat.Wq
namespace Go.Proofs.YtjakhnhnjhafgaaGreat.Wk
open Go Go.RowKit Go.Deep Ow
set_option maxRecDepth 100000
theorem iItvNot_e {rel : Int} {a0 : Int} {a1 : Int} {b0 : Int} {b1 : Int} {r0 : ItvItv} {r1 : ItvItv} {r2 : Bool} (h0 : (itvNot rel (⟨a0, a1⟩ : ItvItv) (⟨b0, b1⟩ : ItvItv)).1 = r0) (h1 : (itvNot rel (⟨a0, a1⟩ : ItvItv) (⟨b0, b1⟩ : ItvItv)).2.1 = r1) (h2 : (itvNot rel (⟨a0, a1⟩ : ItvItv) (⟨b0, b1⟩ : ItvItv)).2.2 = r2) : EC Tryz.prog 125 0 [CI rel, .agg [CI a0, CI a1], .agg [CI b0, CI b1]] [] (.tup [.agg [CI r0.Lo, CI r0.Hi], .agg [CI r1.Lo, CI r1.Hi], CB r2]) [] 0 := by
 subst h0 h1 h2
 refine (seat [] []).PU (mkM true [3, 1, 12, 42]) (fn := Tryz.f125) ⟨by kernel_rfl, by kernel_rfl, rfl⟩ (mkEs [eInt 10 rel, eItvItv 30 ⟨a0, a1⟩, eItvItv 50 ⟨b0, b1⟩, eItvItv 312000 (itvRel 2 (⟨b0, b1⟩ : ItvItv) (⟨a0, a1⟩ : ItvItv)).1, eItvItv 312030 (itvRel 2 (⟨b0, b1⟩ : ItvItv) (⟨a0, a1⟩ : ItvItv)).2.1, eB 312060 (itvRel 2 (⟨b0, b1⟩ : ItvItv) (⟨a0, a1⟩ : ItvItv)).2.2, eItvItv 612000 (itvRel 1 (⟨b0, b1⟩ : ItvItv) (⟨a0, a1⟩ : ItvItv)).1, eItvItv 612030 (itvRel 1 (⟨b0, b1⟩ : ItvItv) (⟨a0, a1⟩ : ItvItv)).2.1, eB 612060 (itvRel 1 (⟨b0, b1⟩ : ItvItv) (⟨a0, a1⟩ : ItvItv)).2.2, eItvItv 912000 (itvRel 4 (⟨a0, a1⟩ : ItvItv) (⟨b0, b1⟩ : ItvItv)).1, eItvItv 912030 (itvRel 4 (⟨a0, a1⟩ : ItvItv) (⟨b0, b1⟩ : ItvItv)).2.1, eB 912060 (itvRel 4 (⟨a0, a1⟩ : ItvItv) (⟨b0, b1⟩ : ItvItv)).2.2, eItvItv 1112000 (itvRel 3 (⟨a0, a1⟩ : ItvItv) (⟨b0, b1⟩ : ItvItv)).1, eItvItv 1112030 (itvRel 3 (⟨a0, a1⟩ : ItvItv) (⟨b0, b1⟩ : ItvItv)).2.1, eB 1112060 (itvRel 3 (⟨a0, a1⟩ : ItvItv) (⟨b0, b1⟩ : ItvItv)).2.2]) noLps [] [xInt 10, xItvItv 30, xItvItv 50] (by simp only [go_sem, Nat.reduceEqDiff, Nat.reduceAdd, Nat.reduceBEq, Int.reduceToNat]) (fun _ => ?_)
 conv => arg 4; cbv
 simp only [go_sem, Nat.reduceEqDiff, Nat.reduceAdd, Nat.reduceBEq, Int.reduceToNat]
 repeat' (first | with_reducible apply And.intro | intro _)
 all_goals first | exact iItvRel_e rfl rfl rfl | grind [itvNot]
end Go.Proofs.YtjakhnhnjhafgaaGreat.Wk
namespace Go.Proofs.YtjakhnhnjhafgaaGreat.Wq
open Go Go.RowKit Go.Deep
open Ow hiding Rp RL I64 R_int sz_int footOf Row R_InsIns sz_InsIns R_PrcProc sz_PrcProc
open Oq
open Go.Proofs.YtjakhnhnjhafgaaGreat.Wk
open Oq.Rp (R sz)
theorem iItvHas_c (a b n : Int) (w : World) : Calls Tryz.prog 108 #[.agg #[.int .i64 a, .int .i64 b], .int .i64 n] w fun e w' => e = .returned (.bool (itvHas ⟨a, b⟩ n)) ∧ Chg [] w w' := EC.lit (iItvHas_e rfl) rfl rfl w
theorem iItvIn_c (a b c d : Int) (w : World) : Calls Tryz.prog 123 #[.agg #[.int .i64 a, .int .i64 b], .agg #[.int .i64 c, .int .i64 d]] w fun e w' => e = .returned (.bool (itvIn ⟨a, b⟩ ⟨c, d⟩)) ∧ Chg [] w w' := EC.lit (iItvIn_e rfl) rfl rfl w
theorem cellIdx_c (w : World) : Calls Tryz.prog 124 #[] w fun e w' => e = .returned (.agg #[.int .i64 0, .int .i64 3]) ∧ Chg [] w w' := EC.lit (cellIndexes_e rfl) rfl rfl w
theorem iItvNot_c (rel a b c d : Int) (w : World) : Calls Tryz.prog 125 #[.int .i64 rel, .agg #[.int .i64 a, .int .i64 b], .agg #[.int .i64 c, .int .i64 d]] w fun e w' => e = .returned (.tuple #[.agg #[.int .i64 (itvNot rel ⟨a, b⟩ ⟨c, d⟩).1.Lo, .int .i64 (itvNot rel ⟨a, b⟩ ⟨c, d⟩).1.Hi], .agg #[.int .i64 (itvNot rel ⟨a, b⟩ ⟨c, d⟩).2.1.Lo, .int .i64 (itvNot rel ⟨a, b⟩ ⟨c, d⟩).2.1.Hi], .bool (itvNot rel ⟨a, b⟩ ⟨c, d⟩).2.2]) ∧ Chg [] w w' := EC.lit (iItvNot_e rfl rfl rfl) rfl rfl w
def failsV (p : PrgProg) (i : InsIns) (s : AbsState) : Bool :=
 if i.Op = 4 then itvHas (s.Vars.getD i.B.toNat zItvItv) 0
 else if i.Op = 6 ∨ i.Op = 7 then !itvIn (s.Vars.getD i.A.toNat zItvItv) ⟨0, 3⟩
 else if i.Op = 10 then !itvIn (s.Vars.getD i.A.toNat zItvItv) (l7Given p i)
 else if i.Op = 11 then (itvNot i.Rel (s.Vars.getD i.A.toNat zItvItv) (s.Vars.getD i.B.toNat zItvItv)).2.2
 else false
theorem getD_at {α : Type} {l : List α} {i : Int} {d : Nat} {z : α} (h : i = (d : Int)) (hd : d < l.length) : l.getD i.toNat z = l[d] := by
 subst h
 rw [Int.toNat_natCast, List.getD_eq_getElem?_getD, List.getElem?_eq_getElem hd]; rfl
set_option maxRecDepth 100000 in
set_option maxHeartbeats 4000000 in
theorem fails1_c (p : PrgProg) (i : InsIns) (s : AbsState) (b : Nat) (vP : Value) (FP : List Nat) (w : World) (hS : StateAt w b s) (h4 : s.Vars.length = 4) (hP : RL w p.Procs vP FP) (hI : insOk i p.Procs.length 10 = true) (hop : i.Op = 1) : Calls Tryz.prog 56 #[.pointer (some ⟨b, 0, none⟩), .agg #[vP], insV i] w fun e w' => e = .returned (.bool (failsV p i s)) ∧ Chg [] w w' := by
 obtain ⟨iO, iD, iA, iB, iR, iL, iH, iT⟩ := i
 obtain rfl : iO = 1 := hop
 have hv : failsV p ⟨1, iD, iA, iB, iR, iL, iH, iT⟩ s = false := by simp [failsV]
 rw [hv]
 have hb0 := World.block_lt_of_cell? _ _ hS.clo
 clear hS h4 hP hI hv
 have taarith := ta_arith_arith
 have taload := ta_arith_load
 have tastore := ta_arith_store
 have tacall := ta_arith_call
 have taassert := ta_arith_assert
 go_enter Tryz.func56, Tryz.ntmps56
 go_wp2_with (go_at_call 120; refine (codeOf1_c ⟨1, _, _, _, _, _, _, _⟩ _ rfl).mono ?_; rintro e w1 ⟨rfl, hc1⟩; obtain ⟨hcl1, hfz1⟩ := hc1.cells; have hz1 := hc1.size; (try simp only [World.size_alloc, World.size_setCell, World.size_drew] at hz1); have hb1 : b < w1.heap.size := (by omega); (try have hk1 : w1.heap.size < w1.heap.size := (by omega)))
 go_region
 go_wp2
 refine bodyPost_ret (v := .bool (false)) (by simp [results, Tryz.results56, go_sem]) rfl ⟨rfl, Chg.q⟩
set_option maxRecDepth 100000 in
set_option maxHeartbeats 4000000 in
theorem fails2_c (p : PrgProg) (i : InsIns) (s : AbsState) (b : Nat) (vP : Value) (FP : List Nat) (w : World) (hS : StateAt w b s) (h4 : s.Vars.length = 4) (hP : RL w p.Procs vP FP) (hI : insOk i p.Procs.length 10 = true) (hop : i.Op = 2) : Calls Tryz.prog 56 #[.pointer (some ⟨b, 0, none⟩), .agg #[vP], insV i] w fun e w' => e = .returned (.bool (failsV p i s)) ∧ Chg [] w w' := by
 obtain ⟨iO, iD, iA, iB, iR, iL, iH, iT⟩ := i
 obtain rfl : iO = 2 := hop
 have hv : failsV p ⟨2, iD, iA, iB, iR, iL, iH, iT⟩ s = false := by simp [failsV]
 rw [hv]
 have hb0 := World.block_lt_of_cell? _ _ hS.clo
 clear hS h4 hP hI hv
 have taarith := ta_arith_arith
 have taload := ta_arith_load
 have tastore := ta_arith_store
 have tacall := ta_arith_call
 have taassert := ta_arith_assert
 go_enter Tryz.func56, Tryz.ntmps56
 go_wp2_with (go_at_call 120; refine (codeOf2_c ⟨2, _, _, _, _, _, _, _⟩ _ rfl).mono ?_; rintro e w1 ⟨rfl, hc1⟩; obtain ⟨hcl1, hfz1⟩ := hc1.cells; have hz1 := hc1.size; (try simp only [World.size_alloc, World.size_setCell, World.size_drew] at hz1); have hb1 : b < w1.heap.size := (by omega); (try have hk1 : w1.heap.size < w1.heap.size := (by omega)))
 go_region
 go_wp2
 refine bodyPost_ret (v := .bool (false)) (by simp [results, Tryz.results56, go_sem]) rfl ⟨rfl, Chg.q⟩
set_option maxRecDepth 100000 in
set_option maxHeartbeats 4000000 in
theorem fails3_c (p : PrgProg) (i : InsIns) (s : AbsState) (b : Nat) (vP : Value) (FP : List Nat) (w : World) (hS : StateAt w b s) (h4 : s.Vars.length = 4) (hP : RL w p.Procs vP FP) (hI : insOk i p.Procs.length 10 = true) (hop : i.Op = 3) : Calls Tryz.prog 56 #[.pointer (some ⟨b, 0, none⟩), .agg #[vP], insV i] w fun e w' => e = .returned (.bool (failsV p i s)) ∧ Chg [] w w' := by
 obtain ⟨iO, iD, iA, iB, iR, iL, iH, iT⟩ := i
 obtain rfl : iO = 3 := hop
 have hv : failsV p ⟨3, iD, iA, iB, iR, iL, iH, iT⟩ s = false := by simp [failsV]
 rw [hv]
 have hb0 := World.block_lt_of_cell? _ _ hS.clo
 clear hS h4 hP hI hv
 have taarith := ta_arith_arith
 have taload := ta_arith_load
 have tastore := ta_arith_store
 have tacall := ta_arith_call
 have taassert := ta_arith_assert
 go_enter Tryz.func56, Tryz.ntmps56
 go_wp2_with (go_at_call 120; refine (codeOf3_c ⟨3, _, _, _, _, _, _, _⟩ _ rfl).mono ?_; rintro e w1 ⟨rfl, hc1⟩; obtain ⟨hcl1, hfz1⟩ := hc1.cells; have hz1 := hc1.size; (try simp only [World.size_alloc, World.size_setCell, World.size_drew] at hz1); have hb1 : b < w1.heap.size := (by omega); (try have hk1 : w1.heap.size < w1.heap.size := (by omega)))
 go_region
 go_wp2
 refine bodyPost_ret (v := .bool (false)) (by simp [results, Tryz.results56, go_sem]) rfl ⟨rfl, Chg.q⟩
set_option maxRecDepth 100000 in
set_option maxHeartbeats 4000000 in
theorem fails4_c (p : PrgProg) (i : InsIns) (s : AbsState) (b : Nat) (vP : Value) (FP : List Nat) (w : World) (hS : StateAt w b s) (h4 : s.Vars.length = 4) (hP : RL w p.Procs vP FP) (hI : insOk i p.Procs.length 10 = true) (hop : i.Op = 4) : Calls Tryz.prog 56 #[.pointer (some ⟨b, 0, none⟩), .agg #[vP], insV i] w fun e w' => e = .returned (.bool (failsV p i s)) ∧ Chg [] w w' := by
 obtain ⟨iO, iD, iA, iB, iR, iL, iH, iT⟩ := i
 obtain rfl : iO = 4 := hop
 have I := ins_vars hI
 dsimp only at I
 have hb0 := World.block_lt_of_cell? _ _ hS.clo
 obtain ⟨dB, hB⟩ := Int.eq_ofNat_of_zero_le (show 0 ≤ iB by omega)
 have lB : dB < s.Vars.length := by omega
 have mB : (dB : Int) < 4 := by omega
 have gB0 := hS.lo dB lB
 have gB1 := hS.hi dB lB
 rw [Nat.mul_comm] at gB0 gB1
 have hv : failsV p ⟨4, iD, iA, iB, iR, iL, iH, iT⟩ s = (itvHas ⟨s.Vars[dB].Lo, s.Vars[dB].Hi⟩ 0) := by simp only [failsV, getD_at hB lB]; simp
 rw [hv]
 clear hv
 subst hB
 clear hS h4 hP hI I
 have taarith := ta_arith_arith
 have taload := ta_arith_load
 have tastore := ta_arith_store
 have tacall := ta_arith_call
 have taassert := ta_arith_assert
 go_enter Tryz.func56, Tryz.ntmps56
 go_wp2_with (go_at_call 120; refine (codeOf4_c ⟨4, _, _, _, _, _, _, _⟩ _ rfl).mono ?_; rintro e w1 ⟨rfl, hc1⟩; obtain ⟨hcl1, hfz1⟩ := hc1.cells; have hz1 := hc1.size; (try simp only [World.size_alloc, World.size_setCell, World.size_drew] at hz1); have hb1 : b < w1.heap.size := (by omega); (try have hk1 : w1.heap.size < w1.heap.size := (by omega)))
 generalize hW : World.alloc w1 _ = w0
 have hK0 : Chg [] w w0 := by rw [← hW]; (repeat (first | with_reducible exact Chg.refl _ _ | with_reducible refine Chg.setCell ?_ (Or.inr (by first | (simp; done) | (simp; omega))) _ | with_reducible refine Chg.drewN ?_ _ | with_reducible refine Chg.drew ?_ | with_reducible refine Chg.alloc ?_ _ | with_reducible refine Chg.trans0 ?_ ‹Chg [] _ _›))
 have hsz : w1.heap.size < w0.heap.size := by rw [← hW]; simp
 have hb9 : b < w0.heap.size := Nat.lt_of_lt_of_le hb0 hK0.size
 have F0 : w0.cell? ⟨w1.heap.size, 0, none⟩ = some (.int .i64 4) := by rw [← hW]; simp [go_sem]
 have F1 : w0.cell? ⟨w1.heap.size, 1, none⟩ = some (.int .i64 iD) := by rw [← hW]; simp [go_sem]
 have F2 : w0.cell? ⟨w1.heap.size, 2, none⟩ = some (.int .i64 iA) := by rw [← hW]; simp [go_sem]
 have F3 : w0.cell? ⟨w1.heap.size, 3, none⟩ = some (.int .i64 (dB : Int)) := by rw [← hW]; simp [go_sem]
 have F4 : w0.cell? ⟨b, dB * 2, none⟩ = some (.int .i64 s.Vars[dB].Lo) := hK0.cell0 (by assumption)
 have F5 : w0.cell? ⟨b, dB * 2 + 1, none⟩ = some (.int .i64 s.Vars[dB].Hi) := hK0.cell0 (by assumption)
 clear hW hcl1 hfz1 hc1 gB0 gB1
 go_region_held3 (fun w' => w'.cell? ⟨w1.heap.size, 0, none⟩ = some (.int .i64 4) ∧ w'.cell? ⟨w1.heap.size, 1, none⟩ = some (.int .i64 iD) ∧ w'.cell? ⟨w1.heap.size, 2, none⟩ = some (.int .i64 iA) ∧ w'.cell? ⟨w1.heap.size, 3, none⟩ = some (.int .i64 (dB : Int)) ∧ w'.cell? ⟨b, dB * 2, none⟩ = some (.int .i64 s.Vars[dB].Lo) ∧ w'.cell? ⟨b, dB * 2 + 1, none⟩ = some (.int .i64 s.Vars[dB].Hi)) (((try dsimp only); (repeat' apply And.intro) <;> (first | with_reducible assumption | (go_keep; done)))) (first | (go_at_call 108; refine (iItvHas_c _ _ _ _).mono ?_; rintro e w2 ⟨rfl, hc2⟩; have F0 := hc2.cell0 F0; have F1 := hc2.cell0 F1; have F2 := hc2.cell0 F2; have F3 := hc2.cell0 F3; have F4 := hc2.cell0 F4; have F5 := hc2.cell0 F5))
 all_goals
  go_wp2
  refine bodyPost_ret (v := .bool (itvHas ⟨s.Vars[dB].Lo, s.Vars[dB].Hi⟩ 0)) (by simp [results, Tryz.results56, go_sem]) rfl ⟨rfl, Chg.q⟩
set_option maxRecDepth 100000 in
set_option maxHeartbeats 4000000 in
theorem fails5_c (p : PrgProg) (i : InsIns) (s : AbsState) (b : Nat) (vP : Value) (FP : List Nat) (w : World) (hS : StateAt w b s) (h4 : s.Vars.length = 4) (hP : RL w p.Procs vP FP) (hI : insOk i p.Procs.length 10 = true) (hop : i.Op = 5) : Calls Tryz.prog 56 #[.pointer (some ⟨b, 0, none⟩), .agg #[vP], insV i] w fun e w' => e = .returned (.bool (failsV p i s)) ∧ Chg [] w w' := by
 obtain ⟨iO, iD, iA, iB, iR, iL, iH, iT⟩ := i
 obtain rfl : iO = 5 := hop
 have hv : failsV p ⟨5, iD, iA, iB, iR, iL, iH, iT⟩ s = false := by simp [failsV]
 rw [hv]
 have hb0 := World.block_lt_of_cell? _ _ hS.clo
 clear hS h4 hP hI hv
 have taarith := ta_any_arith
 have taload := ta_any_load
 have tastore := ta_any_store
 have tacall := ta_any_call
 have taassert := ta_any_assert
 go_enter Tryz.func56, Tryz.ntmps56
 go_wp2_with (go_at_call 120; refine (codeOf5_c ⟨5, _, _, _, _, _, _, _⟩ _ rfl).mono ?_; rintro e w1 ⟨rfl, hc1⟩; obtain ⟨hcl1, hfz1⟩ := hc1.cells; have hz1 := hc1.size; (try simp only [World.size_alloc, World.size_setCell, World.size_drew] at hz1); have hb1 : b < w1.heap.size := (by omega); (try have hk1 : w1.heap.size < w1.heap.size := (by omega)))
 refine bodyPost_ret (v := .bool (false)) (by simp [results, Tryz.results56, go_sem]) rfl ⟨rfl, Chg.q⟩
set_option maxRecDepth 100000 in
set_option maxHeartbeats 4000000 in
theorem fails6_c (p : PrgProg) (i : InsIns) (s : AbsState) (b : Nat) (vP : Value) (FP : List Nat) (w : World) (hS : StateAt w b s) (h4 : s.Vars.length = 4) (hP : RL w p.Procs vP FP) (hI : insOk i p.Procs.length 10 = true) (hop : i.Op = 6) : Calls Tryz.prog 56 #[.pointer (some ⟨b, 0, none⟩), .agg #[vP], insV i] w fun e w' => e = .returned (.bool (failsV p i s)) ∧ Chg [] w w' := by
 obtain ⟨iO, iD, iA, iB, iR, iL, iH, iT⟩ := i
 obtain rfl : iO = 6 := hop
 have I := ins_vars hI
 dsimp only at I
 have hb0 := World.block_lt_of_cell? _ _ hS.clo
 obtain ⟨dA, hA⟩ := Int.eq_ofNat_of_zero_le (show 0 ≤ iA by omega)
 have lA : dA < s.Vars.length := by omega
 have mA : (dA : Int) < 4 := by omega
 have gA0 := hS.lo dA lA
 have gA1 := hS.hi dA lA
 rw [Nat.mul_comm] at gA0 gA1
 have hv : failsV p ⟨6, iD, iA, iB, iR, iL, iH, iT⟩ s = (!itvIn ⟨s.Vars[dA].Lo, s.Vars[dA].Hi⟩ ⟨0, 3⟩) := by simp only [failsV, getD_at hA lA]; simp
 rw [hv]
 clear hv
 subst hA
 clear hS h4 hP hI I
 have taarith := ta_load_arith
 have taload := ta_load_load
 have tastore := ta_load_store
 have tacall := ta_load_call
 have taassert := ta_load_assert
 go_enter Tryz.func56, Tryz.ntmps56
 go_wp2_with (go_at_call 120; refine (codeOf6_c ⟨6, _, _, _, _, _, _, _⟩ _ rfl).mono ?_; rintro e w1 ⟨rfl, hc1⟩; obtain ⟨hcl1, hfz1⟩ := hc1.cells; have hz1 := hc1.size; (try simp only [World.size_alloc, World.size_setCell, World.size_drew] at hz1); have hb1 : b < w1.heap.size := (by omega); (try have hk1 : w1.heap.size < w1.heap.size := (by omega)))
 generalize hW : World.alloc w1 _ = w0
 have hK0 : Chg [] w w0 := by rw [← hW]; (repeat (first | with_reducible exact Chg.refl _ _ | with_reducible refine Chg.setCell ?_ (Or.inr (by first | (simp; done) | (simp; omega))) _ | with_reducible refine Chg.drewN ?_ _ | with_reducible refine Chg.drew ?_ | with_reducible refine Chg.alloc ?_ _ | with_reducible refine Chg.trans0 ?_ ‹Chg [] _ _›))
 have hsz : w1.heap.size < w0.heap.size := by rw [← hW]; simp
 have hb9 : b < w0.heap.size := Nat.lt_of_lt_of_le hb0 hK0.size
 have F0 : w0.cell? ⟨w1.heap.size, 0, none⟩ = some (.int .i64 iD) := by rw [← hW]; simp [go_sem]
 have F1 : w0.cell? ⟨w1.heap.size, 1, none⟩ = some (.int .i64 (dA : Int)) := by rw [← hW]; simp [go_sem]
 have F2 : w0.cell? ⟨b, dA * 2, none⟩ = some (.int .i64 s.Vars[dA].Lo) := hK0.cell0 (by assumption)
 have F3 : w0.cell? ⟨b, dA * 2 + 1, none⟩ = some (.int .i64 s.Vars[dA].Hi) := hK0.cell0 (by assumption)
 clear hW hcl1 hfz1 hc1 gA0 gA1
 go_region_held3 (fun w' => w'.cell? ⟨w1.heap.size, 0, none⟩ = some (.int .i64 iD) ∧ w'.cell? ⟨w1.heap.size, 1, none⟩ = some (.int .i64 (dA : Int)) ∧ w'.cell? ⟨b, dA * 2, none⟩ = some (.int .i64 s.Vars[dA].Lo) ∧ w'.cell? ⟨b, dA * 2 + 1, none⟩ = some (.int .i64 s.Vars[dA].Hi)) (((try dsimp only); (repeat' apply And.intro) <;> (first | with_reducible assumption | (go_keep; done)))) (first | (go_at_call 124; refine (cellIdx_c _).mono ?_; rintro e w3 ⟨rfl, hc3⟩; have F0 := hc3.cell0 F0; have F1 := hc3.cell0 F1; have F2 := hc3.cell0 F2; have F3 := hc3.cell0 F3) | (go_at_call 123; refine (iItvIn_c _ _ _ _ _).mono ?_; rintro e w4 ⟨rfl, hc4⟩; have F0 := hc4.cell0 F0; have F1 := hc4.cell0 F1; have F2 := hc4.cell0 F2; have F3 := hc4.cell0 F3))
 all_goals
  go_wp2
  refine bodyPost_ret (v := .bool (!itvIn ⟨s.Vars[dA].Lo, s.Vars[dA].Hi⟩ ⟨0, 3⟩)) (by simp [results, Tryz.results56, go_sem]) rfl ⟨rfl, Chg.q⟩
set_option maxRecDepth 100000 in
set_option maxHeartbeats 4000000 in
theorem fails7_c (p : PrgProg) (i : InsIns) (s : AbsState) (b : Nat) (vP : Value) (FP : List Nat) (w : World) (hS : StateAt w b s) (h4 : s.Vars.length = 4) (hP : RL w p.Procs vP FP) (hI : insOk i p.Procs.length 10 = true) (hop : i.Op = 7) : Calls Tryz.prog 56 #[.pointer (some ⟨b, 0, none⟩), .agg #[vP], insV i] w fun e w' => e = .returned (.bool (failsV p i s)) ∧ Chg [] w w' := by
 obtain ⟨iO, iD, iA, iB, iR, iL, iH, iT⟩ := i
 obtain rfl : iO = 7 := hop
 have I := ins_vars hI
 dsimp only at I
 have hb0 := World.block_lt_of_cell? _ _ hS.clo
 obtain ⟨dA, hA⟩ := Int.eq_ofNat_of_zero_le (show 0 ≤ iA by omega)
 have lA : dA < s.Vars.length := by omega
 have mA : (dA : Int) < 4 := by omega
 have gA0 := hS.lo dA lA
 have gA1 := hS.hi dA lA
 rw [Nat.mul_comm] at gA0 gA1
 have hv : failsV p ⟨7, iD, iA, iB, iR, iL, iH, iT⟩ s = (!itvIn ⟨s.Vars[dA].Lo, s.Vars[dA].Hi⟩ ⟨0, 3⟩) := by simp only [failsV, getD_at hA lA]; simp
 rw [hv]
 clear hv
 subst hA
 clear hS h4 hP hI I
 have taarith := ta_store_arith
 have taload := ta_store_load
 have tastore := ta_store_store
 have tacall := ta_store_call
 have taassert := ta_store_assert
 go_enter Tryz.func56, Tryz.ntmps56
 go_wp2_with (go_at_call 120; refine (codeOf7_c ⟨7, _, _, _, _, _, _, _⟩ _ rfl).mono ?_; rintro e w1 ⟨rfl, hc1⟩; obtain ⟨hcl1, hfz1⟩ := hc1.cells; have hz1 := hc1.size; (try simp only [World.size_alloc, World.size_setCell, World.size_drew] at hz1); have hb1 : b < w1.heap.size := (by omega); (try have hk1 : w1.heap.size < w1.heap.size := (by omega)))
 generalize hW : World.alloc w1 _ = w0
 have hK0 : Chg [] w w0 := by rw [← hW]; (repeat (first | with_reducible exact Chg.refl _ _ | with_reducible refine Chg.setCell ?_ (Or.inr (by first | (simp; done) | (simp; omega))) _ | with_reducible refine Chg.drewN ?_ _ | with_reducible refine Chg.drew ?_ | with_reducible refine Chg.alloc ?_ _ | with_reducible refine Chg.trans0 ?_ ‹Chg [] _ _›))
 have hsz : w1.heap.size < w0.heap.size := by rw [← hW]; simp
 have hb9 : b < w0.heap.size := Nat.lt_of_lt_of_le hb0 hK0.size
 have F0 : w0.cell? ⟨w1.heap.size, 0, none⟩ = some (.int .i64 (dA : Int)) := by rw [← hW]; simp [go_sem]
 have F1 : w0.cell? ⟨w1.heap.size, 1, none⟩ = some (.int .i64 iB) := by rw [← hW]; simp [go_sem]
 have F2 : w0.cell? ⟨b, dA * 2, none⟩ = some (.int .i64 s.Vars[dA].Lo) := hK0.cell0 (by assumption)
 have F3 : w0.cell? ⟨b, dA * 2 + 1, none⟩ = some (.int .i64 s.Vars[dA].Hi) := hK0.cell0 (by assumption)
 clear hW hcl1 hfz1 hc1 gA0 gA1
 go_region_held3 (fun w' => w'.cell? ⟨w1.heap.size, 0, none⟩ = some (.int .i64 (dA : Int)) ∧ w'.cell? ⟨w1.heap.size, 1, none⟩ = some (.int .i64 iB) ∧ w'.cell? ⟨b, dA * 2, none⟩ = some (.int .i64 s.Vars[dA].Lo) ∧ w'.cell? ⟨b, dA * 2 + 1, none⟩ = some (.int .i64 s.Vars[dA].Hi)) (((try dsimp only); (repeat' apply And.intro) <;> (first | with_reducible assumption | (go_keep; done)))) (first | (go_at_call 124; refine (cellIdx_c _).mono ?_; rintro e w3 ⟨rfl, hc3⟩; have F0 := hc3.cell0 F0; have F1 := hc3.cell0 F1; have F2 := hc3.cell0 F2; have F3 := hc3.cell0 F3) | (go_at_call 123; refine (iItvIn_c _ _ _ _ _).mono ?_; rintro e w4 ⟨rfl, hc4⟩; have F0 := hc4.cell0 F0; have F1 := hc4.cell0 F1; have F2 := hc4.cell0 F2; have F3 := hc4.cell0 F3))
 all_goals
  go_wp2
  refine bodyPost_ret (v := .bool (!itvIn ⟨s.Vars[dA].Lo, s.Vars[dA].Hi⟩ ⟨0, 3⟩)) (by simp [results, Tryz.results56, go_sem]) rfl ⟨rfl, Chg.q⟩
set_option maxRecDepth 100000 in
set_option maxHeartbeats 4000000 in
theorem fails8_c (p : PrgProg) (i : InsIns) (s : AbsState) (b : Nat) (vP : Value) (FP : List Nat) (w : World) (hS : StateAt w b s) (h4 : s.Vars.length = 4) (hP : RL w p.Procs vP FP) (hI : insOk i p.Procs.length 10 = true) (hop : i.Op = 8) : Calls Tryz.prog 56 #[.pointer (some ⟨b, 0, none⟩), .agg #[vP], insV i] w fun e w' => e = .returned (.bool (failsV p i s)) ∧ Chg [] w w' := by
 obtain ⟨iO, iD, iA, iB, iR, iL, iH, iT⟩ := i
 obtain rfl : iO = 8 := hop
 have hv : failsV p ⟨8, iD, iA, iB, iR, iL, iH, iT⟩ s = false := by simp [failsV]
 rw [hv]
 have hb0 := World.block_lt_of_cell? _ _ hS.clo
 clear hS h4 hP hI hv
 have taarith := ta_if_arith
 have taload := ta_if_load
 have tastore := ta_if_store
 have tacall := ta_if_call
 have taassert := ta_if_assert
 go_enter Tryz.func56, Tryz.ntmps56
 go_wp2_with (go_at_call 120; refine (codeOf8_c ⟨8, _, _, _, _, _, _, _⟩ _ rfl).mono ?_; rintro e w1 ⟨rfl, hc1⟩; obtain ⟨hcl1, hfz1⟩ := hc1.cells; have hz1 := hc1.size; (try simp only [World.size_alloc, World.size_setCell, World.size_drew] at hz1); have hb1 : b < w1.heap.size := (by omega); (try have hk1 : w1.heap.size < w1.heap.size := (by omega)))
 refine bodyPost_ret (v := .bool (false)) (by simp [results, Tryz.results56, go_sem]) rfl ⟨rfl, Chg.q⟩
set_option maxRecDepth 100000 in
set_option maxHeartbeats 4000000 in
theorem fails9_c (p : PrgProg) (i : InsIns) (s : AbsState) (b : Nat) (vP : Value) (FP : List Nat) (w : World) (hS : StateAt w b s) (h4 : s.Vars.length = 4) (hP : RL w p.Procs vP FP) (hI : insOk i p.Procs.length 10 = true) (hop : i.Op = 9) : Calls Tryz.prog 56 #[.pointer (some ⟨b, 0, none⟩), .agg #[vP], insV i] w fun e w' => e = .returned (.bool (failsV p i s)) ∧ Chg [] w w' := by
 obtain ⟨iO, iD, iA, iB, iR, iL, iH, iT⟩ := i
 obtain rfl : iO = 9 := hop
 have hv : failsV p ⟨9, iD, iA, iB, iR, iL, iH, iT⟩ s = false := by simp [failsV]
 rw [hv]
 have hb0 := World.block_lt_of_cell? _ _ hS.clo
 clear hS h4 hP hI hv
 have taarith := ta_jump_arith
 have taload := ta_jump_load
 have tastore := ta_jump_store
 have tacall := ta_jump_call
 have taassert := ta_jump_assert
 go_enter Tryz.func56, Tryz.ntmps56
 go_wp2_with (go_at_call 120; refine (codeOf9_c ⟨9, _, _, _, _, _, _, _⟩ _ rfl).mono ?_; rintro e w1 ⟨rfl, hc1⟩; obtain ⟨hcl1, hfz1⟩ := hc1.cells; have hz1 := hc1.size; (try simp only [World.size_alloc, World.size_setCell, World.size_drew] at hz1); have hb1 : b < w1.heap.size := (by omega); (try have hk1 : w1.heap.size < w1.heap.size := (by omega)))
 refine bodyPost_ret (v := .bool (false)) (by simp [results, Tryz.results56, go_sem]) rfl ⟨rfl, Chg.q⟩
set_option maxRecDepth 100000 in
set_option maxHeartbeats 4000000 in
theorem fails10_c (p : PrgProg) (i : InsIns) (s : AbsState) (b : Nat) (vP : Value) (FP : List Nat) (w : World) (hS : StateAt w b s) (h4 : s.Vars.length = 4) (hP : RL w p.Procs vP FP) (hI : insOk i p.Procs.length 10 = true) (hop : i.Op = 10) : Calls Tryz.prog 56 #[.pointer (some ⟨b, 0, none⟩), .agg #[vP], insV i] w fun e w' => e = .returned (.bool (failsV p i s)) ∧ Chg [] w w' := by
 obtain ⟨iO, iD, iA, iB, iR, iL, iH, iT⟩ := i
 obtain rfl : iO = 10 := hop
 have I := ins_vars hI
 dsimp only at I
 have hb0 := World.block_lt_of_cell? _ _ hS.clo
 obtain ⟨dA, hA⟩ := Int.eq_ofNat_of_zero_le (show 0 ≤ iA by omega)
 have lA : dA < s.Vars.length := by omega
 have mA : (dA : Int) < 4 := by omega
 have gA0 := hS.lo dA lA
 have gA1 := hS.hi dA lA
 rw [Nat.mul_comm] at gA0 gA1
 obtain ⟨dT, hT⟩ := Int.eq_ofNat_of_zero_le (show 0 ≤ iT by omega)
 have lT : dT < p.Procs.length := by omega
 have mT : (dT : Int) < p.Procs.length := by omega
 have hv : failsV p ⟨10, iD, iA, iB, iR, iL, iH, iT⟩ s = (!itvIn ⟨s.Vars[dA].Lo, s.Vars[dA].Hi⟩ ⟨p.Procs[dT].Lo, p.Procs[dT].Hi⟩) := by simp only [failsV, getD_at hA lA, l7Given, getD_at hT lT]; simp
 rw [hv]
 clear hv
 subst hA hT
 obtain ⟨bP, oP, cP, cs, FF, rfl, rP, nP, -⟩ := hP.elem lT
 obtain ⟨vC, FC, rfl, rfl, -, -, gC⟩ := R_PrcProc.1 rP
 have ya0 := nP 0 (by decide)
 have ya1 := nP 1 (by decide)
 have ya2 := nP 2 (by decide)
 simp only [sz_PrcProc, Nat.add_zero, List.getElem?_cons_zero, List.getElem?_cons_succ] at ya0 ya1 ya2
 have hbP := World.block_lt_of_cell? _ _ ya0
 clear nP rP gC
 clear hS h4 hP hI I
 have taarith := ta_call_arith
 have taload := ta_call_load
 have tastore := ta_call_store
 have tacall := ta_call_call
 have taassert := ta_call_assert
 go_enter Tryz.func56, Tryz.ntmps56
 go_wp2_with (go_at_call 120; refine (codeOf10_c ⟨10, _, _, _, _, _, _, _⟩ _ rfl).mono ?_; rintro e w1 ⟨rfl, hc1⟩; obtain ⟨hcl1, hfz1⟩ := hc1.cells; have hz1 := hc1.size; (try simp only [World.size_alloc, World.size_setCell, World.size_drew] at hz1); have hb1 : b < w1.heap.size := (by omega); (try have hk1 : w1.heap.size < w1.heap.size := (by omega)))
 generalize hW : World.alloc w1 _ = w0
 have hK0 : Chg [] w w0 := by rw [← hW]; (repeat (first | with_reducible exact Chg.refl _ _ | with_reducible refine Chg.setCell ?_ (Or.inr (by first | (simp; done) | (simp; omega))) _ | with_reducible refine Chg.drewN ?_ _ | with_reducible refine Chg.drew ?_ | with_reducible refine Chg.alloc ?_ _ | with_reducible refine Chg.trans0 ?_ ‹Chg [] _ _›))
 have hsz : w1.heap.size < w0.heap.size := by rw [← hW]; simp
 have hb9 : b < w0.heap.size := Nat.lt_of_lt_of_le hb0 hK0.size
 have F0 : w0.cell? ⟨w1.heap.size, 0, none⟩ = some (.int .i64 iD) := by rw [← hW]; simp [go_sem]
 have F1 : w0.cell? ⟨w1.heap.size, 1, none⟩ = some (.int .i64 (dA : Int)) := by rw [← hW]; simp [go_sem]
 have F2 : w0.cell? ⟨w1.heap.size, 2, none⟩ = some (.int .i64 (dT : Int)) := by rw [← hW]; simp [go_sem]
 have F3 : w0.cell? ⟨b, dA * 2, none⟩ = some (.int .i64 s.Vars[dA].Lo) := hK0.cell0 (by assumption)
 have F4 : w0.cell? ⟨b, dA * 2 + 1, none⟩ = some (.int .i64 s.Vars[dA].Hi) := hK0.cell0 (by assumption)
 have F5 : w0.cell? ⟨w.heap.size, 0, none⟩ = some (.slice (some ⟨bP, oP, none⟩) p.Procs.length cP) := by rw [← hW]; exact ((Chg.refl [] w1).alloc _).cell0 (hc1.cell0 (by simp [go_sem]))
 have F6 : w0.cell? ⟨bP, oP + dT * 3, none⟩ = some (.int .i64 p.Procs[dT].Lo) := hK0.cell0 (by assumption)
 have F7 : w0.cell? ⟨bP, oP + dT * 3 + 1, none⟩ = some (.int .i64 p.Procs[dT].Hi) := hK0.cell0 (by assumption)
 have F8 : w0.cell? ⟨bP, oP + dT * 3 + 2, none⟩ = some (vC) := hK0.cell0 (by assumption)
 clear hW hcl1 hfz1 hc1 gA0 gA1
 go_region_held3 (fun w' => w'.cell? ⟨w1.heap.size, 0, none⟩ = some (.int .i64 iD) ∧ w'.cell? ⟨w1.heap.size, 1, none⟩ = some (.int .i64 (dA : Int)) ∧ w'.cell? ⟨w1.heap.size, 2, none⟩ = some (.int .i64 (dT : Int)) ∧ w'.cell? ⟨b, dA * 2, none⟩ = some (.int .i64 s.Vars[dA].Lo) ∧ w'.cell? ⟨b, dA * 2 + 1, none⟩ = some (.int .i64 s.Vars[dA].Hi) ∧ w'.cell? ⟨w.heap.size, 0, none⟩ = some (.slice (some ⟨bP, oP, none⟩) p.Procs.length cP) ∧ w'.cell? ⟨bP, oP + dT * 3, none⟩ = some (.int .i64 p.Procs[dT].Lo) ∧ w'.cell? ⟨bP, oP + dT * 3 + 1, none⟩ = some (.int .i64 p.Procs[dT].Hi) ∧ w'.cell? ⟨bP, oP + dT * 3 + 2, none⟩ = some (vC)) (((try dsimp only); (repeat' apply And.intro) <;> (first | with_reducible assumption | (go_keep; done)))) (first | (go_at_call 116; refine (itv_c _ _ _ _).mono ?_; rintro e w5 ⟨rfl, hc5⟩; have F0 := hc5.cell0 F0; have F1 := hc5.cell0 F1; have F2 := hc5.cell0 F2; have F3 := hc5.cell0 F3; have F4 := hc5.cell0 F4; have F5 := hc5.cell0 F5; have F6 := hc5.cell0 F6; have F7 := hc5.cell0 F7; have F8 := hc5.cell0 F8) | (go_at_call 123; refine (iItvIn_c _ _ _ _ _).mono ?_; rintro e w4 ⟨rfl, hc4⟩; have F0 := hc4.cell0 F0; have F1 := hc4.cell0 F1; have F2 := hc4.cell0 F2; have F3 := hc4.cell0 F3; have F4 := hc4.cell0 F4; have F5 := hc4.cell0 F5; have F6 := hc4.cell0 F6; have F7 := hc4.cell0 F7; have F8 := hc4.cell0 F8))
 all_goals
  go_wp2
  refine bodyPost_ret (v := .bool (!itvIn ⟨s.Vars[dA].Lo, s.Vars[dA].Hi⟩ ⟨p.Procs[dT].Lo, p.Procs[dT].Hi⟩)) (by simp [results, Tryz.results56, go_sem]) rfl ⟨rfl, Chg.q⟩
set_option maxRecDepth 100000 in
set_option maxHeartbeats 4000000 in
theorem fails11_c (p : PrgProg) (i : InsIns) (s : AbsState) (b : Nat) (vP : Value) (FP : List Nat) (w : World) (hS : StateAt w b s) (h4 : s.Vars.length = 4) (hP : RL w p.Procs vP FP) (hI : insOk i p.Procs.length 10 = true) (hop : i.Op = 11) : Calls Tryz.prog 56 #[.pointer (some ⟨b, 0, none⟩), .agg #[vP], insV i] w fun e w' => e = .returned (.bool (failsV p i s)) ∧ Chg [] w w' := by
 obtain ⟨iO, iD, iA, iB, iR, iL, iH, iT⟩ := i
 obtain rfl : iO = 11 := hop
 have I := ins_vars hI
 dsimp only at I
 have hb0 := World.block_lt_of_cell? _ _ hS.clo
 obtain ⟨dA, hA⟩ := Int.eq_ofNat_of_zero_le (show 0 ≤ iA by omega)
 have lA : dA < s.Vars.length := by omega
 have mA : (dA : Int) < 4 := by omega
 have gA0 := hS.lo dA lA
 have gA1 := hS.hi dA lA
 rw [Nat.mul_comm] at gA0 gA1
 obtain ⟨dB, hB⟩ := Int.eq_ofNat_of_zero_le (show 0 ≤ iB by omega)
 have lB : dB < s.Vars.length := by omega
 have mB : (dB : Int) < 4 := by omega
 have gB0 := hS.lo dB lB
 have gB1 := hS.hi dB lB
 rw [Nat.mul_comm] at gB0 gB1
 have hv : failsV p ⟨11, iD, iA, iB, iR, iL, iH, iT⟩ s = ((itvNot iR ⟨s.Vars[dA].Lo, s.Vars[dA].Hi⟩ ⟨s.Vars[dB].Lo, s.Vars[dB].Hi⟩).2.2) := by simp only [failsV, getD_at hA lA, getD_at hB lB]; simp
 rw [hv]
 clear hv
 subst hA hB
 clear hS h4 hP hI I
 have taarith := ta_assert_arith
 have taload := ta_assert_load
 have tastore := ta_assert_store
 have tacall := ta_assert_call
 have taassert := ta_assert_assert
 go_enter Tryz.func56, Tryz.ntmps56
 go_wp2_with (go_at_call 120; refine (codeOf11_c ⟨11, _, _, _, _, _, _, _⟩ _ rfl).mono ?_; rintro e w1 ⟨rfl, hc1⟩; obtain ⟨hcl1, hfz1⟩ := hc1.cells; have hz1 := hc1.size; (try simp only [World.size_alloc, World.size_setCell, World.size_drew] at hz1); have hb1 : b < w1.heap.size := (by omega); (try have hk1 : w1.heap.size < w1.heap.size := (by omega)))
 generalize hW : World.alloc w1 _ = w0
 have hK0 : Chg [] w w0 := by rw [← hW]; (repeat (first | with_reducible exact Chg.refl _ _ | with_reducible refine Chg.setCell ?_ (Or.inr (by first | (simp; done) | (simp; omega))) _ | with_reducible refine Chg.drewN ?_ _ | with_reducible refine Chg.drew ?_ | with_reducible refine Chg.alloc ?_ _ | with_reducible refine Chg.trans0 ?_ ‹Chg [] _ _›))
 have hsz : w1.heap.size < w0.heap.size := by rw [← hW]; simp
 have hb9 : b < w0.heap.size := Nat.lt_of_lt_of_le hb0 hK0.size
 have F0 : w0.cell? ⟨w1.heap.size, 0, none⟩ = some (.int .i64 iR) := by rw [← hW]; simp [go_sem]
 have F1 : w0.cell? ⟨w1.heap.size, 1, none⟩ = some (.int .i64 (dA : Int)) := by rw [← hW]; simp [go_sem]
 have F2 : w0.cell? ⟨w1.heap.size, 2, none⟩ = some (.int .i64 (dB : Int)) := by rw [← hW]; simp [go_sem]
 have F3 : w0.cell? ⟨b, dA * 2, none⟩ = some (.int .i64 s.Vars[dA].Lo) := hK0.cell0 (by assumption)
 have F4 : w0.cell? ⟨b, dA * 2 + 1, none⟩ = some (.int .i64 s.Vars[dA].Hi) := hK0.cell0 (by assumption)
 have F5 : w0.cell? ⟨b, dB * 2, none⟩ = some (.int .i64 s.Vars[dB].Lo) := hK0.cell0 (by assumption)
 have F6 : w0.cell? ⟨b, dB * 2 + 1, none⟩ = some (.int .i64 s.Vars[dB].Hi) := hK0.cell0 (by assumption)
 clear hW hcl1 hfz1 hc1 gA0 gA1 gB0 gB1
 have n00 : w0.heap.size ≠ b := by omega
 have m00 : b ≠ w0.heap.size := by omega
 have n01 : w0.heap.size ≠ w1.heap.size := by omega
 have m01 : w1.heap.size ≠ w0.heap.size := by omega
 have n10 : w0.heap.size + 1 ≠ b := by omega
 have m10 : b ≠ w0.heap.size + 1 := by omega
 have n11 : w0.heap.size + 1 ≠ w1.heap.size := by omega
 have m11 : w1.heap.size ≠ w0.heap.size + 1 := by omega
 go_region_held3 (fun w' => w'.cell? ⟨w1.heap.size, 0, none⟩ = some (.int .i64 iR) ∧ w'.cell? ⟨w1.heap.size, 1, none⟩ = some (.int .i64 (dA : Int)) ∧ w'.cell? ⟨w1.heap.size, 2, none⟩ = some (.int .i64 (dB : Int)) ∧ w'.cell? ⟨b, dA * 2, none⟩ = some (.int .i64 s.Vars[dA].Lo) ∧ w'.cell? ⟨b, dA * 2 + 1, none⟩ = some (.int .i64 s.Vars[dA].Hi) ∧ w'.cell? ⟨b, dB * 2, none⟩ = some (.int .i64 s.Vars[dB].Lo) ∧ w'.cell? ⟨b, dB * 2 + 1, none⟩ = some (.int .i64 s.Vars[dB].Hi)) (((try dsimp only); (repeat' apply And.intro) <;> (first | with_reducible assumption | (go_keep; done)))) (first | (go_at_call 125; refine (iItvNot_c _ _ _ _ _ _).mono ?_; rintro e w6 ⟨rfl, hc6⟩; have F0 : w6.cell? ⟨w1.heap.size, 0, none⟩ = some (.int .i64 iR) := hc6.cell0 (by first | with_reducible exact F0 | (simp [go_sem, F0, hsz, hb9]; done)); have F1 : w6.cell? ⟨w1.heap.size, 1, none⟩ = some (.int .i64 (dA : Int)) := hc6.cell0 (by first | with_reducible exact F1 | (simp [go_sem, F1, hsz, hb9]; done)); have F2 : w6.cell? ⟨w1.heap.size, 2, none⟩ = some (.int .i64 (dB : Int)) := hc6.cell0 (by first | with_reducible exact F2 | (simp [go_sem, F2, hsz, hb9]; done)); have F3 : w6.cell? ⟨b, dA * 2, none⟩ = some (.int .i64 s.Vars[dA].Lo) := hc6.cell0 (by first | with_reducible exact F3 | (simp [go_sem, F3, hsz, hb9]; done)); have F4 : w6.cell? ⟨b, dA * 2 + 1, none⟩ = some (.int .i64 s.Vars[dA].Hi) := hc6.cell0 (by first | with_reducible exact F4 | (simp [go_sem, F4, hsz, hb9]; done)); have F5 : w6.cell? ⟨b, dB * 2, none⟩ = some (.int .i64 s.Vars[dB].Lo) := hc6.cell0 (by first | with_reducible exact F5 | (simp [go_sem, F5, hsz, hb9]; done)); have F6 : w6.cell? ⟨b, dB * 2 + 1, none⟩ = some (.int .i64 s.Vars[dB].Hi) := hc6.cell0 (by first | with_reducible exact F6 | (simp [go_sem, F6, hsz, hb9]; done)); have zc00 := hc6.cells.1 (w0.heap.size) 0; have zf00 := hc6.cells.2 (w0.heap.size) 0; have zc01 := hc6.cells.1 (w0.heap.size) 1; have zf01 := hc6.cells.2 (w0.heap.size) 1; have zc10 := hc6.cells.1 (w0.heap.size + 1) 0; have zf10 := hc6.cells.2 (w0.heap.size + 1) 0; have zc11 := hc6.cells.1 (w0.heap.size + 1) 1; have zf11 := hc6.cells.2 (w0.heap.size + 1) 1; have sz6 := hc6.size; (try simp only [World.size_alloc, World.size_setCell, World.size_drew] at sz6); (try have lt6 := Nat.lt_of_succ_le sz6); have lz6 := hc6.size; have p00 : w6.heap.size ≠ b := (by first | omega | (have h := hc6.size; simp only [World.size_alloc, World.size_setCell, World.size_drew] at h; omega)); have q00 : b ≠ w6.heap.size := (by omega); have p01 : w6.heap.size ≠ w1.heap.size := (by first | omega | (have h := hc6.size; simp only [World.size_alloc, World.size_setCell, World.size_drew] at h; omega)); have q01 : w1.heap.size ≠ w6.heap.size := (by omega); have p10 : w6.heap.size + 1 ≠ b := (by first | omega | (have h := hc6.size; simp only [World.size_alloc, World.size_setCell, World.size_drew] at h; omega)); have q10 : b ≠ w6.heap.size + 1 := (by omega); have p11 : w6.heap.size + 1 ≠ w1.heap.size := (by first | omega | (have h := hc6.size; simp only [World.size_alloc, World.size_setCell, World.size_drew] at h; omega)); have q11 : w1.heap.size ≠ w6.heap.size + 1 := (by omega)))
 all_goals
  go_wp2
  refine bodyPost_ret (v := .bool ((itvNot iR ⟨s.Vars[dA].Lo, s.Vars[dA].Hi⟩ ⟨s.Vars[dB].Lo, s.Vars[dB].Hi⟩).2.2)) (by simp [results, Tryz.results56, go_sem]) rfl ⟨rfl, Chg.q⟩
set_option maxRecDepth 100000 in
set_option maxHeartbeats 4000000 in
theorem fails12_c (p : PrgProg) (i : InsIns) (s : AbsState) (b : Nat) (vP : Value) (FP : List Nat) (w : World) (hS : StateAt w b s) (h4 : s.Vars.length = 4) (hP : RL w p.Procs vP FP) (hI : insOk i p.Procs.length 10 = true) (hop : i.Op = 12) : Calls Tryz.prog 56 #[.pointer (some ⟨b, 0, none⟩), .agg #[vP], insV i] w fun e w' => e = .returned (.bool (failsV p i s)) ∧ Chg [] w w' := by
 obtain ⟨iO, iD, iA, iB, iR, iL, iH, iT⟩ := i
 obtain rfl : iO = 12 := hop
 have hv : failsV p ⟨12, iD, iA, iB, iR, iL, iH, iT⟩ s = false := by simp [failsV]
 rw [hv]
 have hb0 := World.block_lt_of_cell? _ _ hS.clo
 clear hS h4 hP hI hv
 have taarith := ta_ret_arith
 have taload := ta_ret_load
 have tastore := ta_ret_store
 have tacall := ta_ret_call
 have taassert := ta_ret_assert
 go_enter Tryz.func56, Tryz.ntmps56
 go_wp2_with (go_at_call 120; refine (codeOf12_c ⟨12, _, _, _, _, _, _, _⟩ _ rfl).mono ?_; rintro e w1 ⟨rfl, hc1⟩; obtain ⟨hcl1, hfz1⟩ := hc1.cells; have hz1 := hc1.size; (try simp only [World.size_alloc, World.size_setCell, World.size_drew] at hz1); have hb1 : b < w1.heap.size := (by omega); (try have hk1 : w1.heap.size < w1.heap.size := (by omega)))
 refine bodyPost_ret (v := .bool (false)) (by simp [results, Tryz.results56, go_sem]) rfl ⟨rfl, Chg.q⟩
theorem fails_c (p : PrgProg) (i : InsIns) (s : AbsState) (b : Nat) (vP : Value) (FP : List Nat) (w : World) (hS : StateAt w b s) (h4 : s.Vars.length = 4) (hP : RL w p.Procs vP FP) (hI : insOk i p.Procs.length 10 = true) : Calls Tryz.prog 56 #[.pointer (some ⟨b, 0, none⟩), .agg #[vP], insV i] w fun e w' => e = .returned (.bool (failsV p i s)) ∧ Chg [] w w' := by
 have h12 : 1 ≤ i.Op ∧ i.Op ≤ 12 := by
  simp only [insOk, Bool.and_eq_true, decide_eq_true_eq] at hI
  exact ⟨hI.1.1.1.1.1.1, hI.1.1.1.1.1.2⟩
 rcases (by omega : i.Op = 1 ∨ i.Op = 2 ∨ i.Op = 3 ∨ i.Op = 4 ∨ i.Op = 5 ∨ i.Op = 6 ∨ i.Op = 7 ∨ i.Op = 8 ∨ i.Op = 9 ∨ i.Op = 10 ∨ i.Op = 11 ∨ i.Op = 12) with h | h | h | h | h | h | h | h | h | h | h | h
 · exact fails1_c p i s b vP FP w hS h4 hP hI h
 · exact fails2_c p i s b vP FP w hS h4 hP hI h
 · exact fails3_c p i s b vP FP w hS h4 hP hI h
 · exact fails4_c p i s b vP FP w hS h4 hP hI h
 · exact fails5_c p i s b vP FP w hS h4 hP hI h
 · exact fails6_c p i s b vP FP w hS h4 hP hI h
 · exact fails7_c p i s b vP FP w hS h4 hP hI h
 · exact fails8_c p i s b vP FP w hS h4 hP hI h
 · exact fails9_c p i s b vP FP w hS h4 hP hI h
 · exact fails10_c p i s b vP FP w hS h4 hP hI h
 · exact fails11_c p i s b vP FP w hS h4 hP hI h
 · exact fails12_c p i s b vP FP w hS h4 hP hI h
set_option maxRecDepth 100000 in
set_option maxHeartbeats 4000000 in
theorem implAbsFails_c (p : PrgProg) (i : InsIns) (s : AbsState) (vP v : Value) (FP F : List Nat) (w : World) (hP : RL w p.Procs vP FP) (hS : RL w s.Vars v F) : Calls Tryz.prog 9 #[.agg #[vP], insV i, .agg #[.bool s.On, v, .int .i64 s.Cells.Lo, .int .i64 s.Cells.Hi]] w fun e w' => e = .returned (.bool (absFails p i s)) ∧ Chg [] w w' := by
 have hU : absFails p i s = ((prgOk p && insOk i p.Procs.length 10 && (absOk s && s.On)) && failsV p i s) := by
  simp only [absFails, failsV, l7Fit]
  congr 1
  rw [Bool.and_assoc]
 rw [hU]
 clear hU
 cases hA : (absOk s && s.On)
 case false =>
  simp only [Bool.and_false, Bool.false_and]
  cases hO : absOk s
  all_goals
   go_enter Tryz.func9, Tryz.ntmps9
   go_wp2_with fail
   refine (readState_c s v F _ (hS.chg0 Chg.q)).mono ?_
   rintro e w1 ⟨hc1, hR⟩
   obtain ⟨hcl1, hfz1⟩ := hc1.cells
   have hz1 := hc1.size
   simp only [World.size_alloc, World.size_setCell, World.size_drew] at hz1
   have ha1 : w.heap.size < w1.heap.size := by omega
   have hb1 : w.heap.size + 1 < w1.heap.size := by omega
   rcases hR with ⟨h, -⟩ | ⟨-, rfl⟩
   · rw [hA] at h; cases h
   rw [hO]
   clear hP hS hA hO
   go_wp2
   refine bodyPost_ret (v := .bool (false)) (by simp [results, Tryz.results9, go_sem]) rfl ⟨rfl, Chg.q⟩
 have h4 : s.Vars.length = 4 := by
  simp only [Bool.and_eq_true] at hA
  exact absOk_len hA.1 hA.2
 simp only [Bool.and_true]
 cases hp : prgOk p
 case false =>
  simp only [Bool.false_and]
  go_enter Tryz.func9, Tryz.ntmps9
  go_wp2_with fail
  refine (readState_c s v F _ (hS.chg0 Chg.q)).mono ?_
  rintro e w1 ⟨hc1, hR⟩
  obtain ⟨hcl1, hfz1⟩ := hc1.cells
  have hz1 := hc1.size
  simp only [World.size_alloc, World.size_setCell, World.size_drew] at hz1
  have ha1 : w.heap.size < w1.heap.size := by omega
  have hb1 : w.heap.size + 1 < w1.heap.size := by omega
  rcases hR with ⟨-, bS, hbS, rfl, hSt⟩ | ⟨h, -⟩
  case inr => rw [hA] at h; cases h
  have hpk := fun (wx : World) (hx : Chg [] w wx) => implPrgOk_c p vP FP wx (hP.chg0 hx)
  rw [hp] at hpk
  clear hP hS hA hp hSt h4
  go_wp2_with fail
  refine (hpk _ Chg.q).mono ?_
  rintro e w2 ⟨rfl, hc2⟩
  clear hpk
  go_wp2
  refine bodyPost_ret (v := .bool (false)) (by simp [results, Tryz.results9, go_sem]) rfl ⟨rfl, Chg.q⟩
 cases hi : insOk i p.Procs.length 10
 case false =>
  simp only [Bool.and_false, Bool.false_and]
  go_enter Tryz.func9, Tryz.ntmps9
  go_wp2_with fail
  refine (readState_c s v F _ (hS.chg0 Chg.q)).mono ?_
  rintro e w1 ⟨hc1, hR⟩
  obtain ⟨hcl1, hfz1⟩ := hc1.cells
  have hz1 := hc1.size
  simp only [World.size_alloc, World.size_setCell, World.size_drew] at hz1
  have ha1 : w.heap.size < w1.heap.size := by omega
  have hb1 : w.heap.size + 1 < w1.heap.size := by omega
  rcases hR with ⟨-, bS, hbS, rfl, hSt⟩ | ⟨h, -⟩
  case inr => rw [hA] at h; cases h
  have hpk := fun (wx : World) (hx : Chg [] w wx) => implPrgOk_c p vP FP wx (hP.chg0 hx)
  have hik := fun (wx : World) => implInsOk_c i p.Procs.length 10 wx
  rw [hp] at hpk
  rw [hi] at hik
  obtain ⟨AP, cP, rfl, hlP, hmP⟩ := hP.form
  clear hP hS hA hp hSt h4 hi
  go_wp2_with fail
  refine (hpk _ Chg.q).mono ?_
  rintro e w2 ⟨rfl, hc2⟩
  obtain ⟨hcl2, hfz2⟩ := hc2.cells
  have hz2 := hc2.size
  have ha2 : w.heap.size < w2.heap.size := by omega
  have hb2 : w.heap.size + 1 < w2.heap.size := by omega
  clear hpk
  go_wp2_with fail
  refine (hik _).mono ?_
  rintro e w3 ⟨rfl, hc3⟩
  clear hik
  go_wp2
  refine bodyPost_ret (v := .bool (false)) (by simp [results, Tryz.results9, go_sem]) rfl ⟨rfl, Chg.q⟩
 simp only [Bool.and_self, Bool.true_and]
 go_enter Tryz.func9, Tryz.ntmps9
 go_wp2_with fail
 refine (readState_c s v F _ (hS.chg0 Chg.q)).mono ?_
 rintro e w1 ⟨hc1, hR⟩
 obtain ⟨hcl1, hfz1⟩ := hc1.cells
 have hz1 := hc1.size
 simp only [World.size_alloc, World.size_setCell, World.size_drew] at hz1
 have ha1 : w.heap.size < w1.heap.size := by omega
 have hb1 : w.heap.size + 1 < w1.heap.size := by omega
 rcases hR with ⟨-, bS, hbS, rfl, hSt⟩ | ⟨h, -⟩
 case inr => rw [hA] at h; cases h
 have hpk := fun (wx : World) (hx : Chg [] w wx) => implPrgOk_c p vP FP wx (hP.chg0 hx)
 have hik := fun (wx : World) => implInsOk_c i p.Procs.length 10 wx
 have hfk := fun (wx : World) (hx : Chg [] w wx) (hy : StateAt wx bS s) => fails_c p i s bS vP FP wx hy h4 (hP.chg0 hx) hi
 have hbS2 := World.block_lt_of_cell? _ _ hSt.clo
 rw [hp] at hpk
 rw [hi] at hik
 obtain ⟨AP, cP, rfl, hlP, hmP⟩ := hP.form
 have HS := Lib.hid hSt
 clear hP hS hA hp hSt h4 hi
 go_wp2_with fail
 refine (hpk _ Chg.q).mono ?_
 rintro e w2 ⟨rfl, hc2⟩
 obtain ⟨hcl2, hfz2⟩ := hc2.cells
 have hz2 := hc2.size
 have ha2 : w.heap.size < w2.heap.size := by omega
 have hb2 : w.heap.size + 1 < w2.heap.size := by omega
 clear hpk
 go_wp2_with fail
 refine (hik _).mono ?_
 rintro e w3 ⟨rfl, hc3⟩
 obtain ⟨hcl3, hfz3⟩ := hc3.cells
 have hz3 := hc3.size
 have ha3 : w.heap.size < w3.heap.size := by omega
 have hb3 : w.heap.size + 1 < w3.heap.size := by omega
 clear hik
 go_wp2_with fail
 refine (hfk _ Chg.q ⟨fun i hi => hc3.cell0 (hc2.cell0 (HS.out.lo i hi)), fun i hi => hc3.cell0 (hc2.cell0 (HS.out.hi i hi)), hc3.cell0 (hc2.cell0 HS.out.clo), hc3.cell0 (hc2.cell0 HS.out.chi)⟩).mono ?_
 rintro e w4 ⟨rfl, hc4⟩
 clear hfk
 go_wp2
 refine bodyPost_ret (v := .bool (failsV p i s)) (by simp [results, Tryz.results9, go_sem]) rfl ⟨rfl, Chg.q⟩
end Go.Proofs.YtjakhnhnjhafgaaGreat.Wq
namespace Go.Proofs.YtjakhnhnjhafgaaGreat.Wk
open Go Go.RowKit Go.Deep Ow
set_option maxRecDepth 100000
theorem iAbsFails_e {p0 : List PrcProc} {i0 i1 i2 i3 i4 i5 i6 i7 : Int} {s0 : Bool} {s1 : List ItvItv} {s2 s3 : Int} {r : Bool} (h : absFails ⟨p0⟩ ⟨i0, i1, i2, i3, i4, i5, i6, i7⟩ ⟨s0, s1, ⟨s2, s3⟩⟩ = r) :
 EC Tryz.prog 9 0 [.agg [.d (.sl 3 (p0.map dPrcProc))], .agg [CI i0, CI i1, CI i2, CI i3, CI i4, CI i5, CI i6, CI i7], .agg [CB s0, .d (.sl 2 (s1.map dItvItv)), CI s2, CI s3]] [] (CB r) [] 0 := by
 subst h
 refine EC.ofVal (FnIs.ok (fn := Tryz.f9) ⟨by kernel_rfl, by kernel_rfl, rfl⟩) (u := .bool (absFails ⟨p0⟩ ⟨i0, i1, i2, i3, i4, i5, i6, i7⟩ ⟨s0, s1, ⟨s2, s3⟩⟩)) rfl (fun ρ RO w vs hro hr => ?_)
 obtain ⟨a, b, c, rfl, ha, hb, hc⟩ := hr.vs3
 obtain ⟨vP, rfl, hP⟩ := ha.agg1
 obtain rfl := litR_ok (u := insV ⟨i0, i1, i2, i3, i4, i5, i6, i7⟩) rfl hb
 obtain ⟨x, v, y, z, rfl, hx, hv, hy, hz⟩ := hc.agg4
 obtain rfl := hx.lit
 obtain rfl := hy.lit
 obtain rfl := hz.lit
 obtain ⟨FP, -, rP⟩ := Oq.RL.ofD (xs := p0) hro hP.dd
 obtain ⟨F, -, rV⟩ := Oq.RL.ofD (xs := s1) hro hv.dd
 exact Wq.implAbsFails_c ⟨p0⟩ ⟨i0, i1, i2, i3, i4, i5, i6, i7⟩ ⟨s0, s1, ⟨s2, s3⟩⟩ vP v FP F w rP rV
end Go.Proofs.YtjakhnhnjhafgaaGreat.Wk
