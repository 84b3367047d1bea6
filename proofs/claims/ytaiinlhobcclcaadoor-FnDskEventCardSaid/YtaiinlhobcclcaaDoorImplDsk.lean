/- Contract: the program's DskEvent. -/
import Derived.Test.YtaiinlhobcclcaaDoorMadeW
import Derived.Deep.RegionLaw
import Derived.Deep.Cut
import Derived.Deep.CutRange
namespace Go.Proofs.YtaiinlhobcclcaaDoor.Wk
set_option linter.unusedVariables false
set_option linter.unusedSimpArgs false
open Go Go.RowKit Go.Deep Ow
open Rp (R sz)

/-- the fields that follow a word -/
def fOff (k : Nat) : Nat := if k = 10 then 7 else if k = 12 then 8 else if k = 13 then 9 else k
def fAd (n k : Nat) : Option Addr := if fieldsOf k = 0 then none else some ⟨n + fOff k, 0, none⟩
def fSl (n k : Nat) : Value := .slice (fAd n k) (fieldsOf k) (fieldsOf k)
theorem look_none (s : Bs) (n : Nat) (h : kindOf s = 0 ∨ s = nMade) : look s (formEnts n) = none := by
  have hx : ∀ x ∈ [nGive, nWork, nHear, nLose, nTwice, nBend, nTick, nFall, nTorn, nRise, nDown, nUp], x ≠ s := by
    intro x hx e
    subst e
    have : ∀ x ∈ [nGive, nWork, nHear, nLose, nTwice, nBend, nTick, nFall, nTorn, nRise, nDown, nUp], ¬ (kindOf x = 0 ∨ x = nMade) := by decide
    exact this x hx h
  simp only [List.mem_cons, List.not_mem_nil, or_false, forall_eq_or_imp, forall_eq] at hx
  obtain ⟨a1, a2, a3, a4, a5, a6, a7, a8, a9, a10, a11, a12⟩ := hx
  simp only [look, formEnts, a1, a2, a3, a4, a5, a6, a7, a8, a9, a10, a11, a12, if_false]
theorem look_some (s : Bs) (n : Nat) (h : kindOf s ≠ 0) (h7 : s ≠ nMade) : look s (formEnts n) = some (.agg #[.int .i64 (kindOf s), fSl n (kindOf s)]) := by
  have hk := kindOf_name s h
  have hk13 := kindOf_lt s
  have hk7 : kindOf s ≠ 7 := fun e => h7 ((made_kind s).1 e)
  generalize kindOf s = k at *
  have hs : s = evNames.getD k [] := by rw [List.getD_eq_getElem?_getD, hk]; rfl
  subst hs
  match k, hk13, h, hk7 with
  | 0, _, h, _ => exact absurd rfl h
  | 1, _, _, _ => rfl
  | 2, _, _, _ => rfl
  | 3, _, _, _ => rfl
  | 4, _, _, _ => rfl
  | 5, _, _, _ => rfl
  | 6, _, _, _ => rfl
  | 7, _, _, h => exact absurd rfl h
  | 8, _, _, _ => rfl
  | 9, _, _, _ => rfl
  | 10, _, _, _ => rfl
  | 11, _, _, _ => rfl
  | 12, _, _, _ => rfl
  | 13, _, _, _ => rfl
  | k + 14, h, _, _ => omega

theorem dskI_len {l wd : Bs} {rest : List Bs} {N K f : Nat} (hw : words l = wd :: rest) (hm : ¬ wd = nMade) (hn : (words l).length = N) (hk : kindOf wd = K) (hf : fieldsOf K = f) (h : ¬ N = 1 + f) : dskI l = none := by
  unfold dskI
  rw [hw] at hn
  simp only [hw, List.headD_cons, hm, if_false, hk, hf, hn]
  rw [if_pos (Or.inr (Or.inr h))]
theorem dskI_nats {l wd : Bs} {rest : List Bs} {N K f : Nat} (hw : words l = wd :: rest) (hm : ¬ wd = nMade) (hn : (words l).length = N) (hk : kindOf wd = K) (hf : fieldsOf K = f) (h : N = 1 + f) (hk0 : ¬ kindOf wd = 0) (h60 : ¬ 60 < l.length) :
    dskI l = (nats rest).map fun ns => ⟨K, ns.getD 0 0, ns.getD 1 0, ns.getD 2 0, []⟩ := by
  unfold dskI
  rw [hw] at hn
  rw [hk] at hk0
  simp only [hw, List.headD_cons, hm, if_false, hk, hf, hn, List.tail_cons]
  rw [if_neg (by simp only [hk0, h60, h, ne_eq, not_true_eq_false, or_self, not_false_eq_true])]
  cases nats rest <;> rfl
theorem fields_0 {ns : List Int} {j : Nat} {a p v : Int} (h1 : ns.length = j) (hj : j = 0) (h2 : a = ns.getD 0 0) (h3 : p = ns.getD 1 0) (h4 : v = ns.getD 2 0) (n : Int) : n = (ns ++ [n]).getD 0 0 ∧ p = (ns ++ [n]).getD 1 0 ∧ v = (ns ++ [n]).getD 2 0 := by
  rw [hj] at h1
  subst h2 h3 h4
  match ns, h1 with
  | [], _ => exact ⟨rfl, rfl, rfl⟩
theorem fields_1 {ns : List Int} {j : Nat} {a p v : Int} (h1 : ns.length = j) (hj : j = 1) (h2 : a = ns.getD 0 0) (h3 : p = ns.getD 1 0) (h4 : v = ns.getD 2 0) (n : Int) : a = (ns ++ [n]).getD 0 0 ∧ n = (ns ++ [n]).getD 1 0 ∧ v = (ns ++ [n]).getD 2 0 := by
  rw [hj] at h1
  subst h2 h3 h4
  match ns, h1 with
  | [x0], _ => exact ⟨rfl, rfl, rfl⟩
theorem fields_2 {ns : List Int} {j : Nat} {a p v : Int} (h1 : ns.length = j) (hj : j = 2) (h2 : a = ns.getD 0 0) (h3 : p = ns.getD 1 0) (h4 : v = ns.getD 2 0) (n : Int) : a = (ns ++ [n]).getD 0 0 ∧ p = (ns ++ [n]).getD 1 0 ∧ n = (ns ++ [n]).getD 2 0 := by
  rw [hj] at h1
  subst h2 h3 h4
  match ns, h1 with
  | [x0, x1], _ => exact ⟨rfl, rfl, rfl⟩
theorem atField_c (b : Nat) (w : World) : Calls Tryd.prog 40 #[.pointer (some ⟨b, 0, none⟩)] w fun e w' => e = .returned (.pointer (some ⟨b, 1, none⟩)) ∧ w' = w := by
  go_enter Tryd.func40, Tryd.ntmps40
  go_wp2
  go_ret
  exact ⟨rfl, rfl⟩
theorem posField_c (b : Nat) (w : World) : Calls Tryd.prog 41 #[.pointer (some ⟨b, 0, none⟩)] w fun e w' => e = .returned (.pointer (some ⟨b, 2, none⟩)) ∧ w' = w := by
  go_enter Tryd.func41, Tryd.ntmps41
  go_wp2
  go_ret
  exact ⟨rfl, rfl⟩
theorem vField_c (b : Nat) (w : World) : Calls Tryd.prog 42 #[.pointer (some ⟨b, 0, none⟩)] w fun e w' => e = .returned (.pointer (some ⟨b, 3, none⟩)) ∧ w' = w := by
  go_enter Tryd.func42, Tryd.ntmps42
  go_wp2
  go_ret
  exact ⟨rfl, rfl⟩
theorem zeroForm (w : World) : (zeroValue 46).run Tryd.prog w = .ok (.agg #[.int .i64 0, .slice none 0 0]) w := by kernel_rfl
/-- what a word is looked up as -/
theorem run_look (W : World) (n clock : Nat) (es : List (Bs × Value)) (s : Bs) (hb : W.heap[n]? = some (.map (entL 0 es).toArray clock)) :
    (Instr.lookup 48 (.map (some n)) (str s) true).run Tryd.prog W = .ok (.tuple #[(look s es).getD (.agg #[.int .i64 0, .slice none 0 0]), .bool (look s es).isSome]) W := by
  have hm := Tryd.underlying48
  have hk := Tryd.underlying9
  have hc : ∀ b, (Instr.checkKey b 10000 9 (str s)).run Tryd.prog W = .ok () W := fun b => MapKept.run_checkKey (k := str s) hk (by simp [MapKept.IsKey]) b 9999
  obtain ⟨j, hj⟩ := findNow_ent s es 0 0
  have hf : (Instr.findKey 9 (str s) (entL 0 es)).run Tryd.prog W = _ := MapKept.run_findKey hk hj
  rcases hl : look s es with _ | v
  · rw [hl] at hf
    simp [Instr.lookup, run_underlying hm, MapKept.run_getObj_map hb, hc, hf, zeroForm, Result.andThen]
  · rw [hl] at hf
    simp [Instr.lookup, run_underlying hm, MapKept.run_getObj_map hb, hc, hf, Result.andThen]

theorem FormAt.past {w W : World} {es : List (Bs × Value)} {rows : List (List Value)} (h : FormAt w W es rows) (o : Obj) : (W.alloc o).heap[w.heap.size]? = W.heap[w.heap.size]? :=
  Below.heap_alloc _ _ _ (by have := h.size; omega)
/-- where a form's fields lie -/
def FieldsOk (n : Nat) (W : World) (A : Option Addr) (f : Nat) : Prop :=
  (f = 0 ∧ A = none) ∨ ∃ c, A = some ⟨c, 0, none⟩ ∧ n < c ∧ c < W.heap.size ∧ (0 < f → W.cell? ⟨c, 0, none⟩ = some fA) ∧ (1 < f → W.cell? ⟨c, 1, none⟩ = some fP) ∧ (2 < f → W.cell? ⟨c, 2, none⟩ = some fV)
theorem FieldsOk.chg {n b m : Nat} {W W' : World} {A : Option Addr} {f : Nat} (h : FieldsOk n W A f) (hc : Chg [b] W W') (hb : b ≤ n) (hm : m ≤ n) : FieldsOk m W' A f := by
  rcases h with h | ⟨c, h1, h2, h3, h4, h5, h6⟩
  · exact Or.inl h
  · have hx : ∀ i, W'.cell? ⟨c, i, none⟩ = W.cell? ⟨c, i, none⟩ := fun i => hc.cell (p := ⟨c, i, none⟩) h3 (by simp; omega)
    exact Or.inr ⟨c, h1, by omega, Nat.lt_of_lt_of_le h3 hc.size, fun h => (hx 0).trans (h4 h), fun h => (hx 1).trans (h5 h), fun h => (hx 2).trans (h6 h)⟩
/-- .. in whatever world that map lies -/
theorem look_at_none {w W : World} (h : FormAt w W (formEnts w.heap.size) formRows) (s : Bs) (hs : kindOf s = 0 ∨ s = nMade) (W' : World) (hW : W'.heap[w.heap.size]? = W.heap[w.heap.size]?) :
    (Instr.lookup 48 (.map (some w.heap.size)) (str s) true).run Tryd.prog W' = .ok (.tuple #[.agg #[.int .i64 0, .slice none 0 0], .bool false]) W' := by
  have := run_look W' _ _ _ s (hW.trans h.map)
  rw [look_none s _ hs] at this
  exact this
theorem look_at_some {w W : World} (h : FormAt w W (formEnts w.heap.size) formRows) (s : Bs) (hs : kindOf s ≠ 0) (h7 : s ≠ nMade) : ∃ A, (∀ W', W'.heap[w.heap.size]? = W.heap[w.heap.size]? →
    (Instr.lookup 48 (.map (some w.heap.size)) (str s) true).run Tryd.prog W' = .ok (.tuple #[.agg #[.int .i64 (kindOf s), .slice A (fieldsOf (kindOf s)) (fieldsOf (kindOf s))], .bool true]) W') ∧
    Hid (FieldsOk w.heap.size W A (fieldsOf (kindOf s))) := by
  refine ⟨fAd w.heap.size (kindOf s), fun W' hW => ?_, Lib.hid ?_⟩
  · have := run_look W' _ _ _ s (hW.trans h.map)
    rw [look_some s _ hs h7] at this
    exact this
  · have hk13 := kindOf_lt s
    have hk7 : kindOf s ≠ 7 := fun e => h7 ((made_kind s).1 e)
    generalize kindOf s = k at *
    have hz := h.size
    have hrl : formRows.length = 9 := rfl
    rw [hrl] at hz
    have hc := h.cell
    match k, hk13, hs, hk7 with
    | 0, _, h, _ => exact absurd rfl h
    | 1, _, _, _ => exact Or.inr ⟨_, rfl, (by have e : fOff 1 = 1 := rfl; omega), (by have e : fOff 1 = 1 := rfl; omega), fun _ => hc 0 _ rfl 0, fun h => absurd h (by decide), fun h => absurd h (by decide)⟩
    | 2, _, _, _ => exact Or.inr ⟨_, rfl, (by have e : fOff 2 = 2 := rfl; omega), (by have e : fOff 2 = 2 := rfl; omega), fun _ => hc 1 _ rfl 0, fun h => absurd h (by decide), fun h => absurd h (by decide)⟩
    | 3, _, _, _ => exact Or.inr ⟨_, rfl, (by have e : fOff 3 = 3 := rfl; omega), (by have e : fOff 3 = 3 := rfl; omega), fun _ => hc 2 _ rfl 0, fun h => absurd h (by decide), fun h => absurd h (by decide)⟩
    | 4, _, _, _ => exact Or.inr ⟨_, rfl, (by have e : fOff 4 = 4 := rfl; omega), (by have e : fOff 4 = 4 := rfl; omega), fun _ => hc 3 _ rfl 0, fun h => absurd h (by decide), fun h => absurd h (by decide)⟩
    | 5, _, _, _ => exact Or.inr ⟨_, rfl, (by have e : fOff 5 = 5 := rfl; omega), (by have e : fOff 5 = 5 := rfl; omega), fun _ => hc 4 _ rfl 0, fun h => absurd h (by decide), fun h => absurd h (by decide)⟩
    | 6, _, _, _ => exact Or.inr ⟨_, rfl, (by have e : fOff 6 = 6 := rfl; omega), (by have e : fOff 6 = 6 := rfl; omega), fun _ => hc 5 _ rfl 0, fun _ => hc 5 _ rfl 1, fun _ => hc 5 _ rfl 2⟩
    | 7, _, _, h => exact absurd rfl h
    | 8, _, _, _ => exact Or.inl ⟨rfl, rfl⟩
    | 9, _, _, _ => exact Or.inl ⟨rfl, rfl⟩
    | 10, _, _, _ => exact Or.inr ⟨_, rfl, (by have e : fOff 10 = 7 := rfl; omega), (by have e : fOff 10 = 7 := rfl; omega), fun _ => hc 6 _ rfl 0, fun _ => hc 6 _ rfl 1, fun h => absurd h (by decide)⟩
    | 11, _, _, _ => exact Or.inl ⟨rfl, rfl⟩
    | 12, _, _, _ => exact Or.inr ⟨_, rfl, (by have e : fOff 12 = 8 := rfl; omega), (by have e : fOff 12 = 8 := rfl; omega), fun _ => hc 7 _ rfl 0, fun h => absurd h (by decide), fun h => absurd h (by decide)⟩
    | 13, _, _, _ => exact Or.inr ⟨_, rfl, (by have e : fOff 13 = 9 := rfl; omega), (by have e : fOff 13 = 9 := rfl; omega), fun _ => hc 8 _ rfl 0, fun h => absurd h (by decide), fun h => absurd h (by decide)⟩
    | k + 14, h, _, _ => omega

set_option maxRecDepth 100000 in
set_option maxHeartbeats 4000000 in
theorem implDsk_c (l : Bs) (hl : (l.length : Int) ≤ 1100000) (w : World) (hL : Lay w) : Calls Tryd.prog 6 #[str l] w (RetEv (dskI l) w) := by
  have HL := Lib.hid hL
  have HWL : Hid (∀ x ∈ words l, (x.length : Int) ≤ 1100000) := Lib.hid (fun x hx => by have := words_len l x hx; omega)
  clear hL
  go_enter Tryd.func6, Tryd.ntmps6
  go_wp2_with fail
  refine (splitLine_c l hl _).mono ?_
  rintro e w1 ⟨v, G, rfl, hc1, hr1, ho1, hg1⟩
  obtain ⟨hcl1, hfz1⟩ := hc1.cells
  have hza1 : w.heap.size < w1.heap.size := Nat.lt_of_lt_of_le (by simp) hc1.size
  obtain ⟨wd, rest, hw⟩ : ∃ wd rest, words l = wd :: rest := by
    rcases h : words l with _ | ⟨a, b⟩
    · exact absurd h (wordsFrom_ne [] l)
    · exact ⟨a, b, rfl⟩
  obtain ⟨bk, off, cap, e1, m1, hb, -⟩ := word_cell hr1 (i := 0) (by rw [hw]; simp)
  obtain ⟨N, hN⟩ : ∃ N, (words l).length = N := ⟨_, rfl⟩
  have hN1 : 0 < N := by rw [← hN, hw]; simp
  have hNl : (N : Int) ≤ 1100001 := by
    have := words_count l
    omega
  rw [hN] at e1
  have HN := Lib.hid hN
  subst e1
  have hwd : (words l).getD 0 [] = wd := by rw [hw]; rfl
  rw [hwd, Nat.add_zero] at m1
  have HW := Lib.hid hw
  clear hwd hw hN
  by_cases hm : wd = nMade
  · have hmb : (wd == [109, 97, 100, 101]) = true := by rw [hm]; rfl
    have E : Hid (dskI l = madeI (words l)) := Lib.hid (by unfold dskI; simp only [HW.out, List.headD_cons, hm, if_true]; rfl)
    have HR1 := Lib.hid hr1
    have HLY : Hid (Lay w1) := Lib.hid (HL.out.chg (by repeat (first | with_reducible exact Chg.refl _ _ | with_reducible refine Chg.trans0 ?_ hc1 | with_reducible refine Chg.alloc ?_ _)))
    clear hm hr1
    go_wp2_with fail
    refine (madeEvent_c (words l) _ G w1 HR1.out HWL.out HLY.out).mono ?_
    rintro e w2 ⟨vb, G2, rfl, hc2, hr2, ho2, hg2⟩
    rw [← E.out]
    rw [← E.out] at hr2
    obtain ⟨hcl2, hfz2⟩ := hc2.cells
    have hza2 : w.heap.size < w2.heap.size := Nat.lt_of_lt_of_le hza1 hc2.size
    obtain ⟨Ab, cb, rfl, -, -⟩ := hr2.form
    generalize hx : dskI l = o at *
    generalize hy : o.getD ev0 = x at *
    obtain ⟨xk, xa, xp, xv, xb⟩ := x
    have HX := Lib.hid hx
    have HY := Lib.hid hy
    clear hx hy
    go_wp2
    refine bodyPost_ret (v := .tuple #[evV ⟨xk, xa, xp, xv, xb⟩ (.slice Ab xb.length cb), .bool o.isSome]) (by simp [results, Tryd.results6, go_sem, hcl1, hcl2, hfz1, hfz2, hza1, hza2]) rfl ?_
    have hgw : ∀ g ∈ G2, w.heap.size < g := fun g hg => Nat.lt_of_lt_of_le hza1 (hg2 g hg)
    unfold RetEv
    rw [HY.out]
    refine ⟨_, G2, rfl, by repeat (first | with_reducible exact Chg.refl _ _ | with_reducible assumption | with_reducible refine Chg.setCell ?_ (Or.inr (by first | (simp; done) | (simp; omega))) _ | with_reducible refine Chg.trans0 ?_ hc2 | with_reducible refine Chg.trans0 ?_ hc1 | with_reducible refine Chg.alloc ?_ _), ?_, ?_, fun g hg => Nat.le_of_lt (hgw g hg)⟩
    · exact RL.chg (G := [w.heap.size]) hr2 (by repeat (first | with_reducible exact Chg.refl _ _ | with_reducible refine Chg.setCell ?_ (Or.inl (by first | (simp; done) | (simp; omega))) _)) (fun g h1 h2 => by have := hgw g h1; simp at h2; omega)
    · exact Own.chg (G := [w.heap.size]) ho2 (by repeat (first | with_reducible exact Chg.refl _ _ | with_reducible refine Chg.setCell ?_ (Or.inl (by first | (simp; done) | (simp; omega))) _)) (fun g h1 h2 => by have := hgw g h1; simp at h2; omega)
  · have hmb : (wd == [109, 97, 100, 101]) = false := beq_eq_false_iff_ne.2 hm
    have HM := Lib.hid hm
    have HR1 := Lib.hid hr1
    clear hm hr1
    by_cases hk0 : kindOf wd = 0
    · have E : Hid (dskI l = none) := Lib.hid (by unfold dskI; simp only [HW.out, List.headD_cons, hk0, true_or, if_true, HM.out, if_false])
      have HK := Lib.hid hk0
      clear hk0
      go_upto_region 4 with fail
      go_cut [5, 6] from 22 to 29 (fun s5 s6 wx => s6 = .bool false ∧ Chg [] w1 wx)
      case first =>
        go_region_law (go_simp; go_at_call 22; go_loud (refine (lineForms_c _).mono ?_; rintro e w2 ⟨rfl, hF⟩; have m2 := hF.chg.cell0 (v := str wd) (p := ⟨bk, off, none⟩) (by simp [go_sem, hb, m1]); have hb2 := World.block_lt_of_cell? _ _ m2; obtain ⟨hcl2, hfz2⟩ := hF.chg.cells; have hC2 := Lib.hid hF.chg; have hPast := hF.past; have hLk := look_at_none hF wd (Or.inl HK.out); (try simp only [World.size_drew, World.size_alloc] at hLk hPast); clear hF))
        all_goals
          go_wp2_with fail
          go_meet
          exact ⟨rfl, by repeat (first | with_reducible exact Chg.refl _ _ | with_reducible assumption | with_reducible refine Chg.setCell ?_ (Or.inr (by first | (simp; done) | (simp; omega))) _ | with_reducible refine Chg.trans0 ?_ hC2.out | with_reducible refine Chg.alloc ?_ _ | with_reducible refine Chg.drewN ?_ _ | with_reducible refine Chg.drew ?_)⟩
      case rest =>
        obtain ⟨rfl, hcx⟩ := hcut
        obtain ⟨hclx, hfzx⟩ := hcx.cells
        have hzax : w.heap.size < wc.heap.size := Nat.lt_of_lt_of_le hza1 hcx.size
        go_wp2
        refine bodyPost_ret (v := .tuple #[evV ev0 (.slice none 0 0), .bool false]) (by simp [results, Tryd.results6, go_sem, ev0, hclx, hcl1, hza1, hzax]) rfl ?_
        rw [E.out]
        exact RetEv.none_ (by repeat (first | with_reducible exact Chg.refl _ _ | with_reducible assumption | with_reducible refine Chg.setCell ?_ (Or.inr (by first | (simp; done) | (simp; omega))) _ | with_reducible refine Chg.trans0 ?_ hcx | with_reducible refine Chg.trans0 ?_ hc1 | with_reducible refine Chg.alloc ?_ _ | with_reducible refine Chg.drewN ?_ _ | with_reducible refine Chg.drew ?_))
    · obtain ⟨K, hK⟩ : ∃ K, kindOf wd = K := ⟨_, rfl⟩
      obtain ⟨f, hf⟩ : ∃ f, fieldsOf K = f := ⟨_, rfl⟩
      have hf3 : f ≤ 3 := by rw [← hf]; exact fieldsOf_le K
      have HK0 := Lib.hid hk0
      have HK := Lib.hid hK
      have HF := Lib.hid hf
      have hK13 : K ≤ 13 := by rw [← hK]; exact kindOf_lt wd
      clear hk0 hK hf
      go_upto_region 4 with fail
      go_cut [5, 6] from 22 to 29 (fun s5 s6 wx => ∃ bx A, s5 = .pointer (some ⟨bx, 0, none⟩) ∧ s6 = .bool true ∧ Chg [] w1 wx ∧ wx.cell? ⟨bx, 0, none⟩ = some (.int .i64 K) ∧ wx.cell? ⟨bx, 1, none⟩ = some (.slice A f f) ∧ Hid (FieldsOk w1.heap.size wx A f))
      case first =>
        go_region_law (go_simp; go_at_call 22; go_loud (refine (lineForms_c _).mono ?_; rintro e w2 ⟨rfl, hF⟩; have m2 := hF.chg.cell0 (v := str wd) (p := ⟨bk, off, none⟩) (by simp [go_sem, hb, m1]); have hb2 := World.block_lt_of_cell? _ _ m2; obtain ⟨hcl2, hfz2⟩ := hF.chg.cells; have hC2 := Lib.hid hF.chg; have hPast := hF.past; obtain ⟨A, hLk, hFo⟩ := look_at_some hF wd HK0.out HM.out; rw [HK.out, HF.out] at hFo; rw [HK.out, HF.out] at hLk; (try simp only [World.size_drew, World.size_alloc] at hLk hPast); (try simp only [World.size_drew, World.size_alloc] at hFo); clear hF))
        all_goals
          go_wp2_with fail
          go_meet
          refine ⟨_, A, rfl, rfl, by repeat (first | with_reducible exact Chg.refl _ _ | with_reducible assumption | with_reducible refine Chg.setCell ?_ (Or.inr (by first | (simp; done) | (simp; omega))) _ | with_reducible refine Chg.trans0 ?_ hC2.out | with_reducible refine Chg.alloc ?_ _ | with_reducible refine Chg.drewN ?_ _ | with_reducible refine Chg.drew ?_), ?_, ?_, Lib.hid (hFo.out.chg (b := w1.heap.size) (by repeat (first | with_reducible exact Chg.refl _ _ | with_reducible refine Chg.setCell ?_ (Or.inl (by first | (simp; done) | (simp; omega))) _ | with_reducible refine Chg.alloc ?_ _ | with_reducible refine Chg.drewN ?_ _ | with_reducible refine Chg.drew ?_)) (by omega) (by omega))⟩
          · first | (simp; done) | (simp [go_sem, hcl2]; done)
          · first | (simp; done) | (simp [go_sem, hcl2]; done)
      case rest =>
        obtain ⟨bx, A, rfl, rfl, hcx, x0, x1, hFo⟩ := hcut
        obtain ⟨hclx, hfzx⟩ := hcx.cells
        have hzax : w.heap.size < wc.heap.size := Nat.lt_of_lt_of_le hza1 hcx.size
        have hbx : bx < wc.heap.size := World.block_lt_of_cell? _ _ x0
        by_cases h60 : (60 : Int) < ((l.length : Nat) : Int)
        · have E : Hid (dskI l = none) := Lib.hid (by unfold dskI; simp only [HW.out, List.headD_cons, HM.out, if_false]; rw [if_pos (Or.inr (Or.inl (by omega)))])
          go_wp2
          refine bodyPost_ret (v := .tuple #[evV ev0 (.slice none 0 0), .bool false]) (by simp [results, Tryd.results6, go_sem, ev0, hclx, hcl1, hza1, hzax]) rfl ?_
          rw [E.out]
          exact RetEv.none_ (by repeat (first | with_reducible exact Chg.refl _ _ | with_reducible assumption | with_reducible refine Chg.setCell ?_ (Or.inr (by first | (simp; done) | (simp; omega))) _ | with_reducible refine Chg.trans0 ?_ hcx | with_reducible refine Chg.trans0 ?_ hc1 | with_reducible refine Chg.alloc ?_ _ | with_reducible refine Chg.drewN ?_ _ | with_reducible refine Chg.drew ?_))
        by_cases hNf : N = 1 + f
        · subst hNf
          have E := Lib.hid (dskI_nats HW.out HM.out HN.out HK.out HF.out rfl HK0.out (by omega))
          have hnb : (((1 + f : Nat) : Int) != 1 + (f : Int)) = false := by simp
          have hfi : (0 : Int) ≤ (f : Int) ∧ (f : Int) ≤ 3 := by omega
          have HRL : Hid (rest.length = f) := Lib.hid (by have := HN.out; rw [HW.out] at this; simp at this; omega)
          go_wp2
          go_loopw [53] (fun i wr => ∃ (j : Nat) (ns : List Int) (a p v : Int), j ≤ f ∧ i = .int .i64 j ∧ Hid (nats (rest.take j) = some ns ∧ ns.length = j ∧ a = ns.getD 0 0 ∧ p = ns.getD 1 0 ∧ v = ns.getD 2 0) ∧ Chg [] wc wr ∧ wr.cell? ⟨wc.heap.size, 0, none⟩ = some (.int .i64 K) ∧ wr.cell? ⟨wc.heap.size, 1, none⟩ = some (.int .i64 a) ∧ wr.cell? ⟨wc.heap.size, 2, none⟩ = some (.int .i64 p) ∧ wr.cell? ⟨wc.heap.size, 3, none⟩ = some (.int .i64 v) ∧ wr.cell? ⟨wc.heap.size, 4, none⟩ = some (.slice none 0 0) ∧ (∀ o, wr.frozen? ⟨wc.heap.size, o, none⟩ = false) ∧ wc.heap.size < wr.heap.size) (fun i _ => f - (intOf i).toNat)
          case atStart => exact ⟨0, [], 0, 0, 0, Nat.zero_le _, rfl, Lib.hid ⟨rfl, rfl, rfl, rfl, rfl⟩, (Chg.refl [] wc).alloc _, by simp, by simp, by simp, by simp, by simp, by simp, by simp⟩
          case round =>
            obtain ⟨j, ns, a, p, v, hjf, rfl, HNS, hcr, e0, e1, e2, e3, e4, hfr, hlr⟩ := hrel
            by_cases hlt : j < f
            · obtain ⟨bk2, off2, cap2, q1, q2, q3, q4⟩ := word_cell HR1.out (i := j + 1) (by rw [HN.out]; omega)
              injection q1 with q1 ql q1c
              clear ql
              injection q1 with q1
              injection q1 with q1 q1o
              subst q1 q1o
              have hgd : (words l).getD (j + 1) [] = rest.getD j [] := by rw [HW.out]; rfl
              have hmem : rest.getD j [] ∈ words l := by
                rw [HW.out, List.getD_eq_getElem?_getD, List.getElem?_eq_getElem (by rw [HRL.out]; exact hlt)]
                exact List.mem_cons_of_mem _ (List.getElem_mem _)
              have hxl := HWL.out _ hmem
              rw [hgd] at q2
              have q5 := hcr.cell0 (hcx.cell0 q2)
              have NB := Lib.hid (fun h => nats_bad (ws := rest) (j := j) (by rw [HRL.out]; exact hlt) h)
              have NT := Lib.hid (fun n h => nats_take (ws := rest) (j := j) (ns := ns) (n := n) (by rw [HRL.out]; exact hlt) HNS.out.1 h)
              clear q2 q4 hgd hmem q1c
              generalize rest.getD j [] = x at *
              obtain ⟨c, rfl, hc0, hcW, hcf⟩ : ∃ c, A = some ⟨c, 0, none⟩ ∧ w1.heap.size < c ∧ c < wc.heap.size ∧ ((j = 0 → wc.cell? ⟨c, 0, none⟩ = some fA) ∧ (j = 1 → wc.cell? ⟨c, 1, none⟩ = some fP) ∧ (j = 2 → wc.cell? ⟨c, 2, none⟩ = some fV)) := by
                rcases hFo.out with ⟨h, _⟩ | ⟨c, h1, h2, h3, h4, h5, h6⟩
                · omega
                · exact ⟨c, h1, h2, h3, fun _ => h4 (by omega), fun _ => h5 (by omega), fun _ => h6 (by omega)⟩
              have HCF := Lib.hid hcf
              have hzr : w.heap.size < wr.heap.size := Nat.lt_of_lt_of_le hzax hcr.size
              have hbk9 : bk < wr.heap.size := World.block_lt_of_cell? _ _ q5
              have HLr : Hid (Lay wr) := Lib.hid (HL.out.chg (by repeat (first | with_reducible exact Chg.refl _ _ | with_reducible assumption | with_reducible refine Chg.setCell ?_ (Or.inr (by first | (simp; done) | (simp; omega))) _ | with_reducible refine Chg.trans0 ?_ hcr | with_reducible refine Chg.trans0 ?_ hcx | with_reducible refine Chg.trans0 ?_ hc1 | with_reducible refine Chg.alloc ?_ _ | with_reducible refine Chg.drewN ?_ _ | with_reducible refine Chg.drew ?_)))
              obtain ⟨hclr, hfzr⟩ := hcr.cells
              clear hcf
              rcases hn : nat? x with _ | n
              · have E2 : Hid (dskI l = none) := Lib.hid (by rw [E.out, NB.out hn]; rfl)
                have HX := Lib.hid hn
                clear hn NB NT
                obtain ⟨fj, hfj⟩ : ∃ u, wc.cell? ⟨c, j, none⟩ = some u := by
                  have : j = 0 ∨ j = 1 ∨ j = 2 := by omega
                  rcases this with rfl | rfl | rfl
                  · exact ⟨_, HCF.out.1 rfl⟩
                  · exact ⟨_, HCF.out.2.1 rfl⟩
                  · exact ⟨_, HCF.out.2.2 rfl⟩
                have hfj2 := hcr.cell0 hfj
                go_wp2_with fail
                refine (natural_c x hxl _ HLr.out).mono ?_
                rw [HX.out]
                rintro e w5 ⟨rfl, hc5⟩
                obtain ⟨hcl5, hfz5⟩ := hc5.cells
                have hz5 : w.heap.size < w5.heap.size := Nat.lt_of_lt_of_le hzr hc5.size
                go_wp2
                refine bodyPost_ret (v := .tuple #[evV ev0 (.slice none 0 0), .bool false]) (by simp [results, Tryd.results6, go_sem, ev0, hcl5, hclr, hclx, hcl1, hza1, hzax, hzr, hz5]) rfl ?_
                rw [E2.out]
                exact RetEv.none_ (by repeat (first | with_reducible exact Chg.refl _ _ | with_reducible assumption | with_reducible refine Chg.setCell ?_ (Or.inr (by first | (simp; done) | (simp; omega))) _ | with_reducible refine Chg.trans0 ?_ hc5 | with_reducible refine Chg.trans0 ?_ hcr | with_reducible refine Chg.trans0 ?_ hcx | with_reducible refine Chg.trans0 ?_ hc1 | with_reducible refine Chg.alloc ?_ _ | with_reducible refine Chg.drewN ?_ _ | with_reducible refine Chg.drew ?_))
              · have HX := Lib.hid hn
                have HT := Lib.hid (NT.out n hn)
                have HXN := Lib.hid (nat?_some.1 hn).1
                clear hn NB NT
                have hj3 : j = 0 ∨ j = 1 ∨ j = 2 := by omega
                rcases hj3 with hj | hj | hj
                · have hfj : wc.cell? ⟨c, j, none⟩ = some fA := by rw [hj]; exact HCF.out.1 hj
                  unfold fA at hfj
                  have hfj2 := hcr.cell0 hfj
                  have HJ := Lib.hid hj
                  clear hj
                  go_wp2_with (first | (go_at_call 23; refine (natural_c x hxl _ HLr.out).mono ?_; rw [HX.out, HXN.out]; rintro e w5 ⟨rfl, hc5⟩; have g0 := hc5.cell0 e0; have g1 := hc5.cell0 e1; have g2 := hc5.cell0 e2; have g3 := hc5.cell0 e3; have g4 := hc5.cell0 e4; obtain ⟨hcl5, hfz5⟩ := hc5.cells; have hl5 := Nat.lt_of_lt_of_le hlr hc5.size; have g5 : ∀ o, w5.frozen? ⟨wc.heap.size, o, none⟩ = false := fun o => (hfz5 _ _ hlr).trans (hfr o)) | (go_at_call 40; refine (atField_c _ _).mono ?_; rintro e w6 ⟨rfl, rfl⟩))
                  go_roundw
                  case rel =>
                    refine ⟨j + 1, ns ++ [n], n, p, v, by omega, by go_num, Lib.hid ⟨HT.out, by have := HNS.out.2.1; simp; omega, (fields_0 HNS.out.2.1 HJ.out HNS.out.2.2.1 HNS.out.2.2.2.1 HNS.out.2.2.2.2 n).1, (fields_0 HNS.out.2.1 HJ.out HNS.out.2.2.1 HNS.out.2.2.2.1 HNS.out.2.2.2.2 n).2.1, (fields_0 HNS.out.2.1 HJ.out HNS.out.2.2.1 HNS.out.2.2.2.1 HNS.out.2.2.2.2 n).2.2⟩, (hcr.trans0 hc5).setCell (Or.inr (by simp)) _, by simp [go_sem, g0, g1, g2, g3, g4], by simp [go_sem, g0, g1, g2, g3, g4], by simp [go_sem, g0, g1, g2, g3, g4], by simp [go_sem, g0, g1, g2, g3, g4], by simp [go_sem, g0, g1, g2, g3, g4], fun o => by simp [go_sem, g5], by simpa using hl5⟩
                  case measure => simp [intOf]; omega
                · have hfj : wc.cell? ⟨c, j, none⟩ = some fP := by rw [hj]; exact HCF.out.2.1 hj
                  unfold fP at hfj
                  have hfj2 := hcr.cell0 hfj
                  have HJ := Lib.hid hj
                  clear hj
                  go_wp2_with (first | (go_at_call 23; refine (natural_c x hxl _ HLr.out).mono ?_; rw [HX.out, HXN.out]; rintro e w5 ⟨rfl, hc5⟩; have g0 := hc5.cell0 e0; have g1 := hc5.cell0 e1; have g2 := hc5.cell0 e2; have g3 := hc5.cell0 e3; have g4 := hc5.cell0 e4; obtain ⟨hcl5, hfz5⟩ := hc5.cells; have hl5 := Nat.lt_of_lt_of_le hlr hc5.size; have g5 : ∀ o, w5.frozen? ⟨wc.heap.size, o, none⟩ = false := fun o => (hfz5 _ _ hlr).trans (hfr o)) | (go_at_call 41; refine (posField_c _ _).mono ?_; rintro e w6 ⟨rfl, rfl⟩))
                  go_roundw
                  case rel =>
                    refine ⟨j + 1, ns ++ [n], a, n, v, by omega, by go_num, Lib.hid ⟨HT.out, by have := HNS.out.2.1; simp; omega, (fields_1 HNS.out.2.1 HJ.out HNS.out.2.2.1 HNS.out.2.2.2.1 HNS.out.2.2.2.2 n).1, (fields_1 HNS.out.2.1 HJ.out HNS.out.2.2.1 HNS.out.2.2.2.1 HNS.out.2.2.2.2 n).2.1, (fields_1 HNS.out.2.1 HJ.out HNS.out.2.2.1 HNS.out.2.2.2.1 HNS.out.2.2.2.2 n).2.2⟩, (hcr.trans0 hc5).setCell (Or.inr (by simp)) _, by simp [go_sem, g0, g1, g2, g3, g4], by simp [go_sem, g0, g1, g2, g3, g4], by simp [go_sem, g0, g1, g2, g3, g4], by simp [go_sem, g0, g1, g2, g3, g4], by simp [go_sem, g0, g1, g2, g3, g4], fun o => by simp [go_sem, g5], by simpa using hl5⟩
                  case measure => simp [intOf]; omega
                · have hfj : wc.cell? ⟨c, j, none⟩ = some fV := by rw [hj]; exact HCF.out.2.2 hj
                  unfold fV at hfj
                  have hfj2 := hcr.cell0 hfj
                  have HJ := Lib.hid hj
                  clear hj
                  go_wp2_with (first | (go_at_call 23; refine (natural_c x hxl _ HLr.out).mono ?_; rw [HX.out, HXN.out]; rintro e w5 ⟨rfl, hc5⟩; have g0 := hc5.cell0 e0; have g1 := hc5.cell0 e1; have g2 := hc5.cell0 e2; have g3 := hc5.cell0 e3; have g4 := hc5.cell0 e4; obtain ⟨hcl5, hfz5⟩ := hc5.cells; have hl5 := Nat.lt_of_lt_of_le hlr hc5.size; have g5 : ∀ o, w5.frozen? ⟨wc.heap.size, o, none⟩ = false := fun o => (hfz5 _ _ hlr).trans (hfr o)) | (go_at_call 42; refine (vField_c _ _).mono ?_; rintro e w6 ⟨rfl, rfl⟩))
                  go_roundw
                  case rel =>
                    refine ⟨j + 1, ns ++ [n], a, p, n, by omega, by go_num, Lib.hid ⟨HT.out, by have := HNS.out.2.1; simp; omega, (fields_2 HNS.out.2.1 HJ.out HNS.out.2.2.1 HNS.out.2.2.2.1 HNS.out.2.2.2.2 n).1, (fields_2 HNS.out.2.1 HJ.out HNS.out.2.2.1 HNS.out.2.2.2.1 HNS.out.2.2.2.2 n).2.1, (fields_2 HNS.out.2.1 HJ.out HNS.out.2.2.1 HNS.out.2.2.2.1 HNS.out.2.2.2.2 n).2.2⟩, (hcr.trans0 hc5).setCell (Or.inr (by simp)) _, by simp [go_sem, g0, g1, g2, g3, g4], by simp [go_sem, g0, g1, g2, g3, g4], by simp [go_sem, g0, g1, g2, g3, g4], by simp [go_sem, g0, g1, g2, g3, g4], by simp [go_sem, g0, g1, g2, g3, g4], fun o => by simp [go_sem, g5], by simpa using hl5⟩
                  case measure => simp [intOf]; omega
            · have hje : j = f := by omega
              have e := HNS.out
              rw [hje, ← HRL.out, List.take_length] at e
              obtain ⟨h1, -, h2, h3, h4⟩ := e
              have E2 := E.out
              rw [h1] at E2
              have EE := Lib.hid E2
              have HA := Lib.hid (And.intro h2 (And.intro h3 h4))
              have hzr : w.heap.size < wr.heap.size := Nat.lt_of_lt_of_le hzax hcr.size
              obtain ⟨hclr, hfzr⟩ := hcr.cells
              have hjf2 : ¬ ((j : Int) < (f : Int)) := by omega
              clear E2 h1 h2 h3 h4 hje HNS E
              go_wp2
              refine bodyPost_ret (v := .tuple #[evV ⟨K, a, p, v, []⟩ (.slice none 0 0), .bool true]) (by simp [results, Tryd.results6, go_sem, hclr, hclx, hcl1, hza1, hzax, hzr]) rfl ?_
              rw [EE.out, HA.out.1, HA.out.2.1, HA.out.2.2]
              exact ⟨_, [], rfl, by repeat (first | with_reducible exact Chg.refl _ _ | with_reducible assumption | with_reducible refine Chg.setCell ?_ (Or.inr (by first | (simp; done) | (simp; omega))) _ | with_reducible refine Chg.trans0 ?_ hcr | with_reducible refine Chg.trans0 ?_ hcx | with_reducible refine Chg.trans0 ?_ hc1 | with_reducible refine Chg.alloc ?_ _ | with_reducible refine Chg.drewN ?_ _ | with_reducible refine Chg.drew ?_), RL.nil_, Own.nil_ _, by simp⟩
        · have E := Lib.hid (dskI_len HW.out HM.out HN.out HK.out HF.out hNf)
          have hnb : ((N : Int) != 1 + (f : Int)) = true := by simp; omega
          have hfi : (0 : Int) ≤ (f : Int) ∧ (f : Int) ≤ 3 := by omega
          clear hNf
          go_wp2
          refine bodyPost_ret (v := .tuple #[evV ev0 (.slice none 0 0), .bool false]) (by simp [results, Tryd.results6, go_sem, ev0, hclx, hcl1, hza1, hzax]) rfl ?_
          rw [E.out]
          exact RetEv.none_ (by repeat (first | with_reducible exact Chg.refl _ _ | with_reducible assumption | with_reducible refine Chg.setCell ?_ (Or.inr (by first | (simp; done) | (simp; omega))) _ | with_reducible refine Chg.trans0 ?_ hcx | with_reducible refine Chg.trans0 ?_ hc1 | with_reducible refine Chg.alloc ?_ _ | with_reducible refine Chg.drewN ?_ _ | with_reducible refine Chg.drew ?_))
end Go.Proofs.YtaiinlhobcclcaaDoor.Wk
