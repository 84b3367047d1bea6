/- Plain facts on runs: the nesting of calls, place by place. -/
import Derived.Test.YtjakhnhnjhafgaaGreatZMem
set_option linter.unusedVariables false
set_option linter.unusedSimpArgs false
namespace Ow
/-- a call and the one inside it fit -/
def linkOk (p : PrgProg) (f : RunFrame) (g : Option RunFrame) : Bool :=
  match g with
  | none => true
  | some g => (prgAt p f.Proc f.Pc).elim false fun i => i.Op == 10 && i.To == g.Proc
def placeOk (p : PrgProg) (fs : List RunFrame) (k : Nat) : Bool := fs[k]?.elim true fun f => frameOk p f && linkOk p f fs[k + 1]?
def nestTo (p : PrgProg) (fs : List RunFrame) (k : Nat) : Bool := (List.range k).all (placeOk p fs)
theorem nestTo_succ (p : PrgProg) (fs : List RunFrame) (k : Nat) : nestTo p fs (k + 1) = (nestTo p fs k && placeOk p fs k) := by
  unfold nestTo
  rw [List.range_succ, List.all_append]
  simp
theorem nestTo_cons (p : PrgProg) (f : RunFrame) (fs : List RunFrame) (k : Nat) : nestTo p (f :: fs) (k + 1) = (placeOk p (f :: fs) 0 && nestTo p fs k) := by
  unfold nestTo
  rw [List.range_succ_eq_map, List.all_cons, List.all_map]
  congr 1
theorem nestOk_eq (p : PrgProg) (fs : List RunFrame) : nestOk p fs = nestTo p fs fs.length := by
  induction fs with
  | nil => rfl
  | cons f r ih =>
    rw [List.length_cons, nestTo_cons]
    cases r with
    | nil => simp [nestOk, placeOk, linkOk, nestTo]
    | cons g r =>
      simp only [nestOk]
      rw [ih]
      simp [placeOk, linkOk]
theorem nestTo_false {p : PrgProg} {fs : List RunFrame} {k n : Nat} (h : placeOk p fs k = false) (hk : k < n) : nestTo p fs n = false := by
  unfold nestTo
  rw [List.all_eq_false]
  exact ⟨k, List.mem_range.2 hk, by simp [h]⟩
theorem placeOk_at {p : PrgProg} {fs : List RunFrame} {k : Nat} (h : k < fs.length) : placeOk p fs k = (frameOk p fs[k] && linkOk p fs[k] fs[k + 1]?) := by
  unfold placeOk
  rw [List.getElem?_eq_getElem h]
  rfl
theorem linkOk_last {p : PrgProg} {f : RunFrame} {fs : List RunFrame} {k : Nat} (h : ¬ k + 1 < fs.length) : linkOk p f fs[k + 1]? = true := by
  rw [List.getElem?_eq_none (by omega)]
  rfl
theorem linkOk_in {p : PrgProg} {f : RunFrame} {fs : List RunFrame} {k : Nat} {i : InsIns} (h : k + 1 < fs.length) (hi : prgAt p f.Proc f.Pc = some i) : linkOk p f fs[k + 1]? = (i.Op == 10 && i.To == fs[k + 1].Proc) := by
  rw [List.getElem?_eq_getElem h]
  unfold linkOk
  rw [hi]
  rfl
end Ow
namespace Ow

theorem set_last {l : List RunFrame} {m : Nat} (h : l.length = m + 1) (x : RunFrame) : l.set m x = setLast l x := by
  unfold setLast
  rw [List.dropLast_eq_take, h, Nat.add_sub_cancel]
  apply List.ext_getElem
  · simp; omega
  · intro i h1 h2
    rw [List.getElem_set]
    split
    · rename_i e
      subst e
      rw [List.getElem_append_right (by rw [List.length_take]; omega)]
      simp
    · rename_i e
      rw [List.length_set] at h1
      rw [List.getElem_append_left (by rw [List.length_take]; omega), List.getElem_take]
theorem getLast_last {l : List RunFrame} {m : Nat} (h : l.length = m + 1) : l.getLast? = some l[m] := by
  rw [List.getLast?_eq_getElem?, show l.length - 1 = m by omega]
  exact List.getElem?_eq_getElem _

theorem nest_iff (p : PrgProg) (fs : List RunFrame) : nestOk p fs = true ↔ ∀ k (h : k < fs.length), frameOk p fs[k] = true ∧ ∀ (h2 : k + 1 < fs.length), ∃ i, prgAt p fs[k].Proc fs[k].Pc = some i ∧ i.Op = 10 ∧ i.To = fs[k + 1].Proc := by
  rw [nestOk_eq]
  unfold nestTo
  rw [List.all_eq_true]
  constructor
  · intro h k hk
    have h1 := h k (List.mem_range.2 hk)
    rw [placeOk_at hk, Bool.and_eq_true] at h1
    refine ⟨h1.1, fun h2 => ?_⟩
    have h3 := h1.2
    rw [List.getElem?_eq_getElem h2] at h3
    unfold linkOk at h3
    simp only at h3
    generalize hx : prgAt p fs[k].Proc fs[k].Pc = x at h3
    cases x with
    | none => simp at h3
    | some i => simp at h3; exact ⟨i, rfl, h3.1, h3.2⟩
  · intro h k hk
    have hk := List.mem_range.1 hk
    rw [placeOk_at hk, Bool.and_eq_true]
    refine ⟨(h k hk).1, ?_⟩
    by_cases h2 : k + 1 < fs.length
    · obtain ⟨i, e1, e2, e3⟩ := (h k hk).2 h2
      rw [linkOk_in h2 e1]
      simp [e2, e3]
    · exact linkOk_last h2

theorem frame_facts {p : PrgProg} {f : RunFrame} (h : frameOk p f = true) : ∃ i, prgAt p f.Proc f.Pc = some i ∧ f.Vars.length = 4 ∧ f.Cells.length = 4 ∧ (∀ n ∈ f.Vars, numOk n = true) ∧ (∀ n ∈ f.Cells, numOk n = true) := by
  unfold frameOk numsOk at h
  simp only [Bool.and_eq_true, beq_iff_eq, List.all_eq_true] at h
  obtain ⟨⟨h1, h2, h3⟩, h4, h5⟩ := h
  obtain ⟨i, hi⟩ := Option.isSome_iff_exists.1 h1
  exact ⟨i, hi, h2, h4, h3, h5⟩
theorem frame_of {p : PrgProg} {f : RunFrame} (h0 : (prgAt p f.Proc f.Pc).isSome = true) (h1 : f.Vars.length = 4) (h2 : f.Cells.length = 4) (h3 : ∀ n ∈ f.Vars, numOk n = true) (h4 : ∀ n ∈ f.Cells, numOk n = true) : frameOk p f = true := by
  unfold frameOk numsOk
  simp only [Bool.and_eq_true, beq_iff_eq, List.all_eq_true]
  exact ⟨⟨h0, h1, h3⟩, h2, h4⟩

structure AtFacts (p : PrgProg) (proc pc : Int) (i : InsIns) (k j : Nat) : Prop where
  hk : k < p.Procs.length
  hj : j < p.Procs[k].Code.length
  eproc : proc = k
  epc : pc = j
  k4 : k < 4
  j10 : j < 10
  ei : p.Procs[k].Code[j] = i
  ok : insOk i p.Procs.length p.Procs[k].Code.length = true
  size : p.Procs[k].Code.length ≤ 10
  ends : p.Procs[k].Code.getLast?.elim false insEnds = true
theorem prg_facts {p : PrgProg} (hp : prgOk p = true) : 1 ≤ p.Procs.length ∧ p.Procs.length ≤ 4 ∧ ∀ k (h : k < p.Procs.length), procOk p.Procs[k] p.Procs.length = true := by
  unfold prgOk at hp
  simp only [Bool.and_eq_true, decide_eq_true_eq, List.all_eq_true] at hp
  exact ⟨hp.1.1, hp.1.2, fun k h => hp.2 _ (List.getElem_mem h)⟩
theorem proc_facts {c : PrcProc} {n : Int} (h : procOk c n = true) : itvOk ⟨c.Lo, c.Hi⟩ = true ∧ 1 ≤ c.Code.length ∧ c.Code.length ≤ 10 ∧ (∀ j (h : j < c.Code.length), insOk c.Code[j] n c.Code.length = true) ∧ c.Code.getLast?.elim false insEnds = true := by
  unfold procOk at h
  simp only [Bool.and_eq_true, decide_eq_true_eq, List.all_eq_true] at h
  exact ⟨h.1.1.1.1, h.1.1.1.2, h.1.1.2, fun j hj => h.1.2 _ (List.getElem_mem hj), h.2⟩
theorem prgAt_facts {p : PrgProg} {proc pc : Int} {i : InsIns} (hp : prgOk p = true) (h : prgAt p proc pc = some i) : ∃ k j, AtFacts p proc pc i k j := by
  unfold prgAt at h
  split at h
  · cases h
  · rename_i hneg
    obtain ⟨k, rfl⟩ := Int.eq_ofNat_of_zero_le (show 0 ≤ proc by omega)
    obtain ⟨j, rfl⟩ := Int.eq_ofNat_of_zero_le (show 0 ≤ pc by omega)
    simp only [Int.toNat_natCast] at h
    by_cases hk : k < p.Procs.length
    · rw [List.getElem?_eq_getElem hk] at h
      simp only [Option.bind_some] at h
      by_cases hj : j < p.Procs[k].Code.length
      · rw [List.getElem?_eq_getElem hj] at h
        obtain ⟨h1, h2, h3⟩ := prg_facts hp
        obtain ⟨g1, g2, g3, g4, g5⟩ := proc_facts (h3 k hk)
        have e := Option.some.inj h
        exact ⟨k, j, hk, hj, rfl, rfl, by omega, by omega, e, e ▸ g4 j hj, g3, g5⟩
      · rw [List.getElem?_eq_none (by omega)] at h; cases h
    · rw [List.getElem?_eq_none (by omega)] at h; cases h
theorem prgAt_some {p : PrgProg} {k j : Nat} (hk : k < p.Procs.length) (hj : j < p.Procs[k].Code.length) : prgAt p k j = some p.Procs[k].Code[j] := by
  unfold prgAt
  rw [if_neg (by omega)]
  simp [List.getElem?_eq_getElem hk, List.getElem?_eq_getElem hj]
/-- behind an instruction that ends nothing there is one more -/
theorem prgAt_next {p : PrgProg} {proc pc : Int} {i : InsIns} (hp : prgOk p = true) (h : prgAt p proc pc = some i) (he : insEnds i = false) : (prgAt p proc (pc + 1)).isSome = true := by
  obtain ⟨k, j, F⟩ := prgAt_facts hp h
  have hk := F.hk
  have hj2 : j + 1 < p.Procs[k].Code.length := by
    have h1 := F.hj
    rcases Nat.lt_or_ge (j + 1) p.Procs[k].Code.length with h2 | h2
    · exact h2
    · have h3 := F.ends
      rw [List.getLast?_eq_getElem?, show p.Procs[k].Code.length - 1 = j by omega, List.getElem?_eq_getElem h1] at h3
      simp only [Option.elim_some] at h3
      rw [F.ei, he] at h3
      cases h3
  rw [F.eproc, F.epc, show (j : Int) + 1 = ((j + 1 : Nat) : Int) by omega, prgAt_some F.hk hj2]
  rfl
theorem prgAt_to {p : PrgProg} {proc pc t : Int} {i : InsIns} (hp : prgOk p = true) (h : prgAt p proc pc = some i) (ht : ∀ n : Int, restOk i p.Procs.length n = true → below t n = true) : (prgAt p proc t).isSome = true := by
  obtain ⟨k, j, F⟩ := prgAt_facts hp h
  have hk := F.hk
  have h1 := F.ok
  unfold insOk at h1
  simp only [Bool.and_eq_true] at h1
  have h2 := ht _ h1.2
  unfold below at h2
  simp only [Bool.and_eq_true, decide_eq_true_eq] at h2
  obtain ⟨q, rfl⟩ := Int.eq_ofNat_of_zero_le h2.1
  rw [F.eproc, prgAt_some F.hk (show q < p.Procs[k].Code.length by omega)]
  rfl

structure InsFacts (i : InsIns) (procs size : Int) : Prop where
  op1 : 1 ≤ i.Op
  op12 : i.Op ≤ 12
  form : formOk i = true
  d0 : 0 ≤ i.D
  d4 : i.D < 4
  a0 : 0 ≤ i.A
  a4 : i.A < 4
  b0 : 0 ≤ i.B
  b4 : i.B < 4
  rest : restOk i procs size = true
theorem ins_facts {i : InsIns} {procs size : Int} (h : insOk i procs size = true) : InsFacts i procs size := by
  unfold insOk varOk at h
  simp only [Bool.and_eq_true, decide_eq_true_eq] at h
  obtain ⟨⟨⟨⟨⟨⟨h1, h2⟩, h3⟩, h4, h5⟩, h6, h7⟩, h8, h9⟩, h10⟩ := h
  exact ⟨h1, h2, h3, h4, h5, h6, h7, h8, h9, h10⟩

structure GoesFacts (p : PrgProg) (r : RunRun) : Prop where
  prg : prgOk p = true
  out : r.Out = 0
  proc : r.Proc = 0
  pc : r.Pc = 0
  n1 : 1 ≤ r.Frames.length
  n5 : r.Frames.length ≤ 5
  nest : nestOk p r.Frames = true
theorem goes_facts {p : PrgProg} {r : RunRun} (h : runOk p r = true) (hs : r.State = 1) : GoesFacts p r := by
  unfold runOk at h
  rw [hs] at h
  simp at h
  obtain ⟨⟨⟨⟨h1, h2⟩, h3⟩, h4, h5⟩, h6, h7⟩ := h
  exact ⟨h1, h3, h4, h5, h6.1, h6.2, h7⟩
theorem goes_eq {p : PrgProg} {r : RunRun} (h : GoesFacts p r) (hs : r.State = 1) : r = goes r.Frames := by
  obtain ⟨s, f, o, c, q⟩ := r
  obtain ⟨-, h1, h2, h3, -⟩ := h
  simp only at h1 h2 h3 hs
  subst h1 h2 h3 hs
  rfl
theorem runOk_of {p : PrgProg} {fs : List RunFrame} (h1 : prgOk p = true) (h2 : 1 ≤ fs.length) (h3 : fs.length ≤ 5) (h4 : nestOk p fs = true) : runOk p (goes fs) = true := by
  unfold runOk goes
  simp [h1, h4]
  exact ⟨by decide, h2, h3⟩
end Ow
namespace Ow

theorem getI_ok {l : List Int} (k : Int) (h : ∀ n ∈ l, numOk n = true) : numOk (getI l k) = true := by
  unfold getI
  rw [List.getD_eq_getElem?_getD]
  by_cases hk : k.toNat < l.length
  · rw [List.getElem?_eq_getElem hk]; exact h _ (List.getElem_mem hk)
  · rw [List.getElem?_eq_none (by omega)]; rfl
theorem setI_ok {l : List Int} (k : Int) {v : Int} (h : ∀ n ∈ l, numOk n = true) (hv : numOk v = true) : ∀ n ∈ setI l k v, numOk n = true := by
  intro n hn
  unfold setI at hn
  rcases List.mem_or_eq_of_mem_set hn with h1 | h1
  · exact h n h1
  · rw [h1]; exact hv
theorem setI_length (l : List Int) (k v : Int) : (setI l k v).length = l.length := by unfold setI; rw [List.length_set]
theorem numOk_wrap (n : Int) : numOk (numWrap n) = true := (numOk_iff _).2 (numWrap_ok n)
theorem numDo_ok {op a b : Int} (ha : numOk a = true) (hb : numOk b = true) (h1 : 1 ≤ op) (h4 : op ≤ 4) : numOk (numDo op a b).1 = true ∧ ((numDo op a b).2 = false → op = 4) := by
  unfold numDo
  rw [if_pos (by simp [ha, hb])]
  rcases (by omega : op = 1 ∨ op = 2 ∨ op = 3 ∨ op = 4) with rfl | rfl | rfl | rfl
  · exact ⟨numOk_wrap _, fun h => by cases h⟩
  · exact ⟨numOk_wrap _, fun h => by cases h⟩
  · exact ⟨numOk_wrap _, fun h => by cases h⟩
  · refine ⟨?_, fun _ => rfl⟩
    rw [if_neg (by decide), if_neg (by decide), if_neg (by decide), if_pos rfl]
    split
    · rfl
    · exact numOk_wrap _
theorem any_ok {lo hi : Int} (h : itvOk ⟨lo, hi⟩ = true) (n : Int) : numOk (lo + n % (hi - lo + 1)) = true := by
  unfold itvOk at h
  simp only [Bool.and_eq_true, decide_eq_true_eq, numOk_iff] at h
  have h1 := Int.emod_nonneg n (show hi - lo + 1 ≠ 0 by omega)
  have h2 := Int.emod_lt_of_pos n (show 0 < hi - lo + 1 by omega)
  rw [numOk_iff]
  omega

theorem nest_set {p : PrgProg} {fs : List RunFrame} {m : Nat} (hm : fs.length = m + 1) (h : nestOk p fs = true) {f' : RunFrame} (hp : f'.Proc = fs[m].Proc) (hf : frameOk p f' = true) : nestOk p (fs.set m f') = true := by
  rw [nest_iff] at h ⊢
  intro k hk
  rw [List.length_set] at hk
  by_cases e : m = k
  · subst e
    refine ⟨by rw [List.getElem_set_self]; exact hf, fun h2 => ?_⟩
    rw [List.length_set] at h2
    omega
  · have h1 := h k hk
    refine ⟨by rw [List.getElem_set_ne e]; exact h1.1, fun h2 => ?_⟩
    rw [List.length_set] at h2
    obtain ⟨i, e1, e2, e3⟩ := h1.2 h2
    refine ⟨i, by rw [List.getElem_set_ne e]; exact e1, e2, ?_⟩
    by_cases e5 : m = k + 1
    · subst e5
      rw [List.getElem_set_self, hp]
      exact e3
    · rw [List.getElem_set_ne e5]; exact e3
theorem nest_push {p : PrgProg} {fs : List RunFrame} {m : Nat} (hm : fs.length = m + 1) (h : nestOk p fs = true) {g : RunFrame} {i : InsIns} (hi : prgAt p fs[m].Proc fs[m].Pc = some i) (h10 : i.Op = 10) (ht : i.To = g.Proc) (hf : frameOk p g = true) : nestOk p (fs ++ [g]) = true := by
  rw [nest_iff] at h ⊢
  intro k hk
  rw [List.length_append, List.length_singleton] at hk
  by_cases e : k = m + 1
  · subst e
    refine ⟨by rw [List.getElem_append_right (by omega)]; simp [hm]; exact hf, fun h2 => ?_⟩
    rw [List.length_append, List.length_singleton] at h2
    omega
  · have hk' : k < fs.length := by omega
    have h1 := h k hk'
    refine ⟨by rw [List.getElem_append_left hk']; exact h1.1, fun h2 => ?_⟩
    by_cases e5 : k = m
    · subst e5
      refine ⟨i, by rw [List.getElem_append_left hk']; exact hi, h10, ?_⟩
      rw [List.getElem_append_right (by omega)]
      simp [hm, ht]
    · obtain ⟨i', e1, e2, e3⟩ := h1.2 (by omega)
      refine ⟨i', by rw [List.getElem_append_left hk']; exact e1, e2, ?_⟩
      rw [List.getElem_append_left (by omega)]
      exact e3
theorem nest_take {p : PrgProg} {fs : List RunFrame} (h : nestOk p fs = true) (m : Nat) : nestOk p (fs.take m) = true := by
  rw [nest_iff] at h ⊢
  intro k hk
  rw [List.length_take] at hk
  have h1 := h k (by omega)
  refine ⟨by rw [List.getElem_take]; exact h1.1, fun h2 => ?_⟩
  rw [List.length_take] at h2
  obtain ⟨i, e1, e2, e3⟩ := h1.2 (by omega)
  exact ⟨i, by rw [List.getElem_take]; exact e1, e2, by rw [List.getElem_take]; exact e3⟩

theorem runOk_fail {p : PrgProg} {f : RunFrame} {i : InsIns} (h1 : prgOk p = true) (hi : prgAt p f.Proc f.Pc = some i) (hr : insRisks i.Op = true) : runOk p (runFail f) = true := by
  unfold runOk runFail
  simp [h1, hi, hr]
  decide
theorem runOk_deep {p : PrgProg} (h1 : prgOk p = true) : runOk p runDeep = true := by
  unfold runOk runDeep
  simp [h1]
  decide
theorem runOk_done {p : PrgProg} (h1 : prgOk p = true) {n : Int} (hn : numOk n = true) : runOk p (runDone n) = true := by
  unfold runOk runDone
  simp [h1, hn]
theorem zero_ok {n : Int} (h : n ∈ [0, 0, 0, 0]) : numOk n = true := by
  simp at h
  subst h
  rfl
theorem entered_ok {p : PrgProg} {k : Nat} (hp : prgOk p = true) (hk : k < p.Procs.length) {a : Int} (ha : numOk a = true) : frameOk p (entered k a) = true := by
  have h2 := (proc_facts ((prg_facts hp).2.2 k hk)).2.1
  refine frame_of ?_ rfl rfl ?_ ?_
  · show (prgAt p k 0).isSome = true
    have := prgAt_some hk (show 0 < p.Procs[k].Code.length by omega)
    rw [show ((0 : Nat) : Int) = 0 from rfl] at this
    rw [this]; rfl
  · intro n hn
    simp only [entered, List.mem_cons, List.not_mem_nil, or_false] at hn
    rcases hn with h | h | h | h
    · rw [h]; exact ha
    all_goals rw [h]; rfl
  · intro n hn
    exact zero_ok hn
theorem op_range {n : Int} (h1 : 1 ≤ n) (h2 : n ≤ 12) : n ≤ 4 ∨ n = 5 ∨ n = 6 ∨ n = 7 ∨ n = 8 ∨ n = 9 ∨ n = 10 ∨ n = 11 ∨ n = 12 := by omega

theorem stepped_ok {p : PrgProg} {r : RunRun} (h : runOk p r = true) (hs : r.State = 1) (inp : Int) : runOk p (stepped p r inp) = true := by
  have F := goes_facts h hs
  have hp := F.prg
  obtain ⟨m, hm⟩ : ∃ m, r.Frames.length = m + 1 := ⟨r.Frames.length - 1, by have := F.n1; omega⟩
  have n5 := F.n5
  have hN := F.nest
  clear F h hs
  unfold stepped
  rw [getLast_last hm]
  simp only
  have hfr := (nest_iff p _).1 hN m (by omega)
  obtain ⟨i, hi, hV, hC, nV, nC⟩ := frame_facts hfr.1
  rw [hi]
  simp only [Option.getD_some]
  obtain ⟨k, j, A⟩ := prgAt_facts hp hi
  have I := ins_facts A.ok
  have ha := getI_ok i.A nV
  have hb := getI_ok i.B nV
  have hset : ∀ n, numOk n = true → insEnds i = false → runOk p (goes (setLast r.Frames { r.Frames[m] with Vars := setI r.Frames[m].Vars i.D n, Pc := r.Frames[m].Pc + 1 })) = true := by
    intro n hn he
    rw [← set_last hm]
    refine runOk_of hp (by rw [List.length_set]; omega) (by rw [List.length_set]; omega) (nest_set hm hN rfl (frame_of ?_ ?_ hC ?_ nC))
    · exact prgAt_next hp hi he
    · simp only [setI_length]; exact hV
    · exact setI_ok _ nV hn
  have hgo : ∀ q, (prgAt p r.Frames[m].Proc q).isSome = true → runOk p (goes (setLast r.Frames { r.Frames[m] with Pc := q })) = true := by
    intro q hq
    rw [← set_last hm]
    exact runOk_of hp (by rw [List.length_set]; omega) (by rw [List.length_set]; omega) (nest_set hm hN rfl (frame_of hq hV hC nV nC))
  have hend : ¬ i.Op = 12 → ¬ i.Op = 9 → insEnds i = false := by
    intro h1 h2
    unfold insEnds
    simp [h1, h2]
  have hrest := I.rest
  unfold restOk at hrest
  unfold stepAt
  simp only
  rcases op_range I.op1 I.op12 with h4 | h5 | h6 | h7 | h8 | h9 | h10 | h11 | h12
  · rw [if_pos h4]
    have hd := numDo_ok ha hb I.op1 h4
    split
    · exact hset _ hd.1 (hend (by omega) (by omega))
    · rename_i hf
      have h44 := hd.2 (by simpa using hf)
      exact runOk_fail hp hi (by unfold insRisks; simp [h44])
  · rw [if_neg (by omega), if_pos h5]
    rw [if_pos h5] at hrest
    exact hset _ (any_ok hrest _) (hend (by omega) (by omega))
  · rw [if_neg (by omega), if_neg (by omega), if_pos h6]
    split
    · exact hset _ (getI_ok _ nC) (hend (by omega) (by omega))
    · exact runOk_fail hp hi (by unfold insRisks; simp [h6])
  · rw [if_neg (by omega), if_neg (by omega), if_neg (by omega), if_pos h7]
    split
    · rw [← set_last hm]
      refine runOk_of hp (by rw [List.length_set]; omega) (by rw [List.length_set]; omega) (nest_set hm hN rfl (frame_of ?_ hV ?_ nV ?_))
      · exact prgAt_next hp hi (hend (by omega) (by omega))
      · simp only [setI_length]; exact hC
      · exact setI_ok _ nC hb
    · exact runOk_fail hp hi (by unfold insRisks; simp [h7])
  · rw [if_neg (by omega), if_neg (by omega), if_neg (by omega), if_neg (by omega), if_pos h8]
    refine hgo _ ?_
    split
    · refine prgAt_to hp hi (fun n hn => ?_)
      unfold restOk at hn
      rw [if_neg (by omega), if_pos h8, Bool.and_eq_true] at hn
      exact hn.2
    · exact prgAt_next hp hi (hend (by omega) (by omega))
  · rw [if_neg (by omega), if_neg (by omega), if_neg (by omega), if_neg (by omega), if_neg (by omega), if_pos h9]
    refine hgo _ (prgAt_to hp hi (fun n hn => ?_))
    unfold restOk at hn
    rw [if_neg (by omega), if_neg (by omega), if_pos h9] at hn
    exact hn
  · rw [if_neg (by omega), if_neg (by omega), if_neg (by omega), if_neg (by omega), if_neg (by omega), if_neg (by omega), if_pos h10]
    rw [if_neg (by omega), if_neg (by omega), if_neg (by omega), if_pos h10] at hrest
    unfold below at hrest
    simp only [Bool.and_eq_true, decide_eq_true_eq] at hrest
    obtain ⟨t, ht⟩ := Int.eq_ofNat_of_zero_le hrest.1
    have htk : t < p.Procs.length := by omega
    rw [ht]
    simp only [Int.toNat_natCast]
    rw [List.getElem?_eq_getElem htk]
    simp only
    split
    · split
      · exact runOk_deep hp
      · rename_i h55
        refine runOk_of hp (by rw [List.length_append]; simp) (by rw [List.length_append, List.length_singleton]; omega) (nest_push hm hN hi h10 (by rw [ht]; rfl) (entered_ok hp htk ha))
    · exact runOk_fail hp hi (by unfold insRisks; simp [h10])
  · rw [if_neg (by omega), if_neg (by omega), if_neg (by omega), if_neg (by omega), if_neg (by omega), if_neg (by omega), if_neg (by omega), if_pos h11]
    split
    · exact hgo _ (prgAt_next hp hi (hend (by omega) (by omega)))
    · exact runOk_fail hp hi (by unfold insRisks; simp [h11])
  · rw [if_neg (by omega), if_neg (by omega), if_neg (by omega), if_neg (by omega), if_neg (by omega), if_neg (by omega), if_neg (by omega), if_neg (by omega)]
    cases m with
    | zero =>
      rw [show r.Frames.dropLast = [] by rw [List.dropLast_eq_take, hm]; simp]
      exact runOk_done hp ha
    | succ m =>
      have hl : r.Frames.dropLast.length = m + 1 := by rw [List.length_dropLast]; omega
      rw [getLast_last hl]
      simp only
      have hN2 : nestOk p r.Frames.dropLast = true := by rw [List.dropLast_eq_take]; exact nest_take hN _
      rw [← set_last hl]
      have eg : r.Frames.dropLast[m] = r.Frames[m] := by simp
      obtain ⟨i2, hi2, h102, -⟩ := ((nest_iff p _).1 hN m (by omega)).2 (by omega)
      have hfr2 := (nest_iff p _).1 hN2 m (by omega)
      obtain ⟨-, -, hV2, hC2, nV2, nC2⟩ := frame_facts hfr2.1
      refine runOk_of hp (by rw [List.length_set]; omega) (by rw [List.length_set]; omega) (nest_set hl hN2 rfl (frame_of ?_ ?_ hC2 ?_ nC2))
      · refine prgAt_next hp (i := i2) (by rw [eg]; exact hi2) ?_
        unfold insEnds
        simp [h102]
      · simp only [setI_length]; exact hV2
      · exact setI_ok _ nV2 ha
end Ow
namespace Ow
section
variable {α : Type} [Mk α] [Sz α]
theorem cntL_le (K : Nat) (h : ∀ x : α, Mk.cnt x ≤ K * (Sz.size x + 1)) : ∀ xs : List α, cntL xs ≤ K * szL xs
  | [] => by simp [cntL]
  | x :: r => by
    have h1 := h x
    have h2 := cntL_le K h r
    simp only [cntL, szL, szI, List.length_cons] at *
    have : K * (r.length + 1 + (Sz.size x + szI r)) = K * (Sz.size x + 1) + K * (r.length + szI r) := by rw [← Nat.mul_add]; congr 1; omega
    omega
end
theorem cnt_int_le (x : Int) : Mk.cnt x ≤ 16 * (Sz.size x + 1) := by show 1 ≤ 16 * (0 + 1); omega
theorem cnt_ins_le (x : InsIns) : Mk.cnt x ≤ 16 * (Sz.size x + 1) := by rw [cnt_InsIns]; omega
theorem cnt_proc_le (x : PrcProc) : Mk.cnt x ≤ 16 * (Sz.size x + 1) := by
  have := cntL_le 16 cnt_ins_le x.Code
  rw [cnt_PrcProc, size_PrcProc]; omega
theorem cnt_frame_le (x : RunFrame) : Mk.cnt x ≤ 16 * (Sz.size x + 1) := by
  have := cntL_le 16 cnt_int_le x.Vars
  have := cntL_le 16 cnt_int_le x.Cells
  rw [cnt_RunFrame, size_RunFrame]; omega
theorem prg_cnt (x : PrgProg) (h : Sz.size x ≤ 1048576) : cntL x.Procs ≤ 16777216 := by
  have := cntL_le 16 cnt_proc_le x.Procs
  rw [size_PrgProg] at h
  omega
theorem run_cnt (x : RunRun) (h : Sz.size x ≤ 1048576) : cntL x.Frames ≤ 16777216 := by
  have := cntL_le 16 cnt_frame_le x.Frames
  rw [size_RunRun] at h
  omega
theorem cntL_int : ∀ xs : List Int, cntL xs = xs.length
  | [] => rfl
  | x :: r => by
    show 1 + cntL r = r.length + 1
    rw [cntL_int r]; omega
theorem cntL_frames : ∀ fs : List RunFrame, (∀ f ∈ fs, f.Vars.length = 4 ∧ f.Cells.length = 4) → cntL fs ≤ 10 * fs.length
  | [], _ => by simp [cntL]
  | f :: r, h => by
    have h1 := h f (by simp)
    have h2 := cntL_frames r (fun g hg => h g (by simp [hg]))
    show Mk.cnt f + cntL r ≤ 10 * (r.length + 1)
    rw [cnt_RunFrame, cntL_int, cntL_int, h1.1, h1.2]
    omega
theorem runOk_cnt {p : PrgProg} {x : RunRun} (h : runOk p x = true) : cntL x.Frames ≤ 50 := by
  by_cases hs : x.State = 1
  · have F := goes_facts h hs
    have h1 := cntL_frames x.Frames (fun f hf => by
      obtain ⟨k, hk, rfl⟩ := List.mem_iff_getElem.1 hf
      obtain ⟨-, -, h1, h2, -⟩ := frame_facts ((nest_iff p _).1 F.nest k hk).1
      exact ⟨h1, h2⟩)
    have := F.n5
    omega
  · have hnil : x.Frames = [] := by
      unfold runOk at h
      rw [if_neg hs] at h
      simp at h
      exact h.2
    rw [hnil]
    simp [cntL]
theorem step_cnt (p : PrgProg) (r : RunRun) (inp : Int) : cntL (runStep p r inp).Frames ≤ 50 := by
  unfold runStep
  split
  · rename_i h
    split
    · rename_i hs
      exact runOk_cnt (stepped_ok h hs inp)
    · exact runOk_cnt h
  · simp [runZero, cntL]
end Ow
namespace Ow

theorem getI_nat {l : List Int} {d : Nat} (h : d < l.length) : getI l d = l[d] := by
  unfold getI
  rw [List.getD_eq_getElem?_getD, Int.toNat_natCast, List.getElem?_eq_getElem h]
  rfl
theorem setI_nat (l : List Int) (d : Nat) (v : Int) : setI l d v = l.set d v := by
  unfold setI
  rw [Int.toNat_natCast]
theorem stepped_at {p : PrgProg} {fs : List RunFrame} {m : Nat} {i : InsIns} (hm : fs.length = m + 1) (hi : prgAt p fs[m].Proc fs[m].Pc = some i) (inp : Int) : stepped p (goes fs) inp = stepAt p fs fs[m] i inp := by
  unfold stepped
  simp only [goes]
  rw [getLast_last hm]
  simp only
  rw [hi]
  rfl

section
variable {p : PrgProg} {fs : List RunFrame} {m : Nat} {i : InsIns} {inp : Int}
theorem st_arith (hm : fs.length = m + 1) (hi : prgAt p fs[m].Proc fs[m].Pc = some i) (h4 : i.Op ≤ 4) {dA dB dD : Nat} (hA : i.A = dA) (hB : i.B = dB) (hD : i.D = dD) (lA : dA < fs[m].Vars.length) (lB : dB < fs[m].Vars.length) (n : Int) (hn : numDo i.Op fs[m].Vars[dA] fs[m].Vars[dB] = (n, true)) :
    stepped p (goes fs) inp = goes (fs.set m { fs[m] with Vars := fs[m].Vars.set dD n, Pc := fs[m].Pc + 1 }) := by
  rw [stepped_at hm hi, set_last hm]
  unfold stepAt
  simp only
  rw [if_pos h4, hA, hB, getI_nat lA, getI_nat lB, hn, hD, setI_nat]
  simp
theorem st_arith_bad (hm : fs.length = m + 1) (hi : prgAt p fs[m].Proc fs[m].Pc = some i) (h4 : i.Op ≤ 4) {dA dB : Nat} (hA : i.A = dA) (hB : i.B = dB) (lA : dA < fs[m].Vars.length) (lB : dB < fs[m].Vars.length) (hn : (numDo i.Op fs[m].Vars[dA] fs[m].Vars[dB]).2 = false) :
    stepped p (goes fs) inp = runFail fs[m] := by
  rw [stepped_at hm hi]
  unfold stepAt
  simp only
  rw [if_pos h4, hA, hB, getI_nat lA, getI_nat lB, hn]
  simp
theorem st_any (hm : fs.length = m + 1) (hi : prgAt p fs[m].Proc fs[m].Pc = some i) (h5 : i.Op = 5) {dD : Nat} (hD : i.D = dD) :
    stepped p (goes fs) inp = goes (fs.set m { fs[m] with Vars := fs[m].Vars.set dD (i.Lo + inp % (i.Hi - i.Lo + 1)), Pc := fs[m].Pc + 1 }) := by
  rw [stepped_at hm hi, set_last hm]
  unfold stepAt
  simp only
  rw [if_neg (by omega), if_pos h5, hD, setI_nat]
theorem st_cell_bad (hm : fs.length = m + 1) (hi : prgAt p fs[m].Proc fs[m].Pc = some i) (h67 : i.Op = 6 ∨ i.Op = 7) {dA : Nat} (hA : i.A = dA) (lA : dA < fs[m].Vars.length) (hb : below fs[m].Vars[dA] 4 = false) :
    stepped p (goes fs) inp = runFail fs[m] := by
  rw [stepped_at hm hi]
  unfold stepAt
  simp only
  rw [hA, getI_nat lA, hb]
  rcases h67 with h | h
  · rw [if_neg (by omega), if_neg (by omega), if_pos h]; simp
  · rw [if_neg (by omega), if_neg (by omega), if_neg (by omega), if_pos h]; simp
theorem below_nat {a : Nat} (h : a < 4) : below a 4 = true := by
  unfold below
  simp
  omega
theorem st_load (hm : fs.length = m + 1) (hi : prgAt p fs[m].Proc fs[m].Pc = some i) (h6 : i.Op = 6) {dA dD a : Nat} (hA : i.A = dA) (hD : i.D = dD) (lA : dA < fs[m].Vars.length) (ha : fs[m].Vars[dA] = a) (h4 : a < 4) (lC : a < fs[m].Cells.length) :
    stepped p (goes fs) inp = goes (fs.set m { fs[m] with Vars := fs[m].Vars.set dD fs[m].Cells[a], Pc := fs[m].Pc + 1 }) := by
  rw [stepped_at hm hi, set_last hm]
  unfold stepAt
  simp only
  rw [if_neg (by omega), if_neg (by omega), if_pos h6, hA, getI_nat lA, ha, below_nat h4, hD, setI_nat, getI_nat lC]
  simp
theorem st_store (hm : fs.length = m + 1) (hi : prgAt p fs[m].Proc fs[m].Pc = some i) (h7 : i.Op = 7) {dA dB a : Nat} (hA : i.A = dA) (hB : i.B = dB) (lA : dA < fs[m].Vars.length) (lB : dB < fs[m].Vars.length) (ha : fs[m].Vars[dA] = a) (h4 : a < 4) :
    stepped p (goes fs) inp = goes (fs.set m { fs[m] with Cells := fs[m].Cells.set a fs[m].Vars[dB], Pc := fs[m].Pc + 1 }) := by
  rw [stepped_at hm hi, set_last hm]
  unfold stepAt
  simp only
  rw [if_neg (by omega), if_neg (by omega), if_neg (by omega), if_pos h7, hA, getI_nat lA, ha, below_nat h4, hB, getI_nat lB, setI_nat]
  simp
theorem st_if (hm : fs.length = m + 1) (hi : prgAt p fs[m].Proc fs[m].Pc = some i) (h8 : i.Op = 8) {dA dB : Nat} (hA : i.A = dA) (hB : i.B = dB) (lA : dA < fs[m].Vars.length) (lB : dB < fs[m].Vars.length) :
    stepped p (goes fs) inp = goes (fs.set m { fs[m] with Pc := if relHolds i.Rel fs[m].Vars[dA] fs[m].Vars[dB] then i.To else fs[m].Pc + 1 }) := by
  rw [stepped_at hm hi, set_last hm]
  unfold stepAt
  simp only
  rw [if_neg (by omega), if_neg (by omega), if_neg (by omega), if_neg (by omega), if_pos h8, hA, getI_nat lA, hB, getI_nat lB]
theorem st_jump (hm : fs.length = m + 1) (hi : prgAt p fs[m].Proc fs[m].Pc = some i) (h9 : i.Op = 9) :
    stepped p (goes fs) inp = goes (fs.set m { fs[m] with Pc := i.To }) := by
  rw [stepped_at hm hi, set_last hm]
  unfold stepAt
  simp only
  rw [if_neg (by omega), if_neg (by omega), if_neg (by omega), if_neg (by omega), if_neg (by omega), if_pos h9]
theorem st_call (hm : fs.length = m + 1) (hi : prgAt p fs[m].Proc fs[m].Pc = some i) (h10 : i.Op = 10) {dA k : Nat} (hA : i.A = dA) (lA : dA < fs[m].Vars.length) (hT : i.To = k) (lk : k < p.Procs.length) :
    stepped p (goes fs) inp = if p.Procs[k].Lo ≤ fs[m].Vars[dA] ∧ fs[m].Vars[dA] ≤ p.Procs[k].Hi then (if fs.length = 5 then runDeep else goes (fs ++ [entered k fs[m].Vars[dA]])) else runFail fs[m] := by
  rw [stepped_at hm hi]
  unfold stepAt
  simp only
  rw [if_neg (by omega), if_neg (by omega), if_neg (by omega), if_neg (by omega), if_neg (by omega), if_neg (by omega), if_pos h10, hA, getI_nat lA, hT, Int.toNat_natCast, List.getElem?_eq_getElem lk]
theorem st_assert (hm : fs.length = m + 1) (hi : prgAt p fs[m].Proc fs[m].Pc = some i) (h11 : i.Op = 11) {dA dB : Nat} (hA : i.A = dA) (hB : i.B = dB) (lA : dA < fs[m].Vars.length) (lB : dB < fs[m].Vars.length) :
    stepped p (goes fs) inp = if relHolds i.Rel fs[m].Vars[dA] fs[m].Vars[dB] then goes (fs.set m { fs[m] with Pc := fs[m].Pc + 1 }) else runFail fs[m] := by
  rw [stepped_at hm hi, set_last hm]
  unfold stepAt
  simp only
  rw [if_neg (by omega), if_neg (by omega), if_neg (by omega), if_neg (by omega), if_neg (by omega), if_neg (by omega), if_neg (by omega), if_pos h11, hA, getI_nat lA, hB, getI_nat lB]
theorem st_ret1 (hm : fs.length = 0 + 1) (hi : prgAt p fs[0].Proc fs[0].Pc = some i) (h12 : i.Op = 12) {dA : Nat} (hA : i.A = dA) (lA : dA < fs[0].Vars.length) :
    stepped p (goes fs) inp = runDone fs[0].Vars[dA] := by
  rw [stepped_at hm hi]
  unfold stepAt
  simp only
  rw [if_neg (by omega), if_neg (by omega), if_neg (by omega), if_neg (by omega), if_neg (by omega), if_neg (by omega), if_neg (by omega), if_neg (by omega), hA, getI_nat lA]
  rw [show fs.dropLast = [] by rw [List.dropLast_eq_take, hm]; simp]
  rfl
theorem st_ret2 (hm : fs.length = m + 2) (hi : prgAt p fs[m + 1].Proc fs[m + 1].Pc = some i) (h12 : i.Op = 12) {dA : Nat} (hA : i.A = dA) (lA : dA < fs[m + 1].Vars.length) {j : InsIns} (hj : prgAt p fs[m].Proc fs[m].Pc = some j) {dD : Nat} (hD : j.D = dD) :
    stepped p (goes fs) inp = goes ((fs.take (m + 1)).set m { fs[m] with Vars := fs[m].Vars.set dD fs[m + 1].Vars[dA], Pc := fs[m].Pc + 1 }) := by
  rw [stepped_at (m := m + 1) hm hi]
  unfold stepAt
  simp only
  rw [if_neg (by omega), if_neg (by omega), if_neg (by omega), if_neg (by omega), if_neg (by omega), if_neg (by omega), if_neg (by omega), if_neg (by omega), hA, getI_nat lA]
  have ed : fs.dropLast = fs.take (m + 1) := by rw [List.dropLast_eq_take, hm]; rfl
  have hl : (fs.take (m + 1)).length = m + 1 := by rw [List.length_take]; omega
  rw [ed, getLast_last hl]
  simp only [List.getElem_take]
  rw [hj, Option.getD_some, hD, setI_nat, set_last hl]
end
end Ow
