/- Copies of calls: the program's slices.Clone of ints, the reference's l5Copy. -/
import Derived.Test.YtjakhnhnjhafgaaGreatZRunMem
import Derived.Test.YtjakhnhnjhafgaaGreatZBase
import Derived.Deep.AppendLies
import Derived.Deep.RegionHeld3
set_option linter.unusedVariables false
set_option linter.unusedSimpArgs false
namespace Go.Proofs.YtjakhnhnjhafgaaGreat.Wk
open Go Go.RowKit Go.Deep Ow
open Rp (R sz)

theorem intInfo : (Tryz.prog.info? 3).map (fun i => (i.zero, i.size, i.bytes)) = some (some (.int .i64 0), 1, 8) := by kernel_rfl

set_option maxRecDepth 100000 in
set_option maxHeartbeats 1000000 in
theorem cloneInt_c (xs : List Int) (a : Value) (F : List Nat) (w : World) (ha : RL w xs a F) (h4 : xs.length = 4) :
    Calls Tryz.prog 128 #[a] w (Fresh xs w) := by
  obtain ⟨i0, hi, hz0, hz1, hz2⟩ := info_parts intInfo
  obtain ⟨b, o, c, cs, Fi, rfl, -, -, -⟩ := ha.elem (i := 0) (by omega)
  have hH := Lib.hid h4
  have heq : ∀ w, (binOp .eql 42 (.slice (some ⟨b, o, none⟩) 4 c) (.slice none 0 0)).run Tryz.prog w = .ok (.bool false) w := fun w => by kernel_rfl
  rw [h4] at ha ⊢
  clear h4
  go_enter Tryz.func128, Tryz.ntmps128
  go_wp2_with (at_builtin; refine wpList_append_RL rfl _ _ 42 rfl w.heap.size 3 i0 (.int .i64 0) 1 8 Tryz.underlying42 hi hz0 hz1 hz2 rfl (by decide) (.slice (some ⟨w.heap.size, 0, none⟩) 0 0) 0 [] rfl ?_ xs _ F rfl ?_ rfl ?_ ?_ ?_ ?_; exact ownsRow_empty w w.heap.size _ 1 (Nat.le_refl _); exact ha.chg0 ((Chg.refl [] w).alloc _); (have hh := hH.out; unfold maxLen; omega); (have hh := hH.out; omega); exact Nat.le_of_lt (by simp); intro v' w1 news C Fs hown hcs hg hnil)
  go_ret
  rw [List.nil_append, Nat.zero_add] at hown
  obtain ⟨G, g1, g2, g3⟩ := RL.of_cells (ys := xs) hown rfl ⟨hcs.len, hcs.at_, hcs.elem, fun i hi g hg => by have := (R_int.1 (hcs.elem i hi)).2.1; rw [this] at hg; exact hg, hcs.one⟩ rfl
  exact Fresh.mk_ (((Chg.refl [] w).alloc _).grown hg (by simp [Value.ownBlock])) g1 g2 g3

/-- what hands back a call in new memory -/
def RetFrame (f : RunFrame) (w : World) (e : Ending) (w' : World) : Prop :=
  ∃ AV cV GV AC cC GC, e = .returned (.agg #[.int .i64 f.Proc, .int .i64 f.Pc, .slice AV 4 cV, .slice AC 4 cC]) ∧ Chg [] w w' ∧ RL w' f.Vars (.slice AV 4 cV) GV ∧ RL w' f.Cells (.slice AC 4 cC) GC ∧ Own w' (GV ++ GC) ∧ ∀ g ∈ GV ++ GC, w.heap.size ≤ g

/-- append of four ints to an empty row, as one step of a region that draws -/
theorem step_copy4 {P : Program} {ops : Array Oper} {o : Oper} {a : Act} {K : Act → World → Prop} {Q : Exit → Act → World → Prop} {E : Prop} (w : World) (hgd : o.guard = none) (s x : Operand) (t : TypeId)
    (ho : o.op = .call { callee := .builtin .append, args := #[s, x], argTypes := #[t, t] })
    (e : TypeId) (i : TypeInfo) (ht : P.underlying t = some (.slice e)) (hi : P.info? e = some i) (hz : i.zero = some (.int .i64 0)) (hsize : i.size = 1) (hby : i.bytes = 8)
    (B : Nat) (hs : a.eval s = .slice (some ⟨B, 0, none⟩) 0 0) (hB : w.heap[B]? = some (.cells #[] e (0, 0))) (l : List Int) (hl : l.length = 4) (A : Option Addr) (c : Nat) (F : List Nat) (hx : a.eval x = .slice A 4 c) (hv : RL w l (.slice A 4 c) F)
    (h : ∀ g cap w', RL w' l (.slice (some ⟨g, 0, none⟩) 4 cap) [g] → Own w' [g] → Chg [B] w w' → (g = B ∨ g = w.heap.size) → K (a.put o.dst (.slice (some ⟨g, 0, none⟩) 4 cap)) w') :
    if Region.wanted o (yielded ops a.tmps) = true then Oper.wp P o a w K Q else E := by
  have hBlt : B < w.heap.size := by
    rcases Nat.lt_or_ge B w.heap.size with h1 | h1
    · exact h1
    · rw [Array.getElem?_eq_none h1] at hB; cases hB
  obtain ⟨news, C, Fs, hc, h1⟩ := hv.cells (by decide)
  rcases h1 with ⟨h1, h2⟩ | ⟨ad, cap, h1, h2⟩
  · injection h1 with _ h1; cases h1
  injection h1 with h1 h3 h1c
  subst h1 h1c
  have hown : w.ownsRow B e 1 (.slice (some ⟨B, 0, none⟩) 0 0) 0 [] := ⟨by simp, Or.inr ⟨B, 0, #[], rfl, Nat.le_refl _, hB, by omega, by unfold maxLen; omega, by simp, by simp⟩⟩
  refine step_append_lies w hgd s x t ho B e i (.int .i64 0) 1 8 ht hi hz hsize hby rfl (by decide) _ 0 [] hs hown ad 4 c news hx (by rw [hc.len, hl]; rfl) h2 hc.one (by omega) (by unfold maxLen; omega) (by omega) (by omega) w.heap.size rfl ?_
  intro g cap w' hrow hg hwhere hlt
  rw [Nat.zero_add] at hrow
  refine h g cap w' ?_ ?_ ((Chg.refl [B] w).grown hg (fun k hk => Or.inl (by injection hk with hk; exact List.mem_singleton.2 hk.symm))) ?_
  · obtain ⟨G, g1, g2, g3⟩ := RL.of_own (xs := l) C (fun _ => []) (by rw [List.nil_append] at hrow; exact hrow) hl.symm hc.at_ (fun i hi => by
      have hR := R_int.1 (hc.elem i hi)
      exact R_int.2 ⟨hR.1, rfl, hR.2.2⟩) (by rw [show (List.range l.length).flatMap (fun _ => ([] : List Nat)) = [] by simp]; exact Own.nil_ _) (by simp)
    obtain ⟨A', cap', e1, e2, e3, e4⟩ := g1
    injection e1 with e1 e5 e6
    subst e1 e6
    rcases e4 with ⟨rfl, _⟩ | ⟨b, off, C', Fs', e7, e8, e9, e10⟩
    · simp at hl
    · injection e7 with e7
      injection e7 with e7 e11
      subst e7 e11
      refine ⟨_, cap, by rw [hl], by rw [hl]; omega, e3, Or.inr ⟨_, _, C', fun _ => [], rfl, by simp [footOf], e9, ⟨e10.lt, e10.cell, fun i hi => ?_⟩⟩⟩
      have hR := R_int.1 (e10.elem i hi)
      exact R_int.2 ⟨hR.1, rfl, hR.2.2⟩
  · refine ⟨by simp, fun b hb => ?_⟩
    simp only [List.mem_singleton] at hb
    subst hb
    rcases hrow.2 with ⟨h5, _⟩ | ⟨g', cap', cur, h5, _, h6, _⟩
    · cases h5
    · injection h5 with h5
      injection h5 with h5
      injection h5 with h5
      subst h5
      exact ⟨cur, e, h6⟩
  · rcases hwhere with h5 | h5
    · simp only [Value.ownBlock, Option.some.injEq] at h5
      exact Or.inl h5.symm
    · exact Or.inr h5
end Go.Proofs.YtjakhnhnjhafgaaGreat.Wk
namespace Go.Proofs.YtjakhnhnjhafgaaGreat.Wk
open Go Go.RowKit Go.Deep Ow
open Rp (R sz)

theorem heap_at {w : World} {o : Obj} {n : Nat} (h : n = w.heap.size) : (w.alloc o).heap[n]? = some o := by subst h; exact heap_alloc_new _ _
theorem heap_atd {w : World} {o : Obj} {n : Nat} (h : n = w.heap.size) : (w.alloc o).drew.heap[n]? = some o := by subst h; exact heap_alloc_new _ _
theorem heap_past {w : World} {o v : Obj} {n : Nat} (hn : n < w.heap.size) (h : w.heap[n]? = some v) : (w.alloc o).heap[n]? = some v := (Below.heap_alloc _ _ _ hn).trans h
theorem heap_pastd {w : World} {o v : Obj} {n : Nat} (hn : n < w.heap.size) (h : w.heap[n]? = some v) : (w.alloc o).drew.heap[n]? = some v := (Below.heap_alloc _ _ _ hn).trans h
theorem fin1 {wA WB wB : World} {gA BB : Nat} {l : List Int} {v : Value} (rA : RL wA l v [gA]) (oA : Own wA [gA]) (hAB : Chg [] wA WB) (chB : Chg [BB] WB wB) (n1 : gA ≠ BB) : RL wB l v [gA] ∧ Own wB [gA] :=
  ⟨(rA.chg0 hAB).chg chB (fun b hb hb' => n1 ((List.mem_singleton.1 hb).symm.trans (List.mem_singleton.1 hb'))), (oA.chg0 hAB).chg chB (fun b hb hb' => n1 ((List.mem_singleton.1 hb).symm.trans (List.mem_singleton.1 hb')))⟩
theorem fin2 {wB : World} {gA gB k : Nat} {lA lB : List Int} {vA vB : Value} (rA : RL wB lA vA [gA]) (oA : Own wB [gA]) (rB : RL wB lB vB [gB]) (oB : Own wB [gB]) (n : gA ≠ gB) (hA : k < gA) (hB : k < gB) (u0 u1 u2 u3 : Value) :
    RL ((((wB.setCell ⟨k, 0, none⟩ u0).setCell ⟨k, 1, none⟩ u1).setCell ⟨k, 2, none⟩ u2).setCell ⟨k, 3, none⟩ u3) lA vA [gA] ∧
    RL ((((wB.setCell ⟨k, 0, none⟩ u0).setCell ⟨k, 1, none⟩ u1).setCell ⟨k, 2, none⟩ u2).setCell ⟨k, 3, none⟩ u3) lB vB [gB] ∧
    Own ((((wB.setCell ⟨k, 0, none⟩ u0).setCell ⟨k, 1, none⟩ u1).setCell ⟨k, 2, none⟩ u2).setCell ⟨k, 3, none⟩ u3) ([gA] ++ [gB]) := by
  have hc : Chg [k] wB ((((wB.setCell ⟨k, 0, none⟩ u0).setCell ⟨k, 1, none⟩ u1).setCell ⟨k, 2, none⟩ u2).setCell ⟨k, 3, none⟩ u3) :=
    ((((Chg.refl [k] wB).setCell (Or.inl (by simp)) u0).setCell (Or.inl (by simp)) u1).setCell (Or.inl (by simp)) u2).setCell (Or.inl (by simp)) u3
  have nA : ∀ b ∈ [gA], b ∉ [k] := fun b hb hb' => by have h1 := List.mem_singleton.1 hb; have h2 := List.mem_singleton.1 hb'; omega
  have nB : ∀ b ∈ [gB], b ∉ [k] := fun b hb hb' => by have h1 := List.mem_singleton.1 hb; have h2 := List.mem_singleton.1 hb'; omega
  exact ⟨rA.chg hc nA, rB.chg hc nB, Own.append (oA.chg hc nA) (oB.chg hc nB) (fun b hb hb' => by have h1 := List.mem_singleton.1 hb; have h2 := List.mem_singleton.1 hb'; omega)⟩
/-- what stands while the copy is made -/
def CopyS (w : World) (f : RunFrame) (bV oV kV bC oC kC : Nat) (w' : World) : Prop := w'.cell? ⟨w.heap.size, 0, none⟩ = some (.int .i64 f.Proc) ∧ w'.cell? ⟨w.heap.size, 1, none⟩ = some (.int .i64 f.Pc) ∧ w'.cell? ⟨w.heap.size, 2, none⟩ = some (.slice (some ⟨bV, oV, none⟩) 4 kV) ∧ w'.cell? ⟨w.heap.size, 3, none⟩ = some (.slice (some ⟨bC, oC, none⟩) 4 kC) ∧ w.heap.size + 1 < w'.heap.size ∧ w.heap.size < w'.heap.size ∧ Chg [] w w'
theorem CopyS.lt0 {w w1 : World} {f : RunFrame} {bV oV kV bC oC kC : Nat} (h : CopyS w f bV oV kV bC oC kC w1) : w.heap.size + 1 < w1.heap.size := by
  obtain ⟨p0, p1, p2, p3, lt, ls, hX⟩ := h
  exact lt
theorem CopyS.chg {w w1 w2 : World} {f : RunFrame} {bV oV kV bC oC kC B : Nat} (h : CopyS w f bV oV kV bC oC kC w1) (hc : Chg [B] w1 w2) (hB : w.heap.size + 1 < B) : CopyS w f bV oV kV bC oC kC w2 := by
  obtain ⟨p0, p1, p2, p3, lt, ls, hX⟩ := h
  have hm := hc.size
  have e0 : ∀ o, w2.cell? ⟨w.heap.size, o, none⟩ = w1.cell? ⟨w.heap.size, o, none⟩ := fun o => hc.cell (p := ⟨w.heap.size, o, none⟩) ls (by simp; omega)
  exact ⟨(e0 _).trans p0, (e0 _).trans p1, (e0 _).trans p2, (e0 _).trans p3, by omega, by omega, hX.trans hc (fun g hg => Or.inr (by have h1 := List.mem_singleton.1 hg; omega))⟩
theorem CopyS.alloc {w w1 : World} {f : RunFrame} {bV oV kV bC oC kC : Nat} (h : CopyS w f bV oV kV bC oC kC w1) (o : Obj) : CopyS w f bV oV kV bC oC kC (w1.alloc o) := by
  obtain ⟨p0, p1, p2, p3, lt, ls, hX⟩ := h
  have hc : Chg [] w1 (w1.alloc o) := (Chg.refl _ _).alloc _
  have hm := hc.size
  have e0 : ∀ o', (w1.alloc o).cell? ⟨w.heap.size, o', none⟩ = w1.cell? ⟨w.heap.size, o', none⟩ := fun o' => hc.cell (p := ⟨w.heap.size, o', none⟩) ls (by simp)
  exact ⟨(e0 _).trans p0, (e0 _).trans p1, (e0 _).trans p2, (e0 _).trans p3, by omega, by omega, hX.trans0 hc⟩
theorem CopyS.set {w w1 : World} {f : RunFrame} {bV oV kV bC oC kC : Nat} (h : CopyS w f bV oV kV bC oC kC w1) (j : Nat) (u : Value) : CopyS w f bV oV kV bC oC kC (w1.setCell ⟨w.heap.size + 1, j, none⟩ u) := by
  obtain ⟨p0, p1, p2, p3, lt, ls, hX⟩ := h
  have hc : Chg [w.heap.size + 1] w1 (w1.setCell ⟨w.heap.size + 1, j, none⟩ u) := (Chg.refl _ _).setCell (Or.inl (by simp)) _
  have hm := hc.size
  have e0 : ∀ o', (w1.setCell ⟨w.heap.size + 1, j, none⟩ u).cell? ⟨w.heap.size, o', none⟩ = w1.cell? ⟨w.heap.size, o', none⟩ := fun o' => hc.cell (p := ⟨w.heap.size, o', none⟩) ls (by simp)
  exact ⟨(e0 _).trans p0, (e0 _).trans p1, (e0 _).trans p2, (e0 _).trans p3, by omega, by omega, hX.trans hc (fun g hg => Or.inr (by have h1 := List.mem_singleton.1 hg; omega))⟩
theorem CopyS.allocd {w w1 : World} {f : RunFrame} {bV oV kV bC oC kC : Nat} (h : CopyS w f bV oV kV bC oC kC w1.drew) (o : Obj) : CopyS w f bV oV kV bC oC kC (w1.alloc o).drew := CopyS.alloc h o
theorem CopyS.start (w : World) (f : RunFrame) (bV oV kV bC oC kC : Nat) (t : TypeId) : CopyS w f bV oV kV bC oC kC ((w.alloc (.cells #[.int .i64 f.Proc, .int .i64 f.Pc, .slice (some ⟨bV, oV, none⟩) 4 kV, .slice (some ⟨bC, oC, none⟩) 4 kC] t)).alloc (.cells #[.int .i64 0, .int .i64 0, .slice none 0 0, .slice none 0 0] t)).drew := by
  refine ⟨?_, ?_, ?_, ?_, ?_, ?_, (((Chg.refl [] w).alloc _).alloc _).drew⟩
  all_goals first | (simp [go_sem]; done) | (simp; omega)
/-- the result's box, not yet filled -/
def CopyQ (w w' : World) : Prop := w'.cell? ⟨w.heap.size + 1, 0, none⟩ = some (.int .i64 0) ∧ w'.cell? ⟨w.heap.size + 1, 1, none⟩ = some (.int .i64 0) ∧ w'.cell? ⟨w.heap.size + 1, 2, none⟩ = some (.slice none 0 0) ∧ w'.cell? ⟨w.heap.size + 1, 3, none⟩ = some (.slice none 0 0) ∧ w'.frozen? ⟨w.heap.size + 1, 0, none⟩ = false ∧ w'.frozen? ⟨w.heap.size + 1, 1, none⟩ = false ∧ w'.frozen? ⟨w.heap.size + 1, 2, none⟩ = false ∧ w'.frozen? ⟨w.heap.size + 1, 3, none⟩ = false ∧ w.heap.size + 1 < w'.heap.size
theorem CopyQ.chg {w w1 w2 : World} {B : Nat} (h : CopyQ w w1) (hc : Chg [B] w1 w2) (hB : w.heap.size + 1 < B) : CopyQ w w2 := by
  obtain ⟨q0, q1, q2, q3, z0, z1, z2, z3, lt⟩ := h
  have hm := hc.size
  have e1 : ∀ o, w2.cell? ⟨w.heap.size + 1, o, none⟩ = w1.cell? ⟨w.heap.size + 1, o, none⟩ := fun o => hc.cell (p := ⟨w.heap.size + 1, o, none⟩) lt (by simp; omega)
  have e2 : ∀ o, w2.frozen? ⟨w.heap.size + 1, o, none⟩ = w1.frozen? ⟨w.heap.size + 1, o, none⟩ := fun o => World.frozen?_of_block (hc.block (w.heap.size + 1) lt (by simp; omega))
  exact ⟨(e1 _).trans q0, (e1 _).trans q1, (e1 _).trans q2, (e1 _).trans q3, (e2 _).trans z0, (e2 _).trans z1, (e2 _).trans z2, (e2 _).trans z3, by omega⟩
theorem CopyQ.alloc {w w1 : World} (h : CopyQ w w1) (o : Obj) : CopyQ w (w1.alloc o) := by
  obtain ⟨q0, q1, q2, q3, z0, z1, z2, z3, lt⟩ := h
  have hc : Chg [] w1 (w1.alloc o) := (Chg.refl _ _).alloc _
  have hm := hc.size
  have e1 : ∀ o', (w1.alloc o).cell? ⟨w.heap.size + 1, o', none⟩ = w1.cell? ⟨w.heap.size + 1, o', none⟩ := fun o' => hc.cell (p := ⟨w.heap.size + 1, o', none⟩) lt (by simp)
  have e2 : ∀ o', (w1.alloc o).frozen? ⟨w.heap.size + 1, o', none⟩ = w1.frozen? ⟨w.heap.size + 1, o', none⟩ := fun o' => World.frozen?_of_block (hc.block (w.heap.size + 1) lt (by simp))
  exact ⟨(e1 _).trans q0, (e1 _).trans q1, (e1 _).trans q2, (e1 _).trans q3, (e2 _).trans z0, (e2 _).trans z1, (e2 _).trans z2, (e2 _).trans z3, by omega⟩
theorem CopyQ.allocd {w w1 : World} (h : CopyQ w w1.drew) (o : Obj) : CopyQ w (w1.alloc o).drew := CopyQ.alloc h o
theorem CopyQ.start (w : World) (a : Obj) (t : TypeId) : CopyQ w ((w.alloc a).alloc (.cells #[.int .i64 0, .int .i64 0, .slice none 0 0, .slice none 0 0] t)).drew := by
  refine ⟨?_, ?_, ?_, ?_, ?_, ?_, ?_, ?_, ?_⟩
  all_goals first | (simp [go_sem]; done) | (simp; omega)

set_option maxRecDepth 100000 in
set_option maxHeartbeats 4000000 in
theorem refCopy_c (f : RunFrame) (vV vC : Value) (FV FC : List Nat) (w : World) (hV : RL w f.Vars vV FV) (hC : RL w f.Cells vC FC) (hv4 : f.Vars.length = 4) (hc4 : f.Cells.length = 4) :
    Calls Tryz.prog 138 #[.agg #[.int .i64 f.Proc, .int .i64 f.Pc, vV, vC]] w (RetFrame f w) := by
  obtain ⟨i0, hi, hz0, hz1, hz2⟩ := info_parts intInfo
  obtain ⟨bV, oV, kV, csV, FiV, rfl, -, -, -⟩ := hV.elem (i := 0) (by omega)
  obtain ⟨bC, oC, kC, csC, FiC, rfl, -, -, -⟩ := hC.elem (i := 0) (by omega)
  rw [hv4] at hV ⊢
  rw [hc4] at hC ⊢
  have HV := Lib.hid hV
  have HC := Lib.hid hC
  have H4 := Lib.hid hv4
  have K4 := Lib.hid hc4
  clear hV hC hv4 hc4
  go_enter Tryz.func138, Tryz.ntmps138
  go_wp2_with fail
  go_region_held3 (fun w' => w'.cell? ⟨w.heap.size, 0, none⟩ = some (.int .i64 f.Proc) ∧ w'.cell? ⟨w.heap.size, 1, none⟩ = some (.int .i64 f.Pc) ∧ w'.cell? ⟨w.heap.size, 2, none⟩ = some (.slice (some ⟨bV, oV, none⟩) 4 kV) ∧ w'.cell? ⟨w.heap.size, 3, none⟩ = some (.slice (some ⟨bC, oC, none⟩) 4 kC) ∧ w.heap.size + 1 < w'.heap.size ∧ w.heap.size < w'.heap.size ∧ Chg [] w w') (((try dsimp only); change CopyS w f bV oV kV bC oC kC _; first | ((iterate 4 (with_reducible refine CopyS.set ?_ _ _)); first | with_reducible exact hSV | with_reducible exact hSC) | with_reducible exact hSV | with_reducible exact hSC | (with_reducible refine CopyS.alloc ?_ _; first | with_reducible exact hSV | with_reducible exact hSC | (unfold CopyS; with_reducible assumption)) | (with_reducible refine CopyS.allocd ?_ _; unfold CopyS; with_reducible assumption) | with_reducible exact CopyS.start w f bV oV kV bC oC kC _))
    (first
    | (refine step_copy4 _ rfl (.tmp 7) (.tmp 9) 42 rfl 3 i0 Tryz.underlying42 hi hz0 hz1 hz2 _ rfl ?_ f.Vars H4.out _ _ FV rfl ?_ ?_
       · first
         | (refine heap_at ?_; simp; done)
         | (refine heap_atd ?_; simp; done)
         | (refine heap_past ?_ (heap_at ?_) <;> (simp; done))
         | (refine heap_pastd ?_ (heap_at ?_) <;> (simp; done))
         | (refine (chC.block _ ?_ ?_).trans (heap_at ?_) <;> (first | (simp; done) | (simp; omega)))
         | (refine (chC.block _ ?_ ?_).trans (heap_atd ?_) <;> (first | (simp; done) | (simp; omega)))
         | (refine (chC.block _ ?_ ?_).trans (heap_past ?_ (heap_at ?_)) <;> (first | (simp; done) | (simp; omega)))
         | (refine (chC.block _ ?_ ?_).trans (heap_pastd ?_ (heap_at ?_)) <;> (first | (simp; done) | (simp; omega)))
       · refine HV.out.chg0 ?_
         exact (show CopyS w f bV oV kV bC oC kC _ from by unfold CopyS; assumption).2.2.2.2.2.2
       intro gV cV wV rV owV chV whV
       have hSV : CopyS w f bV oV kV bC oC kC wV := by
         refine CopyS.chg (w1 := _) ?_ chV ?_
         · unfold CopyS; assumption
         · first | omega | (simp; omega)
       have luV := hSV.lt0
       have hQV : CopyQ w wV := by
         refine CopyQ.chg (w1 := _) ?_ chV ?_
         · first | with_reducible exact hQC | (with_reducible refine CopyQ.alloc ?_ _; with_reducible exact hQC) | with_reducible exact CopyQ.start _ _ _ | (with_reducible refine CopyQ.allocd ?_ _; with_reducible exact CopyQ.start _ _ _) | (with_reducible refine CopyQ.allocd ?_ _; with_reducible refine CopyQ.allocd ?_ _; with_reducible exact CopyQ.start _ _ _)
         · first | omega | (simp; omega)
       have hQdV := hQV
       unfold CopyQ at hQdV
       obtain ⟨q0V, q1V, q2V, q3V, z0V, z1V, z2V, z3V, ltV⟩ := hQdV)
    | (refine step_copy4 _ rfl (.tmp 11) (.tmp 13) 42 rfl 3 i0 Tryz.underlying42 hi hz0 hz1 hz2 _ rfl ?_ f.Cells K4.out _ _ FC rfl ?_ ?_
       · first
         | (refine heap_at ?_; simp; done)
         | (refine heap_atd ?_; simp; done)
         | (refine heap_past ?_ (heap_at ?_) <;> (simp; done))
         | (refine heap_pastd ?_ (heap_at ?_) <;> (simp; done))
         | (refine (chV.block _ ?_ ?_).trans (heap_at ?_) <;> (first | (simp; done) | (simp; omega)))
         | (refine (chV.block _ ?_ ?_).trans (heap_atd ?_) <;> (first | (simp; done) | (simp; omega)))
         | (refine (chV.block _ ?_ ?_).trans (heap_past ?_ (heap_at ?_)) <;> (first | (simp; done) | (simp; omega)))
         | (refine (chV.block _ ?_ ?_).trans (heap_pastd ?_ (heap_at ?_)) <;> (first | (simp; done) | (simp; omega)))
       · refine HC.out.chg0 ?_
         exact (show CopyS w f bV oV kV bC oC kC _ from by unfold CopyS; assumption).2.2.2.2.2.2
       intro gC cC wC rC owC chC whC
       have hSC : CopyS w f bV oV kV bC oC kC wC := by
         refine CopyS.chg (w1 := _) ?_ chC ?_
         · unfold CopyS; assumption
         · first | omega | (simp; omega)
       have luC := hSC.lt0
       have hQC : CopyQ w wC := by
         refine CopyQ.chg (w1 := _) ?_ chC ?_
         · first | with_reducible exact hQV | (with_reducible refine CopyQ.alloc ?_ _; with_reducible exact hQV) | with_reducible exact CopyQ.start _ _ _ | (with_reducible refine CopyQ.allocd ?_ _; with_reducible exact CopyQ.start _ _ _) | (with_reducible refine CopyQ.allocd ?_ _; with_reducible refine CopyQ.allocd ?_ _; with_reducible exact CopyQ.start _ _ _)
         · first | omega | (simp; omega)
       have hQdC := hQC
       unfold CopyQ at hQdC
       obtain ⟨q0C, q1C, q2C, q3C, z0C, z1C, z2C, z3C, ltC⟩ := hQdC))
  all_goals
    go_wp2
    refine bodyPost_ret (v := .agg #[.int .i64 f.Proc, .int .i64 f.Pc, .slice (some ⟨gV, 0, none⟩) 4 cV, .slice (some ⟨gC, 0, none⟩) 4 cC]) ?_ rfl ?_
    · simp [results, Tryz.results138, go_sem, q0V, q1V, q2V, q3V, q0C, q1C, q2C, q3C]
    · simp only [World.size_alloc, World.size_drew] at whV whC
      have lV := owV.lt gV (by simp)
      have lC := owC.lt gC (by simp)
      first
      | (have f1 := fin1 rV owV (Chg.c) chC (by omega)
         have f2 := fin2 (k := w.heap.size + 1) f1.1 f1.2 rC owC (by omega) (by omega) (by omega) (.int .i64 f.Proc) (.int .i64 f.Pc) (.slice (some ⟨gV, 0, none⟩) 4 cV) (.slice (some ⟨gC, 0, none⟩) 4 cC)
         have hX := hSC.2.2.2.2.2.2
         exact ⟨_, _, [gV], _, _, [gC], rfl, Chg.c, f2.1, f2.2.1, f2.2.2, fun g hg => by simp only [List.mem_append, List.mem_singleton] at hg; omega⟩)
      | (have f1 := fin1 rC owC (Chg.c) chV (by omega)
         have f2 := fin2 (k := w.heap.size + 1) rV owV f1.1 f1.2 (by omega) (by omega) (by omega) (.int .i64 f.Proc) (.int .i64 f.Pc) (.slice (some ⟨gV, 0, none⟩) 4 cV) (.slice (some ⟨gC, 0, none⟩) 4 cC)
         have hX := hSV.2.2.2.2.2.2
         exact ⟨_, _, [gV], _, _, [gC], rfl, Chg.c, f2.1, f2.2.1, f2.2.2, fun g hg => by simp only [List.mem_append, List.mem_singleton] at hg; omega⟩)
end Go.Proofs.YtjakhnhnjhafgaaGreat.Wk
namespace Go.Proofs.YtjakhnhnjhafgaaGreat.Wk
open Go Go.RowKit Go.Deep Ow
open Rp (R sz)

theorem frameInfo : (Tryz.prog.info? 58).map (fun i => (i.zero, i.size, i.bytes)) = some (some (.agg #[.int .i64 0, .int .i64 0, .slice none 0 0, .slice none 0 0]), 4, 64) := by kernel_rfl
theorem Below.cellB {n : Nat} {w w' : World} (h : Below n w w') {b o : Nat} (hb : b < n) : w'.cell? ⟨b, o, none⟩ = w.cell? ⟨b, o, none⟩ := World.cell?_of_block (h.block b hb)
theorem Below.frozenB {n : Nat} {w w' : World} (h : Below n w w') {b o : Nat} (hb : b < n) : w'.frozen? ⟨b, o, none⟩ = w.frozen? ⟨b, o, none⟩ := World.frozen?_of_block (a := ⟨b, o, none⟩) (h.block b hb)
theorem Chg.andBelow {n : Nat} {w w1 w2 : World} (h : Chg [] w w1) (k : Below n w1 w2) (hn : w.heap.size ≤ n) : Chg [] w w2 :=
  ⟨k.os.trans h.os, k.tape.trans h.tape, k.output.trans h.output, Nat.le_trans h.size k.size, fun b hb _ => (k.block b (by omega)).trans (h.block b hb (by simp))⟩

/-- where the new call lies -/
structure NewFrame (w : World) (f : RunFrame) (AV : Option Addr) (cV : Nat) (GV : List Nat) (AC : Option Addr) (cC : Nat) (GC : List Nat) (L : Nat) : Prop where
  rV : RL w f.Vars (.slice AV 4 cV) GV
  rC : RL w f.Cells (.slice AC 4 cC) GC
  own : Own w (GV ++ GC)
  new : ∀ g ∈ GV ++ GC, L ≤ g
  bP : I64 f.Proc
  bC : I64 f.Pc
abbrev frameCells (f : RunFrame) (AV : Option Addr) (cV : Nat) (AC : Option Addr) (cC : Nat) : List Value := [.int .i64 f.Proc, .int .i64 f.Pc, .slice AV 4 cV, .slice AC 4 cC]
theorem NewFrame.R_ {w : World} {f : RunFrame} {AV : Option Addr} {cV : Nat} {GV : List Nat} {AC : Option Addr} {cC : Nat} {GC : List Nat} {L : Nat} (h : NewFrame w f AV cV GV AC cC GC L) : R w f (frameCells f AV cV AC cC) (GV ++ GC) :=
  R_RunFrame.2 ⟨_, GV, _, GC, rfl, rfl, h.bP, h.bC, h.rV, h.rC⟩
theorem NewFrame.chg {w w' : World} {f : RunFrame} {AV : Option Addr} {cV : Nat} {GV : List Nat} {AC : Option Addr} {cC : Nat} {GC : List Nat} {L : Nat} (h : NewFrame w f AV cV GV AC cC GC L) (hc : Chg [] w w') : NewFrame w' f AV cV GV AC cC GC L :=
  ⟨h.rV.chg0 hc, h.rC.chg0 hc, h.own.chg0 hc, h.new, h.bP, h.bC⟩

theorem push_core {w0 w w' : World} {base e : Nat} {fs : List RunFrame} {v : Value} {f : RunFrame} {AV : Option Addr} {cV : Nat} {GV : List Nat} {AC : Option Addr} {cC : Nat} {GC : List Nat} {cells : List Value} {C : Nat → List Value} {Fs : Nat → List Nat} {g cap : Nat}
    (hG : GrowF base w0 e fs v cells C Fs) (hc : Chg [] w0 w) (hf : NewFrame w f AV cV GV AC cC GC w0.heap.size) (hb : base ≤ w0.heap.size)
    (hrow : w'.ownsRow base e 4 (.slice (some ⟨g, 0, none⟩) (fs.length + 1) cap) (fs.length + 1) (cells ++ frameCells f AV cV AC cC)) (hg : w.grownBy w' v.ownBlock) (hw : v.ownBlock = some g ∨ g = w.heap.size) :
    Grow base w' e (fs ++ [f]) (.slice (some ⟨g, 0, none⟩) (fs.length + 1) cap) ∧ Below base w w' := by
  have hG1 := hG.chg hc (by simp)
  have hin : ∀ b ∈ (List.range fs.length).flatMap Fs, b < w0.heap.size := fun b hb => hG.own.lt b hb
  have hvo : ∀ b, v.ownBlock = some b → base ≤ b ∧ b < w0.heap.size := ownsRow_lt hG.row
  refine ⟨hG1.push hf.R_ hf.own (fun b hb' => Nat.le_trans hb (hf.new b hb')) (fun b hb' hb2 => ?_) (fun b hb' hb2 => ?_) hrow hg ?_, ⟨hg.os, hg.tape, hg.output, hg.size, fun k hk => hg.block k ?_ (fun hh => ?_)⟩⟩
  · have h1 := hf.new b hb'
    have h2 := hin b hb2
    omega
  · have h1 := hf.new b hb2
    have h2 := hvo b hb'
    omega
  · rcases hw with h1 | h1
    · left; rw [h1]; rfl
    · right; rw [h1]; rfl
  · have := hc.size
    omega
  · have h1 := hvo k hh.symm
    omega

/-- append of one call, as one step of a region that draws -/
theorem step_push {ops : Array Oper} {o : Oper} {a : Act} {K : Act → World → Prop} {Q : Exit → Act → World → Prop} {E : Prop} (w : World) (hgd : o.guard = none) (s x : Operand)
    (ho : o.op = .call { callee := .builtin .append, args := #[s, x], argTypes := #[43, 43] })
    (w0 : World) (base : Nat) (fs : List RunFrame) (v : Value) (hG : Grow base w0 58 fs v) (hc : Chg [] w0 w) (hbase : base ≤ w0.heap.size) (hlen : fs.length < 1000) (n : Nat) (hn : fs.length = n) (hs : a.eval s = v)
    (BS c : Nat) (f : RunFrame) (AV : Option Addr) (cV : Nat) (GV : List Nat) (AC : Option Addr) (cC : Nat) (GC : List Nat) (hx : a.eval x = .slice (some ⟨BS, 0, none⟩) 1 c)
    (hB : ∀ j u, (frameCells f AV cV AC cC)[j]? = some u → w.cell? ⟨BS, j, none⟩ = some u) (hf : NewFrame w f AV cV GV AC cC GC w0.heap.size)
    (h : ∀ g cap w', Grow base w' 58 (fs ++ [f]) (.slice (some ⟨g, 0, none⟩) (n + 1) cap) → Below base w w' → K (a.put o.dst (.slice (some ⟨g, 0, none⟩) (n + 1) cap)) w') :
    if Region.wanted o (yielded ops a.tmps) = true then Oper.wp Tryz.prog o a w K Q else E := by
  subst hn
  obtain ⟨i0, hi, hz0, hz1, hz2⟩ := info_parts frameInfo
  obtain ⟨cells, C, Fs, hG⟩ := hG
  have hrow := (hG.chg hc (by simp)).row
  refine step_append_lies w hgd s x 43 ho base 58 i0 _ 4 64 Tryz.underlying43 hi hz0 hz1 hz2 rfl (by decide) v fs.length cells hs hrow ⟨BS, 0, none⟩ 1 c (frameCells f AV cV AC cC) hx rfl (fun j u hj => ?_) (fun u hu => ?_) (by omega) (by unfold maxLen; omega) (by omega) (Nat.le_trans hbase hc.size) w.heap.size rfl ?_
  · have hadd : (⟨BS, 0, none⟩ : Addr).add j = ⟨BS, j, none⟩ := by unfold Addr.add; split <;> simp_all
    rw [hadd]
    exact hB j u hj
  · exact Rp.one hf.R_ u hu
  · intro g cap w' h1 h2 h3 _
    have h4 := push_core hG hc hf hbase h1 h2 h3
    exact h g cap w' h4.1 h4.2

/-- .. in a plain region -/
theorem wpList_push {ops : Array Oper} {rest : List Oper} {o : Oper} {a : Act} {Q : Exit → Act → World → Prop} (w : World) (hgd : o.guard = none) (s x : Operand)
    (ho : o.op = .call { callee := .builtin .append, args := #[s, x], argTypes := #[43, 43] })
    (w0 : World) (base : Nat) (fs : List RunFrame) (v : Value) (hG : Grow base w0 58 fs v) (hc : Chg [] w0 w) (hbase : base ≤ w0.heap.size) (hlen : fs.length < 1000) (n : Nat) (hn : fs.length = n) (hs : a.eval s = v)
    (BS c : Nat) (f : RunFrame) (AV : Option Addr) (cV : Nat) (GV : List Nat) (AC : Option Addr) (cC : Nat) (GC : List Nat) (hx : a.eval x = .slice (some ⟨BS, 0, none⟩) 1 c)
    (hB : ∀ j u, (frameCells f AV cV AC cC)[j]? = some u → w.cell? ⟨BS, j, none⟩ = some u) (hf : NewFrame w f AV cV GV AC cC GC w0.heap.size)
    (h : ∀ g cap w', Grow base w' 58 (fs ++ [f]) (.slice (some ⟨g, 0, none⟩) (n + 1) cap) → Below base w w' → wpList Tryz.prog ops Q rest (a.put o.dst (.slice (some ⟨g, 0, none⟩) (n + 1) cap)) w') :
    wpList Tryz.prog ops Q (o :: rest) a w := by
  subst hn
  obtain ⟨i0, hi, hz0, hz1, hz2⟩ := info_parts frameInfo
  obtain ⟨cells, C, Fs, hG⟩ := hG
  have hrow := (hG.chg hc (by simp)).row
  refine wpList_append_lies w hgd s x 43 ho base 58 i0 _ 4 64 Tryz.underlying43 hi hz0 hz1 hz2 rfl (by decide) v fs.length cells hs hrow ⟨BS, 0, none⟩ 1 c (frameCells f AV cV AC cC) hx rfl (fun j u hj => ?_) (fun u hu => ?_) (by omega) (by unfold maxLen; omega) (by omega) (Nat.le_trans hbase hc.size) w.heap.size rfl ?_
  · have hadd : (⟨BS, 0, none⟩ : Addr).add j = ⟨BS, j, none⟩ := by unfold Addr.add; split <;> simp_all
    rw [hadd]
    exact hB j u hj
  · exact Rp.one hf.R_ u hu
  · intro g cap w' h1 h2 h3 _
    have h4 := push_core hG hc hf hbase h1 h2 h3
    exact h g cap w' h4.1 h4.2
end Go.Proofs.YtjakhnhnjhafgaaGreat.Wk
namespace Go.Proofs.YtjakhnhnjhafgaaGreat.Wk
open Go Go.RowKit Go.Deep Ow
open Rp (R sz)

/-- from the growth of a row to a change outside it -/
theorem grown_chg {w w' : World} {v : Value} {G : List Nat} (hg : w.grownBy w' v.ownBlock) (hv : ∀ b, v.ownBlock = some b → b ∈ G) : Chg G w w' :=
  ⟨hg.os, hg.tape, hg.output, hg.size, fun k hk hn => hg.block k hk (fun e => hn (hv k e.symm))⟩

/-- append of one call onto a row of my own (its list, its blocks G), as one step of a region that draws -/
theorem step_push2 {ops : Array Oper} {o : Oper} {a : Act} {K : Act → World → Prop} {Q : Exit → Act → World → Prop} {E : Prop} (w : World) (hgd : o.guard = none) (s x : Operand)
    (ho : o.op = .call { callee := .builtin .append, args := #[s, x], argTypes := #[43, 43] })
    (w0 : World) (fs : List RunFrame) (v : Value) (G : List Nat) (hR : RL w0 fs v G) (hO : Own w0 G) (hroom : Room w0 58 v fs.length) (hne : fs ≠ []) (hc : Chg [] w0 w) (hlen : fs.length < 1000) (n : Nat) (hn : fs.length = n) (hs : a.eval s = v)
    (BS c : Nat) (f : RunFrame) (AV : Option Addr) (cV : Nat) (GV : List Nat) (AC : Option Addr) (cC : Nat) (GC : List Nat) (hx : a.eval x = .slice (some ⟨BS, 0, none⟩) 1 c)
    (hB : ∀ j u, (frameCells f AV cV AC cC)[j]? = some u → w.cell? ⟨BS, j, none⟩ = some u) (hf : NewFrame w f AV cV GV AC cC GC w0.heap.size)
    (h : ∀ g cap w' G', RL w' (fs ++ [f]) (.slice (some ⟨g, 0, none⟩) (n + 1) cap) G' → Own w' G' → Chg G w w' → (∀ b ∈ G', b ∈ G ∨ b ∈ GV ++ GC ∨ w.heap.size ≤ b) → K (a.put o.dst (.slice (some ⟨g, 0, none⟩) (n + 1) cap)) w') :
    if Region.wanted o (yielded ops a.tmps) = true then Oper.wp Tryz.prog o a w K Q else E := by
  subst hn
  obtain ⟨i0, hi, hz0, hz1, hz2⟩ := info_parts frameInfo
  have hform := hR
  obtain ⟨cells, C, Fs, hG, hsub⟩ := grow_of (base := 0) hR hO hroom hne (fun _ _ => Nat.zero_le _)
  have hrow := (hG.chg hc (by simp)).row
  have hv : ∀ b, v.ownBlock = some b → b ∈ G := by
    intro b hb
    obtain ⟨A, cap, e1, _, _, h4⟩ := hform
    rcases h4 with ⟨h4, _⟩ | ⟨b', off, C', Fs', e2, e3, _, _⟩
    · exact absurd h4 hne
    · subst e2
      rw [e1] at hb
      simp only [Value.ownBlock, Option.some.injEq] at hb
      rw [e3, ← hb]
      simp [footOf]
  refine step_append_lies w hgd s x 43 ho 0 58 i0 _ 4 64 Tryz.underlying43 hi hz0 hz1 hz2 rfl (by decide) v fs.length cells hs hrow ⟨BS, 0, none⟩ 1 c (frameCells f AV cV AC cC) hx rfl (fun j u hj => ?_) (fun u hu => ?_) (by omega) (by unfold maxLen; omega) (by omega) (Nat.zero_le _) w.heap.size rfl ?_
  · have hadd : (⟨BS, 0, none⟩ : Addr).add j = ⟨BS, j, none⟩ := by unfold Addr.add; split <;> simp_all
    rw [hadd]
    exact hB j u hj
  · exact Rp.one hf.R_ u hu
  · intro g cap w' h1 h2 h3 _
    have hG1 := hG.chg hc (by simp)
    have hin : ∀ b ∈ (List.range fs.length).flatMap Fs, b < w0.heap.size := fun b hb => hG.own.lt b hb
    have hvo : ∀ b, v.ownBlock = some b → 0 ≤ b ∧ b < w0.heap.size := ownsRow_lt hG.row
    obtain ⟨cells', C', Fs', hP, hPs⟩ := hG1.push2 hf.R_ hf.own (fun _ _ => Nat.zero_le _) (fun b hb' hb2 => by
      have h1 := hf.new b hb'
      have h2 := hin b hb2
      omega) (fun b hb' hb2 => by
      have h1 := hf.new b hb2
      have h2 := hvo b hb'
      omega) h1 h2 (by
      rcases h3 with h3 | h3
      · left; rw [h3]; rfl
      · right; rw [h3]; rfl)
    obtain ⟨G', g1, g2, g3⟩ := hP.out
    refine h g cap w' G' g1 g2 (grown_chg h2 hv) (fun b hb => ?_)
    rcases g3 b hb with h5 | h5
    · simp only [Value.ownBlock, Option.some.injEq] at h5
      rcases h3 with h3 | h3
      · exact Or.inl (h5 ▸ hv g h3)
      · exact Or.inr (Or.inr (by omega))
    · rcases hPs b h5 with h6 | h6
      · exact Or.inl (hsub b h6)
      · exact Or.inr (Or.inl h6)
end Go.Proofs.YtjakhnhnjhafgaaGreat.Wk
