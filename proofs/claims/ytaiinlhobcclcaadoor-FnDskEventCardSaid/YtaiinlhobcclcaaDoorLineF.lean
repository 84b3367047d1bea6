/- Contract: the program's forms of lines: a map of twelve words (written by a program of mine, wip/gen/gen_linef.py). -/
import Derived.Test.YtaiinlhobcclcaaDoorWordsW
import Derived.MapKept
import Derived.WideMake
namespace Go.Proofs.YtaiinlhobcclcaaDoor.Wk
open Go Go.RowKit Go.Deep Ow
open Rp (R sz)

/-- entries of a map, in the order in which they were laid -/
def entL : Nat → List (Bs × Value) → List MapEntry
  | _, [] => []
  | i, (k, v) :: r => { key := str k, val := v, born := i } :: entL (i + 1) r
def look (s : Bs) : List (Bs × Value) → Option Value
  | [] => none
  | (k, v) :: r => if k = s then some v else look s r
theorem entL_app (i : Nat) (a : List (Bs × Value)) (k : Bs) (v : Value) : entL i (a ++ [(k, v)]) = entL i a ++ [{ key := str k, val := v, born := i + a.length }] := by
  induction a generalizing i with
  | nil => rfl
  | cons x r ih =>
    obtain ⟨k', v'⟩ := x
    simp only [List.cons_append, entL, ih, List.length_cons]
    congr 4; omega
theorem ba_inj (a b : Bs) : ((ByteArray.mk a.toArray) == (ByteArray.mk b.toArray)) = decide (a = b) := by
  have e : ∀ (x y : Array UInt8), ((ByteArray.mk x) == (ByteArray.mk y)) = (x == y) := fun _ _ => rfl
  rw [e]
  by_cases h : a = b
  · subst h; simp
  · simp [h]
theorem findNow_ent (s : Bs) : ∀ (l : List (Bs × Value)) (i j : Nat), ∃ k, Instr.findNow .string (str s) (entL i l) j = some ((look s l).map fun v => (k, v))
  | [], i, j => ⟨0, rfl⟩
  | (k, v) :: r, i, j => by
    obtain ⟨k2, h2⟩ := findNow_ent s r (i + 1) (j + 1)
    by_cases h : k = s
    · refine ⟨j, ?_⟩
      subst h
      simp [entL, Instr.findNow, Instr.sameNow, look, ba_inj]
    · refine ⟨k2, ?_⟩
      have hs : ¬ s = k := fun e => h e.symm
      simp only [entL, Instr.findNow, Instr.sameNow, look, ba_inj, h, hs, decide_false, if_false]
      exact h2
theorem run_insert_new {P : Program} (w : World) (mty kt et : TypeId) (r clock : Nat) (es : Array MapEntry) (s : ByteArray) (val : Value) (hm : P.underlying mty = some (.map kt et)) (hk : P.underlying kt = some .string) (hb : w.heap[r]? = some (.map es clock))
    (hn : Instr.findNow .string (.string s) es.toList 0 = some none) :
    (Instr.mapUpdate mty (.map (some r)) (.string s) val).run P w = .ok () { w with heap := w.heap.setIfInBounds r (.map (es.push { key := .string s, val := val, born := clock }) (clock + 1)) } := by
  have hc : (Instr.checkKey false 10000 kt (.string s)).run P w = .ok () w := MapKept.run_checkKey (k := .string s) hk (by simp [MapKept.IsKey]) false 9999
  simp [Instr.mapUpdate, run_underlying hm, MapKept.run_getObj_map hb, hc, MapKept.run_findKey hk hn, MapKept.run_setObj_map _ hb, Result.andThen]

/-- a map of mine in the block w.heap.size, and rows behind it -/
structure FormAt (w W : World) (es : List (Bs × Value)) (rows : List (List Value)) : Prop where
  chg : Chg [] w W
  size : W.heap.size = w.heap.size + 1 + rows.length
  map : W.heap[w.heap.size]? = some (.map (entL 0 es).toArray es.length)
  cell : ∀ j row, rows[j]? = some row → ∀ i, W.cell? ⟨w.heap.size + 1 + j, i, none⟩ = row[i]?
theorem FormAt.nil_ (w : World) : FormAt w (w.alloc (.map #[] 0)) [] [] :=
  ⟨(Chg.refl [] w).alloc _, by simp, heap_alloc_new w _, by simp⟩
theorem FormAt.ins {w W : World} {es : List (Bs × Value)} {rows : List (List Value)} (h : FormAt w W es rows) (k : Bs) (v : Value) (hk : look k es = none) :
    ∃ W', (Instr.mapUpdate 48 (.map (some w.heap.size)) (str k) v).run Tryd.prog W = .ok () W' ∧ FormAt w W' (es ++ [(k, v)]) rows := by
  obtain ⟨j, hj⟩ := findNow_ent k es 0 0
  rw [hk] at hj
  have hlt : w.heap.size < W.heap.size := by have := h.size; omega
  refine ⟨_, run_insert_new W 48 9 46 w.heap.size es.length _ _ v Tryd.underlying48 Tryd.underlying9 h.map (by simpa using hj), ?_, ?_, ?_, ?_⟩
  · exact ⟨h.chg.os, h.chg.tape, h.chg.output, by simpa using h.chg.size, fun b hb hn => by
      show (W.heap.setIfInBounds _ _)[b]? = _
      rw [Array.getElem?_setIfInBounds_ne (by omega)]; exact h.chg.block b hb hn⟩
  · simpa using h.size
  · show (W.heap.setIfInBounds _ _)[_]? = _
    rw [Array.getElem?_setIfInBounds_self_of_lt hlt, entL_app]
    simp
  · intro j row hr i
    rw [← h.cell j row hr i]
    apply World.cell?_of_block (w := W)
    show (W.heap.setIfInBounds _ _)[_]? = _
    rw [Array.getElem?_setIfInBounds_ne (by simp only; omega)]
theorem FormAt.row {w W : World} {es : List (Bs × Value)} {rows : List (List Value)} (h : FormAt w W es rows) (row : Array Value) (e : TypeId) : FormAt w (W.alloc (.cells row e)) es (rows ++ [row.toList]) := by
  refine ⟨h.chg.alloc _, by simp [h.size]; omega, ?_, ?_⟩
  · rw [Below.heap_alloc _ _ _ (by have := h.size; omega)]; exact h.map
  · intro j r hr i
    by_cases hj : j < rows.length
    · rw [List.getElem?_append_left hj] at hr
      rw [← h.cell j r hr i]
      exact World.cell?_of_block (w := W) (Below.heap_alloc _ _ _ (by have := h.size; simp only; omega))
    · have hj2 : j = rows.length := by
        have := (List.getElem?_eq_some_iff.1 hr).1
        simp at this; omega
      subst hj2
      rw [List.getElem?_append_right (Nat.le_refl _), Nat.sub_self] at hr
      simp only [List.getElem?_cons_zero, Option.some.injEq] at hr
      subst hr
      rw [← h.size, World.cell?_alloc_new]
      simp
def fA : Value := .func (.func 40) #[] #[]
def fP : Value := .func (.func 41) #[] #[]
def fV : Value := .func (.func 42) #[] #[]
/-- the forms, the rows from block n + 1 on -/
def formEnts (n : Nat) : List (Bs × Value) := [(nGive, .agg #[.int .i64 1, .slice (some ⟨n + 1, 0, none⟩) 1 1]), (nWork, .agg #[.int .i64 2, .slice (some ⟨n + 2, 0, none⟩) 1 1]), (nHear, .agg #[.int .i64 3, .slice (some ⟨n + 3, 0, none⟩) 1 1]), (nLose, .agg #[.int .i64 4, .slice (some ⟨n + 4, 0, none⟩) 1 1]), (nTwice, .agg #[.int .i64 5, .slice (some ⟨n + 5, 0, none⟩) 1 1]), (nBend, .agg #[.int .i64 6, .slice (some ⟨n + 6, 0, none⟩) 3 3]), (nTick, .agg #[.int .i64 8, .slice none 0 0]), (nFall, .agg #[.int .i64 9, .slice none 0 0]), (nTorn, .agg #[.int .i64 10, .slice (some ⟨n + 7, 0, none⟩) 2 2]), (nRise, .agg #[.int .i64 11, .slice none 0 0]), (nDown, .agg #[.int .i64 12, .slice (some ⟨n + 8, 0, none⟩) 1 1]), (nUp, .agg #[.int .i64 13, .slice (some ⟨n + 9, 0, none⟩) 1 1])]
def formRows : List (List Value) := [[fA], [fA], [fA], [fA], [fA], [fA, fP, fV], [fA, fP], [fA], [fA]]

set_option maxRecDepth 100000 in
set_option maxHeartbeats 4000000 in
theorem lineForms_c (w : World) : Calls Tryd.prog 22 #[] w (fun e w' => e = .returned (.map (some w.heap.size)) ∧ FormAt w w' (formEnts w.heap.size) formRows) := by
  have hmk := fun t => run_makeMap_plain (P := Tryd.prog) w t
  have h0 := Lib.hid (FormAt.nil_ w)
  go_enter Tryd.func22, Tryd.ntmps22
  go_wp2
  obtain ⟨W1, r1, g1⟩ := (h0.out.row #[.func (.func 40) #[] #[]] 50).ins nGive (.agg #[.int .i64 1, .slice (some ⟨w.heap.size + 1, 0, none⟩) 1 1]) rfl
  have h1 := Lib.hid g1
  clear g1
  simp only [str, nGive] at r1
  rw [r1]
  clear r1
  go_wp2
  obtain ⟨W2, r2, g2⟩ := (h1.out.row #[.func (.func 40) #[] #[]] 50).ins nWork (.agg #[.int .i64 2, .slice (some ⟨(W1).heap.size, 0, none⟩) 1 1]) rfl
  have h2 := Lib.hid g2
  clear g2
  simp only [str, nWork] at r2
  rw [r2]
  clear r2
  go_wp2
  obtain ⟨W3, r3, g3⟩ := (h2.out.row #[.func (.func 40) #[] #[]] 50).ins nHear (.agg #[.int .i64 3, .slice (some ⟨(W2).heap.size, 0, none⟩) 1 1]) rfl
  have h3 := Lib.hid g3
  clear g3
  simp only [str, nHear] at r3
  rw [r3]
  clear r3
  go_wp2
  obtain ⟨W4, r4, g4⟩ := (h3.out.row #[.func (.func 40) #[] #[]] 50).ins nLose (.agg #[.int .i64 4, .slice (some ⟨(W3).heap.size, 0, none⟩) 1 1]) rfl
  have h4 := Lib.hid g4
  clear g4
  simp only [str, nLose] at r4
  rw [r4]
  clear r4
  go_wp2
  obtain ⟨W5, r5, g5⟩ := (h4.out.row #[.func (.func 40) #[] #[]] 50).ins nTwice (.agg #[.int .i64 5, .slice (some ⟨(W4).heap.size, 0, none⟩) 1 1]) rfl
  have h5 := Lib.hid g5
  clear g5
  simp only [str, nTwice] at r5
  rw [r5]
  clear r5
  go_wp2
  obtain ⟨W6, r6, g6⟩ := (h5.out.row #[.func (.func 40) #[] #[], .func (.func 41) #[] #[], .func (.func 42) #[] #[]] 50).ins nBend (.agg #[.int .i64 6, .slice (some ⟨(W5).heap.size, 0, none⟩) 3 3]) rfl
  have h6 := Lib.hid g6
  clear g6
  simp only [str, nBend] at r6
  rw [r6]
  clear r6
  go_wp2
  obtain ⟨W7, r7, g7⟩ := h6.out.ins nTick (.agg #[.int .i64 8, .slice none 0 0]) rfl
  have h7 := Lib.hid g7
  clear g7
  simp only [str, nTick] at r7
  rw [r7]
  clear r7
  go_wp2
  obtain ⟨W8, r8, g8⟩ := h7.out.ins nFall (.agg #[.int .i64 9, .slice none 0 0]) rfl
  have h8 := Lib.hid g8
  clear g8
  simp only [str, nFall] at r8
  rw [r8]
  clear r8
  go_wp2
  obtain ⟨W9, r9, g9⟩ := (h8.out.row #[.func (.func 40) #[] #[], .func (.func 41) #[] #[]] 50).ins nTorn (.agg #[.int .i64 10, .slice (some ⟨(W8).heap.size, 0, none⟩) 2 2]) rfl
  have h9 := Lib.hid g9
  clear g9
  simp only [str, nTorn] at r9
  rw [r9]
  clear r9
  go_wp2
  obtain ⟨W10, r10, g10⟩ := h9.out.ins nRise (.agg #[.int .i64 11, .slice none 0 0]) rfl
  have h10 := Lib.hid g10
  clear g10
  simp only [str, nRise] at r10
  rw [r10]
  clear r10
  go_wp2
  obtain ⟨W11, r11, g11⟩ := (h10.out.row #[.func (.func 40) #[] #[]] 50).ins nDown (.agg #[.int .i64 12, .slice (some ⟨(W10).heap.size, 0, none⟩) 1 1]) rfl
  have h11 := Lib.hid g11
  clear g11
  simp only [str, nDown] at r11
  rw [r11]
  clear r11
  go_wp2
  obtain ⟨W12, r12, g12⟩ := (h11.out.row #[.func (.func 40) #[] #[]] 50).ins nUp (.agg #[.int .i64 13, .slice (some ⟨(W11).heap.size, 0, none⟩) 1 1]) rfl
  have h12 := Lib.hid g12
  clear g12
  simp only [str, nUp] at r12
  rw [r12]
  clear r12
  go_wp2
  go_ret
  have e1 : W1.heap.size = w.heap.size + 2 := h1.out.size
  have e2 : W2.heap.size = w.heap.size + 3 := h2.out.size
  have e3 : W3.heap.size = w.heap.size + 4 := h3.out.size
  have e4 : W4.heap.size = w.heap.size + 5 := h4.out.size
  have e5 : W5.heap.size = w.heap.size + 6 := h5.out.size
  have e8 : W8.heap.size = w.heap.size + 7 := h8.out.size
  have e10 : W10.heap.size = w.heap.size + 8 := h10.out.size
  have e11 : W11.heap.size = w.heap.size + 9 := h11.out.size
  have hf := h12.out
  rw [e1, e2, e3, e4, e5, e8, e10, e11] at hf
  exact ⟨rfl, hf⟩
end Go.Proofs.YtaiinlhobcclcaaDoor.Wk
