/-
  Memory words of my own, with no program in sight: 'Chg F w w'': outside the blocks F all that was there is as it was; 'Rp': a value of a Lean type that reads out of cells; marks.
-/
import Derived.WalkKit
import Derived.ProofKit
import Derived.Below
import Derived.Deep.Slices
import Derived.Deep.Draws
import Derived.Maps.AppendAt
import Derived.Laws.AppendOwnNone
import Derived.OwnWalk
set_option linter.unusedVariables false
set_option linter.unusedSimpArgs false
namespace Ow
open Go Go.RowKit Go.Deep

/-! ### the change of the world -/
structure Chg (F : List Nat) (w w' : World) : Prop where
  os : w'.os = w.os
  tape : w'.tape = w.tape
  output : w'.output = w.output
  size : w.heap.size ≤ w'.heap.size
  block : ∀ k, k < w.heap.size → k ∉ F → w'.heap[k]? = w.heap[k]?

section
variable {F G : List Nat} {w w1 w' : World}
theorem Chg.refl (F : List Nat) (w : World) : Chg F w w := ⟨rfl, rfl, rfl, Nat.le_refl _, fun _ _ _ => rfl⟩
theorem Chg.trans (h : Chg F w w1) (k : Chg G w1 w') (hG : ∀ g ∈ G, g ∈ F ∨ w.heap.size ≤ g) : Chg F w w' :=
  ⟨k.os.trans h.os, k.tape.trans h.tape, k.output.trans h.output, Nat.le_trans h.size k.size, fun i hi hn =>
    (k.block i (Nat.lt_of_lt_of_le hi h.size) (fun hg => by rcases hG i hg with h1 | h1; exact hn h1; omega)).trans (h.block i hi hn)⟩
theorem Chg.trans0 (h : Chg F w w1) (k : Chg [] w1 w') : Chg F w w' := h.trans k (fun g hg => by cases hg)
theorem Chg.mono (h : Chg F w w') (hF : ∀ g ∈ F, g ∈ G) : Chg G w w' := ⟨h.os, h.tape, h.output, h.size, fun k hk hn => h.block k hk (fun hf => hn (hF k hf))⟩
theorem Chg.of0 (h : Chg [] w w') : Chg F w w' := h.mono (fun g hg => by cases hg)
theorem Chg.drew (h : Chg F w w') : Chg F w w'.drew := ⟨h.os, h.tape, h.output, h.size, h.block⟩
theorem Chg.drewN (h : Chg F w w') (n : Nat) : Chg F w (w'.drewN n) := ⟨h.os, h.tape, h.output, h.size, h.block⟩
theorem Chg.un (n : Nat) (h : Chg F (w.drewN n) w') : Chg F w w' := ⟨h.os, h.tape, h.output, h.size, h.block⟩
theorem Chg.un1 (h : Chg F w.drew w') : Chg F w w' := ⟨h.os, h.tape, h.output, h.size, h.block⟩
theorem Chg.alloc (h : Chg F w w') (o : Obj) : Chg F w (w'.alloc o) :=
  h.trans0 ⟨rfl, rfl, rfl, by simp, fun k hk _ => Below.heap_alloc _ _ _ hk⟩
theorem Chg.setCell (h : Chg F w w') {p : Addr} (hp : p.block ∈ F ∨ w.heap.size ≤ p.block) (u : Value) : Chg F w (w'.setCell p u) :=
  h.trans (G := [p.block]) ⟨rfl, rfl, rfl, by simp [World.setCell], fun k _ hn => Below.heap_setCell _ _ _ _ (fun e => hn (by simp [e]))⟩ (fun g hg => by simp at hg; subst hg; exact hp)
theorem Chg.of_below (h : Below w.heap.size w w') : Chg F w w' := ⟨h.os, h.tape, h.output, h.size, fun k hk _ => h.block k hk⟩
theorem Chg.below (h : Chg [] w w') : Below w.heap.size w w' := ⟨h.os, h.tape, h.output, h.size, fun k hk => h.block k hk (by simp)⟩
theorem Chg.cell (h : Chg F w w') {p : Addr} (hp : p.block < w.heap.size) (hn : p.block ∉ F) : w'.cell? p = w.cell? p := World.cell?_of_block (w := w) (h.block p.block hp hn)
theorem Chg.cell0 (h : Chg [] w w') {p : Addr} {v : Value} (hv : w.cell? p = some v) : w'.cell? p = some v :=
  (World.cell?_of_block (w := w) (h.block p.block (World.block_lt_of_cell? _ _ hv) (by simp))).trans hv
theorem Chg.cells (h : Chg [] w w') : (∀ b o, b < w.heap.size → w'.cell? ⟨b, o, none⟩ = w.cell? ⟨b, o, none⟩) ∧ (∀ b o, b < w.heap.size → w'.frozen? ⟨b, o, none⟩ = w.frozen? ⟨b, o, none⟩) :=
  ⟨fun b o hb => World.cell?_of_block (w := w) (a := ⟨b, o, none⟩) (h.block b hb (by simp)), fun b o hb => World.frozen?_of_block (w := w) (a := ⟨b, o, none⟩) (h.block b hb (by simp))⟩
theorem Chg.grown {row : Option Nat} (h : Chg F w w1) (hg : w1.grownBy w' row) (hr : ∀ k, row = some k → k ∈ F ∨ w.heap.size ≤ k) : Chg F w w' :=
  h.trans (G := row.toList) ⟨hg.os, hg.tape, hg.output, hg.size, fun k hk hn => hg.block k hk (fun e => hn (by simp [← e]))⟩ (fun g hg' => hr g (by simpa using hg'))
end

/-! ### what reads -/
/-- an int of 64 bits -/
def I64 (n : Int) : Prop := -9223372036854775808 ≤ n ∧ n ≤ 9223372036854775807
theorem I64_0 : I64 0 := by unfold I64; omega

class Rp (α : Type) where
  sz : Nat
  R : World → α → List Value → List Nat → Prop
  len : ∀ {w x cs F}, R w x cs F → cs.length = sz
  keep : ∀ {w w' x cs F}, R w x cs F → (∀ b ∈ F, w'.heap[b]? = w.heap[b]?) → R w' x cs F
  lt : ∀ {w x cs F}, R w x cs F → ∀ b ∈ F, b < w.heap.size
  one : ∀ {w x cs F}, R w x cs F → ∀ u ∈ cs, u.oneCell' = true
open Rp (R sz)

theorem Rp.chg {α : Type} [Rp α] {w w' : World} {x : α} {cs : List Value} {F G : List Nat} (h : R w x cs F) (hc : Chg G w w') (hd : ∀ b ∈ F, b ∉ G) : R w' x cs F :=
  Rp.keep h (fun b hb => hc.block b (Rp.lt h b hb) (hd b hb))
theorem Rp.chg0 {α : Type} [Rp α] {w w' : World} {x : α} {cs : List Value} {F : List Nat} (h : R w x cs F) (hc : Chg [] w w') : R w' x cs F := Rp.chg h hc (by simp)
theorem Rp.heap {α : Type} [Rp α] {w w' : World} {x : α} {cs : List Value} {F : List Nat} (h : R w x cs F) (hc : w'.heap = w.heap) : R w' x cs F := Rp.keep h (fun b _ => by rw [hc])

instance : Rp Int where
  sz := 1
  R := fun _ x cs F => cs = [.int .i64 x] ∧ F = [] ∧ I64 x
  len := fun h => by rw [h.1]; rfl
  keep := fun h _ => h
  lt := fun h b hb => by rw [h.2.1] at hb; cases hb
  one := fun h u hu => by rw [h.1] at hu; simp at hu; subst hu; rfl
instance : Rp Bool where
  sz := 1
  R := fun _ x cs F => cs = [.bool x] ∧ F = []
  len := fun h => by rw [h.1]; rfl
  keep := fun h _ => h
  lt := fun h b hb => by rw [h.2] at hb; cases hb
  one := fun h u hu => by rw [h.1] at hu; simp at hu; subst hu; rfl
instance : Rp UInt8 where
  sz := 1
  R := fun _ x cs F => cs = [.int .u8 x.toNat] ∧ F = []
  len := fun h => by rw [h.1]; rfl
  keep := fun h _ => h
  lt := fun h b hb => by rw [h.2] at hb; cases hb
  one := fun h u hu => by rw [h.1] at hu; simp at hu; subst hu; rfl
instance : Rp ByteArray where
  sz := 1
  R := fun _ x cs F => cs = [.string x] ∧ F = [] ∧ x.size ≤ maxLen
  len := fun h => by rw [h.1]; rfl
  keep := fun h _ => h
  lt := fun h b hb => by rw [h.2.1] at hb; cases hb
  one := fun h u hu => by rw [h.1] at hu; simp at hu; subst hu; rfl
instance {α β : Type} [Rp α] [Rp β] : Rp (α × β) where
  sz := sz α + sz β
  R := fun w x cs F => ∃ c1 c2 F1 F2, cs = c1 ++ c2 ∧ F = F1 ++ F2 ∧ R w x.1 c1 F1 ∧ R w x.2 c2 F2
  len := fun ⟨c1, c2, F1, F2, h1, h2, h3, h4⟩ => by rw [h1, List.length_append, Rp.len h3, Rp.len h4]
  keep := fun ⟨c1, c2, F1, F2, h1, h2, h3, h4⟩ hk => ⟨c1, c2, F1, F2, h1, h2, Rp.keep h3 (fun b hb => hk b (by rw [h2]; simp [hb])), Rp.keep h4 (fun b hb => hk b (by rw [h2]; simp [hb]))⟩
  lt := fun ⟨c1, c2, F1, F2, h1, h2, h3, h4⟩ b hb => by rw [h2, List.mem_append] at hb; exact hb.elim (Rp.lt h3 b) (Rp.lt h4 b)
  one := fun ⟨c1, c2, F1, F2, h1, h2, h3, h4⟩ u hu => by rw [h1, List.mem_append] at hu; exact hu.elim (Rp.one h3 u) (Rp.one h4 u)

theorem u8_mark (q : Int) : (((UInt8.ofNat (q % 256).toNat).toNat : Nat) : Int) = q % 256 := by
  have h : (q % 256).toNat < 256 := by omega
  rw [UInt8.toNat_ofNat', Nat.mod_eq_of_lt h]
  omega
theorem u8_mark_cell (q : Int) : ([Value.int .u8 (((UInt8.ofNat (q % 256).toNat).toNat : Nat) : Int)] : List Value) = [Value.int .u8 (q % 256)] := by rw [u8_mark]

/-- a type as another one -/
@[reducible] def Rp.by_ {α β : Type} [Rp β] (f : α → β) : Rp α where
  sz := sz β
  R := fun w x cs F => R w (f x) cs F
  len := fun h => Rp.len h
  keep := fun h hk => Rp.keep h hk
  lt := fun h => Rp.lt h
  one := fun h => Rp.one h

/-- the cells of a slice that is not empty -/
structure Row {α : Type} [Rp α] (w : World) (xs : List α) (b off : Nat) (C : Nat → List Value) (Fs : Nat → List Nat) : Prop where
  lt : b < w.heap.size
  cell : ∀ i (h : i < xs.length), ∀ j, j < sz α → w.cell? ⟨b, off + i * sz α + j, none⟩ = (C i)[j]?
  elem : ∀ i (h : i < xs.length), R w xs[i] (C i) (Fs i)

def footOf (b n : Nat) (Fs : Nat → List Nat) : List Nat := b :: (List.range n).flatMap Fs

def RL {α : Type} [Rp α] (w : World) (xs : List α) (v : Value) (F : List Nat) : Prop :=
  ∃ (A : Option Addr) (cap : Nat), v = .slice A xs.length cap ∧ xs.length ≤ cap ∧ cap ≤ maxLen ∧
    ((xs = [] ∧ F = [] ∧ (A = none → cap = 0)) ∨ ∃ b off C Fs, A = some ⟨b, off, none⟩ ∧ F = footOf b xs.length Fs ∧ xs ≠ [] ∧ Row w xs b off C Fs)

theorem Row.keep {α : Type} [Rp α] {w w' : World} {xs : List α} {b off : Nat} {C : Nat → List Value} {Fs : Nat → List Nat} (h : Row w xs b off C Fs)
    (hk : ∀ g ∈ footOf b xs.length Fs, w'.heap[g]? = w.heap[g]?) : Row w' xs b off C Fs := by
  have hb := hk b (by simp [footOf])
  refine ⟨?_, fun i hi j hj => (World.cell?_of_block (w := w) hb).trans (h.cell i hi j hj), fun i hi => Rp.keep (h.elem i hi) (fun g hg => hk g ?_)⟩
  · rcases Nat.lt_or_ge b w'.heap.size with h1 | h1
    · exact h1
    · rw [Array.getElem?_eq_none h1, Array.getElem?_eq_getElem h.lt] at hb; cases hb
  · simp only [footOf, List.mem_cons, List.mem_flatMap, List.mem_range]
    exact Or.inr ⟨i, hi, hg⟩

instance {α : Type} [Rp α] : Rp (List α) where
  sz := 1
  R := fun w xs cs F => ∃ v, cs = [v] ∧ RL w xs v F
  len := fun ⟨v, h, _⟩ => by rw [h]; rfl
  keep := fun ⟨v, h, A, cap, h1, h2, h3, h4⟩ hk => by
    refine ⟨v, h, A, cap, h1, h2, h3, ?_⟩
    rcases h4 with h4 | ⟨b, off, C, Fs, e1, e2, e3, e4⟩
    · exact Or.inl h4
    · exact Or.inr ⟨b, off, C, Fs, e1, e2, e3, e4.keep (by rw [← e2]; exact hk)⟩
  lt := fun ⟨v, h, A, cap, h1, h2, h3, h4⟩ b hb => by
    rcases h4 with ⟨_, h4, _⟩ | ⟨b', off, C, Fs, e1, e2, e3, e4⟩
    · rw [h4] at hb; cases hb
    · rw [e2] at hb
      simp only [footOf, List.mem_cons, List.mem_flatMap, List.mem_range] at hb
      rcases hb with rfl | ⟨i, hi, hg⟩
      · exact e4.lt
      · exact Rp.lt (e4.elem i hi) b hg
  one := fun ⟨v, h, A, cap, h1, _⟩ u hu => by rw [h] at hu; simp at hu; subst hu; rw [h1]; rfl

theorem R_int {w : World} {x : Int} {cs : List Value} {F : List Nat} : R w x cs F ↔ cs = [.int .i64 x] ∧ F = [] ∧ I64 x := Iff.rfl
theorem R_bool {w : World} {x : Bool} {cs : List Value} {F : List Nat} : R w x cs F ↔ cs = [.bool x] ∧ F = [] := Iff.rfl
theorem R_u8 {w : World} {x : UInt8} {cs : List Value} {F : List Nat} : R w x cs F ↔ cs = [.int .u8 x.toNat] ∧ F = [] := Iff.rfl
theorem R_str {w : World} {x : ByteArray} {cs : List Value} {F : List Nat} : R w x cs F ↔ cs = [.string x] ∧ F = [] ∧ x.size ≤ maxLen := Iff.rfl
theorem R_list {α : Type} [Rp α] {w : World} {x : List α} {cs : List Value} {F : List Nat} : R w x cs F ↔ ∃ v, cs = [v] ∧ RL w x v F := Iff.rfl
theorem R_pair {α β : Type} [Rp α] [Rp β] {w : World} {x : α × β} {cs : List Value} {F : List Nat} : R w x cs F ↔ ∃ c1 c2 F1 F2, cs = c1 ++ c2 ∧ F = F1 ++ F2 ∧ R w x.1 c1 F1 ∧ R w x.2 c2 F2 := Iff.rfl
theorem sz_int : sz Int = 1 := rfl
theorem sz_bool : sz Bool = 1 := rfl
theorem sz_u8 : sz UInt8 = 1 := rfl
theorem sz_str : sz ByteArray = 1 := rfl
theorem sz_list {α : Type} [Rp α] : sz (List α) = 1 := rfl
theorem sz_pair {α β : Type} [Rp α] [Rp β] : sz (α × β) = sz α + sz β := rfl

section
variable {α : Type} [Rp α] {w w' : World} {xs : List α} {v : Value} {F G : List Nat}
theorem RL.rp (h : RL w xs v F) : R w xs [v] F := ⟨v, rfl, h⟩
theorem RL.of (h : R w xs [v] F) : RL w xs v F := by obtain ⟨v', h1, h2⟩ := h; simp at h1; subst h1; exact h2
theorem RL.keep (h : RL w xs v F) (hk : ∀ b ∈ F, w'.heap[b]? = w.heap[b]?) : RL w' xs v F := RL.of (Rp.keep h.rp hk)
theorem RL.chg (h : RL w xs v F) (hc : Chg G w w') (hd : ∀ b ∈ F, b ∉ G) : RL w' xs v F := RL.of (Rp.chg h.rp hc hd)
theorem RL.chg0 (h : RL w xs v F) (hc : Chg [] w w') : RL w' xs v F := RL.of (Rp.chg0 h.rp hc)
theorem RL.same (h : RL w xs v F) (e : w'.heap = w.heap) : RL w' xs v F := h.keep (fun b _ => by rw [e])
theorem RL.lt (h : RL w xs v F) : ∀ b ∈ F, b < w.heap.size := Rp.lt h.rp
/-- its form -/
theorem RL.form (h : RL w xs v F) : ∃ A cap, v = .slice A xs.length cap ∧ xs.length ≤ cap ∧ cap ≤ maxLen := by
  obtain ⟨A, cap, h1, h2, h3, _⟩ := h
  exact ⟨A, cap, h1, h2, h3⟩
/-- its element -/
theorem RL.elem (h : RL w xs v F) {i : Nat} (hi : i < xs.length) : ∃ b off cap cs Fi, v = .slice (some ⟨b, off, none⟩) xs.length cap ∧ R w xs[i] cs Fi ∧ (∀ j, j < sz α → w.cell? ⟨b, off + i * sz α + j, none⟩ = cs[j]?) ∧ (∀ g ∈ Fi, g ∈ F) := by
  obtain ⟨A, cap, h1, h2, h3, h4⟩ := h
  rcases h4 with ⟨rfl, _⟩ | ⟨b, off, C, Fs, rfl, rfl, e3, e4⟩
  · simp at hi
  · refine ⟨b, off, cap, C i, Fs i, h1, e4.elem i hi, e4.cell i hi, fun g hg => ?_⟩
    simp only [footOf, List.mem_cons, List.mem_flatMap, List.mem_range]
    exact Or.inr ⟨i, hi, hg⟩
theorem RL.nil_ : RL w ([] : List α) (.slice none 0 0) [] := ⟨none, 0, rfl, Nat.le_refl _, by unfold maxLen; omega, Or.inl ⟨rfl, rfl, fun _ => rfl⟩⟩
end

/-! ### an element opened, and shut again turned -/
theorem nodup_foot {b n : Nat} {Fs : Nat → List Nat} (h : (footOf b n Fs).Nodup) :
    (∀ i, i < n → b ∉ Fs i) ∧ (∀ i, i < n → (Fs i).Nodup) ∧ ∀ i j, i < n → j < n → i ≠ j → ∀ g ∈ Fs i, g ∉ Fs j := by
  rw [footOf, List.nodup_cons] at h
  obtain ⟨h1, h2⟩ := h
  refine ⟨fun i hi hg => h1 (by simp only [List.mem_flatMap, List.mem_range]; exact ⟨i, hi, hg⟩), ?_⟩
  rw [List.flatMap_def, List.Nodup, List.pairwise_flatten] at h2
  obtain ⟨h3, h4⟩ := h2
  refine ⟨fun i hi => h3 _ (List.mem_map.2 ⟨i, List.mem_range.2 hi, rfl⟩), ?_⟩
  have key : ∀ i j, i < j → j < n → ∀ g ∈ Fs i, g ∉ Fs j := by
    intro i j hij hj g hg hg'
    rw [List.pairwise_map] at h4
    have h5 := List.pairwise_iff_getElem.1 h4 i j (by simp; omega) (by simp; omega) hij
    simp only [List.getElem_range] at h5
    exact h5 g hg g hg' rfl
  intro i j hi hj hne g hg hg'
  rcases Nat.lt_or_gt_of_ne hne with h | h
  · exact key i j h hj g hg hg'
  · exact key j i h hi g hg' hg

/-- blocks of my own: each just one row of cells, none frozen, no two alike -/
structure Own (w : World) (F : List Nat) : Prop where
  nodup : F.Nodup
  free : ∀ b ∈ F, ∃ c e, w.heap[b]? = some (.cells c e (0, 0))
theorem Own.nil_ (w : World) : Own w [] := ⟨List.nodup_nil, fun b hb => by cases hb⟩
theorem Own.frozen {w : World} {F : List Nat} (h : Own w F) {b o : Nat} (hb : b ∈ F) : w.frozen? ⟨b, o, none⟩ = false := by
  obtain ⟨c, e, he⟩ := h.free b hb
  simp [World.frozen?, he]
theorem Own.keep {w w' : World} {F : List Nat} (h : Own w F) (hk : ∀ b ∈ F, w'.heap[b]? = w.heap[b]?) : Own w' F :=
  ⟨h.nodup, fun b hb => by obtain ⟨c, e, he⟩ := h.free b hb; exact ⟨c, e, (hk b hb).trans he⟩⟩
theorem Own.lt {w : World} {F : List Nat} (h : Own w F) : ∀ b ∈ F, b < w.heap.size := fun b hb => by
  obtain ⟨c, e, he⟩ := h.free b hb
  rcases Nat.lt_or_ge b w.heap.size with h1 | h1
  · exact h1
  · rw [Array.getElem?_eq_none h1] at he; cases he
theorem Own.chg {w w' : World} {F G : List Nat} (h : Own w F) (hc : Chg G w w') (hd : ∀ b ∈ F, b ∉ G) : Own w' F :=
  h.keep (fun b hb => hc.block b (h.lt b hb) (hd b hb))
theorem Own.chg0 {w w' : World} {F : List Nat} (h : Own w F) (hc : Chg [] w w') : Own w' F := h.chg hc (by simp)
theorem Own.setCell {w : World} {F : List Nat} (h : Own w F) (p : Addr) (u : Value) : Own (w.setCell p u) F :=
  ⟨h.nodup, fun b hb => by
    obtain ⟨c, e, he⟩ := h.free b hb
    by_cases hp : p.block = b
    · simp only [World.setCell, Array.getElem?_modify, hp, if_true, he, Option.map_some]
      exact ⟨_, _, rfl⟩
    · exact ⟨c, e, (Below.heap_setCell w p u b (by omega)).trans he⟩⟩
theorem Own.left {w : World} {F G : List Nat} (h : Own w (F ++ G)) : Own w F := ⟨(List.nodup_append.1 h.nodup).1, fun b hb => h.free b (by simp [hb])⟩
theorem Own.right {w : World} {F G : List Nat} (h : Own w (F ++ G)) : Own w G := ⟨(List.nodup_append.1 h.nodup).2.1, fun b hb => h.free b (by simp [hb])⟩
theorem Own.apart {w : World} {F G : List Nat} (h : Own w (F ++ G)) : ∀ b ∈ F, b ∉ G := fun b hb hg => (List.nodup_append.1 h.nodup).2.2 b hb b hg rfl
theorem Own.append {w : World} {F G : List Nat} (h : Own w F) (k : Own w G) (hd : ∀ b ∈ F, b ∉ G) : Own w (F ++ G) :=
  ⟨List.nodup_append.2 ⟨h.nodup, k.nodup, fun a ha b hb e => hd a ha (e ▸ hb)⟩, fun b hb => by
    rw [List.mem_append] at hb; exact hb.elim (h.free b) (k.free b)⟩
theorem Own.over {w w' : World} {F G : List Nat} (h : Own w F) (k : Own w' G) (hc : Chg G w w') : Own w' F :=
  ⟨h.nodup, fun b hb => by
    by_cases hg : b ∈ G
    · exact k.free b hg
    · obtain ⟨c, e, he⟩ := h.free b hb
      exact ⟨c, e, (hc.block b (h.lt b hb) hg).trans he⟩⟩
theorem Own.alloc {w : World} {F : List Nat} (h : Own w F) (o : Obj) : Own (w.alloc o) F :=
  h.keep (fun b hb => Below.heap_alloc _ _ _ (h.lt b hb))
theorem Own.flat2 {w : World} {A B C : List Nat} (h : Own w ((A ++ B) ++ C)) : Own w (A ++ (B ++ C)) := by rw [List.append_assoc] at h; exact h
theorem Own.flat3 {w : World} {A B C D : List Nat} (h : Own w ((A ++ (B ++ C)) ++ D)) : Own w (A ++ (B ++ (C ++ D))) := by rw [List.append_assoc, List.append_assoc] at h; exact h

section
variable {α : Type} [Rp α] {w w' : World} {xs : List α} {v : Value} {F G : List Nat}
/-- an element of a list of my own, opened: the row's block, its place, its cells, its blocks; and the way back. -/
theorem RL.open_ (h : RL w xs v F) (hn : F.Nodup) {i : Nat} (hi : i < xs.length) :
    ∃ b off cap cs Fi, v = .slice (some ⟨b, off, none⟩) xs.length cap ∧ R w xs[i] cs Fi ∧ (∀ j, j < sz α → w.cell? ⟨b, off + i * sz α + j, none⟩ = cs[j]?) ∧
      (∀ g ∈ Fi, g ∈ F) ∧ b ∈ F ∧ b ∉ Fi ∧ Fi.Nodup ∧
      ∀ (w' : World) (x' : α) (cs' : List Value), R w' x' cs' Fi → (∀ j, j < sz α → w'.cell? ⟨b, off + i * sz α + j, none⟩ = cs'[j]?) →
        (∀ g ∈ F, g ≠ b → g ∉ Fi → w'.heap[g]? = w.heap[g]?) → (∀ o, (o < off + i * sz α ∨ off + (i + 1) * sz α ≤ o) → w'.cell? ⟨b, o, none⟩ = w.cell? ⟨b, o, none⟩) → w.heap.size ≤ w'.heap.size →
        RL w' (xs.set i x') v F := by
  obtain ⟨A, cap, h1, h2, h3, h4⟩ := h
  rcases h4 with ⟨rfl, _⟩ | ⟨b, off, C, Fs, rfl, rfl, e3, e4⟩
  · simp at hi
  obtain ⟨n1, n2, n3⟩ := nodup_foot hn
  refine ⟨b, off, cap, C i, Fs i, h1, e4.elem i hi, e4.cell i hi, fun g hg => ?_, by simp [footOf], n1 i hi, n2 i hi, ?_⟩
  · simp only [footOf, List.mem_cons, List.mem_flatMap, List.mem_range]
    exact Or.inr ⟨i, hi, hg⟩
  intro w' x' cs' hx hcell hoth hrow hsz
  refine ⟨some ⟨b, off, none⟩, cap, by simpa using h1, by simpa using h2, h3, Or.inr ⟨b, off, fun k => if k = i then cs' else C k, Fs, rfl, by simp, ?_, ?_⟩⟩
  · intro e; apply e3; exact List.eq_nil_of_length_eq_zero (by have := congrArg List.length e; simpa using this)
  refine ⟨Nat.lt_of_lt_of_le e4.lt hsz, fun k hk j hj => ?_, fun k hk => ?_⟩
  · rw [List.length_set] at hk
    by_cases hki : k = i
    · subst hki; simp only [if_true]; exact hcell j hj
    · simp only [hki, if_false]
      rw [hrow _ ?_]
      · exact e4.cell k hk j hj
      · rcases Nat.lt_or_gt_of_ne hki with h | h
        · left
          have : (k + 1) * sz α ≤ i * sz α := Nat.mul_le_mul_right _ h
          rw [Nat.add_mul] at this; omega
        · right
          have : (i + 1) * sz α ≤ k * sz α := Nat.mul_le_mul_right _ h
          omega
  · rw [List.length_set] at hk
    by_cases hki : k = i
    · subst hki; simp only [if_true, List.getElem_set_self]; exact hx
    · simp only [hki, if_false, List.getElem_set_ne (Ne.symm hki)]
      refine Rp.keep (e4.elem k hk) (fun g hg => hoth g ?_ (fun e => n1 k hk (e ▸ hg)) (fun e => n3 k i hk hi hki g hg e))
      simp only [footOf, List.mem_cons, List.mem_flatMap, List.mem_range]
      exact Or.inr ⟨k, hk, hg⟩
end

/-- the cells of one element of a row of my own, as the world turns in it -/
structure Elt (w w' : World) (b lo : Nat) (cs : List Value) (Fi F : List Nat) : Prop where
  cell : ∀ j, j < cs.length → w'.cell? ⟨b, lo + j, none⟩ = cs[j]?
  oth : ∀ g ∈ F, g ≠ b → g ∉ Fi → w'.heap[g]? = w.heap[g]?
  row : ∀ o, (o < lo ∨ lo + cs.length ≤ o) → w'.cell? ⟨b, o, none⟩ = w.cell? ⟨b, o, none⟩
  size : w.heap.size ≤ w'.heap.size
theorem Elt.store {w w' : World} {b lo : Nat} {cs : List Value} {Fi F : List Nat} (h : Elt w w' b lo cs Fi F) (j : Nat) (hj : j < cs.length) (u : Value) :
    Elt w (w'.setCell ⟨b, lo + j, none⟩ u) b lo (cs.set j u) Fi F := by
  have hcj : w'.cell? ⟨b, lo + j, none⟩ = some cs[j] := by rw [h.cell j hj, List.getElem?_eq_getElem hj]
  refine ⟨fun i hi => ?_, fun g hg hgb hgF => (Below.heap_setCell _ _ _ _ hgb).trans (h.oth g hg hgb hgF), fun o ho => ?_, by simpa using h.size⟩
  · rw [List.length_set] at hi
    by_cases hij : j = i
    · subst hij
      rw [World.cell?_setCell_same _ _ _ hcj, List.getElem?_set_self hi]
    · rw [World.cell?_setCell_other _ _ _ _ (by intro e; injection e with _ e; omega), List.getElem?_set_ne hij]
      exact h.cell i hi
  · rw [List.length_set] at ho
    rw [World.cell?_setCell_other _ _ _ _ (by intro e; injection e with _ e; omega)]
    exact h.row o ho
theorem Elt.store0 {w w' : World} {b lo : Nat} {cs : List Value} {Fi F : List Nat} (h : Elt w w' b lo cs Fi F) (hj : 0 < cs.length) (u : Value) :
    Elt w (w'.setCell ⟨b, lo, none⟩ u) b lo (cs.set 0 u) Fi F := h.store 0 hj u
theorem Elt.call {w w' w1 : World} {b lo : Nat} {cs : List Value} {Fi F G : List Nat} (h : Elt w w' b lo cs Fi F) (hF : ∀ g ∈ F, g < w.heap.size) (hbF : b ∈ F) (hb : b ∉ Fi) (hc : Chg G w' w1) (hG : ∀ g ∈ G, g ∈ Fi) : Elt w w1 b lo cs Fi F := by
  have e : w1.heap[b]? = w'.heap[b]? := hc.block b (Nat.lt_of_lt_of_le (hF b hbF) h.size) (fun hg => hb (hG b hg))
  exact ⟨fun j hj => (World.cell?_of_block (w := w') e).trans (h.cell j hj), fun g hg hgb hgF => (hc.block g (Nat.lt_of_lt_of_le (hF g hg) h.size) (fun h' => hgF (hG g h'))).trans (h.oth g hg hgb hgF),
    fun o ho => (World.cell?_of_block (w := w') e).trans (h.row o ho), Nat.le_trans h.size hc.size⟩

section
variable {α : Type} [Rp α] {w w' : World} {xs : List α} {v : Value} {F G : List Nat}
theorem RL.open_elt (h : RL w xs v F) (hn : F.Nodup) {i : Nat} (hi : i < xs.length) :
    ∃ b off cap cs Fi, v = .slice (some ⟨b, off, none⟩) xs.length cap ∧ R w xs[i] cs Fi ∧ (∀ j, j < sz α → w.cell? ⟨b, off + i * sz α + j, none⟩ = cs[j]?) ∧
      (∀ g ∈ Fi, g ∈ F) ∧ b ∈ F ∧ b ∉ Fi ∧ Fi.Nodup ∧ Elt w w b (off + i * sz α) cs Fi F ∧
      ∀ (w' : World) (x' : α) (cs' : List Value), R w' x' cs' Fi → Elt w w' b (off + i * sz α) cs' Fi F → RL w' (xs.set i x') v F := by
  obtain ⟨b, off, cap, cs, Fi, h1, h2, h3, h4, h5, h6, h7, h8⟩ := h.open_ hn hi
  have hl := Rp.len h2
  refine ⟨b, off, cap, cs, Fi, h1, h2, h3, h4, h5, h6, h7, ⟨fun j hj => h3 j (by omega), fun _ _ _ _ => rfl, fun _ _ => rfl, Nat.le_refl _⟩, fun w' x' cs' hx hE => ?_⟩
  have hl' := Rp.len hx
  refine h8 w' x' cs' hx (fun j hj => hE.cell j (by omega)) hE.oth (fun o ho => hE.row o ?_) hE.size
  rw [hl']
  rw [Nat.add_mul, Nat.one_mul] at ho
  omega
end

/-! ### lists that are made and filled -/
class Zr (α : Type) [Rp α] where
  zero : α
  zcells : List Value
  zr : ∀ w, R w zero zcells []
instance : Zr Int := ⟨0, [.int .i64 0], fun _ => ⟨rfl, rfl, by unfold I64; omega⟩⟩
instance : Zr Bool := ⟨false, [.bool false], fun _ => ⟨rfl, rfl⟩⟩
instance : Zr UInt8 := ⟨0, [.int .u8 0], fun _ => ⟨rfl, rfl⟩⟩
instance : Zr ByteArray := ⟨ByteArray.empty, [.string ByteArray.empty], fun _ => ⟨rfl, rfl, by simp [maxLen]⟩⟩
instance {α : Type} [Rp α] : Zr (List α) := ⟨[], [.slice none 0 0], fun _ => ⟨_, rfl, RL.nil_⟩⟩
open Zr (zero zcells zr)

theorem flatMap_nil_fun (n : Nat) : (List.range n).flatMap (fun _ => ([] : List Nat)) = [] := by simp

theorem getElem?_div_block (C : Nat → List Value) (s : Nat) (hs : 0 < s) (hC : ∀ i, (C i).length = s) (n i j : Nat) (hi : i < n) (hj : j < s) :
    ((List.range n).flatMap C)[i * s + j]? = (C i)[j]? := by
  induction n with
  | zero => omega
  | succ n ih =>
    have hlen : ((List.range n).flatMap C).length = n * s := by
      clear ih hi
      induction n with
      | zero => simp
      | succ n ih2 => simp [List.range_succ, hC, Nat.add_mul, ih2]
    rw [List.range_succ, List.flatMap_append, List.flatMap_singleton]
    by_cases h : i < n
    · rw [List.getElem?_append_left]
      · exact ih h
      · rw [hlen]
        have : (i + 1) * s ≤ n * s := Nat.mul_le_mul_right _ h
        rw [Nat.add_mul] at this; omega
    · have : i = n := by omega
      subst this
      rw [List.getElem?_append_right (by omega), hlen, show i * s + j - i * s = j by omega]

theorem RL.made {α : Type} [Rp α] [Zr α] {w : World} {base : Nat} {e : TypeId} {g n : Nat} {zs : Array Value} (hs : 0 < sz α)
    (h : w.ownsRow base e (sz α) (.slice (some ⟨g, 0, none⟩) n n) n (madeCells zs (n * sz α)).toList) (hz : zs.toList = zcells α) :
    ∃ F, RL w (List.replicate n (zero : α)) (.slice (some ⟨g, 0, none⟩) n n) F ∧ Own w F ∧ ∀ b ∈ F, b = g := by
  obtain ⟨h1, h2⟩ := h
  rcases h2 with ⟨h2, _⟩ | ⟨g', cap, cur, hv, _, hb, _, hm, hc, ht⟩
  · simp at h2
  · simp only [Value.slice.injEq, Option.some.injEq, Addr.mk.injEq, and_true, true_and] at hv
    obtain ⟨rfl, rfl⟩ := hv
    by_cases hn : n = 0
    · subst hn
      exact ⟨[], ⟨some ⟨g, 0, none⟩, 0, by simp, by simp, hm, Or.inl ⟨by simp, rfl, by simp⟩⟩, Own.nil_ _, by simp⟩
    · have hlt : g < w.heap.size := by
        rcases Nat.lt_or_ge g w.heap.size with h3 | h3
        · exact h3
        · rw [Array.getElem?_eq_none h3] at hb; cases hb
      refine ⟨[g], ⟨some ⟨g, 0, none⟩, n, by simp, by simp, hm, Or.inr ⟨g, 0, fun _ => zcells α, fun _ => [], rfl, by simp [footOf], by simp [hn], hlt, ?_, ?_⟩⟩, ⟨by simp, fun b hb' => ?_⟩, by simp⟩
      · intro i hi j hj
        simp only [List.length_replicate] at hi
        have hzl : (zcells α).length = sz α := Rp.len (zr w)
        have hij : i * sz α + j < n * sz α := by
          have : (i + 1) * sz α ≤ n * sz α := Nat.mul_le_mul_right _ hi
          rw [Nat.add_mul] at this; omega
        have hcur : cur.toList = (madeCells zs (n * sz α)).toList := by rw [← ht, List.take_of_length_le (by simp [hc])]
        have hcell : w.cell? ⟨g, 0 + i * sz α + j, none⟩ = cur[i * sz α + j]? := by simp [World.cell?, hb]
        rw [hcell, ← Array.getElem?_toList, hcur]
        simp only [madeCells, Array.getElem?_toList, Array.getElem?_map, Array.getElem?_range, hij, if_true, Option.map_some]
        have hsz : zs.size = sz α := by rw [← hzl, ← hz]; simp
        have hmod : (i * sz α + j) % zs.size = j := by rw [hsz, Nat.mul_comm, Nat.mul_add_mod, Nat.mod_eq_of_lt hj]
        rw [hmod, ← hz, Array.getElem?_toList]
        rw [getElem!_pos zs j (by omega), Array.getElem?_eq_getElem (by omega)]
      · intro i hi
        simp only [List.getElem_replicate]
        exact zr w
      · simp at hb'; subst hb'; exact ⟨_, _, hb⟩

section
variable {α : Type} [Rp α] {w w' : World} {xs : List α} {v : Value} {F G : List Nat}
theorem RL.put (h : RL w xs v F) (hO : Own w F) {i : Nat} (hi : i < xs.length) :
    ∃ b off cap cs Fi, v = .slice (some ⟨b, off, none⟩) xs.length cap ∧ R w xs[i] cs Fi ∧ (∀ j, j < sz α → w.cell? ⟨b, off + i * sz α + j, none⟩ = cs[j]?) ∧
      (∀ g ∈ Fi, g ∈ F) ∧ b ∈ F ∧ b ∉ Fi ∧ Elt w w b (off + i * sz α) cs Fi F ∧
      ∀ (w' : World) (x' : α) (cs' : List Value) (Fi' : List Nat), R w' x' cs' Fi' → Elt w w' b (off + i * sz α) cs' Fi F → Own w' F → Own w' Fi' → (∀ g ∈ Fi', g ∉ F) →
        ∃ F', RL w' (xs.set i x') v F' ∧ Own w' F' ∧ ∀ g ∈ F', g ∈ F ∨ g ∈ Fi' := by
  have hn := hO.nodup
  obtain ⟨A, cap, h1, h2, h3, h4⟩ := h
  rcases h4 with ⟨rfl, _⟩ | ⟨b, off, C, Fs, rfl, rfl, e3, e4⟩
  · simp at hi
  obtain ⟨n1, n2, n3⟩ := nodup_foot hn
  have inF : ∀ k, k < xs.length → ∀ g ∈ Fs k, g ∈ footOf b xs.length Fs := fun k hk g hg => by
    simp only [footOf, List.mem_cons, List.mem_flatMap, List.mem_range]
    exact Or.inr ⟨k, hk, hg⟩
  have hl := Rp.len (e4.elem i hi)
  refine ⟨b, off, cap, C i, Fs i, h1, e4.elem i hi, e4.cell i hi, inF i hi, by simp [footOf], n1 i hi, ⟨fun j hj => e4.cell i hi j (by omega), fun _ _ _ _ => rfl, fun _ _ => rfl, Nat.le_refl _⟩, ?_⟩
  intro w' x' cs' Fi' hx hE hO1 hO2 hnew
  have hl' := Rp.len hx
  have row : Row w' (xs.set i x') b off (fun k => if k = i then cs' else C k) (fun k => if k = i then Fi' else Fs k) := by
    refine ⟨Nat.lt_of_lt_of_le e4.lt hE.size, fun k hk j hj => ?_, fun k hk => ?_⟩
    · rw [List.length_set] at hk
      by_cases hki : k = i
      · subst hki; simp only [if_true]; exact hE.cell j (by omega)
      · simp only [hki, if_false]
        rw [hE.row _ ?_]
        · exact e4.cell k hk j hj
        · rw [hl']
          rcases Nat.lt_or_gt_of_ne hki with h | h
          · left
            have : (k + 1) * sz α ≤ i * sz α := Nat.mul_le_mul_right _ h
            rw [Nat.add_mul] at this; omega
          · right
            have : (i + 1) * sz α ≤ k * sz α := Nat.mul_le_mul_right _ h
            rw [Nat.add_mul] at this; omega
    · rw [List.length_set] at hk
      by_cases hki : k = i
      · subst hki; simp only [if_true, List.getElem_set_self]; exact hx
      · simp only [hki, if_false, List.getElem_set_ne (Ne.symm hki)]
        exact Rp.keep (e4.elem k hk) (fun g hg => hE.oth g (inF k hk g hg) (fun e => n1 k hk (e ▸ hg)) (fun e => n3 k i hk hi hki g hg e))
  refine ⟨footOf b xs.length (fun k => if k = i then Fi' else Fs k), ⟨some ⟨b, off, none⟩, cap, by simpa using h1, by simpa using h2, h3, Or.inr ⟨b, off, _, _, rfl, by simp, ?_, row⟩⟩, ⟨?_, ?_⟩, ?_⟩
  · intro e; apply e3; exact List.eq_nil_of_length_eq_zero (by have := congrArg List.length e; simpa using this)
  · rw [footOf, List.nodup_cons]
    refine ⟨?_, ?_⟩
    · simp only [List.mem_flatMap, List.mem_range, not_exists, not_and]
      intro k hk
      by_cases hki : k = i
      · simp only [hki, if_true]; exact fun hb => hnew b hb (by simp [footOf])
      · simp only [hki, if_false]; exact n1 k hk
    · rw [List.flatMap_def, List.Nodup, List.pairwise_flatten]
      refine ⟨?_, ?_⟩
      · intro l hl
        obtain ⟨k, hk, rfl⟩ := List.mem_map.1 hl
        by_cases hki : k = i
        · simp only [hki, if_true]; exact hO2.nodup
        · simp only [hki, if_false]; exact n2 k (List.mem_range.1 hk)
      · rw [List.pairwise_map]
        refine List.Pairwise.imp_of_mem ?_ (List.nodup_range (n := xs.length))
        intro a c ha hc hac x hx y hy hxy
        subst hxy
        have ha' := List.mem_range.1 ha
        have hc' := List.mem_range.1 hc
        by_cases h1' : a = i
        · by_cases h2' : c = i
          · omega
          · simp only [h1', if_true] at hx
            simp only [h2', if_false] at hy
            exact hnew x hx (inF c hc' x hy)
        · simp only [h1', if_false] at hx
          by_cases h2' : c = i
          · simp only [h2', if_true] at hy
            exact hnew x hy (inF a ha' x hx)
          · simp only [h2', if_false] at hy
            exact n3 a c ha' hc' hac x hx hy
  · intro g hg
    simp only [footOf, List.mem_cons, List.mem_flatMap, List.mem_range] at hg
    rcases hg with rfl | ⟨k, hk, hg⟩
    · exact hO1.free g (by simp [footOf])
    · by_cases hki : k = i
      · simp only [hki, if_true] at hg; exact hO2.free g hg
      · simp only [hki, if_false] at hg; exact hO1.free g (inF k hk g hg)
  · intro g hg
    simp only [footOf, List.mem_cons, List.mem_flatMap, List.mem_range] at hg
    rcases hg with rfl | ⟨k, hk, hg⟩
    · left; simp [footOf]
    · by_cases hki : k = i
      · simp only [hki, if_true] at hg; exact Or.inr hg
      · simp only [hki, if_false] at hg; exact Or.inl (inF k hk g hg)
end

/-- a list in the midst of its filling -/
def fillL {α : Type} [Rp α] [Zr α] (xs : List α) (i : Nat) : List α := xs.take i ++ List.replicate (xs.length - i) (zero : α)
section
variable {α : Type} [Rp α] [Zr α]
@[simp] theorem fillL_length (xs : List α) (i : Nat) : (fillL xs i).length = xs.length := by simp [fillL]; omega
theorem fillL_zero (xs : List α) : fillL xs 0 = List.replicate xs.length (zero : α) := by simp [fillL]
theorem fillL_all (xs : List α) {i : Nat} (h : xs.length ≤ i) : fillL xs i = xs := by simp [fillL, List.take_of_length_le h, Nat.sub_eq_zero_of_le h]
theorem fillL_at (xs : List α) {i : Nat} (h : i < xs.length) : (fillL xs i)[i]'(by simpa using h) = (zero : α) := by
  simp only [fillL]
  rw [List.getElem_append_right (by simp; omega)]
  simp
theorem fillL_succ (xs : List α) {i : Nat} (h : i < xs.length) : fillL xs (i + 1) = (fillL xs i).set i xs[i] := by
  have hl : (xs.take i).length = i := by simp; omega
  simp only [fillL]
  rw [List.take_succ_eq_append_getElem h, List.append_assoc, List.set_append_right _ _ (by omega), hl, Nat.sub_self]
  congr 1
  rw [show xs.length - i = (xs.length - (i + 1)) + 1 by omega, List.replicate_succ]
  rfl
end

/-! ### from a row of the call's own to a list -/
theorem ownsRow_lt {w : World} {base : Nat} {e : TypeId} {size n : Nat} {v : Value} {xs : List Value} (h : w.ownsRow base e size v n xs) : ∀ g, v.ownBlock = some g → base ≤ g ∧ g < w.heap.size := by
  intro g hg
  rcases h.2 with ⟨rfl, _⟩ | ⟨g', cap, cur, rfl, hb, hc, _⟩
  · simp [Value.ownBlock] at hg
  · simp only [Value.ownBlock, Option.some.injEq] at hg
    subst hg
    refine ⟨hb, ?_⟩
    rcases Nat.lt_or_ge g' w.heap.size with h3 | h3
    · exact h3
    · rw [Array.getElem?_eq_none h3] at hc; cases hc
theorem RL.of_own {α : Type} [Rp α] {w : World} {base : Nat} {e : TypeId} {v : Value} {n : Nat} {cells : List Value} {xs : List α} (C : Nat → List Value) (Fs : Nat → List Nat)
    (h : w.ownsRow base e (sz α) v n cells) (hn : n = xs.length)
    (hC : ∀ i, i < xs.length → ∀ j, j < sz α → cells[i * sz α + j]? = (C i)[j]?) (hR : ∀ i (hi : i < xs.length), R w xs[i] (C i) (Fs i))
    (hO : Own w ((List.range xs.length).flatMap Fs)) (hg : ∀ g, v.ownBlock = some g → g ∉ (List.range xs.length).flatMap Fs) :
    ∃ F, RL w xs v F ∧ Own w F ∧ ∀ g ∈ F, v.ownBlock = some g ∨ g ∈ (List.range xs.length).flatMap Fs := by
  subst hn
  obtain ⟨h1, h2⟩ := h
  rcases h2 with ⟨rfl, h2⟩ | ⟨g, cap, cur, rfl, hb, hc, hle, hcap, hsz, htk⟩
  · have : xs = [] := List.eq_nil_of_length_eq_zero h2
    subst this
    exact ⟨[], RL.nil_, Own.nil_ _, by simp⟩
  · by_cases hx : xs = []
    · subst hx
      exact ⟨[], ⟨_, _, rfl, by simp, hcap, Or.inl ⟨rfl, rfl, by simp⟩⟩, Own.nil_ _, by simp⟩
    · refine ⟨footOf g xs.length Fs, ⟨_, _, rfl, hle, hcap, Or.inr ⟨g, 0, C, Fs, rfl, rfl, hx, ⟨?_, ?_, hR⟩⟩⟩, ⟨?_, ?_⟩, ?_⟩
      · rcases Nat.lt_or_ge g w.heap.size with h3 | h3
        · exact h3
        · rw [Array.getElem?_eq_none h3] at hc; cases hc
      · intro i hi j hj
        rw [← hC i hi j hj, ← htk]
        have hij : i * sz α + j < xs.length * sz α := by
          have : (i + 1) * sz α ≤ xs.length * sz α := Nat.mul_le_mul_right _ hi
          rw [Nat.add_mul] at this; omega
        rw [List.getElem?_take_of_lt hij]
        simp [World.cell?, hc]
      · rw [footOf, List.nodup_cons]
        exact ⟨hg g rfl, hO.nodup⟩
      · intro b hb'
        rcases List.mem_cons.1 hb' with rfl | hb'
        · exact ⟨_, _, hc⟩
        · exact hO.free b hb'
      · intro b hb'
        rcases List.mem_cons.1 hb' with rfl | hb'
        · exact Or.inl rfl
        · exact Or.inr hb'
/-- .. of elements of one cell that lead nowhere -/
theorem RL.of_own1 {α : Type} [Rp α] {w : World} {base : Nat} {e : TypeId} {v : Value} {n : Nat} {cells : List Value} {xs : List α} (f : α → Value) (hs : sz α = 1)
    (h : w.ownsRow base e 1 v n cells) (hn : n = xs.length) (hc : cells = xs.map f) (hR : ∀ x ∈ xs, R w x [f x] []) :
    ∃ F, RL w xs v F ∧ Own w F ∧ ∀ g ∈ F, base ≤ g := by
  have hO : (List.range xs.length).flatMap (fun _ => ([] : List Nat)) = [] := by simp
  obtain ⟨F, h1, h2, h3⟩ := RL.of_own (xs := xs) (fun i => (xs[i]?).elim [] (fun x => [f x])) (fun _ => []) (by rw [hs]; exact h) hn
    (fun i hi j hj => by
      rw [hs] at hj ⊢
      obtain rfl : j = 0 := by omega
      rw [hc, List.getElem?_eq_getElem hi]
      simp [List.getElem?_eq_getElem hi])
    (fun i hi => by
      rw [List.getElem?_eq_getElem hi]
      exact hR _ (List.getElem_mem hi))
    (by rw [hO]; exact Own.nil_ _) (by simp)
  exact ⟨F, h1, h2, fun g hg => by
    rcases h3 g hg with h4 | h4
    · exact (ownsRow_lt h g h4).1
    · simp at h4⟩

/-- what hands back a list in new memory -/
def Fresh {α : Type} [Rp α] (xs : List α) (w : World) (e : Ending) (w' : World) : Prop := ∃ v G, e = .returned v ∧ Chg [] w w' ∧ RL w' xs v G ∧ Own w' G ∧ ∀ g ∈ G, w.heap.size ≤ g
theorem Fresh.mk_ {α : Type} [Rp α] {xs : List α} {w w' : World} {v : Value} {G : List Nat} (h1 : Chg [] w w') (h2 : RL w' xs v G) (h3 : Own w' G) (h4 : ∀ g ∈ G, w.heap.size ≤ g) : Fresh xs w (.returned v) w' := ⟨v, G, rfl, h1, h2, h3, h4⟩

/-! ### marks -/
class Mk (α : Type) where
  mark : α → Int → α
  cnt : α → Nat
open Mk (mark cnt)
instance : Mk Int := ⟨fun _ k => k, fun _ => 1⟩
instance : Mk Bool := ⟨fun _ k => k % 3 == 0, fun _ => 1⟩
instance : Mk UInt8 := ⟨fun _ k => UInt8.ofNat (k % 256).toNat, fun _ => 1⟩
instance {α β : Type} [Mk α] [Mk β] : Mk (α × β) := ⟨fun x k => (mark x.1 k, mark x.2 (k + cnt x.1)), fun x => cnt x.1 + cnt x.2⟩
def mkL {α : Type} [Mk α] : List α → Int → List α
  | [], _ => []
  | x :: r, k => mark x k :: mkL r (k + cnt x)
def cntL {α : Type} [Mk α] : List α → Nat
  | [] => 0
  | x :: r => cnt x + cntL r
instance {α : Type} [Mk α] : Mk (List α) := ⟨mkL, cntL⟩
section
variable {α : Type} [Mk α]
@[simp] theorem mkL_length (xs : List α) (k : Int) : (mkL xs k).length = xs.length := by
  induction xs generalizing k with
  | nil => rfl
  | cons x r ih => simp [mkL, ih]
theorem cntL_append (xs ys : List α) : cntL (xs ++ ys) = cntL xs + cntL ys := by
  induction xs with
  | nil => simp [cntL]
  | cons x r ih => simp [cntL, ih]; omega
theorem mkL_append (xs ys : List α) (k : Int) : mkL (xs ++ ys) k = mkL xs k ++ mkL ys (k + cntL xs) := by
  induction xs generalizing k with
  | nil => simp [mkL, cntL]
  | cons x r ih => simp [mkL, cntL, ih, Int.add_assoc]
/-- how many there are, of lists in lists too (what 'sz..' of the laws counts) -/
class Sz (α : Type) where
  size : α → Nat
instance : Sz Int := ⟨fun _ => 0⟩
instance : Sz Bool := ⟨fun _ => 0⟩
instance : Sz UInt8 := ⟨fun _ => 0⟩
instance : Sz ByteArray := ⟨fun s => s.size⟩
def szI {β : Type} [Sz β] : List β → Nat
  | [] => 0
  | x :: r => Sz.size x + szI r
def szL {β : Type} [Sz β] (xs : List β) : Nat := xs.length + szI xs
instance {β : Type} [Sz β] : Sz (List β) := ⟨szL⟩
theorem szI_append {β : Type} [Sz β] (xs ys : List β) : szI (xs ++ ys) = szI xs + szI ys := by
  induction xs with
  | nil => simp [szI]
  | cons x r ih => simp [szI, ih]; omega
theorem szI_succ {β : Type} [Sz β] (xs : List β) {i : Nat} (h : i < xs.length) : szI (xs.take (i + 1)) = szI (xs.take i) + Sz.size xs[i] := by
  rw [List.take_succ_eq_append_getElem h, szI_append]; simp [szI]
theorem szI_take_le {β : Type} [Sz β] (xs : List β) (i : Nat) : szI (xs.take i) ≤ szI xs := by
  have := szI_append (xs.take i) (xs.drop i)
  rw [List.take_append_drop] at this; omega
theorem szI_all {β : Type} [Sz β] (xs : List β) {i : Nat} (h : xs.length ≤ i) : szI (xs.take i) = szI xs := by rw [List.take_of_length_le h]
/-- what 'sz..' gives back of l -/
def SzR (r l : Int) (n : Nat) : Prop := r = -1 ∨ (0 ≤ r ∧ r + n = l)
/-- decimal digits, in front of what there is -/
def decDigits : Nat → Nat → List UInt8 → List UInt8
  | 0, _, acc => acc
  | f + 1, n, acc => if n = 0 then acc else decDigits f (n / 10) (UInt8.ofNat (48 + n % 10) :: acc)
/-- the text of a mark -/
def markText (k : Int) : ByteArray := if k ≤ 0 then ⟨#[109, 48]⟩ else ⟨(109 :: decDigits 20 k.toNat []).toArray⟩
instance : Mk ByteArray := ⟨fun _ k => markText k, fun _ => 1⟩
/-- the list in the midst of the marking: the first i are marked -/
def midL (xs : List α) (k : Int) (i : Nat) : List α := mkL (xs.take i) k ++ xs.drop i
@[simp] theorem midL_length (xs : List α) (k : Int) (i : Nat) : (midL xs k i).length = xs.length := by simp [midL]; omega
theorem midL_zero (xs : List α) (k : Int) : midL xs k 0 = xs := by simp [midL, mkL]
theorem midL_all (xs : List α) (k : Int) {i : Nat} (h : xs.length ≤ i) : midL xs k i = mkL xs k := by simp [midL, List.take_of_length_le h, List.drop_eq_nil_of_le h]
theorem cntL_succ (xs : List α) {i : Nat} (h : i < xs.length) : cntL (xs.take (i + 1)) = cntL (xs.take i) + cnt xs[i] := by
  rw [List.take_succ_eq_append_getElem h, cntL_append]; simp [cntL]
theorem cntL_take_le (xs : List α) (i : Nat) : cntL (xs.take i) ≤ cntL xs := by
  have := cntL_append (xs.take i) (xs.drop i)
  rw [List.take_append_drop] at this; omega
theorem cntL_all (xs : List α) {i : Nat} (h : xs.length ≤ i) : cntL (xs.take i) = cntL xs := by rw [List.take_of_length_le h]
theorem midL_at (xs : List α) (k : Int) {i : Nat} (h : i < xs.length) : (midL xs k i)[i]'(by simpa using h) = xs[i] := by
  simp only [midL]
  rw [List.getElem_append_right (by simp; omega)]
  simp [Nat.min_eq_left (Nat.le_of_lt h)]
theorem midL_succ (xs : List α) (k : Int) {i : Nat} (h : i < xs.length) : midL xs k (i + 1) = (midL xs k i).set i (mark xs[i] (k + cntL (xs.take i))) := by
  have hl : (mkL (xs.take i) k).length = i := by simp; omega
  simp only [midL]
  rw [List.take_succ_eq_append_getElem h, mkL_append, List.append_assoc, List.set_append_right _ _ (by omega), hl, Nat.sub_self]
  congr 1
  rw [show (xs.drop i) = xs[i] :: xs.drop (i + 1) from List.drop_eq_getElem_cons h]
  rfl
theorem mkL_at (xs : List α) (k : Int) {i : Nat} (h : i < xs.length) : (mkL xs k)[i]'(by simpa using h) = mark xs[i] (k + cntL (xs.take i)) := by
  induction xs generalizing k i with
  | nil => simp at h
  | cons x r ih =>
    cases i with
    | zero => simp [mkL, cntL]
    | succ i =>
      simp only [mkL, List.getElem_cons_succ, List.take_succ_cons, cntL]
      rw [ih _ (by simpa using h)]
      congr 1
      push_cast
      omega
end

#print axioms RL.open_
theorem Chg.r {F : List Nat} {w w' : World} {a : Addr} (h : Chg F w w') (v : Value) (hb : w.heap.size ≤ a.block := by first | (simp; done) | (simp; omega)) : Chg F w (w'.setCell a v) := h.setCell (Or.inr hb) v
theorem Chg.l {F : List Nat} {w w' : World} {a : Addr} (h : Chg F w w') (v : Value) (hb : a.block ∈ F := by first | (simp; done) | (simp; omega)) : Chg F w (w'.setCell a v) := h.setCell (Or.inl hb) v
theorem pS (a : Act) (d : Nat) (v : Value) : a.put (some d) v = { a with tmps := a.tmps.setIfInBounds d v } := rfl
theorem pN (a : Act) (v : Value) : a.put none v = a := rfl
theorem pA {α : Type} (l : List α) (i : Nat) (x : α) : l.toArray.setIfInBounds i x = (l.set i x).toArray := List.setIfInBounds_toArray ..
theorem pZ {α : Type} (x y : α) (l : List α) : (x :: l).set 0 y = y :: l := rfl
theorem pC {α : Type} (x y : α) (l : List α) (i : Nat) : (x :: l).set (i + 1) y = x :: l.set i y := rfl
theorem Chg.c {F : List Nat} {w w' : World} (h : Chg F w w' := by repeat (with_reducible first | refine Chg.r ?_ _ | refine Chg.alloc ?_ _ | refine Chg.drewN ?_ _ | refine Chg.drew ?_ | exact Chg.refl _ _ | assumption)) : Chg F w w' := h
theorem Chg.d {F : List Nat} {w w' : World} (h : Chg F w w' := by repeat (with_reducible first | exact Chg.refl _ _ | refine Chg.alloc ?_ _ | refine Chg.drewN ?_ _ | refine Chg.drew ?_)) : Chg F w w' := h
theorem Chg.e {F : List Nat} {w w' : World} (h : Chg F w w' := by repeat (with_reducible first | exact Chg.refl _ _ | assumption | refine Chg.r ?_ _ | refine Chg.alloc ?_ _ | refine Chg.drewN ?_ _ | refine Chg.drew ?_)) : Chg F w w' := h
theorem Chg.f {F : List Nat} {w w' : World} (h : Chg F w w' := by repeat (with_reducible first | exact Chg.refl _ _ | refine Chg.r ?_ _ | refine Chg.alloc ?_ _ | refine Chg.drewN ?_ _ | refine Chg.drew ?_)) : Chg F w w' := h
theorem Chg.g {F : List Nat} {w w' : World} (h : Chg F w w' := by repeat (with_reducible first | refine Chg.l ?_ _ | refine Chg.alloc ?_ _ | refine Chg.drewN ?_ _ | refine Chg.drew ?_ | exact Chg.refl _ _ | assumption)) : Chg F w w' := h
theorem Chg.k {F : List Nat} {w w' : World} (h : Chg F w w' := by repeat (with_reducible first | refine Chg.r ?_ _ | refine Chg.alloc ?_ _ | refine Chg.drewN ?_ _ | refine Chg.drew ?_ | exact Chg.refl _ _ | assumption | refine Chg.trans0 ?_ (by assumption))) : Chg F w w' := h
end Ow
namespace Ow
open Go Go.RowKit Go.Deep
open Rp (R sz)

/-- the cells of a list, in a row -/
structure Cells {α : Type} [Rp α] (w : World) (ys : List α) (news : List Value) (C : Nat → List Value) (Fs : Nat → List Nat) (F : List Nat) : Prop where
  len : news.length = ys.length * sz α
  at_ : ∀ i, i < ys.length → ∀ j, j < sz α → news[i * sz α + j]? = (C i)[j]?
  elem : ∀ i (hi : i < ys.length), R w ys[i] (C i) (Fs i)
  sub : ∀ i, i < ys.length → ∀ g ∈ Fs i, g ∈ F
  one : ∀ u ∈ news, u.oneCell' = true

theorem RL.cells {α : Type} [Rp α] (hs : 0 < sz α) {w : World} {ys : List α} {v : Value} {F : List Nat} (h : RL w ys v F) :
    ∃ news C Fs, Cells w ys news C Fs F ∧ ((v = .slice none 0 0 ∧ ys = []) ∨ ∃ ad cap, v = .slice (some ad) ys.length cap ∧ ∀ j u, news[j]? = some u → w.cell? (ad.add j) = some u) := by
  obtain ⟨A, cap, rfl, h2, h3, h4⟩ := h
  rcases h4 with ⟨rfl, rfl, h5⟩ | ⟨b, off, C, Fs, rfl, rfl, e3, e4⟩
  · refine ⟨[], fun _ => [], fun _ => [], ⟨by simp, by simp, by simp, by simp, by simp⟩, ?_⟩
    rcases A with _ | ad
    · rw [h5 rfl]; exact Or.inl ⟨rfl, rfl⟩
    · exact Or.inr ⟨ad, cap, rfl, by simp⟩
  · have hC : ∀ i, i < ys.length → (C i).length = sz α := fun i hi => Rp.len (e4.elem i hi)
    let C' : Nat → List Value := fun i => if i < ys.length then C i else List.replicate (sz α) default
    have hC' : ∀ i, (C' i).length = sz α := fun i => by
      show (if i < ys.length then C i else _).length = _
      split
      · rename_i hi; exact hC i hi
      · simp
    have hCe : ∀ i, i < ys.length → C' i = C i := fun i hi => if_pos hi
    have hat : ∀ i, i < ys.length → ∀ j, j < sz α → ((List.range ys.length).flatMap C')[i * sz α + j]? = (C i)[j]? := fun i hi j hj => by
      rw [getElem?_div_block C' (sz α) hs hC' _ i j hi hj, hCe i hi]
    have hlen : ((List.range ys.length).flatMap C').length = ys.length * sz α := by
      generalize ys.length = n
      induction n with
      | zero => simp
      | succ n ih => rw [List.range_succ, List.flatMap_append, List.length_append, ih, List.flatMap_singleton, hC', Nat.add_mul, Nat.one_mul]
    refine ⟨(List.range ys.length).flatMap C', C, Fs, ⟨hlen, hat, e4.elem, fun i hi g hg => ?_, ?_⟩, Or.inr ⟨⟨b, off, none⟩, cap, rfl, fun j u hu => ?_⟩⟩
    · simp only [footOf, List.mem_cons, List.mem_flatMap, List.mem_range]
      exact Or.inr ⟨i, hi, hg⟩
    · intro u hu
      simp only [List.mem_flatMap, List.mem_range] at hu
      obtain ⟨i, hi, hu⟩ := hu
      rw [hCe i hi] at hu
      exact Rp.one (e4.elem i hi) u hu
    · have hj : j < ys.length * sz α := by
        rw [← hlen]; exact (List.getElem?_eq_some_iff.1 hu).1
      have hd : j / sz α < ys.length := by rw [Nat.div_lt_iff_lt_mul hs]; exact hj
      have hm : j % sz α < sz α := Nat.mod_lt _ hs
      have he : j / sz α * sz α + j % sz α = j := by rw [Nat.mul_comm]; exact Nat.div_add_mod j (sz α)
      have h6 := e4.cell _ hd _ hm
      rw [← hat _ hd _ hm, he, hu, Nat.add_assoc, he] at h6
      have : (Addr.add ⟨b, off, none⟩ j) = ⟨b, off + j, none⟩ := by unfold Addr.add; split <;> simp_all
      rw [this]; exact h6

theorem Cells.nil_ {α : Type} [Rp α] (w : World) : Cells w ([] : List α) [] (fun _ => []) (fun _ => []) [] := ⟨by simp, by simp, by simp, by simp, by simp⟩

/-- 'append(row, ys...)', the row the call's own, ys whatever reads. -/
theorem wpList_append_RL {α : Type} [Rp α] {P : Program} {w : World} {ops : Array Oper} {rest : List Oper} {o : Oper} {a : Act} {Q : Exit → Act → World → Prop} (hgd : o.guard = none) (s x : Operand) (t : TypeId)
    (ho : o.op = .call { callee := .builtin .append, args := #[s, x], argTypes := #[t, t] })
    (base : Nat) (e : TypeId) (i : TypeInfo) (z : Value) (size bytes : Nat) (ht : P.underlying t = some (.slice e)) (hi : P.info? e = some i) (hz : i.zero = some z)
    (hsize : i.size = size) (hby : i.bytes = bytes) (hzs : z.cells.size = size) (hsz : 0 < size)
    (v : Value) (n : Nat) (xs : List Value) (hs : a.eval s = v) (hown : w.ownsRow base e size v n xs)
    (ys : List α) (vy : Value) (Fy : List Nat) (hx : a.eval x = vy) (hy : RL w ys vy Fy) (hsa : sz α = size)
    (h63 : n + ys.length ≤ maxLen) (hbytes : (n + ys.length) * bytes ≤ 140737488355328) (hbase : base ≤ w.heap.size)
    (h : ∀ v' w' news C Fs, w'.ownsRow base e size v' (n + ys.length) (xs ++ news) → Cells w ys news C Fs Fy → w.grownBy w' v.ownBlock → (v'.ownBlock = v.ownBlock ∨ v'.ownBlock = some w.heap.size) → wpList P ops Q rest (a.put o.dst v') w') :
    wpList P ops Q (o :: rest) a w := by
  obtain ⟨news, C, Fs, hc, h1⟩ := hy.cells (by rw [hsa]; exact hsz)
  rcases h1 with ⟨rfl, rfl⟩ | ⟨ad, cap, rfl, h1⟩
  · have hnews : news = [] := List.eq_nil_of_length_eq_zero (by rw [hc.len]; simp)
    subst hnews
    exact wpList_append_own_none hgd s x t ho base e i size ht hi v n xs hs hown hx (h v w [] C Fs (by simpa using hown) hc (World.grownBy.refl w _) (Or.inl rfl))
  · exact wpList_append_own_at w hgd s x t ho base e i z size bytes ht hi hz hsize hby hzs hsz v n xs hs hown ad ys.length cap news hx (by rw [hc.len, hsa]) h1 hc.one h63 hbytes hbase
      (fun v' w' h2 h3 _ h5 => h v' w' news C Fs h2 hc h3 h5)

/-- an empty row that was just built -/
theorem ownsRow_empty (w : World) (base : Nat) (e : TypeId) (size : Nat) (hb : base ≤ w.heap.size) : (w.alloc (.cells #[] e)).ownsRow base e size (.slice (some ⟨w.heap.size, 0, none⟩) 0 0) 0 [] :=
  ⟨by simp, Or.inr ⟨w.heap.size, 0, #[], rfl, hb, heap_alloc_new w _, by omega, by unfold maxLen; omega, by simp, by simp⟩⟩
theorem ownsRow_nil (w : World) (base : Nat) (e : TypeId) (size : Nat) : w.ownsRow base e size (.slice none 0 0) 0 [] := ⟨by simp, Or.inl ⟨rfl, rfl⟩⟩

/-- from the row to the list: all of it out of one source whose elements lead nowhere -/
theorem RL.of_cells {α : Type} [Rp α] {w w0 : World} {base : Nat} {e : TypeId} {v : Value} {n : Nat} {news : List Value} {ys : List α} {C : Nat → List Value} {Fs : Nat → List Nat} {F : List Nat}
    (h : w.ownsRow base e (sz α) v n news) (hn : n = ys.length) (hc : Cells w0 ys news C Fs F) (hF : F = []) :
    ∃ G, RL w ys v G ∧ Own w G ∧ ∀ g ∈ G, base ≤ g := by
  have hFs : ∀ i, i < ys.length → Fs i = [] := fun i hi => List.eq_nil_iff_forall_not_mem.2 (fun g hg => by have := hc.sub i hi g hg; rw [hF] at this; cases this)
  have hO : (List.range ys.length).flatMap (fun _ => ([] : List Nat)) = [] := by simp
  obtain ⟨G, h1, h2, h3⟩ := RL.of_own C (fun _ => []) h hn hc.at_ (fun i hi => by
    have := hc.elem i hi
    rw [hFs i hi] at this
    exact Rp.keep this (by simp)) (by rw [hO]; exact Own.nil_ _) (by simp)
  exact ⟨G, h1, h2, fun g hg => by
    rcases h3 g hg with h4 | h4
    · exact (ownsRow_lt h g h4).1
    · simp at h4⟩
#print axioms wpList_append_RL
end Ow
namespace Ow
open Go Go.RowKit Go.Deep
open Rp (R sz)

structure CrtSite where
  Proc : Int
  Pc : Int
  deriving DecidableEq
instance : Rp CrtSite := Rp.by_ (fun x => (x.Proc, x.Pc))
theorem R_CrtSite {w : World} {x : CrtSite} {cs : List Value} {F : List Nat} : R w x cs F ↔ (cs = [.int .i64 x.Proc, .int .i64 x.Pc] ∧ F = [] ∧ I64 x.Proc ∧ I64 x.Pc) := by
  constructor
  · intro h
    obtain ⟨_, _, _, _, rfl, rfl, h0, h0'⟩ := h
    obtain ⟨rfl, rfl, g0⟩ := h0
    obtain ⟨rfl, rfl, g1⟩ := h0'
    exact ⟨by simp, by simp, g0, g1⟩
  · rintro ⟨rfl, rfl, g0, g1⟩
    exact ⟨_, _, [], [], by first | rfl | simp, by first | rfl | simp, ⟨rfl, rfl, g0⟩, ⟨rfl, rfl, g1⟩⟩
structure VrdVerdict where
  Kind : Int
  Line : Int
  Sites : (List CrtSite)
  deriving DecidableEq
instance : Rp VrdVerdict := Rp.by_ (fun x => (x.Kind, x.Line, x.Sites))
theorem R_VrdVerdict {w : World} {x : VrdVerdict} {cs : List Value} {F : List Nat} : R w x cs F ↔ ∃ vSites FSites, (cs = [.int .i64 x.Kind, .int .i64 x.Line, vSites] ∧ F = FSites ∧ I64 x.Kind ∧ I64 x.Line ∧ RL w x.Sites vSites FSites) := by
  constructor
  · intro h
    obtain ⟨_, _, _, _, rfl, rfl, h0, h0'⟩ := h
    obtain ⟨rfl, rfl, g0⟩ := h0
    obtain ⟨_, _, _, _, rfl, rfl, h1, h1'⟩ := h0'
    obtain ⟨rfl, rfl, g1⟩ := h1
    obtain ⟨_, rfl, g2⟩ := h1'
    exact ⟨_, _, by simp, by simp, g0, g1, g2⟩
  · rintro ⟨vSites, FSites, rfl, rfl, g0, g1, g2⟩
    exact ⟨_, _, [], F, by first | rfl | simp, by first | rfl | simp, ⟨rfl, rfl, g0⟩, ⟨_, _, [], F, by first | rfl | simp, by first | rfl | simp, ⟨rfl, rfl, g1⟩, ⟨_, rfl, g2⟩⟩⟩
structure InsIns where
  Op : Int
  D : Int
  A : Int
  B : Int
  Rel : Int
  Lo : Int
  Hi : Int
  To : Int
  deriving DecidableEq
instance : Rp InsIns := Rp.by_ (fun x => (x.Op, x.D, x.A, x.B, x.Rel, x.Lo, x.Hi, x.To))
theorem R_InsIns {w : World} {x : InsIns} {cs : List Value} {F : List Nat} : R w x cs F ↔ (cs = [.int .i64 x.Op, .int .i64 x.D, .int .i64 x.A, .int .i64 x.B, .int .i64 x.Rel, .int .i64 x.Lo, .int .i64 x.Hi, .int .i64 x.To] ∧ F = [] ∧ I64 x.Op ∧ I64 x.D ∧ I64 x.A ∧ I64 x.B ∧ I64 x.Rel ∧ I64 x.Lo ∧ I64 x.Hi ∧ I64 x.To) := by
  constructor
  · intro h
    obtain ⟨_, _, _, _, rfl, rfl, h0, h0'⟩ := h
    obtain ⟨rfl, rfl, g0⟩ := h0
    obtain ⟨_, _, _, _, rfl, rfl, h1, h1'⟩ := h0'
    obtain ⟨rfl, rfl, g1⟩ := h1
    obtain ⟨_, _, _, _, rfl, rfl, h2, h2'⟩ := h1'
    obtain ⟨rfl, rfl, g2⟩ := h2
    obtain ⟨_, _, _, _, rfl, rfl, h3, h3'⟩ := h2'
    obtain ⟨rfl, rfl, g3⟩ := h3
    obtain ⟨_, _, _, _, rfl, rfl, h4, h4'⟩ := h3'
    obtain ⟨rfl, rfl, g4⟩ := h4
    obtain ⟨_, _, _, _, rfl, rfl, h5, h5'⟩ := h4'
    obtain ⟨rfl, rfl, g5⟩ := h5
    obtain ⟨_, _, _, _, rfl, rfl, h6, h6'⟩ := h5'
    obtain ⟨rfl, rfl, g6⟩ := h6
    obtain ⟨rfl, rfl, g7⟩ := h6'
    exact ⟨by simp, by simp, g0, g1, g2, g3, g4, g5, g6, g7⟩
  · rintro ⟨rfl, rfl, g0, g1, g2, g3, g4, g5, g6, g7⟩
    exact ⟨_, _, [], [], by first | rfl | simp, by first | rfl | simp, ⟨rfl, rfl, g0⟩, ⟨_, _, [], [], by first | rfl | simp, by first | rfl | simp, ⟨rfl, rfl, g1⟩, ⟨_, _, [], [], by first | rfl | simp, by first | rfl | simp, ⟨rfl, rfl, g2⟩, ⟨_, _, [], [], by first | rfl | simp, by first | rfl | simp, ⟨rfl, rfl, g3⟩, ⟨_, _, [], [], by first | rfl | simp, by first | rfl | simp, ⟨rfl, rfl, g4⟩, ⟨_, _, [], [], by first | rfl | simp, by first | rfl | simp, ⟨rfl, rfl, g5⟩, ⟨_, _, [], [], by first | rfl | simp, by first | rfl | simp, ⟨rfl, rfl, g6⟩, ⟨rfl, rfl, g7⟩⟩⟩⟩⟩⟩⟩⟩
theorem sz_InsIns : sz InsIns = 8 := rfl
structure PrcProc where
  Lo : Int
  Hi : Int
  Code : (List InsIns)
  deriving DecidableEq
instance : Rp PrcProc := Rp.by_ (fun x => (x.Lo, x.Hi, x.Code))
theorem R_PrcProc {w : World} {x : PrcProc} {cs : List Value} {F : List Nat} : R w x cs F ↔ ∃ vCode FCode, (cs = [.int .i64 x.Lo, .int .i64 x.Hi, vCode] ∧ F = FCode ∧ I64 x.Lo ∧ I64 x.Hi ∧ RL w x.Code vCode FCode) := by
  constructor
  · intro h
    obtain ⟨_, _, _, _, rfl, rfl, h0, h0'⟩ := h
    obtain ⟨rfl, rfl, g0⟩ := h0
    obtain ⟨_, _, _, _, rfl, rfl, h1, h1'⟩ := h0'
    obtain ⟨rfl, rfl, g1⟩ := h1
    obtain ⟨_, rfl, g2⟩ := h1'
    exact ⟨_, _, by simp, by simp, g0, g1, g2⟩
  · rintro ⟨vCode, FCode, rfl, rfl, g0, g1, g2⟩
    exact ⟨_, _, [], F, by first | rfl | simp, by first | rfl | simp, ⟨rfl, rfl, g0⟩, ⟨_, _, [], F, by first | rfl | simp, by first | rfl | simp, ⟨rfl, rfl, g1⟩, ⟨_, rfl, g2⟩⟩⟩
theorem sz_PrcProc : sz PrcProc = 3 := rfl
structure PrgProg where
  Procs : (List PrcProc)
  deriving DecidableEq
instance : Rp PrgProg := Rp.by_ (fun x => x.Procs)
theorem R_PrgProg {w : World} {x : PrgProg} {cs : List Value} {F : List Nat} : R w x cs F ↔ ∃ vProcs FProcs, (cs = [vProcs] ∧ F = FProcs ∧ RL w x.Procs vProcs FProcs) := by
  constructor
  · intro h
    obtain ⟨_, rfl, g0⟩ := h
    exact ⟨_, _, by simp, by simp, g0⟩
  · rintro ⟨vProcs, FProcs, rfl, rfl, g0⟩
    exact ⟨_, rfl, g0⟩
structure ItvItv where
  Lo : Int
  Hi : Int
  deriving DecidableEq
instance : Rp ItvItv := Rp.by_ (fun x => (x.Lo, x.Hi))
theorem R_ItvItv {w : World} {x : ItvItv} {cs : List Value} {F : List Nat} : R w x cs F ↔ (cs = [.int .i64 x.Lo, .int .i64 x.Hi] ∧ F = [] ∧ I64 x.Lo ∧ I64 x.Hi) := by
  constructor
  · intro h
    obtain ⟨_, _, _, _, rfl, rfl, h0, h0'⟩ := h
    obtain ⟨rfl, rfl, g0⟩ := h0
    obtain ⟨rfl, rfl, g1⟩ := h0'
    exact ⟨by simp, by simp, g0, g1⟩
  · rintro ⟨rfl, rfl, g0, g1⟩
    exact ⟨_, _, [], [], by first | rfl | simp, by first | rfl | simp, ⟨rfl, rfl, g0⟩, ⟨rfl, rfl, g1⟩⟩
structure AbsState where
  On : Bool
  Vars : (List ItvItv)
  Cells : ItvItv
  deriving DecidableEq
instance : Rp AbsState := Rp.by_ (fun x => (x.On, x.Vars, x.Cells))
theorem R_AbsState {w : World} {x : AbsState} {cs : List Value} {F : List Nat} : R w x cs F ↔ ∃ vVars FVars, (cs = [.bool x.On, vVars, .int .i64 x.Cells.Lo, .int .i64 x.Cells.Hi] ∧ F = FVars ∧ RL w x.Vars vVars FVars ∧ I64 x.Cells.Lo ∧ I64 x.Cells.Hi) := by
  constructor
  · intro h
    obtain ⟨_, _, _, _, rfl, rfl, h0, h0'⟩ := h
    obtain ⟨rfl, rfl⟩ := h0
    obtain ⟨_, _, _, _, rfl, rfl, h1, h1'⟩ := h0'
    obtain ⟨_, rfl, g1⟩ := h1
    obtain ⟨rfl, rfl, g2_0, g2_1⟩ := R_ItvItv.1 h1'
    exact ⟨_, _, by simp, by simp, g1, g2_0, g2_1⟩
  · rintro ⟨vVars, FVars, rfl, rfl, g0, g1, g2⟩
    exact ⟨_, _, [], F, by first | rfl | simp, by first | rfl | simp, ⟨rfl, rfl⟩, ⟨_, _, F, [], by first | rfl | simp, by first | rfl | simp, ⟨_, rfl, g0⟩, (R_ItvItv.2 ⟨rfl, rfl, g1, g2⟩)⟩⟩
structure SumSum where
  On : Bool
  Out : ItvItv
  deriving DecidableEq
instance : Rp SumSum := Rp.by_ (fun x => (x.On, x.Out))
theorem R_SumSum {w : World} {x : SumSum} {cs : List Value} {F : List Nat} : R w x cs F ↔ (cs = [.bool x.On, .int .i64 x.Out.Lo, .int .i64 x.Out.Hi] ∧ F = [] ∧ I64 x.Out.Lo ∧ I64 x.Out.Hi) := by
  constructor
  · intro h
    obtain ⟨_, _, _, _, rfl, rfl, h0, h0'⟩ := h
    obtain ⟨rfl, rfl⟩ := h0
    obtain ⟨rfl, rfl, g1_0, g1_1⟩ := R_ItvItv.1 h0'
    exact ⟨by simp, by simp, g1_0, g1_1⟩
  · rintro ⟨rfl, rfl, g0, g1⟩
    exact ⟨_, _, [], [], by first | rfl | simp, by first | rfl | simp, ⟨rfl, rfl⟩, (R_ItvItv.2 ⟨rfl, rfl, g0, g1⟩)⟩
structure CrtCert where
  States : (List (List AbsState))
  Outs : (List SumSum)
  deriving DecidableEq
instance : Rp CrtCert := Rp.by_ (fun x => (x.States, x.Outs))
theorem R_CrtCert {w : World} {x : CrtCert} {cs : List Value} {F : List Nat} : R w x cs F ↔ ∃ vStates FStates vOuts FOuts, (cs = [vStates, vOuts] ∧ F = FStates ++ (FOuts) ∧ RL w x.States vStates FStates ∧ RL w x.Outs vOuts FOuts) := by
  constructor
  · intro h
    obtain ⟨_, _, _, _, rfl, rfl, h0, h0'⟩ := h
    obtain ⟨_, rfl, g0⟩ := h0
    obtain ⟨_, rfl, g1⟩ := h0'
    exact ⟨_, _, _, _, by simp, by simp, g0, g1⟩
  · rintro ⟨vStates, FStates, vOuts, FOuts, rfl, rfl, g0, g1⟩
    exact ⟨_, _, FStates, FOuts, by first | rfl | simp, by first | rfl | simp, ⟨_, rfl, g0⟩, ⟨_, rfl, g1⟩⟩
structure EngEng where
  Phase : Int
  Round : Int
  Cert : CrtCert
  deriving DecidableEq
instance : Rp EngEng := Rp.by_ (fun x => (x.Phase, x.Round, x.Cert))
theorem R_EngEng {w : World} {x : EngEng} {cs : List Value} {F : List Nat} : R w x cs F ↔ ∃ vCertStates FCertStates vCertOuts FCertOuts, (cs = [.int .i64 x.Phase, .int .i64 x.Round, vCertStates, vCertOuts] ∧ F = FCertStates ++ (FCertOuts) ∧ I64 x.Phase ∧ I64 x.Round ∧ RL w x.Cert.States vCertStates FCertStates ∧ RL w x.Cert.Outs vCertOuts FCertOuts) := by
  constructor
  · intro h
    obtain ⟨_, _, _, _, rfl, rfl, h0, h0'⟩ := h
    obtain ⟨rfl, rfl, g0⟩ := h0
    obtain ⟨_, _, _, _, rfl, rfl, h1, h1'⟩ := h0'
    obtain ⟨rfl, rfl, g1⟩ := h1
    obtain ⟨_, _, _, _, rfl, rfl, g2_0, g2_1⟩ := R_CrtCert.1 h1'
    exact ⟨_, _, _, _, by simp, by simp, g0, g1, g2_0, g2_1⟩
  · rintro ⟨vCertStates, FCertStates, vCertOuts, FCertOuts, rfl, rfl, g0, g1, g2, g3⟩
    exact ⟨_, _, [], FCertStates ++ (FCertOuts), by first | rfl | simp, by first | rfl | simp, ⟨rfl, rfl, g0⟩, ⟨_, _, [], FCertStates ++ (FCertOuts), by first | rfl | simp, by first | rfl | simp, ⟨rfl, rfl, g1⟩, (R_CrtCert.2 ⟨_, _, _, _, rfl, rfl, g2, g3⟩)⟩⟩
structure CrdLease where
  Part : Int
  Who : Int
  Seq : Int
  Due : Int
  deriving DecidableEq
instance : Rp CrdLease := Rp.by_ (fun x => (x.Part, x.Who, x.Seq, x.Due))
theorem R_CrdLease {w : World} {x : CrdLease} {cs : List Value} {F : List Nat} : R w x cs F ↔ (cs = [.int .i64 x.Part, .int .i64 x.Who, .int .i64 x.Seq, .int .i64 x.Due] ∧ F = [] ∧ I64 x.Part ∧ I64 x.Who ∧ I64 x.Seq ∧ I64 x.Due) := by
  constructor
  · intro h
    obtain ⟨_, _, _, _, rfl, rfl, h0, h0'⟩ := h
    obtain ⟨rfl, rfl, g0⟩ := h0
    obtain ⟨_, _, _, _, rfl, rfl, h1, h1'⟩ := h0'
    obtain ⟨rfl, rfl, g1⟩ := h1
    obtain ⟨_, _, _, _, rfl, rfl, h2, h2'⟩ := h1'
    obtain ⟨rfl, rfl, g2⟩ := h2
    obtain ⟨rfl, rfl, g3⟩ := h2'
    exact ⟨by simp, by simp, g0, g1, g2, g3⟩
  · rintro ⟨rfl, rfl, g0, g1, g2, g3⟩
    exact ⟨_, _, [], [], by first | rfl | simp, by first | rfl | simp, ⟨rfl, rfl, g0⟩, ⟨_, _, [], [], by first | rfl | simp, by first | rfl | simp, ⟨rfl, rfl, g1⟩, ⟨_, _, [], [], by first | rfl | simp, by first | rfl | simp, ⟨rfl, rfl, g2⟩, ⟨rfl, rfl, g3⟩⟩⟩⟩
structure CrdCoord where
  Up : Bool
  Epoch : Int
  Seq : Int
  Clock : Int
  Done : (List Bool)
  Certs : (List CrtCert)
  Leases : (List CrdLease)
  Verdict : VrdVerdict
  Log : (List UInt8)
  deriving DecidableEq
instance : Rp CrdCoord := Rp.by_ (fun x => (x.Up, x.Epoch, x.Seq, x.Clock, x.Done, x.Certs, x.Leases, x.Verdict, x.Log))
theorem R_CrdCoord {w : World} {x : CrdCoord} {cs : List Value} {F : List Nat} : R w x cs F ↔ ∃ vDone FDone vCerts FCerts vLeases FLeases vVerdictSites FVerdictSites vLog FLog, (cs = [.bool x.Up, .int .i64 x.Epoch, .int .i64 x.Seq, .int .i64 x.Clock, vDone, vCerts, vLeases, .int .i64 x.Verdict.Kind, .int .i64 x.Verdict.Line, vVerdictSites, vLog] ∧ F = FDone ++ (FCerts ++ (FLeases ++ (FVerdictSites ++ (FLog)))) ∧ I64 x.Epoch ∧ I64 x.Seq ∧ I64 x.Clock ∧ RL w x.Done vDone FDone ∧ RL w x.Certs vCerts FCerts ∧ RL w x.Leases vLeases FLeases ∧ I64 x.Verdict.Kind ∧ I64 x.Verdict.Line ∧ RL w x.Verdict.Sites vVerdictSites FVerdictSites ∧ RL w x.Log vLog FLog) := by
  constructor
  · intro h
    obtain ⟨_, _, _, _, rfl, rfl, h0, h0'⟩ := h
    obtain ⟨rfl, rfl⟩ := h0
    obtain ⟨_, _, _, _, rfl, rfl, h1, h1'⟩ := h0'
    obtain ⟨rfl, rfl, g1⟩ := h1
    obtain ⟨_, _, _, _, rfl, rfl, h2, h2'⟩ := h1'
    obtain ⟨rfl, rfl, g2⟩ := h2
    obtain ⟨_, _, _, _, rfl, rfl, h3, h3'⟩ := h2'
    obtain ⟨rfl, rfl, g3⟩ := h3
    obtain ⟨_, _, _, _, rfl, rfl, h4, h4'⟩ := h3'
    obtain ⟨_, rfl, g4⟩ := h4
    obtain ⟨_, _, _, _, rfl, rfl, h5, h5'⟩ := h4'
    obtain ⟨_, rfl, g5⟩ := h5
    obtain ⟨_, _, _, _, rfl, rfl, h6, h6'⟩ := h5'
    obtain ⟨_, rfl, g6⟩ := h6
    obtain ⟨_, _, _, _, rfl, rfl, h7, h7'⟩ := h6'
    obtain ⟨_, _, rfl, rfl, g7_0, g7_1, g7_2⟩ := R_VrdVerdict.1 h7
    obtain ⟨_, rfl, g8⟩ := h7'
    exact ⟨_, _, _, _, _, _, _, _, _, _, by simp, by simp, g1, g2, g3, g4, g5, g6, g7_0, g7_1, g7_2, g8⟩
  · rintro ⟨vDone, FDone, vCerts, FCerts, vLeases, FLeases, vVerdictSites, FVerdictSites, vLog, FLog, rfl, rfl, g0, g1, g2, g3, g4, g5, g6, g7, g8, g9⟩
    exact ⟨_, _, [], FDone ++ (FCerts ++ (FLeases ++ (FVerdictSites ++ (FLog)))), by first | rfl | simp, by first | rfl | simp, ⟨rfl, rfl⟩, ⟨_, _, [], FDone ++ (FCerts ++ (FLeases ++ (FVerdictSites ++ (FLog)))), by first | rfl | simp, by first | rfl | simp, ⟨rfl, rfl, g0⟩, ⟨_, _, [], FDone ++ (FCerts ++ (FLeases ++ (FVerdictSites ++ (FLog)))), by first | rfl | simp, by first | rfl | simp, ⟨rfl, rfl, g1⟩, ⟨_, _, [], FDone ++ (FCerts ++ (FLeases ++ (FVerdictSites ++ (FLog)))), by first | rfl | simp, by first | rfl | simp, ⟨rfl, rfl, g2⟩, ⟨_, _, FDone, FCerts ++ (FLeases ++ (FVerdictSites ++ (FLog))), by first | rfl | simp, by first | rfl | simp, ⟨_, rfl, g3⟩, ⟨_, _, FCerts, FLeases ++ (FVerdictSites ++ (FLog)), by first | rfl | simp, by first | rfl | simp, ⟨_, rfl, g4⟩, ⟨_, _, FLeases, FVerdictSites ++ (FLog), by first | rfl | simp, by first | rfl | simp, ⟨_, rfl, g5⟩, ⟨_, _, FVerdictSites, FLog, by first | rfl | simp, by first | rfl | simp, (R_VrdVerdict.2 ⟨_, _, rfl, rfl, g6, g7, g8⟩), ⟨_, rfl, g9⟩⟩⟩⟩⟩⟩⟩⟩⟩
structure RunFrame where
  Proc : Int
  Pc : Int
  Vars : (List Int)
  Cells : (List Int)
  deriving DecidableEq
instance : Rp RunFrame := Rp.by_ (fun x => (x.Proc, x.Pc, x.Vars, x.Cells))
theorem R_RunFrame {w : World} {x : RunFrame} {cs : List Value} {F : List Nat} : R w x cs F ↔ ∃ vVars FVars vCells FCells, (cs = [.int .i64 x.Proc, .int .i64 x.Pc, vVars, vCells] ∧ F = FVars ++ (FCells) ∧ I64 x.Proc ∧ I64 x.Pc ∧ RL w x.Vars vVars FVars ∧ RL w x.Cells vCells FCells) := by
  constructor
  · intro h
    obtain ⟨_, _, _, _, rfl, rfl, h0, h0'⟩ := h
    obtain ⟨rfl, rfl, g0⟩ := h0
    obtain ⟨_, _, _, _, rfl, rfl, h1, h1'⟩ := h0'
    obtain ⟨rfl, rfl, g1⟩ := h1
    obtain ⟨_, _, _, _, rfl, rfl, h2, h2'⟩ := h1'
    obtain ⟨_, rfl, g2⟩ := h2
    obtain ⟨_, rfl, g3⟩ := h2'
    exact ⟨_, _, _, _, by simp, by simp, g0, g1, g2, g3⟩
  · rintro ⟨vVars, FVars, vCells, FCells, rfl, rfl, g0, g1, g2, g3⟩
    exact ⟨_, _, [], FVars ++ (FCells), by first | rfl | simp, by first | rfl | simp, ⟨rfl, rfl, g0⟩, ⟨_, _, [], FVars ++ (FCells), by first | rfl | simp, by first | rfl | simp, ⟨rfl, rfl, g1⟩, ⟨_, _, FVars, FCells, by first | rfl | simp, by first | rfl | simp, ⟨_, rfl, g2⟩, ⟨_, rfl, g3⟩⟩⟩⟩
theorem sz_RunFrame : sz RunFrame = 4 := rfl
structure RunRun where
  State : Int
  Frames : (List RunFrame)
  Out : Int
  Proc : Int
  Pc : Int
  deriving DecidableEq
instance : Rp RunRun := Rp.by_ (fun x => (x.State, x.Frames, x.Out, x.Proc, x.Pc))
theorem R_RunRun {w : World} {x : RunRun} {cs : List Value} {F : List Nat} : R w x cs F ↔ ∃ vFrames FFrames, (cs = [.int .i64 x.State, vFrames, .int .i64 x.Out, .int .i64 x.Proc, .int .i64 x.Pc] ∧ F = FFrames ∧ I64 x.State ∧ RL w x.Frames vFrames FFrames ∧ I64 x.Out ∧ I64 x.Proc ∧ I64 x.Pc) := by
  constructor
  · intro h
    obtain ⟨_, _, _, _, rfl, rfl, h0, h0'⟩ := h
    obtain ⟨rfl, rfl, g0⟩ := h0
    obtain ⟨_, _, _, _, rfl, rfl, h1, h1'⟩ := h0'
    obtain ⟨_, rfl, g1⟩ := h1
    obtain ⟨_, _, _, _, rfl, rfl, h2, h2'⟩ := h1'
    obtain ⟨rfl, rfl, g2⟩ := h2
    obtain ⟨_, _, _, _, rfl, rfl, h3, h3'⟩ := h2'
    obtain ⟨rfl, rfl, g3⟩ := h3
    obtain ⟨rfl, rfl, g4⟩ := h3'
    exact ⟨_, _, by simp, by simp, g0, g1, g2, g3, g4⟩
  · rintro ⟨vFrames, FFrames, rfl, rfl, g0, g1, g2, g3, g4⟩
    exact ⟨_, _, [], F, by first | rfl | simp, by first | rfl | simp, ⟨rfl, rfl, g0⟩, ⟨_, _, F, [], by first | rfl | simp, by first | rfl | simp, ⟨_, rfl, g1⟩, ⟨_, _, [], [], by first | rfl | simp, by first | rfl | simp, ⟨rfl, rfl, g2⟩, ⟨_, _, [], [], by first | rfl | simp, by first | rfl | simp, ⟨rfl, rfl, g3⟩, ⟨rfl, rfl, g4⟩⟩⟩⟩⟩
instance : Mk CrtSite := ⟨fun x k => { Proc := (k), Pc := (k + 1) }, fun x => 1 + 1⟩
instance : Mk VrdVerdict := ⟨fun x k => { Kind := (k), Line := (k + 1), Sites := (mkL x.Sites (k + 1 + 1)) }, fun x => 1 + 1 + (cntL x.Sites)⟩
def VrdVerdict.cv (x : VrdVerdict) : Nat := (cntL x.Sites)
instance : Mk InsIns := ⟨fun x k => { Op := (k), D := (k + 1), A := (k + 1 + 1), B := (k + 1 + 1 + 1), Rel := (k + 1 + 1 + 1 + 1), Lo := (k + 1 + 1 + 1 + 1 + 1), Hi := (k + 1 + 1 + 1 + 1 + 1 + 1), To := (k + 1 + 1 + 1 + 1 + 1 + 1 + 1) }, fun x => 1 + 1 + 1 + 1 + 1 + 1 + 1 + 1⟩
theorem mark_InsIns (x : InsIns) (k : Int) : Mk.mark x k = { Op := (k), D := (k + 1), A := (k + 1 + 1), B := (k + 1 + 1 + 1), Rel := (k + 1 + 1 + 1 + 1), Lo := (k + 1 + 1 + 1 + 1 + 1), Hi := (k + 1 + 1 + 1 + 1 + 1 + 1), To := (k + 1 + 1 + 1 + 1 + 1 + 1 + 1) } := rfl
theorem cnt_InsIns (x : InsIns) : Mk.cnt x = 1 + 1 + 1 + 1 + 1 + 1 + 1 + 1 := rfl
instance : Mk PrcProc := ⟨fun x k => { Lo := (k), Hi := (k + 1), Code := (mkL x.Code (k + 1 + 1)) }, fun x => 1 + 1 + (cntL x.Code)⟩
theorem mark_PrcProc (x : PrcProc) (k : Int) : Mk.mark x k = { Lo := (k), Hi := (k + 1), Code := (mkL x.Code (k + 1 + 1)) } := rfl
theorem cnt_PrcProc (x : PrcProc) : Mk.cnt x = 1 + 1 + (cntL x.Code) := rfl
def PrcProc.cv (x : PrcProc) : Nat := (cntL x.Code)
instance : Mk PrgProg := ⟨fun x k => { Procs := (mkL x.Procs (k)) }, fun x => (cntL x.Procs)⟩
def PrgProg.cv (x : PrgProg) : Nat := (cntL x.Procs)
instance : Mk ItvItv := ⟨fun x k => { Lo := (k), Hi := (k + 1) }, fun x => 1 + 1⟩
instance : Mk AbsState := ⟨fun x k => { On := ((k) % 3 == 0), Vars := (mkL x.Vars (k + 1)), Cells := { Lo := (k + 1 + (cntL x.Vars : Int)), Hi := (k + 1 + (cntL x.Vars : Int) + 1) } }, fun x => 1 + (cntL x.Vars) + 1 + 1⟩
def AbsState.cv (x : AbsState) : Nat := (cntL x.Vars)
instance : Mk SumSum := ⟨fun x k => { On := ((k) % 3 == 0), Out := { Lo := (k + 1), Hi := (k + 1 + 1) } }, fun x => 1 + 1 + 1⟩
instance : Mk CrtCert := ⟨fun x k => { States := (mkL x.States (k)), Outs := (mkL x.Outs (k + (cntL x.States : Int))) }, fun x => (cntL x.States) + (cntL x.Outs)⟩
def CrtCert.cv (x : CrtCert) : Nat := (cntL x.States) + (cntL x.Outs)
instance : Mk EngEng := ⟨fun x k => { Phase := (k), Round := (k + 1), Cert := { States := (mkL x.Cert.States (k + 1 + 1)), Outs := (mkL x.Cert.Outs (k + 1 + 1 + (cntL x.Cert.States : Int))) } }, fun x => 1 + 1 + (cntL x.Cert.States) + (cntL x.Cert.Outs)⟩
def EngEng.cv (x : EngEng) : Nat := (cntL x.Cert.States) + (cntL x.Cert.Outs)
instance : Mk CrdLease := ⟨fun x k => { Part := (k), Who := (k + 1), Seq := (k + 1 + 1), Due := (k + 1 + 1 + 1) }, fun x => 1 + 1 + 1 + 1⟩
instance : Mk CrdCoord := ⟨fun x k => { Up := ((k) % 3 == 0), Epoch := (k + 1), Seq := (k + 1 + 1), Clock := (k + 1 + 1 + 1), Done := (mkL x.Done (k + 1 + 1 + 1 + 1)), Certs := (mkL x.Certs (k + 1 + 1 + 1 + 1 + (cntL x.Done : Int))), Leases := (mkL x.Leases (k + 1 + 1 + 1 + 1 + (cntL x.Done : Int) + (cntL x.Certs : Int))), Verdict := { Kind := (k + 1 + 1 + 1 + 1 + (cntL x.Done : Int) + (cntL x.Certs : Int) + (cntL x.Leases : Int)), Line := (k + 1 + 1 + 1 + 1 + (cntL x.Done : Int) + (cntL x.Certs : Int) + (cntL x.Leases : Int) + 1), Sites := (mkL x.Verdict.Sites (k + 1 + 1 + 1 + 1 + (cntL x.Done : Int) + (cntL x.Certs : Int) + (cntL x.Leases : Int) + 1 + 1)) }, Log := (mkL x.Log (k + 1 + 1 + 1 + 1 + (cntL x.Done : Int) + (cntL x.Certs : Int) + (cntL x.Leases : Int) + 1 + 1 + (cntL x.Verdict.Sites : Int))) }, fun x => 1 + 1 + 1 + 1 + (cntL x.Done) + (cntL x.Certs) + (cntL x.Leases) + 1 + 1 + (cntL x.Verdict.Sites) + (cntL x.Log)⟩
def CrdCoord.cv (x : CrdCoord) : Nat := (cntL x.Done) + (cntL x.Certs) + (cntL x.Leases) + (cntL x.Verdict.Sites) + (cntL x.Log)
instance : Mk RunFrame := ⟨fun x k => { Proc := (k), Pc := (k + 1), Vars := (mkL x.Vars (k + 1 + 1)), Cells := (mkL x.Cells (k + 1 + 1 + (cntL x.Vars : Int))) }, fun x => 1 + 1 + (cntL x.Vars) + (cntL x.Cells)⟩
theorem mark_RunFrame (x : RunFrame) (k : Int) : Mk.mark x k = { Proc := (k), Pc := (k + 1), Vars := (mkL x.Vars (k + 1 + 1)), Cells := (mkL x.Cells (k + 1 + 1 + (cntL x.Vars : Int))) } := rfl
theorem cnt_RunFrame (x : RunFrame) : Mk.cnt x = 1 + 1 + (cntL x.Vars) + (cntL x.Cells) := rfl
def RunFrame.cv (x : RunFrame) : Nat := (cntL x.Vars) + (cntL x.Cells)
instance : Mk RunRun := ⟨fun x k => { State := (k), Frames := (mkL x.Frames (k + 1)), Out := (k + 1 + (cntL x.Frames : Int)), Proc := (k + 1 + (cntL x.Frames : Int) + 1), Pc := (k + 1 + (cntL x.Frames : Int) + 1 + 1) }, fun x => 1 + (cntL x.Frames) + 1 + 1 + 1⟩
def RunRun.cv (x : RunRun) : Nat := (cntL x.Frames)
instance : Zr CrtSite := ⟨{ Proc := 0, Pc := 0 }, [.int .i64 0, .int .i64 0], fun _ => R_CrtSite.2 ⟨rfl, by simp, I64_0, I64_0⟩⟩
instance : Zr VrdVerdict := ⟨{ Kind := 0, Line := 0, Sites := [] }, [.int .i64 0, .int .i64 0, .slice none 0 0], fun _ => R_VrdVerdict.2 ⟨_, [], rfl, by simp, I64_0, I64_0, RL.nil_⟩⟩
instance : Zr InsIns := ⟨{ Op := 0, D := 0, A := 0, B := 0, Rel := 0, Lo := 0, Hi := 0, To := 0 }, [.int .i64 0, .int .i64 0, .int .i64 0, .int .i64 0, .int .i64 0, .int .i64 0, .int .i64 0, .int .i64 0], fun _ => R_InsIns.2 ⟨rfl, by simp, I64_0, I64_0, I64_0, I64_0, I64_0, I64_0, I64_0, I64_0⟩⟩
instance : Zr PrcProc := ⟨{ Lo := 0, Hi := 0, Code := [] }, [.int .i64 0, .int .i64 0, .slice none 0 0], fun _ => R_PrcProc.2 ⟨_, [], rfl, by simp, I64_0, I64_0, RL.nil_⟩⟩
instance : Zr PrgProg := ⟨{ Procs := [] }, [.slice none 0 0], fun _ => R_PrgProg.2 ⟨_, [], rfl, by simp, RL.nil_⟩⟩
instance : Zr ItvItv := ⟨{ Lo := 0, Hi := 0 }, [.int .i64 0, .int .i64 0], fun _ => R_ItvItv.2 ⟨rfl, by simp, I64_0, I64_0⟩⟩
instance : Zr AbsState := ⟨{ On := false, Vars := [], Cells := { Lo := 0, Hi := 0 } }, [.bool false, .slice none 0 0, .int .i64 0, .int .i64 0], fun _ => R_AbsState.2 ⟨_, [], rfl, by simp, RL.nil_, I64_0, I64_0⟩⟩
instance : Zr SumSum := ⟨{ On := false, Out := { Lo := 0, Hi := 0 } }, [.bool false, .int .i64 0, .int .i64 0], fun _ => R_SumSum.2 ⟨rfl, by simp, I64_0, I64_0⟩⟩
instance : Zr CrtCert := ⟨{ States := [], Outs := [] }, [.slice none 0 0, .slice none 0 0], fun _ => R_CrtCert.2 ⟨_, [], _, [], rfl, by simp, RL.nil_, RL.nil_⟩⟩
instance : Zr EngEng := ⟨{ Phase := 0, Round := 0, Cert := { States := [], Outs := [] } }, [.int .i64 0, .int .i64 0, .slice none 0 0, .slice none 0 0], fun _ => R_EngEng.2 ⟨_, [], _, [], rfl, by simp, I64_0, I64_0, RL.nil_, RL.nil_⟩⟩
instance : Zr CrdLease := ⟨{ Part := 0, Who := 0, Seq := 0, Due := 0 }, [.int .i64 0, .int .i64 0, .int .i64 0, .int .i64 0], fun _ => R_CrdLease.2 ⟨rfl, by simp, I64_0, I64_0, I64_0, I64_0⟩⟩
instance : Zr CrdCoord := ⟨{ Up := false, Epoch := 0, Seq := 0, Clock := 0, Done := [], Certs := [], Leases := [], Verdict := { Kind := 0, Line := 0, Sites := [] }, Log := [] }, [.bool false, .int .i64 0, .int .i64 0, .int .i64 0, .slice none 0 0, .slice none 0 0, .slice none 0 0, .int .i64 0, .int .i64 0, .slice none 0 0, .slice none 0 0], fun _ => R_CrdCoord.2 ⟨_, [], _, [], _, [], _, [], _, [], rfl, by simp, I64_0, I64_0, I64_0, RL.nil_, RL.nil_, RL.nil_, I64_0, I64_0, RL.nil_, RL.nil_⟩⟩
instance : Zr RunFrame := ⟨{ Proc := 0, Pc := 0, Vars := [], Cells := [] }, [.int .i64 0, .int .i64 0, .slice none 0 0, .slice none 0 0], fun _ => R_RunFrame.2 ⟨_, [], _, [], rfl, by simp, I64_0, I64_0, RL.nil_, RL.nil_⟩⟩
instance : Zr RunRun := ⟨{ State := 0, Frames := [], Out := 0, Proc := 0, Pc := 0 }, [.int .i64 0, .slice none 0 0, .int .i64 0, .int .i64 0, .int .i64 0], fun _ => R_RunRun.2 ⟨_, [], rfl, by simp, I64_0, RL.nil_, I64_0, I64_0, I64_0⟩⟩
instance : Sz CrtSite := ⟨fun x => 0⟩
instance : Sz VrdVerdict := ⟨fun x => szL x.Sites⟩
theorem size_VrdVerdict (x : VrdVerdict) : Sz.size x = szL x.Sites := rfl
instance : Sz InsIns := ⟨fun x => 0⟩
theorem size_InsIns (x : InsIns) : Sz.size x = 0 := rfl
instance : Sz PrcProc := ⟨fun x => szL x.Code⟩
theorem size_PrcProc (x : PrcProc) : Sz.size x = szL x.Code := rfl
instance : Sz PrgProg := ⟨fun x => szL x.Procs⟩
theorem size_PrgProg (x : PrgProg) : Sz.size x = szL x.Procs := rfl
instance : Sz ItvItv := ⟨fun x => 0⟩
instance : Sz AbsState := ⟨fun x => szL x.Vars⟩
theorem size_AbsState (x : AbsState) : Sz.size x = szL x.Vars := rfl
instance : Sz SumSum := ⟨fun x => 0⟩
instance : Sz CrtCert := ⟨fun x => szL x.States + szL x.Outs⟩
theorem size_CrtCert (x : CrtCert) : Sz.size x = szL x.States + szL x.Outs := rfl
instance : Sz EngEng := ⟨fun x => szL x.Cert.States + szL x.Cert.Outs⟩
theorem size_EngEng (x : EngEng) : Sz.size x = szL x.Cert.States + szL x.Cert.Outs := rfl
instance : Sz CrdLease := ⟨fun x => 0⟩
instance : Sz CrdCoord := ⟨fun x => szL x.Done + szL x.Certs + szL x.Leases + szL x.Verdict.Sites + szL x.Log⟩
theorem size_CrdCoord (x : CrdCoord) : Sz.size x = szL x.Done + szL x.Certs + szL x.Leases + szL x.Verdict.Sites + szL x.Log := rfl
instance : Sz RunFrame := ⟨fun x => szL x.Vars + szL x.Cells⟩
theorem size_RunFrame (x : RunFrame) : Sz.size x = szL x.Vars + szL x.Cells := rfl
instance : Sz RunRun := ⟨fun x => szL x.Frames⟩
theorem size_RunRun (x : RunRun) : Sz.size x = szL x.Frames := rfl
end Ow
namespace Ow

/-! ### chapter 1 -/
def numOk (n : Int) : Bool := decide (-32768 ≤ n) && decide (n ≤ 32767)
def numWrap (n : Int) : Int := (n + 32768) % 65536 - 32768
def numDo (op a b : Int) : Int × Bool :=
  if numOk a && numOk b then
    if op = 1 then (numWrap (a + b), true)
    else if op = 2 then (numWrap (a - b), true)
    else if op = 3 then (numWrap (a * b), true)
    else if op = 4 then (if b = 0 then (0, false) else (numWrap (a.tdiv b), true))
    else (0, false)
  else (0, false)
def relHolds (rel a b : Int) : Bool :=
  if rel = 1 then decide (a < b) else if rel = 2 then decide (a ≤ b) else if rel = 3 then a == b else if rel = 4 then a != b else false
theorem numOk_iff (n : Int) : numOk n = true ↔ -32768 ≤ n ∧ n ≤ 32767 := by simp [numOk]
theorem numWrap_ok (n : Int) : -32768 ≤ numWrap n ∧ numWrap n ≤ 32767 := by unfold numWrap; omega
theorem numWrap_id {n : Int} (h : -32768 ≤ n ∧ n ≤ 32767) : numWrap n = n := by unfold numWrap; omega

/-! ### chapter 3 -/
def itvOk (a : ItvItv) : Bool := numOk a.Lo && numOk a.Hi && decide (a.Lo ≤ a.Hi)
def varOk (n : Int) : Bool := decide (0 ≤ n) && decide (n < 4)
def relOk (n : Int) : Bool := decide (1 ≤ n) && decide (n ≤ 4)
def below (n many : Int) : Bool := decide (0 ≤ n) && decide (n < many)
/-- the fields that the operation does not have, at 0 (op is one of the twelve) -/
def formOk (i : InsIns) : Bool :=
  if i.Op ≤ 4 then i.Rel == 0 && i.Lo == 0 && i.Hi == 0 && i.To == 0
  else if i.Op = 5 then i.A == 0 && i.B == 0 && i.Rel == 0 && i.To == 0
  else if i.Op = 6 then i.B == 0 && i.Rel == 0 && i.Lo == 0 && i.Hi == 0 && i.To == 0
  else if i.Op = 7 then i.D == 0 && i.Rel == 0 && i.Lo == 0 && i.Hi == 0 && i.To == 0
  else if i.Op = 8 then i.D == 0 && i.Lo == 0 && i.Hi == 0
  else if i.Op = 9 then i.D == 0 && i.A == 0 && i.B == 0 && i.Rel == 0 && i.Lo == 0 && i.Hi == 0
  else if i.Op = 10 then i.B == 0 && i.Rel == 0 && i.Lo == 0 && i.Hi == 0
  else if i.Op = 11 then i.D == 0 && i.Lo == 0 && i.Hi == 0 && i.To == 0
  else i.D == 0 && i.B == 0 && i.Rel == 0 && i.Lo == 0 && i.Hi == 0 && i.To == 0
def restOk (i : InsIns) (procs size : Int) : Bool :=
  if i.Op = 5 then itvOk ⟨i.Lo, i.Hi⟩
  else if i.Op = 8 then relOk i.Rel && below i.To size
  else if i.Op = 9 then below i.To size
  else if i.Op = 10 then below i.To procs
  else if i.Op = 11 then relOk i.Rel
  else true
def insOk (i : InsIns) (procs size : Int) : Bool :=
  decide (1 ≤ i.Op) && decide (i.Op ≤ 12) && formOk i && varOk i.D && varOk i.A && varOk i.B && restOk i procs size
def insRisks (op : Int) : Bool := op == 4 || op == 6 || op == 7 || op == 10 || op == 11
def insEnds (i : InsIns) : Bool := i.Op == 12 || i.Op == 9
def insZero : InsIns := { Op := 0, D := 0, A := 0, B := 0, Rel := 0, Lo := 0, Hi := 0, To := 0 }
def procOk (c : PrcProc) (procs : Int) : Bool :=
  itvOk ⟨c.Lo, c.Hi⟩ && decide (1 ≤ c.Code.length) && decide (c.Code.length ≤ 10) && c.Code.all (fun i => insOk i procs c.Code.length) && (c.Code.getLast?.elim false insEnds)
def prgOk (p : PrgProg) : Bool := decide (1 ≤ p.Procs.length) && decide (p.Procs.length ≤ 4) && p.Procs.all (fun c => procOk c p.Procs.length)
/-- the instruction at an address -/
def prgAt (p : PrgProg) (proc pc : Int) : Option InsIns :=
  if proc < 0 ∨ pc < 0 then none else p.Procs[proc.toNat]?.bind fun c => c.Code[pc.toNat]?

/-! ### chapter 5 -/
def numsOk (l : List Int) (n : Nat) : Bool := l.length == n && l.all numOk
def frameOk (p : PrgProg) (f : RunFrame) : Bool := (prgAt p f.Proc f.Pc).isSome && numsOk f.Vars 4 && numsOk f.Cells 4
/-- each call but the innermost one stands at an OpCall of the next one's procedure -/
def nestOk (p : PrgProg) : List RunFrame → Bool
  | [] => true
  | [f] => frameOk p f
  | f :: g :: r => frameOk p f && ((prgAt p f.Proc f.Pc).elim false fun i => i.Op == 10 && i.To == g.Proc) && nestOk p (g :: r)
def runOk (p : PrgProg) (r : RunRun) : Bool :=
  prgOk p && decide (1 ≤ r.State) && decide (r.State ≤ 4) && numOk r.Out && (r.State == 2 || r.Out == 0) &&
  (if r.State = 3 then (prgAt p r.Proc r.Pc).elim false (fun i => insRisks i.Op) else r.Proc == 0 && r.Pc == 0) &&
  (if r.State = 1 then decide (1 ≤ r.Frames.length) && decide (r.Frames.length ≤ 5) && nestOk p r.Frames else r.Frames.isEmpty)
def runZero : RunRun := { State := 0, Frames := [], Out := 0, Proc := 0, Pc := 0 }
def runFail (f : RunFrame) : RunRun := { State := 3, Frames := [], Out := 0, Proc := f.Proc, Pc := f.Pc }
def runDeep : RunRun := { State := 4, Frames := [], Out := 0, Proc := 0, Pc := 0 }
def runDone (n : Int) : RunRun := { State := 2, Frames := [], Out := n, Proc := 0, Pc := 0 }
def entered (proc arg : Int) : RunFrame := { Proc := proc, Pc := 0, Vars := [arg, 0, 0, 0], Cells := [0, 0, 0, 0] }
/-- the frames with the last one turned -/
def setLast (l : List RunFrame) (f : RunFrame) : List RunFrame := l.dropLast ++ [f]
def goes (fs : List RunFrame) : RunRun := { State := 1, Frames := fs, Out := 0, Proc := 0, Pc := 0 }
def getI (l : List Int) (k : Int) : Int := l.getD k.toNat 0
def setI (l : List Int) (k : Int) (v : Int) : List Int := l.set k.toNat v
/-- one step of a run that goes on: its frames, the last of which is f, at instruction i -/
def stepAt (p : PrgProg) (fs : List RunFrame) (f : RunFrame) (i : InsIns) (inp : Int) : RunRun :=
  let a := getI f.Vars i.A
  let b := getI f.Vars i.B
  let set (n : Int) : RunRun := goes (setLast fs { f with Vars := setI f.Vars i.D n, Pc := f.Pc + 1 })
  let go (pc : Int) : RunRun := goes (setLast fs { f with Pc := pc })
  if i.Op ≤ 4 then (if (numDo i.Op a b).2 then set (numDo i.Op a b).1 else runFail f)
  else if i.Op = 5 then set (i.Lo + inp % (i.Hi - i.Lo + 1))
  else if i.Op = 6 then (if below a 4 then set (getI f.Cells a) else runFail f)
  else if i.Op = 7 then (if below a 4 then goes (setLast fs { f with Cells := setI f.Cells a b, Pc := f.Pc + 1 }) else runFail f)
  else if i.Op = 8 then go (if relHolds i.Rel a b then i.To else f.Pc + 1)
  else if i.Op = 9 then go i.To
  else if i.Op = 10 then
    (match p.Procs[i.To.toNat]? with
    | none => runZero
    | some c => if c.Lo ≤ a ∧ a ≤ c.Hi then (if fs.length = 5 then runDeep else goes (fs ++ [entered i.To a])) else runFail f)
  else if i.Op = 11 then (if relHolds i.Rel a b then go (f.Pc + 1) else runFail f)
  else
    (match fs.dropLast.getLast? with
    | none => runDone a
    | some g => goes (setLast fs.dropLast { g with Vars := setI g.Vars ((prgAt p g.Proc g.Pc).getD insZero).D a, Pc := g.Pc + 1 }))
def stepped (p : PrgProg) (r : RunRun) (inp : Int) : RunRun :=
  match r.Frames.getLast? with
  | none => runZero
  | some f => stepAt p r.Frames f ((prgAt p f.Proc f.Pc).getD insZero) inp
def runStep (p : PrgProg) (r : RunRun) (inp : Int) : RunRun :=
  if runOk p r then (if r.State = 1 then stepped p r inp else r) else runZero
/-- what is left of the inputs, and the next one, at a step -/
def nextIn (p : PrgProg) (r : RunRun) (ins : List Int) : Int × List Int :=
  match r.Frames.getLast? with
  | none => (0, ins)
  | some f => if ((prgAt p f.Proc f.Pc).getD insZero).Op = 5 then (ins.headD 0, ins.tail) else (0, ins)
def runFuel (p : PrgProg) : Nat → RunRun → List Int → RunRun
  | 0, r, _ => r
  | n + 1, r, ins => if r.State = 1 then runFuel p n (stepped p r (nextIn p r ins).1) (nextIn p r ins).2 else r
def runMany (p : PrgProg) (r : RunRun) (ins : List Int) (fuel : Int) : RunRun :=
  if runOk p r ∧ fuel ≤ 300 then runFuel p fuel.toNat r ins else runZero
end Ow
