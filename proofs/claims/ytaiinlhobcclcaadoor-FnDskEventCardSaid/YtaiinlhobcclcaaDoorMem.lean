/-
  Memory words of my own, with no program in sight: 'Chg F w w'': outside the blocks F all that was there is as it was; 'Rp': a value of a Lean type that reads out of cells; marks.
-/
import Derived.WalkKit
import Derived.ProofKit
import Derived.Below
import Derived.Deep.Slices
import Derived.Deep.Draws
namespace Ow
open Go Go.RowKit Go.Deep

/-! ### the change of the world -/
structure Chg (F : List Nat) (w w' : World) : Prop where
  os : w'.os = w.os
  tape : w'.tape = w.tape
  output : w'.output = w.output
  size : w.heap.size ≤ w'.heap.size
  block : ∀ k, k < w.heap.size → k ∉ F → w'.heap[k]? = w.heap[k]?

section
variable {F G : List Nat} {w w1 w' : World}
theorem Chg.refl (F : List Nat) (w : World) : Chg F w w := ⟨rfl, rfl, rfl, Nat.le_refl _, fun _ _ _ => rfl⟩
theorem Chg.trans (h : Chg F w w1) (k : Chg G w1 w') (hG : ∀ g ∈ G, g ∈ F ∨ w.heap.size ≤ g) : Chg F w w' :=
  ⟨k.os.trans h.os, k.tape.trans h.tape, k.output.trans h.output, Nat.le_trans h.size k.size, fun i hi hn =>
    (k.block i (Nat.lt_of_lt_of_le hi h.size) (fun hg => by rcases hG i hg with h1 | h1; exact hn h1; omega)).trans (h.block i hi hn)⟩
theorem Chg.trans0 (h : Chg F w w1) (k : Chg [] w1 w') : Chg F w w' := h.trans k (fun g hg => by cases hg)
theorem Chg.mono (h : Chg F w w') (hF : ∀ g ∈ F, g ∈ G) : Chg G w w' := ⟨h.os, h.tape, h.output, h.size, fun k hk hn => h.block k hk (fun hf => hn (hF k hf))⟩
theorem Chg.of0 (h : Chg [] w w') : Chg F w w' := h.mono (fun g hg => by cases hg)
theorem Chg.drew (h : Chg F w w') : Chg F w w'.drew := ⟨h.os, h.tape, h.output, h.size, h.block⟩
theorem Chg.drewN (h : Chg F w w') (n : Nat) : Chg F w (w'.drewN n) := ⟨h.os, h.tape, h.output, h.size, h.block⟩
theorem Chg.un (n : Nat) (h : Chg F (w.drewN n) w') : Chg F w w' := ⟨h.os, h.tape, h.output, h.size, h.block⟩
theorem Chg.un1 (h : Chg F w.drew w') : Chg F w w' := ⟨h.os, h.tape, h.output, h.size, h.block⟩
theorem Chg.alloc (h : Chg F w w') (o : Obj) : Chg F w (w'.alloc o) :=
  h.trans0 ⟨rfl, rfl, rfl, by simp, fun k hk _ => Below.heap_alloc _ _ _ hk⟩
theorem Chg.setCell (h : Chg F w w') {p : Addr} (hp : p.block ∈ F ∨ w.heap.size ≤ p.block) (u : Value) : Chg F w (w'.setCell p u) :=
  h.trans (G := [p.block]) ⟨rfl, rfl, rfl, by simp [World.setCell], fun k _ hn => Below.heap_setCell _ _ _ _ (fun e => hn (by simp [e]))⟩ (fun g hg => by simp at hg; subst hg; exact hp)
theorem Chg.of_below (h : Below w.heap.size w w') : Chg F w w' := ⟨h.os, h.tape, h.output, h.size, fun k hk _ => h.block k hk⟩
theorem Chg.below (h : Chg [] w w') : Below w.heap.size w w' := ⟨h.os, h.tape, h.output, h.size, fun k hk => h.block k hk (by simp)⟩
theorem Chg.cell (h : Chg F w w') {p : Addr} (hp : p.block < w.heap.size) (hn : p.block ∉ F) : w'.cell? p = w.cell? p := World.cell?_of_block (w := w) (h.block p.block hp hn)
theorem Chg.cell0 (h : Chg [] w w') {p : Addr} {v : Value} (hv : w.cell? p = some v) : w'.cell? p = some v :=
  (World.cell?_of_block (w := w) (h.block p.block (World.block_lt_of_cell? _ _ hv) (by simp))).trans hv
theorem Chg.cells (h : Chg [] w w') : (∀ b o, b < w.heap.size → w'.cell? ⟨b, o, none⟩ = w.cell? ⟨b, o, none⟩) ∧ (∀ b o, b < w.heap.size → w'.frozen? ⟨b, o, none⟩ = w.frozen? ⟨b, o, none⟩) :=
  ⟨fun b o hb => World.cell?_of_block (w := w) (a := ⟨b, o, none⟩) (h.block b hb (by simp)), fun b o hb => World.frozen?_of_block (w := w) (a := ⟨b, o, none⟩) (h.block b hb (by simp))⟩
theorem Chg.grown {row : Option Nat} (h : Chg F w w1) (hg : w1.grownBy w' row) (hr : ∀ k, row = some k → k ∈ F ∨ w.heap.size ≤ k) : Chg F w w' :=
  h.trans (G := row.toList) ⟨hg.os, hg.tape, hg.output, hg.size, fun k hk hn => hg.block k hk (fun e => hn (by simp [← e]))⟩ (fun g hg' => hr g (by simpa using hg'))
end

/-! ### what reads -/
/-- an int of 64 bits -/
def I64 (n : Int) : Prop := -9223372036854775808 ≤ n ∧ n ≤ 9223372036854775807
theorem I64_0 : I64 0 := by unfold I64; omega

class Rp (α : Type) where
  sz : Nat
  R : World → α → List Value → List Nat → Prop
  len : ∀ {w x cs F}, R w x cs F → cs.length = sz
  keep : ∀ {w w' x cs F}, R w x cs F → (∀ b ∈ F, w'.heap[b]? = w.heap[b]?) → R w' x cs F
  lt : ∀ {w x cs F}, R w x cs F → ∀ b ∈ F, b < w.heap.size
  one : ∀ {w x cs F}, R w x cs F → ∀ u ∈ cs, u.oneCell' = true
open Rp (R sz)

theorem Rp.chg {α : Type} [Rp α] {w w' : World} {x : α} {cs : List Value} {F G : List Nat} (h : R w x cs F) (hc : Chg G w w') (hd : ∀ b ∈ F, b ∉ G) : R w' x cs F :=
  Rp.keep h (fun b hb => hc.block b (Rp.lt h b hb) (hd b hb))
theorem Rp.chg0 {α : Type} [Rp α] {w w' : World} {x : α} {cs : List Value} {F : List Nat} (h : R w x cs F) (hc : Chg [] w w') : R w' x cs F := Rp.chg h hc (by simp)
theorem Rp.heap {α : Type} [Rp α] {w w' : World} {x : α} {cs : List Value} {F : List Nat} (h : R w x cs F) (hc : w'.heap = w.heap) : R w' x cs F := Rp.keep h (fun b _ => by rw [hc])

instance : Rp Int where
  sz := 1
  R := fun _ x cs F => cs = [.int .i64 x] ∧ F = [] ∧ I64 x
  len := fun h => by rw [h.1]; rfl
  keep := fun h _ => h
  lt := fun h b hb => by rw [h.2.1] at hb; cases hb
  one := fun h u hu => by rw [h.1] at hu; simp at hu; subst hu; rfl
instance : Rp Bool where
  sz := 1
  R := fun _ x cs F => cs = [.bool x] ∧ F = []
  len := fun h => by rw [h.1]; rfl
  keep := fun h _ => h
  lt := fun h b hb => by rw [h.2] at hb; cases hb
  one := fun h u hu => by rw [h.1] at hu; simp at hu; subst hu; rfl
instance : Rp UInt8 where
  sz := 1
  R := fun _ x cs F => cs = [.int .u8 x.toNat] ∧ F = []
  len := fun h => by rw [h.1]; rfl
  keep := fun h _ => h
  lt := fun h b hb => by rw [h.2] at hb; cases hb
  one := fun h u hu => by rw [h.1] at hu; simp at hu; subst hu; rfl
instance : Rp ByteArray where
  sz := 1
  R := fun _ x cs F => cs = [.string x] ∧ F = [] ∧ x.size ≤ maxLen
  len := fun h => by rw [h.1]; rfl
  keep := fun h _ => h
  lt := fun h b hb => by rw [h.2.1] at hb; cases hb
  one := fun h u hu => by rw [h.1] at hu; simp at hu; subst hu; rfl
instance {α β : Type} [Rp α] [Rp β] : Rp (α × β) where
  sz := sz α + sz β
  R := fun w x cs F => ∃ c1 c2 F1 F2, cs = c1 ++ c2 ∧ F = F1 ++ F2 ∧ R w x.1 c1 F1 ∧ R w x.2 c2 F2
  len := fun ⟨c1, c2, F1, F2, h1, h2, h3, h4⟩ => by rw [h1, List.length_append, Rp.len h3, Rp.len h4]
  keep := fun ⟨c1, c2, F1, F2, h1, h2, h3, h4⟩ hk => ⟨c1, c2, F1, F2, h1, h2, Rp.keep h3 (fun b hb => hk b (by rw [h2]; simp [hb])), Rp.keep h4 (fun b hb => hk b (by rw [h2]; simp [hb]))⟩
  lt := fun ⟨c1, c2, F1, F2, h1, h2, h3, h4⟩ b hb => by rw [h2, List.mem_append] at hb; exact hb.elim (Rp.lt h3 b) (Rp.lt h4 b)
  one := fun ⟨c1, c2, F1, F2, h1, h2, h3, h4⟩ u hu => by rw [h1, List.mem_append] at hu; exact hu.elim (Rp.one h3 u) (Rp.one h4 u)

theorem u8_mark (q : Int) : (((UInt8.ofNat (q % 256).toNat).toNat : Nat) : Int) = q % 256 := by
  have h : (q % 256).toNat < 256 := by omega
  rw [UInt8.toNat_ofNat', Nat.mod_eq_of_lt h]
  omega
theorem u8_mark_cell (q : Int) : ([Value.int .u8 (((UInt8.ofNat (q % 256).toNat).toNat : Nat) : Int)] : List Value) = [Value.int .u8 (q % 256)] := by rw [u8_mark]

/-- a type as another one -/
@[reducible] def Rp.by_ {α β : Type} [Rp β] (f : α → β) : Rp α where
  sz := sz β
  R := fun w x cs F => R w (f x) cs F
  len := fun h => Rp.len h
  keep := fun h hk => Rp.keep h hk
  lt := fun h => Rp.lt h
  one := fun h => Rp.one h

/-- the cells of a slice that is not empty -/
structure Row {α : Type} [Rp α] (w : World) (xs : List α) (b off : Nat) (C : Nat → List Value) (Fs : Nat → List Nat) : Prop where
  lt : b < w.heap.size
  cell : ∀ i (h : i < xs.length), ∀ j, j < sz α → w.cell? ⟨b, off + i * sz α + j, none⟩ = (C i)[j]?
  elem : ∀ i (h : i < xs.length), R w xs[i] (C i) (Fs i)

def footOf (b n : Nat) (Fs : Nat → List Nat) : List Nat := b :: (List.range n).flatMap Fs

def RL {α : Type} [Rp α] (w : World) (xs : List α) (v : Value) (F : List Nat) : Prop :=
  ∃ (A : Option Addr) (cap : Nat), v = .slice A xs.length cap ∧ xs.length ≤ cap ∧ cap ≤ maxLen ∧
    ((xs = [] ∧ F = [] ∧ (A = none → cap = 0)) ∨ ∃ b off C Fs, A = some ⟨b, off, none⟩ ∧ F = footOf b xs.length Fs ∧ xs ≠ [] ∧ Row w xs b off C Fs)

theorem Row.keep {α : Type} [Rp α] {w w' : World} {xs : List α} {b off : Nat} {C : Nat → List Value} {Fs : Nat → List Nat} (h : Row w xs b off C Fs)
    (hk : ∀ g ∈ footOf b xs.length Fs, w'.heap[g]? = w.heap[g]?) : Row w' xs b off C Fs := by
  have hb := hk b (by simp [footOf])
  refine ⟨?_, fun i hi j hj => (World.cell?_of_block (w := w) hb).trans (h.cell i hi j hj), fun i hi => Rp.keep (h.elem i hi) (fun g hg => hk g ?_)⟩
  · rcases Nat.lt_or_ge b w'.heap.size with h1 | h1
    · exact h1
    · rw [Array.getElem?_eq_none h1, Array.getElem?_eq_getElem h.lt] at hb; cases hb
  · simp only [footOf, List.mem_cons, List.mem_flatMap, List.mem_range]
    exact Or.inr ⟨i, hi, hg⟩

instance {α : Type} [Rp α] : Rp (List α) where
  sz := 1
  R := fun w xs cs F => ∃ v, cs = [v] ∧ RL w xs v F
  len := fun ⟨v, h, _⟩ => by rw [h]; rfl
  keep := fun ⟨v, h, A, cap, h1, h2, h3, h4⟩ hk => by
    refine ⟨v, h, A, cap, h1, h2, h3, ?_⟩
    rcases h4 with h4 | ⟨b, off, C, Fs, e1, e2, e3, e4⟩
    · exact Or.inl h4
    · exact Or.inr ⟨b, off, C, Fs, e1, e2, e3, e4.keep (by rw [← e2]; exact hk)⟩
  lt := fun ⟨v, h, A, cap, h1, h2, h3, h4⟩ b hb => by
    rcases h4 with ⟨_, h4, _⟩ | ⟨b', off, C, Fs, e1, e2, e3, e4⟩
    · rw [h4] at hb; cases hb
    · rw [e2] at hb
      simp only [footOf, List.mem_cons, List.mem_flatMap, List.mem_range] at hb
      rcases hb with rfl | ⟨i, hi, hg⟩
      · exact e4.lt
      · exact Rp.lt (e4.elem i hi) b hg
  one := fun ⟨v, h, A, cap, h1, _⟩ u hu => by rw [h] at hu; simp at hu; subst hu; rw [h1]; rfl

theorem R_int {w : World} {x : Int} {cs : List Value} {F : List Nat} : R w x cs F ↔ cs = [.int .i64 x] ∧ F = [] ∧ I64 x := Iff.rfl
theorem R_bool {w : World} {x : Bool} {cs : List Value} {F : List Nat} : R w x cs F ↔ cs = [.bool x] ∧ F = [] := Iff.rfl
theorem R_u8 {w : World} {x : UInt8} {cs : List Value} {F : List Nat} : R w x cs F ↔ cs = [.int .u8 x.toNat] ∧ F = [] := Iff.rfl
theorem R_str {w : World} {x : ByteArray} {cs : List Value} {F : List Nat} : R w x cs F ↔ cs = [.string x] ∧ F = [] ∧ x.size ≤ maxLen := Iff.rfl
theorem R_list {α : Type} [Rp α] {w : World} {x : List α} {cs : List Value} {F : List Nat} : R w x cs F ↔ ∃ v, cs = [v] ∧ RL w x v F := Iff.rfl
theorem R_pair {α β : Type} [Rp α] [Rp β] {w : World} {x : α × β} {cs : List Value} {F : List Nat} : R w x cs F ↔ ∃ c1 c2 F1 F2, cs = c1 ++ c2 ∧ F = F1 ++ F2 ∧ R w x.1 c1 F1 ∧ R w x.2 c2 F2 := Iff.rfl
theorem sz_int : sz Int = 1 := rfl
theorem sz_bool : sz Bool = 1 := rfl
theorem sz_u8 : sz UInt8 = 1 := rfl
theorem sz_str : sz ByteArray = 1 := rfl
theorem sz_list {α : Type} [Rp α] : sz (List α) = 1 := rfl
theorem sz_pair {α β : Type} [Rp α] [Rp β] : sz (α × β) = sz α + sz β := rfl

section
variable {α : Type} [Rp α] {w w' : World} {xs : List α} {v : Value} {F G : List Nat}
theorem RL.rp (h : RL w xs v F) : R w xs [v] F := ⟨v, rfl, h⟩
theorem RL.of (h : R w xs [v] F) : RL w xs v F := by obtain ⟨v', h1, h2⟩ := h; simp at h1; subst h1; exact h2
theorem RL.keep (h : RL w xs v F) (hk : ∀ b ∈ F, w'.heap[b]? = w.heap[b]?) : RL w' xs v F := RL.of (Rp.keep h.rp hk)
theorem RL.chg (h : RL w xs v F) (hc : Chg G w w') (hd : ∀ b ∈ F, b ∉ G) : RL w' xs v F := RL.of (Rp.chg h.rp hc hd)
theorem RL.chg0 (h : RL w xs v F) (hc : Chg [] w w') : RL w' xs v F := RL.of (Rp.chg0 h.rp hc)
theorem RL.same (h : RL w xs v F) (e : w'.heap = w.heap) : RL w' xs v F := h.keep (fun b _ => by rw [e])
theorem RL.lt (h : RL w xs v F) : ∀ b ∈ F, b < w.heap.size := Rp.lt h.rp
/-- its form -/
theorem RL.form (h : RL w xs v F) : ∃ A cap, v = .slice A xs.length cap ∧ xs.length ≤ cap ∧ cap ≤ maxLen := by
  obtain ⟨A, cap, h1, h2, h3, _⟩ := h
  exact ⟨A, cap, h1, h2, h3⟩
/-- its element -/
theorem RL.elem (h : RL w xs v F) {i : Nat} (hi : i < xs.length) : ∃ b off cap cs Fi, v = .slice (some ⟨b, off, none⟩) xs.length cap ∧ R w xs[i] cs Fi ∧ (∀ j, j < sz α → w.cell? ⟨b, off + i * sz α + j, none⟩ = cs[j]?) ∧ (∀ g ∈ Fi, g ∈ F) := by
  obtain ⟨A, cap, h1, h2, h3, h4⟩ := h
  rcases h4 with ⟨rfl, _⟩ | ⟨b, off, C, Fs, rfl, rfl, e3, e4⟩
  · simp at hi
  · refine ⟨b, off, cap, C i, Fs i, h1, e4.elem i hi, e4.cell i hi, fun g hg => ?_⟩
    simp only [footOf, List.mem_cons, List.mem_flatMap, List.mem_range]
    exact Or.inr ⟨i, hi, hg⟩
theorem RL.nil_ : RL w ([] : List α) (.slice none 0 0) [] := ⟨none, 0, rfl, Nat.le_refl _, by unfold maxLen; omega, Or.inl ⟨rfl, rfl, fun _ => rfl⟩⟩
end

/-! ### an element opened, and shut again turned -/
theorem nodup_foot {b n : Nat} {Fs : Nat → List Nat} (h : (footOf b n Fs).Nodup) :
    (∀ i, i < n → b ∉ Fs i) ∧ (∀ i, i < n → (Fs i).Nodup) ∧ ∀ i j, i < n → j < n → i ≠ j → ∀ g ∈ Fs i, g ∉ Fs j := by
  rw [footOf, List.nodup_cons] at h
  obtain ⟨h1, h2⟩ := h
  refine ⟨fun i hi hg => h1 (by simp only [List.mem_flatMap, List.mem_range]; exact ⟨i, hi, hg⟩), ?_⟩
  rw [List.flatMap_def, List.Nodup, List.pairwise_flatten] at h2
  obtain ⟨h3, h4⟩ := h2
  refine ⟨fun i hi => h3 _ (List.mem_map.2 ⟨i, List.mem_range.2 hi, rfl⟩), ?_⟩
  have key : ∀ i j, i < j → j < n → ∀ g ∈ Fs i, g ∉ Fs j := by
    intro i j hij hj g hg hg'
    rw [List.pairwise_map] at h4
    have h5 := List.pairwise_iff_getElem.1 h4 i j (by simp; omega) (by simp; omega) hij
    simp only [List.getElem_range] at h5
    exact h5 g hg g hg' rfl
  intro i j hi hj hne g hg hg'
  rcases Nat.lt_or_gt_of_ne hne with h | h
  · exact key i j h hj g hg hg'
  · exact key j i h hi g hg' hg

/-- blocks of my own: each just one row of cells, none frozen, no two alike -/
structure Own (w : World) (F : List Nat) : Prop where
  nodup : F.Nodup
  free : ∀ b ∈ F, ∃ c e, w.heap[b]? = some (.cells c e (0, 0))
theorem Own.nil_ (w : World) : Own w [] := ⟨List.nodup_nil, fun b hb => by cases hb⟩
theorem Own.frozen {w : World} {F : List Nat} (h : Own w F) {b o : Nat} (hb : b ∈ F) : w.frozen? ⟨b, o, none⟩ = false := by
  obtain ⟨c, e, he⟩ := h.free b hb
  simp [World.frozen?, he]
theorem Own.keep {w w' : World} {F : List Nat} (h : Own w F) (hk : ∀ b ∈ F, w'.heap[b]? = w.heap[b]?) : Own w' F :=
  ⟨h.nodup, fun b hb => by obtain ⟨c, e, he⟩ := h.free b hb; exact ⟨c, e, (hk b hb).trans he⟩⟩
theorem Own.lt {w : World} {F : List Nat} (h : Own w F) : ∀ b ∈ F, b < w.heap.size := fun b hb => by
  obtain ⟨c, e, he⟩ := h.free b hb
  rcases Nat.lt_or_ge b w.heap.size with h1 | h1
  · exact h1
  · rw [Array.getElem?_eq_none h1] at he; cases he
theorem Own.chg {w w' : World} {F G : List Nat} (h : Own w F) (hc : Chg G w w') (hd : ∀ b ∈ F, b ∉ G) : Own w' F :=
  h.keep (fun b hb => hc.block b (h.lt b hb) (hd b hb))
theorem Own.chg0 {w w' : World} {F : List Nat} (h : Own w F) (hc : Chg [] w w') : Own w' F := h.chg hc (by simp)
theorem Own.setCell {w : World} {F : List Nat} (h : Own w F) (p : Addr) (u : Value) : Own (w.setCell p u) F :=
  ⟨h.nodup, fun b hb => by
    obtain ⟨c, e, he⟩ := h.free b hb
    by_cases hp : p.block = b
    · simp only [World.setCell, Array.getElem?_modify, hp, if_true, he, Option.map_some]
      exact ⟨_, _, rfl⟩
    · exact ⟨c, e, (Below.heap_setCell w p u b (by omega)).trans he⟩⟩
theorem Own.left {w : World} {F G : List Nat} (h : Own w (F ++ G)) : Own w F := ⟨(List.nodup_append.1 h.nodup).1, fun b hb => h.free b (by simp [hb])⟩
theorem Own.right {w : World} {F G : List Nat} (h : Own w (F ++ G)) : Own w G := ⟨(List.nodup_append.1 h.nodup).2.1, fun b hb => h.free b (by simp [hb])⟩
theorem Own.apart {w : World} {F G : List Nat} (h : Own w (F ++ G)) : ∀ b ∈ F, b ∉ G := fun b hb hg => (List.nodup_append.1 h.nodup).2.2 b hb b hg rfl
theorem Own.append {w : World} {F G : List Nat} (h : Own w F) (k : Own w G) (hd : ∀ b ∈ F, b ∉ G) : Own w (F ++ G) :=
  ⟨List.nodup_append.2 ⟨h.nodup, k.nodup, fun a ha b hb e => hd a ha (e ▸ hb)⟩, fun b hb => by
    rw [List.mem_append] at hb; exact hb.elim (h.free b) (k.free b)⟩
theorem Own.over {w w' : World} {F G : List Nat} (h : Own w F) (k : Own w' G) (hc : Chg G w w') : Own w' F :=
  ⟨h.nodup, fun b hb => by
    by_cases hg : b ∈ G
    · exact k.free b hg
    · obtain ⟨c, e, he⟩ := h.free b hb
      exact ⟨c, e, (hc.block b (h.lt b hb) hg).trans he⟩⟩
theorem Own.alloc {w : World} {F : List Nat} (h : Own w F) (o : Obj) : Own (w.alloc o) F :=
  h.keep (fun b hb => Below.heap_alloc _ _ _ (h.lt b hb))
theorem Own.flat2 {w : World} {A B C : List Nat} (h : Own w ((A ++ B) ++ C)) : Own w (A ++ (B ++ C)) := by rw [List.append_assoc] at h; exact h
theorem Own.flat3 {w : World} {A B C D : List Nat} (h : Own w ((A ++ (B ++ C)) ++ D)) : Own w (A ++ (B ++ (C ++ D))) := by rw [List.append_assoc, List.append_assoc] at h; exact h

section
variable {α : Type} [Rp α] {w w' : World} {xs : List α} {v : Value} {F G : List Nat}
/-- an element of a list of my own, opened: the row's block, its place, its cells, its blocks; and the way back. -/
theorem RL.open_ (h : RL w xs v F) (hn : F.Nodup) {i : Nat} (hi : i < xs.length) :
    ∃ b off cap cs Fi, v = .slice (some ⟨b, off, none⟩) xs.length cap ∧ R w xs[i] cs Fi ∧ (∀ j, j < sz α → w.cell? ⟨b, off + i * sz α + j, none⟩ = cs[j]?) ∧
      (∀ g ∈ Fi, g ∈ F) ∧ b ∈ F ∧ b ∉ Fi ∧ Fi.Nodup ∧
      ∀ (w' : World) (x' : α) (cs' : List Value), R w' x' cs' Fi → (∀ j, j < sz α → w'.cell? ⟨b, off + i * sz α + j, none⟩ = cs'[j]?) →
        (∀ g ∈ F, g ≠ b → g ∉ Fi → w'.heap[g]? = w.heap[g]?) → (∀ o, (o < off + i * sz α ∨ off + (i + 1) * sz α ≤ o) → w'.cell? ⟨b, o, none⟩ = w.cell? ⟨b, o, none⟩) → w.heap.size ≤ w'.heap.size →
        RL w' (xs.set i x') v F := by
  obtain ⟨A, cap, h1, h2, h3, h4⟩ := h
  rcases h4 with ⟨rfl, _⟩ | ⟨b, off, C, Fs, rfl, rfl, e3, e4⟩
  · simp at hi
  obtain ⟨n1, n2, n3⟩ := nodup_foot hn
  refine ⟨b, off, cap, C i, Fs i, h1, e4.elem i hi, e4.cell i hi, fun g hg => ?_, by simp [footOf], n1 i hi, n2 i hi, ?_⟩
  · simp only [footOf, List.mem_cons, List.mem_flatMap, List.mem_range]
    exact Or.inr ⟨i, hi, hg⟩
  intro w' x' cs' hx hcell hoth hrow hsz
  refine ⟨some ⟨b, off, none⟩, cap, by simpa using h1, by simpa using h2, h3, Or.inr ⟨b, off, fun k => if k = i then cs' else C k, Fs, rfl, by simp, ?_, ?_⟩⟩
  · intro e; apply e3; exact List.eq_nil_of_length_eq_zero (by have := congrArg List.length e; simpa using this)
  refine ⟨Nat.lt_of_lt_of_le e4.lt hsz, fun k hk j hj => ?_, fun k hk => ?_⟩
  · rw [List.length_set] at hk
    by_cases hki : k = i
    · subst hki; simp only [if_true]; exact hcell j hj
    · simp only [hki, if_false]
      rw [hrow _ ?_]
      · exact e4.cell k hk j hj
      · rcases Nat.lt_or_gt_of_ne hki with h | h
        · left
          have : (k + 1) * sz α ≤ i * sz α := Nat.mul_le_mul_right _ h
          rw [Nat.add_mul] at this; omega
        · right
          have : (i + 1) * sz α ≤ k * sz α := Nat.mul_le_mul_right _ h
          omega
  · rw [List.length_set] at hk
    by_cases hki : k = i
    · subst hki; simp only [if_true, List.getElem_set_self]; exact hx
    · simp only [hki, if_false, List.getElem_set_ne (Ne.symm hki)]
      refine Rp.keep (e4.elem k hk) (fun g hg => hoth g ?_ (fun e => n1 k hk (e ▸ hg)) (fun e => n3 k i hk hi hki g hg e))
      simp only [footOf, List.mem_cons, List.mem_flatMap, List.mem_range]
      exact Or.inr ⟨k, hk, hg⟩
end

/-- the cells of one element of a row of my own, as the world turns in it -/
structure Elt (w w' : World) (b lo : Nat) (cs : List Value) (Fi F : List Nat) : Prop where
  cell : ∀ j, j < cs.length → w'.cell? ⟨b, lo + j, none⟩ = cs[j]?
  oth : ∀ g ∈ F, g ≠ b → g ∉ Fi → w'.heap[g]? = w.heap[g]?
  row : ∀ o, (o < lo ∨ lo + cs.length ≤ o) → w'.cell? ⟨b, o, none⟩ = w.cell? ⟨b, o, none⟩
  size : w.heap.size ≤ w'.heap.size
theorem Elt.store {w w' : World} {b lo : Nat} {cs : List Value} {Fi F : List Nat} (h : Elt w w' b lo cs Fi F) (j : Nat) (hj : j < cs.length) (u : Value) :
    Elt w (w'.setCell ⟨b, lo + j, none⟩ u) b lo (cs.set j u) Fi F := by
  have hcj : w'.cell? ⟨b, lo + j, none⟩ = some cs[j] := by rw [h.cell j hj, List.getElem?_eq_getElem hj]
  refine ⟨fun i hi => ?_, fun g hg hgb hgF => (Below.heap_setCell _ _ _ _ hgb).trans (h.oth g hg hgb hgF), fun o ho => ?_, by simpa using h.size⟩
  · rw [List.length_set] at hi
    by_cases hij : j = i
    · subst hij
      rw [World.cell?_setCell_same _ _ _ hcj, List.getElem?_set_self hi]
    · rw [World.cell?_setCell_other _ _ _ _ (by intro e; injection e with _ e; omega), List.getElem?_set_ne hij]
      exact h.cell i hi
  · rw [List.length_set] at ho
    rw [World.cell?_setCell_other _ _ _ _ (by intro e; injection e with _ e; omega)]
    exact h.row o ho
theorem Elt.store0 {w w' : World} {b lo : Nat} {cs : List Value} {Fi F : List Nat} (h : Elt w w' b lo cs Fi F) (hj : 0 < cs.length) (u : Value) :
    Elt w (w'.setCell ⟨b, lo, none⟩ u) b lo (cs.set 0 u) Fi F := h.store 0 hj u
theorem Elt.call {w w' w1 : World} {b lo : Nat} {cs : List Value} {Fi F G : List Nat} (h : Elt w w' b lo cs Fi F) (hF : ∀ g ∈ F, g < w.heap.size) (hbF : b ∈ F) (hb : b ∉ Fi) (hc : Chg G w' w1) (hG : ∀ g ∈ G, g ∈ Fi) : Elt w w1 b lo cs Fi F := by
  have e : w1.heap[b]? = w'.heap[b]? := hc.block b (Nat.lt_of_lt_of_le (hF b hbF) h.size) (fun hg => hb (hG b hg))
  exact ⟨fun j hj => (World.cell?_of_block (w := w') e).trans (h.cell j hj), fun g hg hgb hgF => (hc.block g (Nat.lt_of_lt_of_le (hF g hg) h.size) (fun h' => hgF (hG g h'))).trans (h.oth g hg hgb hgF),
    fun o ho => (World.cell?_of_block (w := w') e).trans (h.row o ho), Nat.le_trans h.size hc.size⟩

section
variable {α : Type} [Rp α] {w w' : World} {xs : List α} {v : Value} {F G : List Nat}
theorem RL.open_elt (h : RL w xs v F) (hn : F.Nodup) {i : Nat} (hi : i < xs.length) :
    ∃ b off cap cs Fi, v = .slice (some ⟨b, off, none⟩) xs.length cap ∧ R w xs[i] cs Fi ∧ (∀ j, j < sz α → w.cell? ⟨b, off + i * sz α + j, none⟩ = cs[j]?) ∧
      (∀ g ∈ Fi, g ∈ F) ∧ b ∈ F ∧ b ∉ Fi ∧ Fi.Nodup ∧ Elt w w b (off + i * sz α) cs Fi F ∧
      ∀ (w' : World) (x' : α) (cs' : List Value), R w' x' cs' Fi → Elt w w' b (off + i * sz α) cs' Fi F → RL w' (xs.set i x') v F := by
  obtain ⟨b, off, cap, cs, Fi, h1, h2, h3, h4, h5, h6, h7, h8⟩ := h.open_ hn hi
  have hl := Rp.len h2
  refine ⟨b, off, cap, cs, Fi, h1, h2, h3, h4, h5, h6, h7, ⟨fun j hj => h3 j (by omega), fun _ _ _ _ => rfl, fun _ _ => rfl, Nat.le_refl _⟩, fun w' x' cs' hx hE => ?_⟩
  have hl' := Rp.len hx
  refine h8 w' x' cs' hx (fun j hj => hE.cell j (by omega)) hE.oth (fun o ho => hE.row o ?_) hE.size
  rw [hl']
  rw [Nat.add_mul, Nat.one_mul] at ho
  omega
end

/-! ### lists that are made and filled -/
class Zr (α : Type) [Rp α] where
  zero : α
  zcells : List Value
  zr : ∀ w, R w zero zcells []
instance : Zr Int := ⟨0, [.int .i64 0], fun _ => ⟨rfl, rfl, by unfold I64; omega⟩⟩
instance : Zr Bool := ⟨false, [.bool false], fun _ => ⟨rfl, rfl⟩⟩
instance : Zr UInt8 := ⟨0, [.int .u8 0], fun _ => ⟨rfl, rfl⟩⟩
instance : Zr ByteArray := ⟨ByteArray.empty, [.string ByteArray.empty], fun _ => ⟨rfl, rfl, by simp [maxLen]⟩⟩
instance {α : Type} [Rp α] : Zr (List α) := ⟨[], [.slice none 0 0], fun _ => ⟨_, rfl, RL.nil_⟩⟩
open Zr (zero zcells zr)

theorem flatMap_nil_fun (n : Nat) : (List.range n).flatMap (fun _ => ([] : List Nat)) = [] := by simp

theorem getElem?_div_block (C : Nat → List Value) (s : Nat) (hs : 0 < s) (hC : ∀ i, (C i).length = s) (n i j : Nat) (hi : i < n) (hj : j < s) :
    ((List.range n).flatMap C)[i * s + j]? = (C i)[j]? := by
  induction n with
  | zero => omega
  | succ n ih =>
    have hlen : ((List.range n).flatMap C).length = n * s := by
      clear ih hi
      induction n with
      | zero => simp
      | succ n ih2 => simp [List.range_succ, hC, Nat.add_mul, ih2]
    rw [List.range_succ, List.flatMap_append, List.flatMap_singleton]
    by_cases h : i < n
    · rw [List.getElem?_append_left]
      · exact ih h
      · rw [hlen]
        have : (i + 1) * s ≤ n * s := Nat.mul_le_mul_right _ h
        rw [Nat.add_mul] at this; omega
    · have : i = n := by omega
      subst this
      rw [List.getElem?_append_right (by omega), hlen, show i * s + j - i * s = j by omega]

theorem RL.made {α : Type} [Rp α] [Zr α] {w : World} {base : Nat} {e : TypeId} {g n : Nat} {zs : Array Value} (hs : 0 < sz α)
    (h : w.ownsRow base e (sz α) (.slice (some ⟨g, 0, none⟩) n n) n (madeCells zs (n * sz α)).toList) (hz : zs.toList = zcells α) :
    ∃ F, RL w (List.replicate n (zero : α)) (.slice (some ⟨g, 0, none⟩) n n) F ∧ Own w F ∧ ∀ b ∈ F, b = g := by
  obtain ⟨h1, h2⟩ := h
  rcases h2 with ⟨h2, _⟩ | ⟨g', cap, cur, hv, _, hb, _, hm, hc, ht⟩
  · simp at h2
  · simp only [Value.slice.injEq, Option.some.injEq, Addr.mk.injEq, and_true, true_and] at hv
    obtain ⟨rfl, rfl⟩ := hv
    by_cases hn : n = 0
    · subst hn
      exact ⟨[], ⟨some ⟨g, 0, none⟩, 0, by simp, by simp, hm, Or.inl ⟨by simp, rfl, by simp⟩⟩, Own.nil_ _, by simp⟩
    · have hlt : g < w.heap.size := by
        rcases Nat.lt_or_ge g w.heap.size with h3 | h3
        · exact h3
        · rw [Array.getElem?_eq_none h3] at hb; cases hb
      refine ⟨[g], ⟨some ⟨g, 0, none⟩, n, by simp, by simp, hm, Or.inr ⟨g, 0, fun _ => zcells α, fun _ => [], rfl, by simp [footOf], by simp [hn], hlt, ?_, ?_⟩⟩, ⟨by simp, fun b hb' => ?_⟩, by simp⟩
      · intro i hi j hj
        simp only [List.length_replicate] at hi
        have hzl : (zcells α).length = sz α := Rp.len (zr w)
        have hij : i * sz α + j < n * sz α := by
          have : (i + 1) * sz α ≤ n * sz α := Nat.mul_le_mul_right _ hi
          rw [Nat.add_mul] at this; omega
        have hcur : cur.toList = (madeCells zs (n * sz α)).toList := by rw [← ht, List.take_of_length_le (by simp [hc])]
        have hcell : w.cell? ⟨g, 0 + i * sz α + j, none⟩ = cur[i * sz α + j]? := by simp [World.cell?, hb]
        rw [hcell, ← Array.getElem?_toList, hcur]
        simp only [madeCells, Array.getElem?_toList, Array.getElem?_map, Array.getElem?_range, hij, if_true, Option.map_some]
        have hsz : zs.size = sz α := by rw [← hzl, ← hz]; simp
        have hmod : (i * sz α + j) % zs.size = j := by rw [hsz, Nat.mul_comm, Nat.mul_add_mod, Nat.mod_eq_of_lt hj]
        rw [hmod, ← hz, Array.getElem?_toList]
        rw [getElem!_pos zs j (by omega), Array.getElem?_eq_getElem (by omega)]
      · intro i hi
        simp only [List.getElem_replicate]
        exact zr w
      · simp at hb'; subst hb'; exact ⟨_, _, hb⟩

section
variable {α : Type} [Rp α] {w w' : World} {xs : List α} {v : Value} {F G : List Nat}
theorem RL.put (h : RL w xs v F) (hO : Own w F) {i : Nat} (hi : i < xs.length) :
    ∃ b off cap cs Fi, v = .slice (some ⟨b, off, none⟩) xs.length cap ∧ R w xs[i] cs Fi ∧ (∀ j, j < sz α → w.cell? ⟨b, off + i * sz α + j, none⟩ = cs[j]?) ∧
      (∀ g ∈ Fi, g ∈ F) ∧ b ∈ F ∧ b ∉ Fi ∧ Elt w w b (off + i * sz α) cs Fi F ∧
      ∀ (w' : World) (x' : α) (cs' : List Value) (Fi' : List Nat), R w' x' cs' Fi' → Elt w w' b (off + i * sz α) cs' Fi F → Own w' F → Own w' Fi' → (∀ g ∈ Fi', g ∉ F) →
        ∃ F', RL w' (xs.set i x') v F' ∧ Own w' F' ∧ ∀ g ∈ F', g ∈ F ∨ g ∈ Fi' := by
  have hn := hO.nodup
  obtain ⟨A, cap, h1, h2, h3, h4⟩ := h
  rcases h4 with ⟨rfl, _⟩ | ⟨b, off, C, Fs, rfl, rfl, e3, e4⟩
  · simp at hi
  obtain ⟨n1, n2, n3⟩ := nodup_foot hn
  have inF : ∀ k, k < xs.length → ∀ g ∈ Fs k, g ∈ footOf b xs.length Fs := fun k hk g hg => by
    simp only [footOf, List.mem_cons, List.mem_flatMap, List.mem_range]
    exact Or.inr ⟨k, hk, hg⟩
  have hl := Rp.len (e4.elem i hi)
  refine ⟨b, off, cap, C i, Fs i, h1, e4.elem i hi, e4.cell i hi, inF i hi, by simp [footOf], n1 i hi, ⟨fun j hj => e4.cell i hi j (by omega), fun _ _ _ _ => rfl, fun _ _ => rfl, Nat.le_refl _⟩, ?_⟩
  intro w' x' cs' Fi' hx hE hO1 hO2 hnew
  have hl' := Rp.len hx
  have row : Row w' (xs.set i x') b off (fun k => if k = i then cs' else C k) (fun k => if k = i then Fi' else Fs k) := by
    refine ⟨Nat.lt_of_lt_of_le e4.lt hE.size, fun k hk j hj => ?_, fun k hk => ?_⟩
    · rw [List.length_set] at hk
      by_cases hki : k = i
      · subst hki; simp only [if_true]; exact hE.cell j (by omega)
      · simp only [hki, if_false]
        rw [hE.row _ ?_]
        · exact e4.cell k hk j hj
        · rw [hl']
          rcases Nat.lt_or_gt_of_ne hki with h | h
          · left
            have : (k + 1) * sz α ≤ i * sz α := Nat.mul_le_mul_right _ h
            rw [Nat.add_mul] at this; omega
          · right
            have : (i + 1) * sz α ≤ k * sz α := Nat.mul_le_mul_right _ h
            rw [Nat.add_mul] at this; omega
    · rw [List.length_set] at hk
      by_cases hki : k = i
      · subst hki; simp only [if_true, List.getElem_set_self]; exact hx
      · simp only [hki, if_false, List.getElem_set_ne (Ne.symm hki)]
        exact Rp.keep (e4.elem k hk) (fun g hg => hE.oth g (inF k hk g hg) (fun e => n1 k hk (e ▸ hg)) (fun e => n3 k i hk hi hki g hg e))
  refine ⟨footOf b xs.length (fun k => if k = i then Fi' else Fs k), ⟨some ⟨b, off, none⟩, cap, by simpa using h1, by simpa using h2, h3, Or.inr ⟨b, off, _, _, rfl, by simp, ?_, row⟩⟩, ⟨?_, ?_⟩, ?_⟩
  · intro e; apply e3; exact List.eq_nil_of_length_eq_zero (by have := congrArg List.length e; simpa using this)
  · rw [footOf, List.nodup_cons]
    refine ⟨?_, ?_⟩
    · simp only [List.mem_flatMap, List.mem_range, not_exists, not_and]
      intro k hk
      by_cases hki : k = i
      · simp only [hki, if_true]; exact fun hb => hnew b hb (by simp [footOf])
      · simp only [hki, if_false]; exact n1 k hk
    · rw [List.flatMap_def, List.Nodup, List.pairwise_flatten]
      refine ⟨?_, ?_⟩
      · intro l hl
        obtain ⟨k, hk, rfl⟩ := List.mem_map.1 hl
        by_cases hki : k = i
        · simp only [hki, if_true]; exact hO2.nodup
        · simp only [hki, if_false]; exact n2 k (List.mem_range.1 hk)
      · rw [List.pairwise_map]
        refine List.Pairwise.imp_of_mem ?_ (List.nodup_range (n := xs.length))
        intro a c ha hc hac x hx y hy hxy
        subst hxy
        have ha' := List.mem_range.1 ha
        have hc' := List.mem_range.1 hc
        by_cases h1' : a = i
        · by_cases h2' : c = i
          · omega
          · simp only [h1', if_true] at hx
            simp only [h2', if_false] at hy
            exact hnew x hx (inF c hc' x hy)
        · simp only [h1', if_false] at hx
          by_cases h2' : c = i
          · simp only [h2', if_true] at hy
            exact hnew x hy (inF a ha' x hx)
          · simp only [h2', if_false] at hy
            exact n3 a c ha' hc' hac x hx hy
  · intro g hg
    simp only [footOf, List.mem_cons, List.mem_flatMap, List.mem_range] at hg
    rcases hg with rfl | ⟨k, hk, hg⟩
    · exact hO1.free g (by simp [footOf])
    · by_cases hki : k = i
      · simp only [hki, if_true] at hg; exact hO2.free g hg
      · simp only [hki, if_false] at hg; exact hO1.free g (inF k hk g hg)
  · intro g hg
    simp only [footOf, List.mem_cons, List.mem_flatMap, List.mem_range] at hg
    rcases hg with rfl | ⟨k, hk, hg⟩
    · left; simp [footOf]
    · by_cases hki : k = i
      · simp only [hki, if_true] at hg; exact Or.inr hg
      · simp only [hki, if_false] at hg; exact Or.inl (inF k hk g hg)
end

/-- a list in the midst of its filling -/
def fillL {α : Type} [Rp α] [Zr α] (xs : List α) (i : Nat) : List α := xs.take i ++ List.replicate (xs.length - i) (zero : α)
section
variable {α : Type} [Rp α] [Zr α]
@[simp] theorem fillL_length (xs : List α) (i : Nat) : (fillL xs i).length = xs.length := by simp [fillL]; omega
theorem fillL_zero (xs : List α) : fillL xs 0 = List.replicate xs.length (zero : α) := by simp [fillL]
theorem fillL_all (xs : List α) {i : Nat} (h : xs.length ≤ i) : fillL xs i = xs := by simp [fillL, List.take_of_length_le h, Nat.sub_eq_zero_of_le h]
theorem fillL_at (xs : List α) {i : Nat} (h : i < xs.length) : (fillL xs i)[i]'(by simpa using h) = (zero : α) := by
  simp only [fillL]
  rw [List.getElem_append_right (by simp; omega)]
  simp
theorem fillL_succ (xs : List α) {i : Nat} (h : i < xs.length) : fillL xs (i + 1) = (fillL xs i).set i xs[i] := by
  have hl : (xs.take i).length = i := by simp; omega
  simp only [fillL]
  rw [List.take_succ_eq_append_getElem h, List.append_assoc, List.set_append_right _ _ (by omega), hl, Nat.sub_self]
  congr 1
  rw [show xs.length - i = (xs.length - (i + 1)) + 1 by omega, List.replicate_succ]
  rfl
end

/-! ### from a row of the call's own to a list -/
theorem ownsRow_lt {w : World} {base : Nat} {e : TypeId} {size n : Nat} {v : Value} {xs : List Value} (h : w.ownsRow base e size v n xs) : ∀ g, v.ownBlock = some g → base ≤ g ∧ g < w.heap.size := by
  intro g hg
  rcases h.2 with ⟨rfl, _⟩ | ⟨g', cap, cur, rfl, hb, hc, _⟩
  · simp [Value.ownBlock] at hg
  · simp only [Value.ownBlock, Option.some.injEq] at hg
    subst hg
    refine ⟨hb, ?_⟩
    rcases Nat.lt_or_ge g' w.heap.size with h3 | h3
    · exact h3
    · rw [Array.getElem?_eq_none h3] at hc; cases hc
theorem RL.of_own {α : Type} [Rp α] {w : World} {base : Nat} {e : TypeId} {v : Value} {n : Nat} {cells : List Value} {xs : List α} (C : Nat → List Value) (Fs : Nat → List Nat)
    (h : w.ownsRow base e (sz α) v n cells) (hn : n = xs.length)
    (hC : ∀ i, i < xs.length → ∀ j, j < sz α → cells[i * sz α + j]? = (C i)[j]?) (hR : ∀ i (hi : i < xs.length), R w xs[i] (C i) (Fs i))
    (hO : Own w ((List.range xs.length).flatMap Fs)) (hg : ∀ g, v.ownBlock = some g → g ∉ (List.range xs.length).flatMap Fs) :
    ∃ F, RL w xs v F ∧ Own w F ∧ ∀ g ∈ F, v.ownBlock = some g ∨ g ∈ (List.range xs.length).flatMap Fs := by
  subst hn
  obtain ⟨h1, h2⟩ := h
  rcases h2 with ⟨rfl, h2⟩ | ⟨g, cap, cur, rfl, hb, hc, hle, hcap, hsz, htk⟩
  · have : xs = [] := List.eq_nil_of_length_eq_zero h2
    subst this
    exact ⟨[], RL.nil_, Own.nil_ _, by simp⟩
  · by_cases hx : xs = []
    · subst hx
      exact ⟨[], ⟨_, _, rfl, by simp, hcap, Or.inl ⟨rfl, rfl, by simp⟩⟩, Own.nil_ _, by simp⟩
    · refine ⟨footOf g xs.length Fs, ⟨_, _, rfl, hle, hcap, Or.inr ⟨g, 0, C, Fs, rfl, rfl, hx, ⟨?_, ?_, hR⟩⟩⟩, ⟨?_, ?_⟩, ?_⟩
      · rcases Nat.lt_or_ge g w.heap.size with h3 | h3
        · exact h3
        · rw [Array.getElem?_eq_none h3] at hc; cases hc
      · intro i hi j hj
        rw [← hC i hi j hj, ← htk]
        have hij : i * sz α + j < xs.length * sz α := by
          have : (i + 1) * sz α ≤ xs.length * sz α := Nat.mul_le_mul_right _ hi
          rw [Nat.add_mul] at this; omega
        rw [List.getElem?_take_of_lt hij]
        simp [World.cell?, hc]
      · rw [footOf, List.nodup_cons]
        exact ⟨hg g rfl, hO.nodup⟩
      · intro b hb'
        rcases List.mem_cons.1 hb' with rfl | hb'
        · exact ⟨_, _, hc⟩
        · exact hO.free b hb'
      · intro b hb'
        rcases List.mem_cons.1 hb' with rfl | hb'
        · exact Or.inl rfl
        · exact Or.inr hb'
/-- .. of elements of one cell that lead nowhere -/
theorem RL.of_own1 {α : Type} [Rp α] {w : World} {base : Nat} {e : TypeId} {v : Value} {n : Nat} {cells : List Value} {xs : List α} (f : α → Value) (hs : sz α = 1)
    (h : w.ownsRow base e 1 v n cells) (hn : n = xs.length) (hc : cells = xs.map f) (hR : ∀ x ∈ xs, R w x [f x] []) :
    ∃ F, RL w xs v F ∧ Own w F ∧ ∀ g ∈ F, base ≤ g := by
  have hO : (List.range xs.length).flatMap (fun _ => ([] : List Nat)) = [] := by simp
  obtain ⟨F, h1, h2, h3⟩ := RL.of_own (xs := xs) (fun i => (xs[i]?).elim [] (fun x => [f x])) (fun _ => []) (by rw [hs]; exact h) hn
    (fun i hi j hj => by
      rw [hs] at hj ⊢
      obtain rfl : j = 0 := by omega
      rw [hc, List.getElem?_eq_getElem hi]
      simp [List.getElem?_eq_getElem hi])
    (fun i hi => by
      rw [List.getElem?_eq_getElem hi]
      exact hR _ (List.getElem_mem hi))
    (by rw [hO]; exact Own.nil_ _) (by simp)
  exact ⟨F, h1, h2, fun g hg => by
    rcases h3 g hg with h4 | h4
    · exact (ownsRow_lt h g h4).1
    · simp at h4⟩

/-- what hands back a list in new memory -/
def Fresh {α : Type} [Rp α] (xs : List α) (w : World) (e : Ending) (w' : World) : Prop := ∃ v G, e = .returned v ∧ Chg [] w w' ∧ RL w' xs v G ∧ Own w' G ∧ ∀ g ∈ G, w.heap.size ≤ g
theorem Fresh.mk_ {α : Type} [Rp α] {xs : List α} {w w' : World} {v : Value} {G : List Nat} (h1 : Chg [] w w') (h2 : RL w' xs v G) (h3 : Own w' G) (h4 : ∀ g ∈ G, w.heap.size ≤ g) : Fresh xs w (.returned v) w' := ⟨v, G, rfl, h1, h2, h3, h4⟩

/-! ### marks -/
class Mk (α : Type) where
  mark : α → Int → α
  cnt : α → Nat
open Mk (mark cnt)
instance : Mk Int := ⟨fun _ k => k, fun _ => 1⟩
instance : Mk Bool := ⟨fun _ k => k % 3 == 0, fun _ => 1⟩
instance : Mk UInt8 := ⟨fun _ k => UInt8.ofNat (k % 256).toNat, fun _ => 1⟩
instance {α β : Type} [Mk α] [Mk β] : Mk (α × β) := ⟨fun x k => (mark x.1 k, mark x.2 (k + cnt x.1)), fun x => cnt x.1 + cnt x.2⟩
def mkL {α : Type} [Mk α] : List α → Int → List α
  | [], _ => []
  | x :: r, k => mark x k :: mkL r (k + cnt x)
def cntL {α : Type} [Mk α] : List α → Nat
  | [] => 0
  | x :: r => cnt x + cntL r
instance {α : Type} [Mk α] : Mk (List α) := ⟨mkL, cntL⟩
section
variable {α : Type} [Mk α]
@[simp] theorem mkL_length (xs : List α) (k : Int) : (mkL xs k).length = xs.length := by
  induction xs generalizing k with
  | nil => rfl
  | cons x r ih => simp [mkL, ih]
theorem cntL_append (xs ys : List α) : cntL (xs ++ ys) = cntL xs + cntL ys := by
  induction xs with
  | nil => simp [cntL]
  | cons x r ih => simp [cntL, ih]; omega
theorem mkL_append (xs ys : List α) (k : Int) : mkL (xs ++ ys) k = mkL xs k ++ mkL ys (k + cntL xs) := by
  induction xs generalizing k with
  | nil => simp [mkL, cntL]
  | cons x r ih => simp [mkL, cntL, ih, Int.add_assoc]
/-- how many there are, of lists in lists too (what 'sz..' of the laws counts) -/
class Sz (α : Type) where
  size : α → Nat
instance : Sz Int := ⟨fun _ => 0⟩
instance : Sz Bool := ⟨fun _ => 0⟩
instance : Sz UInt8 := ⟨fun _ => 0⟩
instance : Sz ByteArray := ⟨fun s => s.size⟩
def szI {β : Type} [Sz β] : List β → Nat
  | [] => 0
  | x :: r => Sz.size x + szI r
def szL {β : Type} [Sz β] (xs : List β) : Nat := xs.length + szI xs
instance {β : Type} [Sz β] : Sz (List β) := ⟨szL⟩
theorem szI_append {β : Type} [Sz β] (xs ys : List β) : szI (xs ++ ys) = szI xs + szI ys := by
  induction xs with
  | nil => simp [szI]
  | cons x r ih => simp [szI, ih]; omega
theorem szI_succ {β : Type} [Sz β] (xs : List β) {i : Nat} (h : i < xs.length) : szI (xs.take (i + 1)) = szI (xs.take i) + Sz.size xs[i] := by
  rw [List.take_succ_eq_append_getElem h, szI_append]; simp [szI]
theorem szI_take_le {β : Type} [Sz β] (xs : List β) (i : Nat) : szI (xs.take i) ≤ szI xs := by
  have := szI_append (xs.take i) (xs.drop i)
  rw [List.take_append_drop] at this; omega
theorem szI_all {β : Type} [Sz β] (xs : List β) {i : Nat} (h : xs.length ≤ i) : szI (xs.take i) = szI xs := by rw [List.take_of_length_le h]
/-- what 'sz..' gives back of l -/
def SzR (r l : Int) (n : Nat) : Prop := r = -1 ∨ (0 ≤ r ∧ r + n = l)
/-- decimal digits, in front of what there is -/
def decDigits : Nat → Nat → List UInt8 → List UInt8
  | 0, _, acc => acc
  | f + 1, n, acc => if n = 0 then acc else decDigits f (n / 10) (UInt8.ofNat (48 + n % 10) :: acc)
/-- the text of a mark -/
def markText (k : Int) : ByteArray := if k ≤ 0 then ⟨#[109, 48]⟩ else ⟨(109 :: decDigits 20 k.toNat []).toArray⟩
instance : Mk ByteArray := ⟨fun _ k => markText k, fun _ => 1⟩
/-- the list in the midst of the marking: the first i are marked -/
def midL (xs : List α) (k : Int) (i : Nat) : List α := mkL (xs.take i) k ++ xs.drop i
@[simp] theorem midL_length (xs : List α) (k : Int) (i : Nat) : (midL xs k i).length = xs.length := by simp [midL]; omega
theorem midL_zero (xs : List α) (k : Int) : midL xs k 0 = xs := by simp [midL, mkL]
theorem midL_all (xs : List α) (k : Int) {i : Nat} (h : xs.length ≤ i) : midL xs k i = mkL xs k := by simp [midL, List.take_of_length_le h, List.drop_eq_nil_of_le h]
theorem cntL_succ (xs : List α) {i : Nat} (h : i < xs.length) : cntL (xs.take (i + 1)) = cntL (xs.take i) + cnt xs[i] := by
  rw [List.take_succ_eq_append_getElem h, cntL_append]; simp [cntL]
theorem cntL_take_le (xs : List α) (i : Nat) : cntL (xs.take i) ≤ cntL xs := by
  have := cntL_append (xs.take i) (xs.drop i)
  rw [List.take_append_drop] at this; omega
theorem cntL_all (xs : List α) {i : Nat} (h : xs.length ≤ i) : cntL (xs.take i) = cntL xs := by rw [List.take_of_length_le h]
theorem midL_at (xs : List α) (k : Int) {i : Nat} (h : i < xs.length) : (midL xs k i)[i]'(by simpa using h) = xs[i] := by
  simp only [midL]
  rw [List.getElem_append_right (by simp; omega)]
  simp [Nat.min_eq_left (Nat.le_of_lt h)]
theorem midL_succ (xs : List α) (k : Int) {i : Nat} (h : i < xs.length) : midL xs k (i + 1) = (midL xs k i).set i (mark xs[i] (k + cntL (xs.take i))) := by
  have hl : (mkL (xs.take i) k).length = i := by simp; omega
  simp only [midL]
  rw [List.take_succ_eq_append_getElem h, mkL_append, List.append_assoc, List.set_append_right _ _ (by omega), hl, Nat.sub_self]
  congr 1
  rw [show (xs.drop i) = xs[i] :: xs.drop (i + 1) from List.drop_eq_getElem_cons h]
  rfl
theorem mkL_at (xs : List α) (k : Int) {i : Nat} (h : i < xs.length) : (mkL xs k)[i]'(by simpa using h) = mark xs[i] (k + cntL (xs.take i)) := by
  induction xs generalizing k i with
  | nil => simp at h
  | cons x r ih =>
    cases i with
    | zero => simp [mkL, cntL]
    | succ i =>
      simp only [mkL, List.getElem_cons_succ, List.take_succ_cons, cntL]
      rw [ih _ (by simpa using h)]
      congr 1
      push_cast
      omega
end

#print axioms RL.open_
end Ow
