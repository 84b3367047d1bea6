/-
  append onto a row of the call's own, from whatever list reads out of memory.
-/
import Derived.Test.YtaiinlhobcclcaaDoorMem
import Derived.Maps.AppendAt
import Derived.Laws.AppendOwnNone
import Derived.OwnWalk
namespace Ow
open Go Go.RowKit Go.Deep
open Rp (R sz)

/-- the cells of a list, in a row -/
structure Cells {α : Type} [Rp α] (w : World) (ys : List α) (news : List Value) (C : Nat → List Value) (Fs : Nat → List Nat) (F : List Nat) : Prop where
  len : news.length = ys.length * sz α
  at_ : ∀ i, i < ys.length → ∀ j, j < sz α → news[i * sz α + j]? = (C i)[j]?
  elem : ∀ i (hi : i < ys.length), R w ys[i] (C i) (Fs i)
  sub : ∀ i, i < ys.length → ∀ g ∈ Fs i, g ∈ F
  one : ∀ u ∈ news, u.oneCell' = true

theorem RL.cells {α : Type} [Rp α] (hs : 0 < sz α) {w : World} {ys : List α} {v : Value} {F : List Nat} (h : RL w ys v F) :
    ∃ news C Fs, Cells w ys news C Fs F ∧ ((v = .slice none 0 0 ∧ ys = []) ∨ ∃ ad cap, v = .slice (some ad) ys.length cap ∧ ∀ j u, news[j]? = some u → w.cell? (ad.add j) = some u) := by
  obtain ⟨A, cap, rfl, h2, h3, h4⟩ := h
  rcases h4 with ⟨rfl, rfl, h5⟩ | ⟨b, off, C, Fs, rfl, rfl, e3, e4⟩
  · refine ⟨[], fun _ => [], fun _ => [], ⟨by simp, by simp, by simp, by simp, by simp⟩, ?_⟩
    rcases A with _ | ad
    · rw [h5 rfl]; exact Or.inl ⟨rfl, rfl⟩
    · exact Or.inr ⟨ad, cap, rfl, by simp⟩
  · have hC : ∀ i, i < ys.length → (C i).length = sz α := fun i hi => Rp.len (e4.elem i hi)
    let C' : Nat → List Value := fun i => if i < ys.length then C i else List.replicate (sz α) default
    have hC' : ∀ i, (C' i).length = sz α := fun i => by
      show (if i < ys.length then C i else _).length = _
      split
      · rename_i hi; exact hC i hi
      · simp
    have hCe : ∀ i, i < ys.length → C' i = C i := fun i hi => if_pos hi
    have hat : ∀ i, i < ys.length → ∀ j, j < sz α → ((List.range ys.length).flatMap C')[i * sz α + j]? = (C i)[j]? := fun i hi j hj => by
      rw [getElem?_div_block C' (sz α) hs hC' _ i j hi hj, hCe i hi]
    have hlen : ((List.range ys.length).flatMap C').length = ys.length * sz α := by
      generalize ys.length = n
      induction n with
      | zero => simp
      | succ n ih => rw [List.range_succ, List.flatMap_append, List.length_append, ih, List.flatMap_singleton, hC', Nat.add_mul, Nat.one_mul]
    refine ⟨(List.range ys.length).flatMap C', C, Fs, ⟨hlen, hat, e4.elem, fun i hi g hg => ?_, ?_⟩, Or.inr ⟨⟨b, off, none⟩, cap, rfl, fun j u hu => ?_⟩⟩
    · simp only [footOf, List.mem_cons, List.mem_flatMap, List.mem_range]
      exact Or.inr ⟨i, hi, hg⟩
    · intro u hu
      simp only [List.mem_flatMap, List.mem_range] at hu
      obtain ⟨i, hi, hu⟩ := hu
      rw [hCe i hi] at hu
      exact Rp.one (e4.elem i hi) u hu
    · have hj : j < ys.length * sz α := by
        rw [← hlen]; exact (List.getElem?_eq_some_iff.1 hu).1
      have hd : j / sz α < ys.length := by rw [Nat.div_lt_iff_lt_mul hs]; exact hj
      have hm : j % sz α < sz α := Nat.mod_lt _ hs
      have he : j / sz α * sz α + j % sz α = j := by rw [Nat.mul_comm]; exact Nat.div_add_mod j (sz α)
      have h6 := e4.cell _ hd _ hm
      rw [← hat _ hd _ hm, he, hu, Nat.add_assoc, he] at h6
      have : (Addr.add ⟨b, off, none⟩ j) = ⟨b, off + j, none⟩ := by unfold Addr.add; split <;> simp_all
      rw [this]; exact h6

theorem Cells.nil_ {α : Type} [Rp α] (w : World) : Cells w ([] : List α) [] (fun _ => []) (fun _ => []) [] := ⟨by simp, by simp, by simp, by simp, by simp⟩

/-- 'append(row, ys...)', the row the call's own, ys whatever reads. -/
theorem wpList_append_RL {α : Type} [Rp α] {P : Program} {w : World} {ops : Array Oper} {rest : List Oper} {o : Oper} {a : Act} {Q : Exit → Act → World → Prop} (hgd : o.guard = none) (s x : Operand) (t : TypeId)
    (ho : o.op = .call { callee := .builtin .append, args := #[s, x], argTypes := #[t, t] })
    (base : Nat) (e : TypeId) (i : TypeInfo) (z : Value) (size bytes : Nat) (ht : P.underlying t = some (.slice e)) (hi : P.info? e = some i) (hz : i.zero = some z)
    (hsize : i.size = size) (hby : i.bytes = bytes) (hzs : z.cells.size = size) (hsz : 0 < size)
    (v : Value) (n : Nat) (xs : List Value) (hs : a.eval s = v) (hown : w.ownsRow base e size v n xs)
    (ys : List α) (vy : Value) (Fy : List Nat) (hx : a.eval x = vy) (hy : RL w ys vy Fy) (hsa : sz α = size)
    (h63 : n + ys.length ≤ maxLen) (hbytes : (n + ys.length) * bytes ≤ 140737488355328) (hbase : base ≤ w.heap.size)
    (h : ∀ v' w' news C Fs, w'.ownsRow base e size v' (n + ys.length) (xs ++ news) → Cells w ys news C Fs Fy → w.grownBy w' v.ownBlock → (v'.ownBlock = v.ownBlock ∨ v'.ownBlock = some w.heap.size) → wpList P ops Q rest (a.put o.dst v') w') :
    wpList P ops Q (o :: rest) a w := by
  obtain ⟨news, C, Fs, hc, h1⟩ := hy.cells (by rw [hsa]; exact hsz)
  rcases h1 with ⟨rfl, rfl⟩ | ⟨ad, cap, rfl, h1⟩
  · have hnews : news = [] := List.eq_nil_of_length_eq_zero (by rw [hc.len]; simp)
    subst hnews
    exact wpList_append_own_none hgd s x t ho base e i size ht hi v n xs hs hown hx (h v w [] C Fs (by simpa using hown) hc (World.grownBy.refl w _) (Or.inl rfl))
  · exact wpList_append_own_at w hgd s x t ho base e i z size bytes ht hi hz hsize hby hzs hsz v n xs hs hown ad ys.length cap news hx (by rw [hc.len, hsa]) h1 hc.one h63 hbytes hbase
      (fun v' w' h2 h3 _ h5 => h v' w' news C Fs h2 hc h3 h5)

/-- an empty row that was just built -/
theorem ownsRow_empty (w : World) (base : Nat) (e : TypeId) (size : Nat) (hb : base ≤ w.heap.size) : (w.alloc (.cells #[] e)).ownsRow base e size (.slice (some ⟨w.heap.size, 0, none⟩) 0 0) 0 [] :=
  ⟨by simp, Or.inr ⟨w.heap.size, 0, #[], rfl, hb, heap_alloc_new w _, by omega, by unfold maxLen; omega, by simp, by simp⟩⟩
theorem ownsRow_nil (w : World) (base : Nat) (e : TypeId) (size : Nat) : w.ownsRow base e size (.slice none 0 0) 0 [] := ⟨by simp, Or.inl ⟨rfl, rfl⟩⟩

/-- from the row to the list: all of it out of one source whose elements lead nowhere -/
theorem RL.of_cells {α : Type} [Rp α] {w w0 : World} {base : Nat} {e : TypeId} {v : Value} {n : Nat} {news : List Value} {ys : List α} {C : Nat → List Value} {Fs : Nat → List Nat} {F : List Nat}
    (h : w.ownsRow base e (sz α) v n news) (hn : n = ys.length) (hc : Cells w0 ys news C Fs F) (hF : F = []) :
    ∃ G, RL w ys v G ∧ Own w G ∧ ∀ g ∈ G, base ≤ g := by
  have hFs : ∀ i, i < ys.length → Fs i = [] := fun i hi => List.eq_nil_iff_forall_not_mem.2 (fun g hg => by have := hc.sub i hi g hg; rw [hF] at this; cases this)
  have hO : (List.range ys.length).flatMap (fun _ => ([] : List Nat)) = [] := by simp
  obtain ⟨G, h1, h2, h3⟩ := RL.of_own C (fun _ => []) h hn hc.at_ (fun i hi => by
    have := hc.elem i hi
    rw [hFs i hi] at this
    exact Rp.keep this (by simp)) (by rw [hO]; exact Own.nil_ _) (by simp)
  exact ⟨G, h1, h2, fun g hg => by
    rcases h3 g hg with h4 | h4
    · exact (ownsRow_lt h g h4).1
    · simp at h4⟩
#print axioms wpList_append_RL
end Ow
