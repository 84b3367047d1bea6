/-
  Calls of a run in memory of my own: what is read of one, and what a store into it leaves. No program in sight.
-/
import Derived.Test.YtjakhnhnjhafgaaGreatZMem
import Derived.Lib.Hide
set_option linter.unusedVariables false
set_option linter.unusedSimpArgs false
namespace Ow
open Go Go.RowKit Go.Deep
open Rp (R sz)

theorem Own.sub {w : World} {F G : List Nat} (h : Own w F) (hG : ∀ g ∈ G, g ∈ F) (hn : G.Nodup) : Own w G := ⟨hn, fun g hg => h.free g (hG g hg)⟩

/-- one element of ints of my own -/
theorem ints_at {l : List Int} {v : Value} {F : List Nat} {w : World} (h : RL w l v F) (ho : Own w F) {d : Nat} (hd : d < l.length) :
    ∃ b o c, v = .slice (some ⟨b, o, none⟩) l.length c ∧ w.cell? ⟨b, o + d, none⟩ = some (.int .i64 l[d]) ∧ (∀ q, w.frozen? ⟨b, q, none⟩ = false) ∧ b ∈ F ∧ I64 l[d] ∧
      ∀ n, I64 n → RL (w.setCell ⟨b, o + d, none⟩ (.int .i64 n)) (l.set d n) v F ∧ Own (w.setCell ⟨b, o + d, none⟩ (.int .i64 n)) F := by
  obtain ⟨b, off, cap, cs, Fi, e1, r1, m1, hFi, hbF, hbn, hnd, E0, shut⟩ := h.open_elt ho.nodup hd
  obtain ⟨rfl, rfl, hI⟩ := R_int.1 r1
  have y0 := m1 0 (by decide)
  simp only [sz_int, Nat.mul_one, Nat.add_zero, List.getElem?_cons_zero] at y0 E0 shut
  refine ⟨b, off, cap, e1, y0, fun q => ho.frozen hbF, hbF, hI, fun n hn => ⟨?_, ho.setCell _ _⟩⟩
  exact shut _ n [.int .i64 n] (R_int.2 ⟨rfl, rfl, hn⟩) (E0.store0 (by simp) (.int .i64 n))

theorem elt_chg {w w' : World} {b lo : Nat} {cs : List Value} {Fi F G : List Nat} (h : Elt w w b lo cs Fi F) (hF : ∀ g ∈ F, g < w.heap.size) (hbF : b ∈ F) (hb : b ∉ Fi) (hc : Chg G w w') (hG : ∀ g ∈ G, g ∈ Fi) : Elt w w' b lo cs Fi F :=
  h.call hF hbF hb hc hG

structure FrameAt (w : World) (fs : List RunFrame) (v : Value) (G : List Nat) (i : Nat) (hi : i < fs.length) (b off cap : Nat) (vV vC : Value) (FV FC : List Nat) : Prop where
  eq : v = .slice (some ⟨b, off, none⟩) fs.length cap
  c0 : w.cell? ⟨b, off + i * 4, none⟩ = some (.int .i64 fs[i].Proc)
  c1 : w.cell? ⟨b, off + i * 4 + 1, none⟩ = some (.int .i64 fs[i].Pc)
  c2 : w.cell? ⟨b, off + i * 4 + 2, none⟩ = some vV
  c3 : w.cell? ⟨b, off + i * 4 + 3, none⟩ = some vC
  rV : RL w fs[i].Vars vV FV
  rC : RL w fs[i].Cells vC FC
  oV : Own w FV
  oC : Own w FC
  fz : ∀ q, w.frozen? ⟨b, q, none⟩ = false
  mem : b ∈ G
  bV : b ∉ FV
  bC : b ∉ FC
  subV : ∀ g ∈ FV, g ∈ G
  subC : ∀ g ∈ FC, g ∈ G
  apart : ∀ g ∈ FV, g ∉ FC
  pcB : I64 fs[i].Pc
  prB : I64 fs[i].Proc
  setPc : ∀ q, I64 q → RL (w.setCell ⟨b, off + i * 4 + 1, none⟩ (.int .i64 q)) (fs.set i { fs[i] with Pc := q }) v G ∧ Own (w.setCell ⟨b, off + i * 4 + 1, none⟩ (.int .i64 q)) G
  setV : ∀ (w' : World) (l : List Int), RL w' l vV FV → Own w' FV → Chg FV w w' → RL w' (fs.set i { fs[i] with Vars := l }) v G ∧ Own w' G
  setC : ∀ (w' : World) (l : List Int), RL w' l vC FC → Own w' FC → Chg FC w w' → RL w' (fs.set i { fs[i] with Cells := l }) v G ∧ Own w' G

theorem frame_at {fs : List RunFrame} {v : Value} {G : List Nat} {w : World} (h : RL w fs v G) (ho : Own w G) {i : Nat} (hi : i < fs.length) :
    ∃ b off cap vV vC FV FC, FrameAt w fs v G i hi b off cap vV vC FV FC := by
  obtain ⟨b, off, cap, cs, Fi, e1, r1, m1, hFi, hbF, hbn, hnd, E0, shut⟩ := h.open_elt ho.nodup hi
  obtain ⟨vV, FV, vC, FC, rfl, rfl, i0, i1, g0, g1⟩ := R_RunFrame.1 r1
  have y0 := m1 0 (by decide)
  have y1 := m1 1 (by decide)
  have y2 := m1 2 (by decide)
  have y3 := m1 3 (by decide)
  simp only [sz_RunFrame, Nat.add_zero, List.getElem?_cons_zero, List.getElem?_cons_succ] at y0 y1 y2 y3 E0 shut
  have O : Own w (FV ++ FC) := ⟨hnd, fun g hg => ho.free g (hFi g hg)⟩
  have bV : b ∉ FV := fun hb => hbn (List.mem_append_left _ hb)
  have bC : b ∉ FC := fun hb => hbn (List.mem_append_right _ hb)
  have sV : ∀ g ∈ FV, g ∈ G := fun g hg => hFi g (List.mem_append_left _ hg)
  have sC : ∀ g ∈ FC, g ∈ G := fun g hg => hFi g (List.mem_append_right _ hg)
  have ap := Own.apart O
  refine ⟨b, off, cap, vV, vC, FV, FC, ⟨e1, y0, y1, y2, y3, g0, g1, O.left, O.right, fun q => ho.frozen hbF, hbF, bV, bC, sV, sC, ap, i1, i0, ?_, ?_, ?_⟩⟩
  · intro q hq
    have hch : Chg [b] w (w.setCell ⟨b, off + i * 4 + 1, none⟩ (.int .i64 q)) := (Chg.refl [b] w).setCell (Or.inl (by simp)) _
    refine ⟨shut _ _ _ (R_RunFrame.2 ⟨vV, FV, vC, FC, rfl, rfl, i0, hq, g0.chg hch ?_, g1.chg hch ?_⟩) (E0.store 1 (by simp) (.int .i64 q)), ho.setCell _ _⟩
    · intro g hg hgb; simp at hgb; subst hgb; exact bV hg
    · intro g hg hgb; simp at hgb; subst hgb; exact bC hg
  · intro w' l hl hO hc
    refine ⟨shut w' _ _ (R_RunFrame.2 ⟨vV, FV, vC, FC, rfl, rfl, i0, i1, hl, g1.chg hc (fun g hg hg' => ap g hg' hg)⟩) (E0.call ho.lt hbF hbn hc (fun g hg => List.mem_append_left _ hg)), ho.over hO hc⟩
  · intro w' l hl hO hc
    refine ⟨shut w' _ _ (R_RunFrame.2 ⟨vV, FV, vC, FC, rfl, rfl, i0, i1, g0.chg hc (fun g hg hg' => ap g hg hg'), hl⟩) (E0.call ho.lt hbF hbn hc (fun g hg => List.mem_append_right _ hg)), ho.over hO hc⟩

/-- a run by its calls' row -/
abbrev runV (x : RunRun) (v : Value) : Value := .agg #[.int .i64 x.State, v, .int .i64 x.Out, .int .i64 x.Proc, .int .i64 x.Pc]
/-- what hands back a run in memory that is new, or was G's -/
def RetRun (G : List Nat) (x : RunRun) (w : World) (e : Ending) (w' : World) : Prop := ∃ v G', e = .returned (runV x v) ∧ Chg G w w' ∧ RL w' x.Frames v G' ∧ Own w' G' ∧ ∀ g ∈ G', g ∈ G ∨ w.heap.size ≤ g
theorem RetRun.nil_ {G : List Nat} {x : RunRun} {w w' : World} (hx : x.Frames = []) (hc : Chg G w w') : RetRun G x w (.returned (runV x (.slice none 0 0))) w' :=
  ⟨_, [], rfl, hc, by rw [hx]; exact RL.nil_, Own.nil_ _, by simp⟩
end Ow
namespace Ow
open Go Go.RowKit Go.Deep
open Rp (R sz)

/-- the row lies whole in a block of its own -/
def Room (w : World) (e : TypeId) (v : Value) (n : Nat) : Prop :=
  (v = .slice none 0 0 ∧ n = 0) ∨ ∃ g cap cur, v = .slice (some ⟨g, 0, none⟩) n cap ∧ w.heap[g]? = some (.cells cur e (0, 0)) ∧ n ≤ cap ∧ cap ≤ maxLen ∧ cur.size = cap * 4
theorem Room.keep {w w' : World} {e : TypeId} {v : Value} {n : Nat} (h : Room w e v n) (hk : ∀ g, v.ownBlock = some g → w'.heap[g]? = w.heap[g]?) : Room w' e v n := by
  rcases h with h | ⟨g, cap, cur, rfl, h2, h3, h4, h5⟩
  · exact Or.inl h
  · exact Or.inr ⟨g, cap, cur, rfl, (hk g rfl).trans h2, h3, h4, h5⟩
theorem Room.setCell {w : World} {e : TypeId} {v : Value} {n : Nat} (h : Room w e v n) (p : Addr) (u : Value) : Room (w.setCell p u) e v n := by
  rcases h with h | ⟨g, cap, cur, rfl, h2, h3, h4, h5⟩
  · exact Or.inl h
  · by_cases hp : p.block = g
    · obtain ⟨cur', hc', hs'⟩ : ∃ cur', (w.setCell p u).heap[g]? = some (.cells cur' e (0, 0)) ∧ cur'.size = cur.size := by
        refine ⟨_, by simp only [World.setCell, Array.getElem?_modify, hp, if_true, h2, Option.map_some]; rfl, ?_⟩
        split
        · rfl
        · simp
      exact Or.inr ⟨g, cap, cur', rfl, hc', h3, h4, hs'.trans h5⟩
    · exact Or.inr ⟨g, cap, cur, rfl, (Below.heap_setCell w p u g (by omega)).trans h2, h3, h4, h5⟩
theorem Room.chg {w w' : World} {e : TypeId} {v : Value} {n : Nat} {G : List Nat} (h : Room w e v n) (hc : Chg G w w') (hG : ∀ g, v.ownBlock = some g → g ∉ G) : Room w' e v n := by
  rcases h with h | ⟨g, cap, cur, rfl, h2, h3, h4, h5⟩
  · exact Or.inl h
  · refine Or.inr ⟨g, cap, cur, rfl, (hc.block g ?_ (hG g rfl)).trans h2, h3, h4, h5⟩
    rcases Nat.lt_or_ge g w.heap.size with h1 | h1
    · exact h1
    · rw [Array.getElem?_eq_none h1] at h2; cases h2
theorem Room.alloc {w : World} {e : TypeId} {v : Value} {n : Nat} (h : Room w e v n) (o : Obj) : Room (w.alloc o) e v n := h.chg ((Chg.refl [] w).alloc o) (by simp)
theorem Room.less {w : World} {e : TypeId} {g n m cap : Nat} (h : Room w e (.slice (some ⟨g, 0, none⟩) n cap) n) (hm : m ≤ n) : Room w e (.slice (some ⟨g, 0, none⟩) m cap) m := by
  rcases h with ⟨h, _⟩ | ⟨g', cap', cur, h1, h2, h3, h4, h5⟩
  · cases h
  · injection h1 with h1 _ h6
    injection h1 with h1
    injection h1 with h1 _
    subst h1 h6
    exact Or.inr ⟨_, _, cur, rfl, h2, by omega, h4, h5⟩

/-- the row with what its elements are -/
structure GrowF (base : Nat) (w : World) (e : TypeId) (fs : List RunFrame) (v : Value) (cells : List Value) (C : Nat → List Value) (Fs : Nat → List Nat) : Prop where
  row : w.ownsRow base e 4 v fs.length cells
  at_ : ∀ i, i < fs.length → ∀ j, j < 4 → cells[i * 4 + j]? = (C i)[j]?
  elem : ∀ i (hi : i < fs.length), R w fs[i] (C i) (Fs i)
  own : Own w ((List.range fs.length).flatMap Fs)
  ge : ∀ g ∈ (List.range fs.length).flatMap Fs, base ≤ g
  off : ∀ g, v.ownBlock = some g → g ∉ (List.range fs.length).flatMap Fs
def Grow (base : Nat) (w : World) (e : TypeId) (fs : List RunFrame) (v : Value) : Prop := ∃ cells C Fs, GrowF base w e fs v cells C Fs

theorem Grow.nil_ (base : Nat) (w : World) (e : TypeId) : Grow base w e [] (.slice none 0 0) :=
  ⟨[], fun _ => [], fun _ => [], ⟨ownsRow_nil _ _ _ _, by simp, by simp, Own.nil_ _, by simp, by simp⟩⟩
theorem Grow.empty (base : Nat) (w : World) (e : TypeId) (hb : base ≤ w.heap.size) : Grow base (w.alloc (.cells #[] e)) e [] (.slice (some ⟨w.heap.size, 0, none⟩) 0 0) :=
  ⟨[], fun _ => [], fun _ => [], ⟨ownsRow_empty _ _ _ _ hb, by simp, by simp, Own.nil_ _, by simp, by simp⟩⟩
theorem row_keep {w w' : World} {base : Nat} {e : TypeId} {v : Value} {n : Nat} {cells : List Value} (h : w.ownsRow base e 4 v n cells) (hk : ∀ g, v.ownBlock = some g → w'.heap[g]? = w.heap[g]?) : w'.ownsRow base e 4 v n cells := by
  refine ⟨h.1, ?_⟩
  rcases h.2 with h2 | ⟨g, cap, cur, rfl, hb, hc, h3⟩
  · exact Or.inl h2
  · exact Or.inr ⟨g, cap, cur, rfl, hb, (hk g rfl).trans hc, h3⟩
theorem GrowF.chg {base : Nat} {w w' : World} {e : TypeId} {fs : List RunFrame} {v : Value} {cells : List Value} {C : Nat → List Value} {Fs : Nat → List Nat} {G : List Nat} (h : GrowF base w e fs v cells C Fs) (hc : Chg G w w') (hG : ∀ g ∈ G, g < base) : GrowF base w' e fs v cells C Fs := by
  have hin : ∀ i, i < fs.length → ∀ g ∈ Fs i, g ∈ (List.range fs.length).flatMap Fs := fun i hi g hg => by
    simp only [List.mem_flatMap, List.mem_range]; exact ⟨i, hi, hg⟩
  refine ⟨row_keep h.row (fun g hg => ?_), h.at_, fun i hi => Rp.keep (h.elem i hi) (fun b hb => ?_), h.own.chg hc (fun b hb hb' => ?_), h.ge, h.off⟩
  · have h1 := ownsRow_lt h.row g hg
    exact hc.block g h1.2 (fun h2 => by have := hG g h2; omega)
  · have h1 := h.ge b (hin i hi b hb)
    exact hc.block b (h.own.lt b (hin i hi b hb)) (fun h2 => by have := hG b h2; omega)
  · have h1 := h.ge b hb
    have := hG b hb'
    omega
theorem Grow.chg {base : Nat} {w w' : World} {e : TypeId} {fs : List RunFrame} {v : Value} {G : List Nat} (h : Grow base w e fs v) (hc : Chg G w w') (hG : ∀ g ∈ G, g < base) : Grow base w' e fs v := by
  obtain ⟨cells, C, Fs, h⟩ := h
  exact ⟨cells, C, Fs, h.chg hc hG⟩

/-- one more, behind the others -/
theorem GrowF.push {base : Nat} {w w' : World} {e : TypeId} {fs : List RunFrame} {v v' : Value} {cells : List Value} {C : Nat → List Value} {Fs : Nat → List Nat} {f : RunFrame} {cs : List Value} {Ff : List Nat}
    (h : GrowF base w e fs v cells C Fs) (hf : R w f cs Ff) (ho : Own w Ff) (hge : ∀ g ∈ Ff, base ≤ g) (hap : ∀ g ∈ Ff, g ∉ (List.range fs.length).flatMap Fs) (hoff : ∀ g, v.ownBlock = some g → g ∉ Ff)
    (hrow : w'.ownsRow base e 4 v' (fs.length + 1) (cells ++ cs)) (hg : w.grownBy w' v.ownBlock) (hb : v'.ownBlock = v.ownBlock ∨ v'.ownBlock = some w.heap.size) : Grow base w' e (fs ++ [f]) v' := by
  have hin : ∀ i, i < fs.length → ∀ g ∈ Fs i, g ∈ (List.range fs.length).flatMap Fs := fun i hi g hg => by
    simp only [List.mem_flatMap, List.mem_range]; exact ⟨i, hi, hg⟩
  have hlen : cells.length = fs.length * 4 := h.row.1
  have hl4 : cs.length = 4 := Rp.len hf
  let C' : Nat → List Value := fun i => if i = fs.length then cs else C i
  let F' : Nat → List Nat := fun i => if i = fs.length then Ff else Fs i
  have hfm : (List.range (fs ++ [f]).length).flatMap F' = (List.range fs.length).flatMap Fs ++ Ff := by
    rw [List.length_append, List.length_singleton, List.range_succ, List.flatMap_append, List.flatMap_singleton]
    congr 1
    · rw [List.flatMap_def, List.flatMap_def]
      congr 1
      refine List.map_congr_left (fun i hi => ?_)
      have := List.mem_range.1 hi
      show (if i = fs.length then _ else _) = _
      rw [if_neg (by omega)]
    · show (if fs.length = fs.length then _ else _) = _
      rw [if_pos rfl]
  have kept : ∀ b ∈ (List.range fs.length).flatMap Fs ++ Ff, w'.heap[b]? = w.heap[b]? := fun b hb' => by
    rcases List.mem_append.1 hb' with h1 | h1
    · exact hg.block b (h.own.lt b h1) (fun e => h.off b e.symm h1)
    · exact hg.block b (ho.lt b h1) (fun e => hoff b e.symm h1)
  refine ⟨cells ++ cs, C', F', ⟨by rw [List.length_append, List.length_singleton]; exact hrow, fun i hi j hj => ?_, fun i hi => ?_, ?_, ?_, ?_⟩⟩
  · rw [List.length_append, List.length_singleton] at hi
    by_cases hk : i = fs.length
    · subst hk
      rw [List.getElem?_append_right (by omega), hlen]
      show _ = (if fs.length = fs.length then cs else _)[j]?
      rw [if_pos rfl]
      congr 1
      omega
    · rw [List.getElem?_append_left (by omega), h.at_ i (by omega) j hj]
      show _ = (if i = fs.length then cs else C i)[j]?
      rw [if_neg hk]
  · rw [List.length_append, List.length_singleton] at hi
    by_cases hk : i = fs.length
    · subst hk
      show R w' _ (if fs.length = fs.length then cs else _) (if fs.length = fs.length then Ff else _)
      rw [if_pos rfl, if_pos rfl]
      rw [List.getElem_append_right (Nat.le_refl _)]
      simp only [Nat.sub_self, List.getElem_cons_zero]
      exact Rp.keep hf (fun b hb' => kept b (List.mem_append_right _ hb'))
    · show R w' _ (if i = fs.length then cs else C i) (if i = fs.length then Ff else Fs i)
      rw [if_neg hk, if_neg hk, List.getElem_append_left (by omega)]
      exact Rp.keep (h.elem i (by omega)) (fun b hb' => kept b (List.mem_append_left _ (hin i (by omega) b hb')))
  · rw [hfm]
    exact (Own.append h.own ho (fun b hb' hb2 => hap b hb2 hb')).keep kept
  · rw [hfm]
    intro g hg'
    rcases List.mem_append.1 hg' with h1 | h1
    · exact h.ge g h1
    · exact hge g h1
  · rw [hfm]
    intro g hg1 hg2
    rcases hb with hb | hb
    · rw [hb] at hg1
      rcases List.mem_append.1 hg2 with h1 | h1
      · exact h.off g hg1 h1
      · exact hoff g hg1 h1
    · rw [hb] at hg1
      injection hg1 with hg1
      subst hg1
      rcases List.mem_append.1 hg2 with h1 | h1
      · exact absurd (h.own.lt _ h1) (by omega)
      · exact absurd (ho.lt _ h1) (by omega)

/-- .. and the list -/
theorem Grow.out {base : Nat} {w : World} {e : TypeId} {fs : List RunFrame} {v : Value} (h : Grow base w e fs v) : ∃ G, RL w fs v G ∧ Own w G ∧ (∀ g ∈ G, base ≤ g) ∧ Room w e v fs.length := by
  obtain ⟨cells, C, Fs, h⟩ := h
  obtain ⟨G, h1, h2, h3⟩ := RL.of_own (xs := fs) C Fs (by rw [sz_RunFrame]; exact h.row) rfl (fun i hi j hj => by rw [sz_RunFrame] at hj ⊢; exact h.at_ i hi j hj) h.elem h.own h.off
  refine ⟨G, h1, h2, fun g hg => ?_, ?_⟩
  · rcases h3 g hg with h4 | h4
    · exact (ownsRow_lt h.row g h4).1
    · exact h.ge g h4
  · rcases h.row.2 with ⟨rfl, h4⟩ | ⟨g, cap, cur, rfl, hb, hc, h4, h5, h6, _⟩
    · exact Or.inl ⟨rfl, h4⟩
    · exact Or.inr ⟨g, cap, cur, rfl, hc, h4, h5, h6⟩

/-- from the list to the row -/
theorem grow_of {base : Nat} {w : World} {e : TypeId} {fs : List RunFrame} {v : Value} {G : List Nat} (h : RL w fs v G) (ho : Own w G) (hr : Room w e v fs.length) (hne : fs ≠ []) (hG : ∀ g ∈ G, base ≤ g) :
    ∃ cells C Fs, GrowF base w e fs v cells C Fs ∧ ∀ g ∈ (List.range fs.length).flatMap Fs, g ∈ G := by
  obtain ⟨A, cap, rfl, h2, h3, h4⟩ := h
  rcases h4 with ⟨h4, _⟩ | ⟨b, off, C, Fs, rfl, rfl, _, e4⟩
  · exact absurd h4 hne
  rcases hr with ⟨h5, _⟩ | ⟨g, cap', cur, h5, h6, h7, h8, h9⟩
  · cases h5
  injection h5 with h5 _ h10
  injection h5 with h5
  injection h5 with h5 h11
  subst h5 h10 h11
  have hcell : ∀ j, w.cell? ⟨b, j, none⟩ = cur[j]? := fun j => by simp [World.cell?, h6]
  have hn := ho.nodup
  obtain ⟨n1, n2, n3⟩ := nodup_foot hn
  refine ⟨cur.toList.take (fs.length * 4), C, Fs, ⟨⟨?_, Or.inr ⟨b, cap, cur, rfl, hG b (by simp [footOf]), h6, h7, h8, h9, rfl⟩⟩, fun i hi j hj => ?_, e4.elem, ⟨?_, ?_⟩, fun g hg => hG g (by simp only [footOf, List.mem_cons]; exact Or.inr hg), ?_⟩, fun g hg => by simp only [footOf, List.mem_cons]; exact Or.inr hg⟩
  · rw [List.length_take]
    have h13 : cur.toList.length = cap * 4 := by simpa using h9
    rw [h13]
    have : fs.length * 4 ≤ cap * 4 := Nat.mul_le_mul_right _ h7
    omega
  · have h12 := e4.cell i hi j (by rw [sz_RunFrame]; exact hj)
    rw [sz_RunFrame, Nat.zero_add, hcell] at h12
    rw [← h12, List.getElem?_take_of_lt (by have : (i + 1) * 4 ≤ fs.length * 4 := Nat.mul_le_mul_right _ hi; omega)]
    simp
  · rw [footOf, List.nodup_cons] at hn
    exact hn.2
  · intro b' hb'
    exact ho.free b' (by simp only [footOf, List.mem_cons]; exact Or.inr hb')
  · intro g hg
    simp only [Value.ownBlock, Option.some.injEq] at hg
    subst hg
    rw [footOf, List.nodup_cons] at hn
    exact hn.1

/-- the row without its last -/
theorem RL.less {w : World} {fs : List RunFrame} {A : Option Addr} {n cap : Nat} {G : List Nat} (h : RL w fs (.slice A n cap) G) (ho : Own w G) {m : Nat} (hm : m ≤ fs.length) :
    ∃ G', RL w (fs.take m) (.slice A m cap) G' ∧ Own w G' ∧ ∀ g ∈ G', g ∈ G := by
  obtain ⟨A', cap', e1, h2, h3, h4⟩ := h
  injection e1 with e1 e2 e3
  subst e1 e2 e3
  have hl : (fs.take m).length = m := by rw [List.length_take]; omega
  by_cases h0 : m = 0
  · subst h0
    refine ⟨[], ⟨A, cap, by simp, by simp, h3, Or.inl ⟨by simp, rfl, ?_⟩⟩, Own.nil_ _, by simp⟩
    rcases h4 with ⟨_, _, h5⟩ | ⟨b, off, C, Fs, rfl, _⟩
    · exact h5
    · intro hh; cases hh
  · rcases h4 with ⟨rfl, _⟩ | ⟨b, off, C, Fs, rfl, rfl, e3, e4⟩
    · simp at hm; omega
    have hsub : ∀ g ∈ footOf b m Fs, g ∈ footOf b fs.length Fs := fun g hg => by
      simp only [footOf, List.mem_cons, List.mem_flatMap, List.mem_range] at hg ⊢
      rcases hg with h | ⟨i, hi, hg⟩
      · exact Or.inl h
      · exact Or.inr ⟨i, by omega, hg⟩
    have hn := ho.nodup
    refine ⟨footOf b m Fs, ⟨_, cap, by rw [hl], by rw [hl]; omega, h3, Or.inr ⟨b, off, C, Fs, rfl, by rw [hl], ?_, ⟨e4.lt, fun i hi j hj => e4.cell i (by omega) j hj, fun i hi => ?_⟩⟩⟩, ⟨?_, fun g hg => ho.free g (hsub g hg)⟩, hsub⟩
    · intro hh; rw [hh] at hl; simp at hl; omega
    · rw [List.getElem_take]; exact e4.elem i (by omega)
    · have : footOf b fs.length Fs = footOf b m Fs ++ (List.range' m (fs.length - m)).flatMap Fs := by
        unfold footOf
        rw [List.cons_append, ← List.flatMap_append, List.range_eq_range', List.range_eq_range']
        congr 2
        have h14 := List.range'_append_1 (s := 0) (m := m) (n := fs.length - m)
        rw [Nat.zero_add] at h14
        rw [h14]
        congr 1
        omega
      rw [this] at hn
      exact (List.nodup_append.1 hn).1
end Ow
namespace Ow
open Go Go.RowKit Go.Deep
open Rp (R sz)

theorem GrowF.push2 {base : Nat} {w w' : World} {e : TypeId} {fs : List RunFrame} {v v' : Value} {cells : List Value} {C : Nat → List Value} {Fs : Nat → List Nat} {f : RunFrame} {cs : List Value} {Ff : List Nat}
    (h : GrowF base w e fs v cells C Fs) (hf : R w f cs Ff) (ho : Own w Ff) (hge : ∀ g ∈ Ff, base ≤ g) (hap : ∀ g ∈ Ff, g ∉ (List.range fs.length).flatMap Fs) (hoff : ∀ g, v.ownBlock = some g → g ∉ Ff)
    (hrow : w'.ownsRow base e 4 v' (fs.length + 1) (cells ++ cs)) (hg : w.grownBy w' v.ownBlock) (hb : v'.ownBlock = v.ownBlock ∨ v'.ownBlock = some w.heap.size) : ∃ cells' C' Fs', GrowF base w' e (fs ++ [f]) v' cells' C' Fs' ∧ ∀ g ∈ (List.range (fs ++ [f]).length).flatMap Fs', g ∈ (List.range fs.length).flatMap Fs ∨ g ∈ Ff := by
  have hin : ∀ i, i < fs.length → ∀ g ∈ Fs i, g ∈ (List.range fs.length).flatMap Fs := fun i hi g hg => by
    simp only [List.mem_flatMap, List.mem_range]; exact ⟨i, hi, hg⟩
  have hlen : cells.length = fs.length * 4 := h.row.1
  have hl4 : cs.length = 4 := Rp.len hf
  let C' : Nat → List Value := fun i => if i = fs.length then cs else C i
  let F' : Nat → List Nat := fun i => if i = fs.length then Ff else Fs i
  have hfm : (List.range (fs ++ [f]).length).flatMap F' = (List.range fs.length).flatMap Fs ++ Ff := by
    rw [List.length_append, List.length_singleton, List.range_succ, List.flatMap_append, List.flatMap_singleton]
    congr 1
    · rw [List.flatMap_def, List.flatMap_def]
      congr 1
      refine List.map_congr_left (fun i hi => ?_)
      have := List.mem_range.1 hi
      show (if i = fs.length then _ else _) = _
      rw [if_neg (by omega)]
    · show (if fs.length = fs.length then _ else _) = _
      rw [if_pos rfl]
  have kept : ∀ b ∈ (List.range fs.length).flatMap Fs ++ Ff, w'.heap[b]? = w.heap[b]? := fun b hb' => by
    rcases List.mem_append.1 hb' with h1 | h1
    · exact hg.block b (h.own.lt b h1) (fun e => h.off b e.symm h1)
    · exact hg.block b (ho.lt b h1) (fun e => hoff b e.symm h1)
  refine ⟨cells ++ cs, C', F', ⟨by rw [List.length_append, List.length_singleton]; exact hrow, fun i hi j hj => ?_, fun i hi => ?_, ?_, ?_, ?_⟩, fun g hg => by rw [hfm] at hg; exact List.mem_append.1 hg⟩
  · rw [List.length_append, List.length_singleton] at hi
    by_cases hk : i = fs.length
    · subst hk
      rw [List.getElem?_append_right (by omega), hlen]
      show _ = (if fs.length = fs.length then cs else _)[j]?
      rw [if_pos rfl]
      congr 1
      omega
    · rw [List.getElem?_append_left (by omega), h.at_ i (by omega) j hj]
      show _ = (if i = fs.length then cs else C i)[j]?
      rw [if_neg hk]
  · rw [List.length_append, List.length_singleton] at hi
    by_cases hk : i = fs.length
    · subst hk
      show R w' _ (if fs.length = fs.length then cs else _) (if fs.length = fs.length then Ff else _)
      rw [if_pos rfl, if_pos rfl]
      rw [List.getElem_append_right (Nat.le_refl _)]
      simp only [Nat.sub_self, List.getElem_cons_zero]
      exact Rp.keep hf (fun b hb' => kept b (List.mem_append_right _ hb'))
    · show R w' _ (if i = fs.length then cs else C i) (if i = fs.length then Ff else Fs i)
      rw [if_neg hk, if_neg hk, List.getElem_append_left (by omega)]
      exact Rp.keep (h.elem i (by omega)) (fun b hb' => kept b (List.mem_append_left _ (hin i (by omega) b hb')))
  · rw [hfm]
    exact (Own.append h.own ho (fun b hb' hb2 => hap b hb2 hb')).keep kept
  · rw [hfm]
    intro g hg'
    rcases List.mem_append.1 hg' with h1 | h1
    · exact h.ge g h1
    · exact hge g h1
  · rw [hfm]
    intro g hg1 hg2
    rcases hb with hb | hb
    · rw [hb] at hg1
      rcases List.mem_append.1 hg2 with h1 | h1
      · exact h.off g hg1 h1
      · exact hoff g hg1 h1
    · rw [hb] at hg1
      injection hg1 with hg1
      subst hg1
      rcases List.mem_append.1 hg2 with h1 | h1
      · exact absurd (h.own.lt _ h1) (by omega)
      · exact absurd (ho.lt _ h1) (by omega)


/-- from the row to the list, with its blocks -/
theorem GrowF.out {base : Nat} {w : World} {e : TypeId} {fs : List RunFrame} {v : Value} {cells : List Value} {C : Nat → List Value} {Fs : Nat → List Nat} (h : GrowF base w e fs v cells C Fs) :
    ∃ G, RL w fs v G ∧ Own w G ∧ ∀ g ∈ G, v.ownBlock = some g ∨ g ∈ (List.range fs.length).flatMap Fs :=
  RL.of_own (xs := fs) C Fs (by rw [sz_RunFrame]; exact h.row) rfl (fun i hi j hj => by rw [sz_RunFrame] at hj ⊢; exact h.at_ i hi j hj) h.elem h.own h.off
end Ow
namespace Ow
open Go Go.RowKit Go.Deep
open Rp (R sz)

/-- one element of ints of my own: where it lies, and what a store leaves, in this world or a later one -/
structure IntAt (w : World) (l : List Int) (v : Value) (F : List Nat) (d : Nat) (hd : d < l.length) (b o c : Nat) : Prop where
  eq : v = .slice (some ⟨b, o, none⟩) l.length c
  cell : w.cell? ⟨b, o + d, none⟩ = some (.int .i64 l[d])
  fz : ∀ q, w.frozen? ⟨b, q, none⟩ = false
  mem : b ∈ F
  bnd : I64 l[d]
  set : ∀ (w0 : World) (n : Int), Chg [] w w0 → I64 n → RL (w0.setCell ⟨b, o + d, none⟩ (.int .i64 n)) (l.set d n) v F ∧ Own (w0.setCell ⟨b, o + d, none⟩ (.int .i64 n)) F ∧ Chg F w (w0.setCell ⟨b, o + d, none⟩ (.int .i64 n))
theorem int_at {l : List Int} {v : Value} {F : List Nat} {w : World} (h : RL w l v F) (ho : Own w F) {d : Nat} (hd : d < l.length) : ∃ b o c, IntAt w l v F d hd b o c := by
  obtain ⟨b, off, cap, cs, Fi, e1, r1, m1, hFi, hbF, hbn, hnd, E0, shut⟩ := h.open_elt ho.nodup hd
  obtain ⟨rfl, rfl, hI⟩ := R_int.1 r1
  have y0 := m1 0 (by decide)
  simp only [sz_int, Nat.mul_one, Nat.add_zero, List.getElem?_cons_zero] at y0 E0 shut
  refine ⟨b, off, cap, e1, y0, fun q => ho.frozen hbF, hbF, hI, fun w0 n hc hn => ⟨?_, (ho.chg0 hc).setCell _ _, ?_⟩⟩
  · exact shut _ n [.int .i64 n] (R_int.2 ⟨rfl, rfl, hn⟩) ((E0.call ho.lt hbF hbn hc (by simp)).store0 (by simp) (.int .i64 n))
  · exact (hc.of0 (F := F)).setCell (Or.inl hbF) _

/-- the last call: where it lies, and what stores leave -/
structure FrameIn (w : World) (fs : List RunFrame) (v : Value) (G : List Nat) (i : Nat) (hi : i < fs.length) (b off cap : Nat) (vV vC : Value) (FV FC : List Nat) : Prop where
  eq : v = .slice (some ⟨b, off, none⟩) fs.length cap
  c0 : w.cell? ⟨b, off + i * 4, none⟩ = some (.int .i64 fs[i].Proc)
  c1 : w.cell? ⟨b, off + i * 4 + 1, none⟩ = some (.int .i64 fs[i].Pc)
  c2 : w.cell? ⟨b, off + i * 4 + 2, none⟩ = some vV
  c3 : w.cell? ⟨b, off + i * 4 + 3, none⟩ = some vC
  rV : RL w fs[i].Vars vV FV
  rC : RL w fs[i].Cells vC FC
  oV : Own w FV
  oC : Own w FC
  fz : ∀ q, w.frozen? ⟨b, q, none⟩ = false
  mem : b ∈ G
  bV : b ∉ FV
  bC : b ∉ FC
  subV : ∀ g ∈ FV, g ∈ G
  subC : ∀ g ∈ FC, g ∈ G
  pcB : I64 fs[i].Pc
  prB : I64 fs[i].Proc
  setP : ∀ (w1 : World) (q : Int), Chg [] w w1 → I64 q → RL (w1.setCell ⟨b, off + i * 4 + 1, none⟩ (.int .i64 q)) (fs.set i { fs[i] with Pc := q }) v G ∧ Own (w1.setCell ⟨b, off + i * 4 + 1, none⟩ (.int .i64 q)) G
  setVP : ∀ (w1 : World) (l : List Int) (q : Int), RL w1 l vV FV → Own w1 FV → Chg FV w w1 → I64 q → RL (w1.setCell ⟨b, off + i * 4 + 1, none⟩ (.int .i64 q)) (fs.set i { fs[i] with Vars := l, Pc := q }) v G ∧ Own (w1.setCell ⟨b, off + i * 4 + 1, none⟩ (.int .i64 q)) G
  setCP : ∀ (w1 : World) (l : List Int) (q : Int), RL w1 l vC FC → Own w1 FC → Chg FC w w1 → I64 q → RL (w1.setCell ⟨b, off + i * 4 + 1, none⟩ (.int .i64 q)) (fs.set i { fs[i] with Cells := l, Pc := q }) v G ∧ Own (w1.setCell ⟨b, off + i * 4 + 1, none⟩ (.int .i64 q)) G

theorem frame_in {fs : List RunFrame} {v : Value} {G : List Nat} {w : World} (h : RL w fs v G) (ho : Own w G) {i : Nat} (hi : i < fs.length) :
    ∃ b off cap vV vC FV FC, FrameIn w fs v G i hi b off cap vV vC FV FC := by
  obtain ⟨b, off, cap, cs, Fi, e1, r1, m1, hFi, hbF, hbn, hnd, E0, shut⟩ := h.open_elt ho.nodup hi
  obtain ⟨vV, FV, vC, FC, rfl, rfl, i0, i1, g0, g1⟩ := R_RunFrame.1 r1
  have y0 := m1 0 (by decide)
  have y1 := m1 1 (by decide)
  have y2 := m1 2 (by decide)
  have y3 := m1 3 (by decide)
  simp only [sz_RunFrame, Nat.add_zero, List.getElem?_cons_zero, List.getElem?_cons_succ] at y0 y1 y2 y3 E0 shut
  have O : Own w (FV ++ FC) := ⟨hnd, fun g hg => ho.free g (hFi g hg)⟩
  have bV : b ∉ FV := fun hb => hbn (List.mem_append_left _ hb)
  have bC : b ∉ FC := fun hb => hbn (List.mem_append_right _ hb)
  have sV : ∀ g ∈ FV, g ∈ G := fun g hg => hFi g (List.mem_append_left _ hg)
  have sC : ∀ g ∈ FC, g ∈ G := fun g hg => hFi g (List.mem_append_right _ hg)
  have ap := Own.apart O
  have hch : ∀ (w1 : World) (q : Int), Chg [b] w1 (w1.setCell ⟨b, off + i * 4 + 1, none⟩ (.int .i64 q)) := fun w1 q => (Chg.refl [b] w1).setCell (Or.inl (by simp)) _
  have nV : ∀ g ∈ FV, g ∉ [b] := fun g hg hgb => by simp at hgb; subst hgb; exact bV hg
  have nC : ∀ g ∈ FC, g ∉ [b] := fun g hg hgb => by simp at hgb; subst hgb; exact bC hg
  refine ⟨b, off, cap, vV, vC, FV, FC, ⟨e1, y0, y1, y2, y3, g0, g1, O.left, O.right, fun q => ho.frozen hbF, hbF, bV, bC, sV, sC, i1, i0, ?_, ?_, ?_⟩⟩
  · intro w1 q hc hq
    exact ⟨shut _ _ _ (R_RunFrame.2 ⟨vV, FV, vC, FC, rfl, rfl, i0, hq, (g0.chg0 hc).chg (hch w1 q) nV, (g1.chg0 hc).chg (hch w1 q) nC⟩) ((E0.call ho.lt hbF hbn hc (by simp)).store 1 (by simp) (.int .i64 q)), (ho.chg0 hc).setCell _ _⟩
  · intro w1 l q hl hO hc hq
    exact ⟨shut _ _ _ (R_RunFrame.2 ⟨vV, FV, vC, FC, rfl, rfl, i0, hq, hl.chg (hch w1 q) nV, (g1.chg hc (fun g hg hg' => ap g hg' hg)).chg (hch w1 q) nC⟩) ((E0.call ho.lt hbF hbn hc (fun g hg => List.mem_append_left _ hg)).store 1 (by simp) (.int .i64 q)), (ho.over hO hc).setCell _ _⟩
  · intro w1 l q hl hO hc hq
    exact ⟨shut _ _ _ (R_RunFrame.2 ⟨vV, FV, vC, FC, rfl, rfl, i0, hq, (g0.chg hc (fun g hg hg' => ap g hg hg')).chg (hch w1 q) nV, hl.chg (hch w1 q) nC⟩) ((E0.call ho.lt hbF hbn hc (fun g hg => List.mem_append_right _ hg)).store 1 (by simp) (.int .i64 q)), (ho.over hO hc).setCell _ _⟩
end Ow
namespace Ow
open Go Go.RowKit Go.Deep
open Rp (R sz)
theorem frame_in_ap {fs : List RunFrame} {v : Value} {G : List Nat} {w : World} (h : RL w fs v G) (ho : Own w G) {i : Nat} (hi : i < fs.length) :
    ∃ b off cap vV vC FV FC, FrameIn w fs v G i hi b off cap vV vC FV FC ∧ ∀ g ∈ FV, g ∉ FC := by
  obtain ⟨b, off, cap, cs, Fi, e1, r1, m1, hFi, hbF, hbn, hnd, E0, shut⟩ := h.open_elt ho.nodup hi
  obtain ⟨vV, FV, vC, FC, rfl, rfl, i0, i1, g0, g1⟩ := R_RunFrame.1 r1
  have y0 := m1 0 (by decide)
  have y1 := m1 1 (by decide)
  have y2 := m1 2 (by decide)
  have y3 := m1 3 (by decide)
  simp only [sz_RunFrame, Nat.add_zero, List.getElem?_cons_zero, List.getElem?_cons_succ] at y0 y1 y2 y3 E0 shut
  have O : Own w (FV ++ FC) := ⟨hnd, fun g hg => ho.free g (hFi g hg)⟩
  have bV : b ∉ FV := fun hb => hbn (List.mem_append_left _ hb)
  have bC : b ∉ FC := fun hb => hbn (List.mem_append_right _ hb)
  have sV : ∀ g ∈ FV, g ∈ G := fun g hg => hFi g (List.mem_append_left _ hg)
  have sC : ∀ g ∈ FC, g ∈ G := fun g hg => hFi g (List.mem_append_right _ hg)
  have ap := Own.apart O
  have hch : ∀ (w1 : World) (q : Int), Chg [b] w1 (w1.setCell ⟨b, off + i * 4 + 1, none⟩ (.int .i64 q)) := fun w1 q => (Chg.refl [b] w1).setCell (Or.inl (by simp)) _
  have nV : ∀ g ∈ FV, g ∉ [b] := fun g hg hgb => by simp at hgb; subst hgb; exact bV hg
  have nC : ∀ g ∈ FC, g ∉ [b] := fun g hg hgb => by simp at hgb; subst hgb; exact bC hg
  refine ⟨b, off, cap, vV, vC, FV, FC, ⟨e1, y0, y1, y2, y3, g0, g1, O.left, O.right, fun q => ho.frozen hbF, hbF, bV, bC, sV, sC, i1, i0, ?_, ?_, ?_⟩, ap⟩
  · intro w1 q hc hq
    exact ⟨shut _ _ _ (R_RunFrame.2 ⟨vV, FV, vC, FC, rfl, rfl, i0, hq, (g0.chg0 hc).chg (hch w1 q) nV, (g1.chg0 hc).chg (hch w1 q) nC⟩) ((E0.call ho.lt hbF hbn hc (by simp)).store 1 (by simp) (.int .i64 q)), (ho.chg0 hc).setCell _ _⟩
  · intro w1 l q hl hO hc hq
    exact ⟨shut _ _ _ (R_RunFrame.2 ⟨vV, FV, vC, FC, rfl, rfl, i0, hq, hl.chg (hch w1 q) nV, (g1.chg hc (fun g hg hg' => ap g hg' hg)).chg (hch w1 q) nC⟩) ((E0.call ho.lt hbF hbn hc (fun g hg => List.mem_append_left _ hg)).store 1 (by simp) (.int .i64 q)), (ho.over hO hc).setCell _ _⟩
  · intro w1 l q hl hO hc hq
    exact ⟨shut _ _ _ (R_RunFrame.2 ⟨vV, FV, vC, FC, rfl, rfl, i0, hq, (g0.chg hc (fun g hg hg' => ap g hg hg')).chg (hch w1 q) nV, hl.chg (hch w1 q) nC⟩) ((E0.call ho.lt hbF hbn hc (fun g hg => List.mem_append_right _ hg)).store 1 (by simp) (.int .i64 q)), (ho.over hO hc).setCell _ _⟩
end Ow
namespace Ow
open Go Go.RowKit Go.Deep
open Rp (R sz)
/-- the runner's variable -/
structure RunX (w : World) (X : Nat) (vP : Value) (x : RunRun) (v : Value) : Prop where
  c0 : w.cell? ⟨X, 0, none⟩ = some vP
  c1 : w.cell? ⟨X, 1, none⟩ = some (.int .i64 x.State)
  c2 : w.cell? ⟨X, 2, none⟩ = some v
  c3 : w.cell? ⟨X, 3, none⟩ = some (.int .i64 x.Out)
  c4 : w.cell? ⟨X, 4, none⟩ = some (.int .i64 x.Proc)
  c5 : w.cell? ⟨X, 5, none⟩ = some (.int .i64 x.Pc)
  fz : ∀ j, w.frozen? ⟨X, j, none⟩ = false
theorem RunX.lt {w : World} {X : Nat} {vP v : Value} {x : RunRun} (h : RunX w X vP x v) : X < w.heap.size := World.block_lt_of_cell? _ _ h.c0
theorem RunX.chg {w w' : World} {X : Nat} {vP v : Value} {x : RunRun} {G : List Nat} (h : RunX w X vP x v) (hc : Chg G w w') (hX : X ∉ G) : RunX w' X vP x v :=
  ⟨(hc.cell (p := ⟨X, 0, none⟩) h.lt hX).trans h.c0, (hc.cell (p := ⟨X, 1, none⟩) h.lt hX).trans h.c1, (hc.cell (p := ⟨X, 2, none⟩) h.lt hX).trans h.c2, (hc.cell (p := ⟨X, 3, none⟩) h.lt hX).trans h.c3, (hc.cell (p := ⟨X, 4, none⟩) h.lt hX).trans h.c4, (hc.cell (p := ⟨X, 5, none⟩) h.lt hX).trans h.c5,
    fun j => (show w'.frozen? ⟨X, j, none⟩ = w.frozen? ⟨X, j, none⟩ from World.frozen?_of_block (hc.block X h.lt hX)).trans (h.fz j)⟩
theorem RunX.chg0 {w w' : World} {X : Nat} {vP v : Value} {x : RunRun} (h : RunX w X vP x v) (hc : Chg [] w w') : RunX w' X vP x v := h.chg hc (by simp)
/-- the frames' slice is stored anew -/
theorem RunX.setF {w : World} {X : Nat} {vP v : Value} {x : RunRun} (h : RunX w X vP x v) (v' : Value) (fs : List RunFrame) : RunX (w.setCell ⟨X, 2, none⟩ v') X vP { x with Frames := fs } v' := by
  have o : ∀ j, j ≠ 2 → (w.setCell ⟨X, 2, none⟩ v').cell? ⟨X, j, none⟩ = w.cell? ⟨X, j, none⟩ := fun j hj => World.cell?_setCell_other _ _ _ _ (by intro e; injection e with e1 e2; exact hj e2.symm)
  exact ⟨(o 0 (by decide)).trans h.c0, (o 1 (by decide)).trans h.c1, World.cell?_setCell_same _ _ _ h.c2, (o 3 (by decide)).trans h.c3, (o 4 (by decide)).trans h.c4, (o 5 (by decide)).trans h.c5, fun j => by simp [h.fz j]⟩
/-- a method of the runner has gone through -/
def StepOut (X : Nat) (vP : Value) (G : List Nat) (x : RunRun) (w : World) (e : Ending) (w' : World) : Prop :=
  e = .returned (.tuple #[]) ∧ ∃ v G', RunX w' X vP x v ∧ Chg (X :: G) w w' ∧ RL w' x.Frames v G' ∧ Own w' G' ∧ ∀ g ∈ G', g ∈ G ∨ w.heap.size ≤ g
/-- .. has thrown the run's end -/
def StepBad (T : TypeId) (X : Nat) (G : List Nat) (x : RunRun) (w : World) (e : Ending) (w' : World) : Prop :=
  e = .panicked [{ v := .iface T (runV x (.slice none 0 0)), recovered := false }] ∧ Chg (X :: G) w w'
end Ow
