/- A part of the proof. -/
import Derived.Lib.Hide
import Derived.Test.YtjakhnhnjhafgaaGreatK01
import Derived.Deep.AppendLies
import Derived.Deep.RegionHeld3
import Derived.Recover
import Derived.Defers
import Derived.Deep.OwnRows
set_option linter.unusedVariables false
set_option linter.unusedSimpArgs false
namespace Ow
open Go Go.RowKit Go.Deep
open Rp (R sz)
abbrev runV (x : RunRun) (v : Value) : Value := .agg #[.int .i64 x.State, v, .int .i64 x.Out, .int .i64 x.Proc, .int .i64 x.Pc]
def RetRun (G : List Nat) (x : RunRun) (w : World) (e : Ending) (w' : World) : Prop := ∃ v G', e = .returned (runV x v) ∧ Chg G w w' ∧ RL w' x.Frames v G' ∧ Own w' G' ∧ ∀ g ∈ G', g ∈ G ∨ w.heap.size ≤ g
theorem RetRun.nil_ {G : List Nat} {x : RunRun} {w w' : World} (hx : x.Frames = []) (hc : Chg G w w') : RetRun G x w (.returned (runV x (.slice none 0 0))) w' :=
 ⟨_, [], rfl, hc, by rw [hx]; exact RL.nil_, Own.nil_ _, by simp⟩
end Ow
namespace Ow
open Go Go.RowKit Go.Deep
open Rp (R sz)
def Room (w : World) (e : TypeId) (v : Value) (n : Nat) : Prop :=
 (v = .slice none 0 0 ∧ n = 0) ∨ ∃ g cap cur, v = .slice (some ⟨g, 0, none⟩) n cap ∧ w.heap[g]? = some (.cells cur e (0, 0)) ∧ n ≤ cap ∧ cap ≤ maxLen ∧ cur.size = cap * 4
theorem Room.chg {w w' : World} {e : TypeId} {v : Value} {n : Nat} {G : List Nat} (h : Room w e v n) (hc : Chg G w w') (hG : ∀ g, v.ownBlock = some g → g ∉ G) : Room w' e v n := by
 rcases h with h | ⟨g, cap, cur, rfl, h2, h3, h4, h5⟩
 · exact Or.inl h
 · refine Or.inr ⟨g, cap, cur, rfl, (hc.block g ?_ (hG g rfl)).trans h2, h3, h4, h5⟩
   rcases Nat.lt_or_ge g w.heap.size with h1 | h1
   · exact h1
   · rw [Array.getElem?_eq_none h1] at h2; cases h2
structure GrowF (base : Nat) (w : World) (e : TypeId) (fs : List RunFrame) (v : Value) (cells : List Value) (C : Nat → List Value) (Fs : Nat → List Nat) : Prop where
 row : w.ownsRow base e 4 v fs.length cells
 at_ : ∀ i, i < fs.length → ∀ j, j < 4 → cells[i * 4 + j]? = (C i)[j]?
 elem : ∀ i (hi : i < fs.length), R w fs[i] (C i) (Fs i)
 own : Own w ((List.range fs.length).flatMap Fs)
 ge : ∀ g ∈ (List.range fs.length).flatMap Fs, base ≤ g
 off : ∀ g, v.ownBlock = some g → g ∉ (List.range fs.length).flatMap Fs
def Grow (base : Nat) (w : World) (e : TypeId) (fs : List RunFrame) (v : Value) : Prop := ∃ cells C Fs, GrowF base w e fs v cells C Fs
theorem Grow.nil_ (base : Nat) (w : World) (e : TypeId) : Grow base w e [] (.slice none 0 0) :=
 ⟨[], fun _ => [], fun _ => [], ⟨ownsRow_nil _ _ _ _, by simp, by simp, Own.nil_ _, by simp, by simp⟩⟩
theorem row_keep {w w' : World} {base : Nat} {e : TypeId} {v : Value} {n : Nat} {cells : List Value} (h : w.ownsRow base e 4 v n cells) (hk : ∀ g, v.ownBlock = some g → w'.heap[g]? = w.heap[g]?) : w'.ownsRow base e 4 v n cells := by
 refine ⟨h.1, ?_⟩
 rcases h.2 with h2 | ⟨g, cap, cur, rfl, hb, hc, h3⟩
 · exact Or.inl h2
 · exact Or.inr ⟨g, cap, cur, rfl, hb, (hk g rfl).trans hc, h3⟩
theorem GrowF.chg {base : Nat} {w w' : World} {e : TypeId} {fs : List RunFrame} {v : Value} {cells : List Value} {C : Nat → List Value} {Fs : Nat → List Nat} {G : List Nat} (h : GrowF base w e fs v cells C Fs) (hc : Chg G w w') (hG : ∀ g ∈ G, g < base) : GrowF base w' e fs v cells C Fs := by
 have hin : ∀ i, i < fs.length → ∀ g ∈ Fs i, g ∈ (List.range fs.length).flatMap Fs := fun i hi g hg => by
  simp only [List.mem_flatMap, List.mem_range]; exact ⟨i, hi, hg⟩
 refine ⟨row_keep h.row (fun g hg => ?_), h.at_, fun i hi => Rp.keep (h.elem i hi) (fun b hb => ?_), h.own.chg hc (fun b hb hb' => ?_), h.ge, h.off⟩
 · have h1 := ownsRow_lt h.row g hg
   exact hc.block g h1.2 (fun h2 => by have := hG g h2; omega)
 · have h1 := h.ge b (hin i hi b hb)
   exact hc.block b (h.own.lt b (hin i hi b hb)) (fun h2 => by have := hG b h2; omega)
 · have h1 := h.ge b hb
   have := hG b hb'
   omega
theorem Grow.chg {base : Nat} {w w' : World} {e : TypeId} {fs : List RunFrame} {v : Value} {G : List Nat} (h : Grow base w e fs v) (hc : Chg G w w') (hG : ∀ g ∈ G, g < base) : Grow base w' e fs v := by
 obtain ⟨cells, C, Fs, h⟩ := h
 exact ⟨cells, C, Fs, h.chg hc hG⟩
theorem GrowF.push {base : Nat} {w w' : World} {e : TypeId} {fs : List RunFrame} {v v' : Value} {cells : List Value} {C : Nat → List Value} {Fs : Nat → List Nat} {f : RunFrame} {cs : List Value} {Ff : List Nat}
 (h : GrowF base w e fs v cells C Fs) (hf : R w f cs Ff) (ho : Own w Ff) (hge : ∀ g ∈ Ff, base ≤ g) (hap : ∀ g ∈ Ff, g ∉ (List.range fs.length).flatMap Fs) (hoff : ∀ g, v.ownBlock = some g → g ∉ Ff)
 (hrow : w'.ownsRow base e 4 v' (fs.length + 1) (cells ++ cs)) (hg : w.grownBy w' v.ownBlock) (hb : v'.ownBlock = v.ownBlock ∨ v'.ownBlock = some w.heap.size) : Grow base w' e (fs ++ [f]) v' := by
 have hin : ∀ i, i < fs.length → ∀ g ∈ Fs i, g ∈ (List.range fs.length).flatMap Fs := fun i hi g hg => by
  simp only [List.mem_flatMap, List.mem_range]; exact ⟨i, hi, hg⟩
 have hlen : cells.length = fs.length * 4 := h.row.1
 have hl4 : cs.length = 4 := Rp.len hf
 let C' : Nat → List Value := fun i => if i = fs.length then cs else C i
 let F' : Nat → List Nat := fun i => if i = fs.length then Ff else Fs i
 have hfm : (List.range (fs ++ [f]).length).flatMap F' = (List.range fs.length).flatMap Fs ++ Ff := by
  rw [List.length_append, List.length_singleton, List.range_succ, List.flatMap_append, List.flatMap_singleton]
  congr 1
  · rw [List.flatMap_def, List.flatMap_def]
    congr 1
    refine List.map_congr_left (fun i hi => ?_)
    have := List.mem_range.1 hi
    show (if i = fs.length then _ else _) = _
    rw [if_neg (by omega)]
  · show (if fs.length = fs.length then _ else _) = _
    rw [if_pos rfl]
 have kept : ∀ b ∈ (List.range fs.length).flatMap Fs ++ Ff, w'.heap[b]? = w.heap[b]? := fun b hb' => by
  rcases List.mem_append.1 hb' with h1 | h1
  · exact hg.block b (h.own.lt b h1) (fun e => h.off b e.symm h1)
  · exact hg.block b (ho.lt b h1) (fun e => hoff b e.symm h1)
 refine ⟨cells ++ cs, C', F', ⟨by rw [List.length_append, List.length_singleton]; exact hrow, fun i hi j hj => ?_, fun i hi => ?_, ?_, ?_, ?_⟩⟩
 · rw [List.length_append, List.length_singleton] at hi
   by_cases hk : i = fs.length
   · subst hk
     rw [List.getElem?_append_right (by omega), hlen]
     show _ = (if fs.length = fs.length then cs else _)[j]?
     rw [if_pos rfl]
     congr 1
     omega
   · rw [List.getElem?_append_left (by omega), h.at_ i (by omega) j hj]
     show _ = (if i = fs.length then cs else C i)[j]?
     rw [if_neg hk]
 · rw [List.length_append, List.length_singleton] at hi
   by_cases hk : i = fs.length
   · subst hk
     show R w' _ (if fs.length = fs.length then cs else _) (if fs.length = fs.length then Ff else _)
     rw [if_pos rfl, if_pos rfl]
     rw [List.getElem_append_right (Nat.le_refl _)]
     simp only [Nat.sub_self, List.getElem_cons_zero]
     exact Rp.keep hf (fun b hb' => kept b (List.mem_append_right _ hb'))
   · show R w' _ (if i = fs.length then cs else C i) (if i = fs.length then Ff else Fs i)
     rw [if_neg hk, if_neg hk, List.getElem_append_left (by omega)]
     exact Rp.keep (h.elem i (by omega)) (fun b hb' => kept b (List.mem_append_left _ (hin i (by omega) b hb')))
 · rw [hfm]
   exact (Own.append h.own ho (fun b hb' hb2 => hap b hb2 hb')).keep kept
 · rw [hfm]
   intro g hg'
   rcases List.mem_append.1 hg' with h1 | h1
   · exact h.ge g h1
   · exact hge g h1
 · rw [hfm]
   intro g hg1 hg2
   rcases hb with hb | hb
   · rw [hb] at hg1
     rcases List.mem_append.1 hg2 with h1 | h1
     · exact h.off g hg1 h1
     · exact hoff g hg1 h1
   · rw [hb] at hg1
     injection hg1 with hg1
     subst hg1
     rcases List.mem_append.1 hg2 with h1 | h1
     · exact absurd (h.own.lt _ h1) (by omega)
     · exact absurd (ho.lt _ h1) (by omega)
theorem Grow.out {base : Nat} {w : World} {e : TypeId} {fs : List RunFrame} {v : Value} (h : Grow base w e fs v) : ∃ G, RL w fs v G ∧ Own w G ∧ (∀ g ∈ G, base ≤ g) ∧ Room w e v fs.length := by
 obtain ⟨cells, C, Fs, h⟩ := h
 obtain ⟨G, h1, h2, h3⟩ := RL.of_own (xs := fs) C Fs (by rw [sz_RunFrame]; exact h.row) rfl (fun i hi j hj => by rw [sz_RunFrame] at hj ⊢; exact h.at_ i hi j hj) h.elem h.own h.off
 refine ⟨G, h1, h2, fun g hg => ?_, ?_⟩
 · rcases h3 g hg with h4 | h4
   · exact (ownsRow_lt h.row g h4).1
   · exact h.ge g h4
 · rcases h.row.2 with ⟨rfl, h4⟩ | ⟨g, cap, cur, rfl, hb, hc, h4, h5, h6, _⟩
   · exact Or.inl ⟨rfl, h4⟩
   · exact Or.inr ⟨g, cap, cur, rfl, hc, h4, h5, h6⟩
end Ow
namespace Ow
open Go Go.RowKit Go.Deep
open Rp (R sz)
structure IntAt (w : World) (l : List Int) (v : Value) (F : List Nat) (d : Nat) (hd : d < l.length) (b o c : Nat) : Prop where
 eq : v = .slice (some ⟨b, o, none⟩) l.length c
 cell : w.cell? ⟨b, o + d, none⟩ = some (.int .i64 l[d])
 fz : ∀ q, w.frozen? ⟨b, q, none⟩ = false
 mem : b ∈ F
 bnd : I64 l[d]
 set : ∀ (w0 : World) (n : Int), Chg [] w w0 → I64 n → RL (w0.setCell ⟨b, o + d, none⟩ (.int .i64 n)) (l.set d n) v F ∧ Own (w0.setCell ⟨b, o + d, none⟩ (.int .i64 n)) F ∧ Chg F w (w0.setCell ⟨b, o + d, none⟩ (.int .i64 n))
theorem int_at {l : List Int} {v : Value} {F : List Nat} {w : World} (h : RL w l v F) (ho : Own w F) {d : Nat} (hd : d < l.length) : ∃ b o c, IntAt w l v F d hd b o c := by
 obtain ⟨b, off, cap, cs, Fi, e1, r1, m1, hFi, hbF, hbn, hnd, E0, shut⟩ := h.open_elt ho.nodup hd
 obtain ⟨rfl, rfl, hI⟩ := R_int.1 r1
 have y0 := m1 0 (by decide)
 simp only [sz_int, Nat.mul_one, Nat.add_zero, List.getElem?_cons_zero] at y0 E0 shut
 refine ⟨b, off, cap, e1, y0, fun q => ho.frozen hbF, hbF, hI, fun w0 n hc hn => ⟨?_, (ho.chg0 hc).setCell _ _, ?_⟩⟩
 · exact shut _ n [.int .i64 n] (R_int.2 ⟨rfl, rfl, hn⟩) ((E0.call ho.lt hbF hbn hc (by simp)).store0 (by simp) (.int .i64 n))
 · exact (hc.of0 (F := F)).setCell (Or.inl hbF) _
structure FrameIn (w : World) (fs : List RunFrame) (v : Value) (G : List Nat) (i : Nat) (hi : i < fs.length) (b off cap : Nat) (vV vC : Value) (FV FC : List Nat) : Prop where
 eq : v = .slice (some ⟨b, off, none⟩) fs.length cap
 c0 : w.cell? ⟨b, off + i * 4, none⟩ = some (.int .i64 fs[i].Proc)
 c1 : w.cell? ⟨b, off + i * 4 + 1, none⟩ = some (.int .i64 fs[i].Pc)
 c2 : w.cell? ⟨b, off + i * 4 + 2, none⟩ = some vV
 c3 : w.cell? ⟨b, off + i * 4 + 3, none⟩ = some vC
 rV : RL w fs[i].Vars vV FV
 rC : RL w fs[i].Cells vC FC
 oV : Own w FV
 oC : Own w FC
 fz : ∀ q, w.frozen? ⟨b, q, none⟩ = false
 mem : b ∈ G
 bV : b ∉ FV
 bC : b ∉ FC
 subV : ∀ g ∈ FV, g ∈ G
 subC : ∀ g ∈ FC, g ∈ G
 pcB : I64 fs[i].Pc
 prB : I64 fs[i].Proc
 setP : ∀ (w1 : World) (q : Int), Chg [] w w1 → I64 q → RL (w1.setCell ⟨b, off + i * 4 + 1, none⟩ (.int .i64 q)) (fs.set i { fs[i] with Pc := q }) v G ∧ Own (w1.setCell ⟨b, off + i * 4 + 1, none⟩ (.int .i64 q)) G
 setVP : ∀ (w1 : World) (l : List Int) (q : Int), RL w1 l vV FV → Own w1 FV → Chg FV w w1 → I64 q → RL (w1.setCell ⟨b, off + i * 4 + 1, none⟩ (.int .i64 q)) (fs.set i { fs[i] with Vars := l, Pc := q }) v G ∧ Own (w1.setCell ⟨b, off + i * 4 + 1, none⟩ (.int .i64 q)) G
 setCP : ∀ (w1 : World) (l : List Int) (q : Int), RL w1 l vC FC → Own w1 FC → Chg FC w w1 → I64 q → RL (w1.setCell ⟨b, off + i * 4 + 1, none⟩ (.int .i64 q)) (fs.set i { fs[i] with Cells := l, Pc := q }) v G ∧ Own (w1.setCell ⟨b, off + i * 4 + 1, none⟩ (.int .i64 q)) G
theorem frame_in {fs : List RunFrame} {v : Value} {G : List Nat} {w : World} (h : RL w fs v G) (ho : Own w G) {i : Nat} (hi : i < fs.length) :
 ∃ b off cap vV vC FV FC, FrameIn w fs v G i hi b off cap vV vC FV FC := by
 obtain ⟨b, off, cap, cs, Fi, e1, r1, m1, hFi, hbF, hbn, hnd, E0, shut⟩ := h.open_elt ho.nodup hi
 obtain ⟨vV, FV, vC, FC, rfl, rfl, i0, i1, g0, g1⟩ := R_RunFrame.1 r1
 have y0 := m1 0 (by decide)
 have y1 := m1 1 (by decide)
 have y2 := m1 2 (by decide)
 have y3 := m1 3 (by decide)
 simp only [sz_RunFrame, Nat.add_zero, List.getElem?_cons_zero, List.getElem?_cons_succ] at y0 y1 y2 y3 E0 shut
 have O : Own w (FV ++ FC) := ⟨hnd, fun g hg => ho.free g (hFi g hg)⟩
 have bV : b ∉ FV := fun hb => hbn (List.mem_append_left _ hb)
 have bC : b ∉ FC := fun hb => hbn (List.mem_append_right _ hb)
 have sV : ∀ g ∈ FV, g ∈ G := fun g hg => hFi g (List.mem_append_left _ hg)
 have sC : ∀ g ∈ FC, g ∈ G := fun g hg => hFi g (List.mem_append_right _ hg)
 have ap := Own.apart O
 have hch : ∀ (w1 : World) (q : Int), Chg [b] w1 (w1.setCell ⟨b, off + i * 4 + 1, none⟩ (.int .i64 q)) := fun w1 q => (Chg.refl [b] w1).setCell (Or.inl (by simp)) _
 have nV : ∀ g ∈ FV, g ∉ [b] := fun g hg hgb => by simp at hgb; subst hgb; exact bV hg
 have nC : ∀ g ∈ FC, g ∉ [b] := fun g hg hgb => by simp at hgb; subst hgb; exact bC hg
 refine ⟨b, off, cap, vV, vC, FV, FC, ⟨e1, y0, y1, y2, y3, g0, g1, O.left, O.right, fun q => ho.frozen hbF, hbF, bV, bC, sV, sC, i1, i0, ?_, ?_, ?_⟩⟩
 · intro w1 q hc hq
   exact ⟨shut _ _ _ (R_RunFrame.2 ⟨vV, FV, vC, FC, rfl, rfl, i0, hq, (g0.chg0 hc).chg (hch w1 q) nV, (g1.chg0 hc).chg (hch w1 q) nC⟩) ((E0.call ho.lt hbF hbn hc (by simp)).store 1 (by simp) (.int .i64 q)), (ho.chg0 hc).setCell _ _⟩
 · intro w1 l q hl hO hc hq
   exact ⟨shut _ _ _ (R_RunFrame.2 ⟨vV, FV, vC, FC, rfl, rfl, i0, hq, hl.chg (hch w1 q) nV, (g1.chg hc (fun g hg hg' => ap g hg' hg)).chg (hch w1 q) nC⟩) ((E0.call ho.lt hbF hbn hc (fun g hg => List.mem_append_left _ hg)).store 1 (by simp) (.int .i64 q)), (ho.over hO hc).setCell _ _⟩
 · intro w1 l q hl hO hc hq
   exact ⟨shut _ _ _ (R_RunFrame.2 ⟨vV, FV, vC, FC, rfl, rfl, i0, hq, (g0.chg hc (fun g hg hg' => ap g hg hg')).chg (hch w1 q) nV, hl.chg (hch w1 q) nC⟩) ((E0.call ho.lt hbF hbn hc (fun g hg => List.mem_append_right _ hg)).store 1 (by simp) (.int .i64 q)), (ho.over hO hc).setCell _ _⟩
end Ow
namespace Ow
open Go Go.RowKit Go.Deep
open Rp (R sz)
theorem frame_in_ap {fs : List RunFrame} {v : Value} {G : List Nat} {w : World} (h : RL w fs v G) (ho : Own w G) {i : Nat} (hi : i < fs.length) :
 ∃ b off cap vV vC FV FC, FrameIn w fs v G i hi b off cap vV vC FV FC ∧ ∀ g ∈ FV, g ∉ FC := by
 obtain ⟨b, off, cap, cs, Fi, e1, r1, m1, hFi, hbF, hbn, hnd, E0, shut⟩ := h.open_elt ho.nodup hi
 obtain ⟨vV, FV, vC, FC, rfl, rfl, i0, i1, g0, g1⟩ := R_RunFrame.1 r1
 have y0 := m1 0 (by decide)
 have y1 := m1 1 (by decide)
 have y2 := m1 2 (by decide)
 have y3 := m1 3 (by decide)
 simp only [sz_RunFrame, Nat.add_zero, List.getElem?_cons_zero, List.getElem?_cons_succ] at y0 y1 y2 y3 E0 shut
 have O : Own w (FV ++ FC) := ⟨hnd, fun g hg => ho.free g (hFi g hg)⟩
 have bV : b ∉ FV := fun hb => hbn (List.mem_append_left _ hb)
 have bC : b ∉ FC := fun hb => hbn (List.mem_append_right _ hb)
 have sV : ∀ g ∈ FV, g ∈ G := fun g hg => hFi g (List.mem_append_left _ hg)
 have sC : ∀ g ∈ FC, g ∈ G := fun g hg => hFi g (List.mem_append_right _ hg)
 have ap := Own.apart O
 have hch : ∀ (w1 : World) (q : Int), Chg [b] w1 (w1.setCell ⟨b, off + i * 4 + 1, none⟩ (.int .i64 q)) := fun w1 q => (Chg.refl [b] w1).setCell (Or.inl (by simp)) _
 have nV : ∀ g ∈ FV, g ∉ [b] := fun g hg hgb => by simp at hgb; subst hgb; exact bV hg
 have nC : ∀ g ∈ FC, g ∉ [b] := fun g hg hgb => by simp at hgb; subst hgb; exact bC hg
 refine ⟨b, off, cap, vV, vC, FV, FC, ⟨e1, y0, y1, y2, y3, g0, g1, O.left, O.right, fun q => ho.frozen hbF, hbF, bV, bC, sV, sC, i1, i0, ?_, ?_, ?_⟩, ap⟩
 · intro w1 q hc hq
   exact ⟨shut _ _ _ (R_RunFrame.2 ⟨vV, FV, vC, FC, rfl, rfl, i0, hq, (g0.chg0 hc).chg (hch w1 q) nV, (g1.chg0 hc).chg (hch w1 q) nC⟩) ((E0.call ho.lt hbF hbn hc (by simp)).store 1 (by simp) (.int .i64 q)), (ho.chg0 hc).setCell _ _⟩
 · intro w1 l q hl hO hc hq
   exact ⟨shut _ _ _ (R_RunFrame.2 ⟨vV, FV, vC, FC, rfl, rfl, i0, hq, hl.chg (hch w1 q) nV, (g1.chg hc (fun g hg hg' => ap g hg' hg)).chg (hch w1 q) nC⟩) ((E0.call ho.lt hbF hbn hc (fun g hg => List.mem_append_left _ hg)).store 1 (by simp) (.int .i64 q)), (ho.over hO hc).setCell _ _⟩
 · intro w1 l q hl hO hc hq
   exact ⟨shut _ _ _ (R_RunFrame.2 ⟨vV, FV, vC, FC, rfl, rfl, i0, hq, (g0.chg hc (fun g hg hg' => ap g hg hg')).chg (hch w1 q) nV, hl.chg (hch w1 q) nC⟩) ((E0.call ho.lt hbF hbn hc (fun g hg => List.mem_append_right _ hg)).store 1 (by simp) (.int .i64 q)), (ho.over hO hc).setCell _ _⟩
end Ow
namespace Ow
open Go Go.RowKit Go.Deep
open Rp (R sz)
structure RunX (w : World) (X : Nat) (vP : Value) (x : RunRun) (v : Value) : Prop where
 c0 : w.cell? ⟨X, 0, none⟩ = some vP
 c1 : w.cell? ⟨X, 1, none⟩ = some (.int .i64 x.State)
 c2 : w.cell? ⟨X, 2, none⟩ = some v
 c3 : w.cell? ⟨X, 3, none⟩ = some (.int .i64 x.Out)
 c4 : w.cell? ⟨X, 4, none⟩ = some (.int .i64 x.Proc)
 c5 : w.cell? ⟨X, 5, none⟩ = some (.int .i64 x.Pc)
 fz : ∀ j, w.frozen? ⟨X, j, none⟩ = false
theorem RunX.lt {w : World} {X : Nat} {vP v : Value} {x : RunRun} (h : RunX w X vP x v) : X < w.heap.size := World.block_lt_of_cell? _ _ h.c0
theorem RunX.chg {w w' : World} {X : Nat} {vP v : Value} {x : RunRun} {G : List Nat} (h : RunX w X vP x v) (hc : Chg G w w') (hX : X ∉ G) : RunX w' X vP x v :=
 ⟨(hc.cell (p := ⟨X, 0, none⟩) h.lt hX).trans h.c0, (hc.cell (p := ⟨X, 1, none⟩) h.lt hX).trans h.c1, (hc.cell (p := ⟨X, 2, none⟩) h.lt hX).trans h.c2, (hc.cell (p := ⟨X, 3, none⟩) h.lt hX).trans h.c3, (hc.cell (p := ⟨X, 4, none⟩) h.lt hX).trans h.c4, (hc.cell (p := ⟨X, 5, none⟩) h.lt hX).trans h.c5,
   fun j => (show w'.frozen? ⟨X, j, none⟩ = w.frozen? ⟨X, j, none⟩ from World.frozen?_of_block (hc.block X h.lt hX)).trans (h.fz j)⟩
theorem RunX.chg0 {w w' : World} {X : Nat} {vP v : Value} {x : RunRun} (h : RunX w X vP x v) (hc : Chg [] w w') : RunX w' X vP x v := h.chg hc (by simp)
def StepOut (X : Nat) (vP : Value) (G : List Nat) (x : RunRun) (w : World) (e : Ending) (w' : World) : Prop :=
 e = .returned (.tuple #[]) ∧ ∃ v G', RunX w' X vP x v ∧ Chg (X :: G) w w' ∧ RL w' x.Frames v G' ∧ Own w' G' ∧ ∀ g ∈ G', g ∈ G ∨ w.heap.size ≤ g
def StepBad (T : TypeId) (X : Nat) (G : List Nat) (x : RunRun) (w : World) (e : Ending) (w' : World) : Prop :=
 e = .panicked [{ v := .iface T (runV x (.slice none 0 0)), recovered := false }] ∧ Chg (X :: G) w w'
end Ow
namespace Go.Proofs.YtjakhnhnjhafgaaGreat.Wk
open Go Go.RowKit Go.Deep Ow
open Rp (R sz)
theorem intInfo : (Tryz.prog.info? 3).map (fun i => (i.zero, i.size, i.bytes)) = some (some (.int .i64 0), 1, 8) := by kernel_rfl
set_option maxRecDepth 100000 in
set_option maxHeartbeats 1000000 in
theorem cloneInt_c (xs : List Int) (a : Value) (F : List Nat) (w : World) (ha : RL w xs a F) (h4 : xs.length = 4) :
 Calls Tryz.prog 128 #[a] w (Fresh xs w) := by
 obtain ⟨i0, hi, hz0, hz1, hz2⟩ := info_parts intInfo
 obtain ⟨b, o, c, cs, Fi, rfl, -, -, -⟩ := ha.elem (i := 0) (by omega)
 have hH := Lib.hid h4
 have heq : ∀ w, (binOp .eql 42 (.slice (some ⟨b, o, none⟩) 4 c) (.slice none 0 0)).run Tryz.prog w = .ok (.bool false) w := fun w => by kernel_rfl
 rw [h4] at ha ⊢
 clear h4
 go_enter Tryz.func128, Tryz.ntmps128
 go_wp2_with (at_builtin; refine wpList_append_RL rfl _ _ 42 rfl w.heap.size 3 i0 (.int .i64 0) 1 8 Tryz.underlying42 hi hz0 hz1 hz2 rfl (by decide) (.slice (some ⟨w.heap.size, 0, none⟩) 0 0) 0 [] rfl ?_ xs _ F rfl ?_ rfl ?_ ?_ ?_ ?_; exact ownsRow_empty w w.heap.size _ 1 (Nat.le_refl _); exact ha.chg0 ((Chg.refl [] w).alloc _); (have hh := hH.out; unfold maxLen; omega); (have hh := hH.out; omega); exact Nat.le_of_lt (by simp); intro v' w1 news C Fs hown hcs hg hnil)
 go_ret
 rw [List.nil_append, Nat.zero_add] at hown
 obtain ⟨G, g1, g2, g3⟩ := RL.of_cells (ys := xs) hown rfl ⟨hcs.len, hcs.at_, hcs.elem, fun i hi g hg => by have := (R_int.1 (hcs.elem i hi)).2.1; rw [this] at hg; exact hg, hcs.one⟩ rfl
 exact Fresh.mk_ (((Chg.refl [] w).alloc _).grown hg (by simp [Value.ownBlock])) g1 g2 g3
end Go.Proofs.YtjakhnhnjhafgaaGreat.Wk
namespace Go.Proofs.YtjakhnhnjhafgaaGreat.Wk
open Go Go.RowKit Go.Deep Ow
open Rp (R sz)
theorem frameInfo : (Tryz.prog.info? 58).map (fun i => (i.zero, i.size, i.bytes)) = some (some (.agg #[.int .i64 0, .int .i64 0, .slice none 0 0, .slice none 0 0]), 4, 64) := by kernel_rfl
theorem Below.cellB {n : Nat} {w w' : World} (h : Below n w w') {b o : Nat} (hb : b < n) : w'.cell? ⟨b, o, none⟩ = w.cell? ⟨b, o, none⟩ := World.cell?_of_block (h.block b hb)
theorem Below.frozenB {n : Nat} {w w' : World} (h : Below n w w') {b o : Nat} (hb : b < n) : w'.frozen? ⟨b, o, none⟩ = w.frozen? ⟨b, o, none⟩ := World.frozen?_of_block (a := ⟨b, o, none⟩) (h.block b hb)
theorem Chg.andBelow {n : Nat} {w w1 w2 : World} (h : Chg [] w w1) (k : Below n w1 w2) (hn : w.heap.size ≤ n) : Chg [] w w2 :=
 ⟨k.os.trans h.os, k.tape.trans h.tape, k.output.trans h.output, Nat.le_trans h.size k.size, fun b hb _ => (k.block b (by omega)).trans (h.block b hb (by simp))⟩
structure NewFrame (w : World) (f : RunFrame) (AV : Option Addr) (cV : Nat) (GV : List Nat) (AC : Option Addr) (cC : Nat) (GC : List Nat) (L : Nat) : Prop where
 rV : RL w f.Vars (.slice AV 4 cV) GV
 rC : RL w f.Cells (.slice AC 4 cC) GC
 own : Own w (GV ++ GC)
 new : ∀ g ∈ GV ++ GC, L ≤ g
 bP : I64 f.Proc
 bC : I64 f.Pc
abbrev frameCells (f : RunFrame) (AV : Option Addr) (cV : Nat) (AC : Option Addr) (cC : Nat) : List Value := [.int .i64 f.Proc, .int .i64 f.Pc, .slice AV 4 cV, .slice AC 4 cC]
theorem NewFrame.R_ {w : World} {f : RunFrame} {AV : Option Addr} {cV : Nat} {GV : List Nat} {AC : Option Addr} {cC : Nat} {GC : List Nat} {L : Nat} (h : NewFrame w f AV cV GV AC cC GC L) : R w f (frameCells f AV cV AC cC) (GV ++ GC) :=
 R_RunFrame.2 ⟨_, GV, _, GC, rfl, rfl, h.bP, h.bC, h.rV, h.rC⟩
theorem NewFrame.chg {w w' : World} {f : RunFrame} {AV : Option Addr} {cV : Nat} {GV : List Nat} {AC : Option Addr} {cC : Nat} {GC : List Nat} {L : Nat} (h : NewFrame w f AV cV GV AC cC GC L) (hc : Chg [] w w') : NewFrame w' f AV cV GV AC cC GC L :=
 ⟨h.rV.chg0 hc, h.rC.chg0 hc, h.own.chg0 hc, h.new, h.bP, h.bC⟩
theorem push_core {w0 w w' : World} {base e : Nat} {fs : List RunFrame} {v : Value} {f : RunFrame} {AV : Option Addr} {cV : Nat} {GV : List Nat} {AC : Option Addr} {cC : Nat} {GC : List Nat} {cells : List Value} {C : Nat → List Value} {Fs : Nat → List Nat} {g cap : Nat}
 (hG : GrowF base w0 e fs v cells C Fs) (hc : Chg [] w0 w) (hf : NewFrame w f AV cV GV AC cC GC w0.heap.size) (hb : base ≤ w0.heap.size)
 (hrow : w'.ownsRow base e 4 (.slice (some ⟨g, 0, none⟩) (fs.length + 1) cap) (fs.length + 1) (cells ++ frameCells f AV cV AC cC)) (hg : w.grownBy w' v.ownBlock) (hw : v.ownBlock = some g ∨ g = w.heap.size) :
 Grow base w' e (fs ++ [f]) (.slice (some ⟨g, 0, none⟩) (fs.length + 1) cap) ∧ Below base w w' := by
 have hG1 := hG.chg hc (by simp)
 have hin : ∀ b ∈ (List.range fs.length).flatMap Fs, b < w0.heap.size := fun b hb => hG.own.lt b hb
 have hvo : ∀ b, v.ownBlock = some b → base ≤ b ∧ b < w0.heap.size := ownsRow_lt hG.row
 refine ⟨hG1.push hf.R_ hf.own (fun b hb' => Nat.le_trans hb (hf.new b hb')) (fun b hb' hb2 => ?_) (fun b hb' hb2 => ?_) hrow hg ?_, ⟨hg.os, hg.tape, hg.output, hg.size, fun k hk => hg.block k ?_ (fun hh => ?_)⟩⟩
 · have h1 := hf.new b hb'
   have h2 := hin b hb2
   omega
 · have h1 := hf.new b hb2
   have h2 := hvo b hb'
   omega
 · rcases hw with h1 | h1
   · left; rw [h1]; rfl
   · right; rw [h1]; rfl
 · have := hc.size
   omega
 · have h1 := hvo k hh.symm
   omega
theorem step_push {ops : Array Oper} {o : Oper} {a : Act} {K : Act → World → Prop} {Q : Exit → Act → World → Prop} {E : Prop} (w : World) (hgd : o.guard = none) (s x : Operand)
 (ho : o.op = .call { callee := .builtin .append, args := #[s, x], argTypes := #[43, 43] })
 (w0 : World) (base : Nat) (fs : List RunFrame) (v : Value) (hG : Grow base w0 58 fs v) (hc : Chg [] w0 w) (hbase : base ≤ w0.heap.size) (hlen : fs.length < 1000) (n : Nat) (hn : fs.length = n) (hs : a.eval s = v)
 (BS c : Nat) (f : RunFrame) (AV : Option Addr) (cV : Nat) (GV : List Nat) (AC : Option Addr) (cC : Nat) (GC : List Nat) (hx : a.eval x = .slice (some ⟨BS, 0, none⟩) 1 c)
 (hB : ∀ j u, (frameCells f AV cV AC cC)[j]? = some u → w.cell? ⟨BS, j, none⟩ = some u) (hf : NewFrame w f AV cV GV AC cC GC w0.heap.size)
 (h : ∀ g cap w', Grow base w' 58 (fs ++ [f]) (.slice (some ⟨g, 0, none⟩) (n + 1) cap) → Below base w w' → K (a.put o.dst (.slice (some ⟨g, 0, none⟩) (n + 1) cap)) w') :
 if Region.wanted o (yielded ops a.tmps) = true then Oper.wp Tryz.prog o a w K Q else E := by
 subst hn
 obtain ⟨i0, hi, hz0, hz1, hz2⟩ := info_parts frameInfo
 obtain ⟨cells, C, Fs, hG⟩ := hG
 have hrow := (hG.chg hc (by simp)).row
 refine step_append_lies w hgd s x 43 ho base 58 i0 _ 4 64 Tryz.underlying43 hi hz0 hz1 hz2 rfl (by decide) v fs.length cells hs hrow ⟨BS, 0, none⟩ 1 c (frameCells f AV cV AC cC) hx rfl (fun j u hj => ?_) (fun u hu => ?_) (by omega) (by unfold maxLen; omega) (by omega) (Nat.le_trans hbase hc.size) w.heap.size rfl ?_
 · have hadd : (⟨BS, 0, none⟩ : Addr).add j = ⟨BS, j, none⟩ := by unfold Addr.add; split <;> simp_all
   rw [hadd]
   exact hB j u hj
 · exact Rp.one hf.R_ u hu
 · intro g cap w' h1 h2 h3 _
   have h4 := push_core hG hc hf hbase h1 h2 h3
   exact h g cap w' h4.1 h4.2
theorem wpList_push {ops : Array Oper} {rest : List Oper} {o : Oper} {a : Act} {Q : Exit → Act → World → Prop} (w : World) (hgd : o.guard = none) (s x : Operand)
 (ho : o.op = .call { callee := .builtin .append, args := #[s, x], argTypes := #[43, 43] })
 (w0 : World) (base : Nat) (fs : List RunFrame) (v : Value) (hG : Grow base w0 58 fs v) (hc : Chg [] w0 w) (hbase : base ≤ w0.heap.size) (hlen : fs.length < 1000) (n : Nat) (hn : fs.length = n) (hs : a.eval s = v)
 (BS c : Nat) (f : RunFrame) (AV : Option Addr) (cV : Nat) (GV : List Nat) (AC : Option Addr) (cC : Nat) (GC : List Nat) (hx : a.eval x = .slice (some ⟨BS, 0, none⟩) 1 c)
 (hB : ∀ j u, (frameCells f AV cV AC cC)[j]? = some u → w.cell? ⟨BS, j, none⟩ = some u) (hf : NewFrame w f AV cV GV AC cC GC w0.heap.size)
 (h : ∀ g cap w', Grow base w' 58 (fs ++ [f]) (.slice (some ⟨g, 0, none⟩) (n + 1) cap) → Below base w w' → wpList Tryz.prog ops Q rest (a.put o.dst (.slice (some ⟨g, 0, none⟩) (n + 1) cap)) w') :
 wpList Tryz.prog ops Q (o :: rest) a w := by
 subst hn
 obtain ⟨i0, hi, hz0, hz1, hz2⟩ := info_parts frameInfo
 obtain ⟨cells, C, Fs, hG⟩ := hG
 have hrow := (hG.chg hc (by simp)).row
 refine wpList_append_lies w hgd s x 43 ho base 58 i0 _ 4 64 Tryz.underlying43 hi hz0 hz1 hz2 rfl (by decide) v fs.length cells hs hrow ⟨BS, 0, none⟩ 1 c (frameCells f AV cV AC cC) hx rfl (fun j u hj => ?_) (fun u hu => ?_) (by omega) (by unfold maxLen; omega) (by omega) (Nat.le_trans hbase hc.size) w.heap.size rfl ?_
 · have hadd : (⟨BS, 0, none⟩ : Addr).add j = ⟨BS, j, none⟩ := by unfold Addr.add; split <;> simp_all
   rw [hadd]
   exact hB j u hj
 · exact Rp.one hf.R_ u hu
 · intro g cap w' h1 h2 h3 _
   have h4 := push_core hG hc hf hbase h1 h2 h3
   exact h g cap w' h4.1 h4.2
end Go.Proofs.YtjakhnhnjhafgaaGreat.Wk
namespace Go.Proofs.YtjakhnhnjhafgaaGreat.Wk
open Go Go.RowKit Go.Deep Ow
open Rp (R sz)
theorem taFail (a b c d : Int) (s : Value) (w : World) : (Instr.typeAssert (.iface 182 (.agg #[.int .i64 a, s, .int .i64 b, .int .i64 c, .int .i64 d])) 20 182 true).run Tryz.prog w = .ok (.tuple #[.agg #[.int .i64 a, s, .int .i64 b, .int .i64 c, .int .i64 d], .bool true]) w := by kernel_rfl
theorem catchIdle_c (p : Addr) (w : World) :
 CallsD Tryz.prog 129 #[.pointer (some p)] .returning w fun e u' w' => e = .returned (.tuple #[]) ∧ u' = .returning ∧ w' = w := by
 refine callsD_of_wpS Tryz.func129 rfl fun c₀ cs hu => ?_
 apply wpS_seq
 apply wpS_region
 simp [wpOpsS, go_sem, recoverD, hu, Tryz.ntmps129, Exit.thenS]
 apply wpS_seq
 apply wpS_region
 simp [wpOpsS, go_sem, Exit.thenS]
 refine wpS_cond (t := false) (by simp [Act.eval, Array.replicate]) ?_
 simp only [Bool.false_eq_true, if_false]
 refine wpS_of_wp (wp_skip ?_)
 cases c₀
 simp_all [bodyPostS, results, Tryz.results129]
set_option maxRecDepth 100000 in
set_option maxHeartbeats 2000000 in
theorem catchPan_c (x : RunRun) (B : Nat) (w : World) (k0 : w.cell? ⟨B, 0, none⟩ = some (.int .i64 0)) (k1 : w.cell? ⟨B, 1, none⟩ = some (.slice none 0 0)) (k2 : w.cell? ⟨B, 2, none⟩ = some (.int .i64 0)) (k3 : w.cell? ⟨B, 3, none⟩ = some (.int .i64 0)) (k4 : w.cell? ⟨B, 4, none⟩ = some (.int .i64 0)) (fz : ∀ j, w.frozen? ⟨B, j, none⟩ = false) (lB : B < w.heap.size) :
 CallsD Tryz.prog 129 #[.pointer (some ⟨B, 0, none⟩)] (.panicking ({ v := .iface 182 (runV x (.slice none 0 0)), recovered := false } :: [])) w fun e u' w' =>
  e = .returned (.tuple #[]) ∧ u' = .panicking ({ v := .iface 182 (runV x (.slice none 0 0)), recovered := true } :: []) ∧ Chg [B] w w' ∧ w'.cell? ⟨B, 0, none⟩ = some (.int .i64 x.State) ∧ w'.cell? ⟨B, 1, none⟩ = some (.slice none 0 0) ∧ w'.cell? ⟨B, 2, none⟩ = some (.int .i64 x.Out) ∧ w'.cell? ⟨B, 3, none⟩ = some (.int .i64 x.Proc) ∧ w'.cell? ⟨B, 4, none⟩ = some (.int .i64 x.Pc) := by
 have hta := taFail x.State x.Out x.Proc x.Pc (.slice none 0 0)
 refine callsD_of_wpS Tryz.func129 rfl fun c₀ cs hu => ?_
 apply wpS_seq
 apply wpS_region
 simp [wpOpsS, go_sem, recoverD, hu, Tryz.ntmps129, Exit.thenS]
 apply wpS_seq
 apply wpS_region
 simp [wpOpsS, go_sem, Exit.thenS]
 refine wpS_cond (t := true) (by simp [Act.eval, Array.replicate]) ?_
 simp only [if_true]
 refine wpS_of_wp ?_
 have f0 := fz 0
 have f1 := fz 1
 have f2 := fz 2
 have f3 := fz 3
 have f4 := fz 4
 refine (show (∀ Q : Exit → Act → World → Prop, (∀ (a : Act) (w' : World), a.defers = [] → (Chg [B] w w' ∧ w'.cell? ⟨B, 0, none⟩ = some (.int .i64 x.State) ∧ w'.cell? ⟨B, 1, none⟩ = some (.slice none 0 0) ∧ w'.cell? ⟨B, 2, none⟩ = some (.int .i64 x.Out) ∧ w'.cell? ⟨B, 3, none⟩ = some (.int .i64 x.Proc) ∧ w'.cell? ⟨B, 4, none⟩ = some (.int .i64 x.Pc)) → Q .normal a w') → Code.wp _ _ Q _ _) → _ from fun key => key _ ?_) ?_
 · intro a w' hd hW
   cases c₀
   simp_all [bodyPostS, results, Tryz.results129]
 · intro Q hQ
   have hQ' := Lib.hid hQ
   clear hQ hu fz
   have et : ∀ V : Value, (#[Value.pointer (some { block := B, off := 0 })] ++ (((((Array.replicate 16 undef).setIfInBounds 3 V).setIfInBounds 0 V).setIfInBounds 4 V).setIfInBounds 5 (Value.bool true))) = #[Value.pointer (some { block := B, off := 0 }), V, undef, undef, V, V, .bool true, undef, undef, undef, undef, undef, undef, undef, undef, undef, undef] := fun V => rfl
   rw [et]
   clear et
   go_wp2
   refine hQ'.out _ _ rfl ⟨?_, ?_⟩
   · repeat (with_reducible first | exact Chg.refl _ _ | refine Chg.setCell ?_ (Or.inl (by simp)) _ | refine Chg.r ?_ _ | refine Chg.alloc ?_ _)
   · simp [go_sem, k0, k1, k2, k3, k4, lB]
end Go.Proofs.YtjakhnhnjhafgaaGreat.Wk
