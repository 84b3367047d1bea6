/- Contracts: the program's reading of a line of bytes; what its forms are looked up as. -/
import Derived.Test.YtaiinlhobcclcaaDoorHexW
import Derived.Test.YtaiinlhobcclcaaDoorImplNW
import Derived.Test.YtaiinlhobcclcaaDoorLineF
namespace Go.Proofs.YtaiinlhobcclcaaDoor.Wk
set_option linter.unusedVariables false
set_option linter.unusedSimpArgs false
open Go Go.RowKit Go.Deep Ow
open Rp (R sz)

abbrev evV (x : Ev) (vb : Value) : Value := .agg #[.int .i64 x.kind, .int .i64 x.at_, .int .i64 x.pos, .int .i64 x.v, vb]
/-- what a reading of a line hands back -/
def RetEv (o : Option Ev) (w : World) (e : Ending) (w' : World) : Prop :=
  ∃ vb G, e = .returned (.tuple #[evV (o.getD ev0) vb, .bool o.isSome]) ∧ Chg [] w w' ∧ RL w' (o.getD ev0).bytes vb G ∧ Own w' G ∧ ∀ g ∈ G, w.heap.size ≤ g
theorem RetEv.none_ {w w' : World} (hc : Chg [] w w') : RetEv none w (.returned (.tuple #[evV ev0 (.slice none 0 0), .bool false])) w' :=
  ⟨_, [], rfl, hc, RL.nil_, Own.nil_ _, by simp⟩

/-- a line of bytes, by its words -/
def madeI (ws : List Bs) : Option Ev :=
  if ws.length ≠ 3 then none
  else match nat? (ws.getD 1 []), hexB (ws.getD 2 []) with
    | some n, some b => some ⟨7, n, 0, 0, b⟩
    | _, _ => none

set_option maxRecDepth 100000 in
set_option maxHeartbeats 1000000 in
theorem madeEvent_c (ws : List Bs) (v : Value) (F : List Nat) (w : World) (h : RL w (bws ws) v F) (hl : ∀ x ∈ ws, (x.length : Int) ≤ 1100000) (hL : Lay w) : Calls Tryd.prog 21 #[v] w (RetEv (madeI ws) w) := by
  have HL := Lib.hid hL
  have Hl := Lib.hid hl
  obtain ⟨A, ca, rfl, hla, hma⟩ := h.form
  rw [bws_length] at *
  clear hL hl
  by_cases h3 : ws.length = 3
  · obtain ⟨a, b, c, rfl⟩ : ∃ a b c, ws = [a, b, c] := by
      match ws, h3 with
      | [a, b, c], _ => exact ⟨a, b, c, rfl⟩
    obtain ⟨bk, off, cap, e1, m1, hb, -⟩ := word_cell h (i := 1) (by simp)
    obtain ⟨bk2, off2, cap2, e2, m2, hb2, -⟩ := word_cell h (i := 2) (by simp)
    injection e1 with e1 _ e1c
    injection e2 with e2 _ e2c
    subst e1
    injection e2 with e2
    injection e2 with e2 e3
    subst e2 e3
    have HM : Hid (madeI [a, b, c] = match nat? b, hexB c with | some n, some x => some ⟨7, n, 0, 0, x⟩ | _, _ => none) := Lib.hid rfl
    have hlb := Hl.out b (by simp)
    have hlc := Hl.out c (by simp)
    have hlen : ([a, b, c] : List Bs).length = 3 := rfl
    rw [hlen] at *
    change w.cell? ⟨bk, off + 1, none⟩ = some (str b) at m1
    change w.cell? ⟨bk, off + 2, none⟩ = some (str c) at m2
    have hb1 : bk < w.heap.size + 1 := by omega
    clear h hlen h3
    rcases hn : nat? b with _ | n
    · have HN := Lib.hid hn
      have E : Hid (madeI [a, b, c] = none) := Lib.hid (by rw [HM.out, hn])
      clear hn HM
      go_enter Tryd.func21, Tryd.ntmps21
      go_wp2_with fail
      refine (natural_c b hlb _ (HL.out.chg (by repeat (first | with_reducible exact Chg.refl _ _ | with_reducible refine Chg.alloc ?_ _)))).mono ?_
      rw [HN.out]
      rintro e w1 ⟨rfl, hc1⟩
      obtain ⟨hcl1, hfz1⟩ := hc1.cells
      have hza1 : w.heap.size < w1.heap.size := Nat.lt_of_lt_of_le (by simp) hc1.size
      have hbk1 : bk < w1.heap.size := Nat.lt_of_lt_of_le hb1 (by have := hc1.size; simpa using this)
      go_wp2_with fail
      refine (hexBytes_c c hlc _).mono ?_
      rintro e w2 ⟨vb, G, rfl, hc2, hr2, ho2, hg2⟩
      obtain ⟨hcl2, hfz2⟩ := hc2.cells
      have hza2 : w.heap.size < w2.heap.size := Nat.lt_of_lt_of_le hza1 hc2.size
      obtain ⟨Ab, cb, rfl, -, -⟩ := hr2.form
      go_wp2
      refine bodyPost_ret (v := .tuple #[evV ev0 (.slice none 0 0), .bool false]) (by simp [results, Tryd.results21, go_sem, ev0, hcl1, hcl2, hza1, hza2]) rfl ?_
      rw [E.out]
      exact RetEv.none_ (by repeat (first | with_reducible exact Chg.refl _ _ | with_reducible assumption | with_reducible refine Chg.setCell ?_ (Or.inr (by first | (simp; done) | (simp; omega))) _ | with_reducible refine Chg.trans0 ?_ hc2 | with_reducible refine Chg.trans0 ?_ hc1 | with_reducible refine Chg.alloc ?_ _))
    rcases hx : hexB c with _ | x
    · have HN := Lib.hid hn
      have HX := Lib.hid hx
      have E : Hid (madeI [a, b, c] = none) := Lib.hid (by rw [HM.out, hn, hx])
      clear hn HM hx
      go_enter Tryd.func21, Tryd.ntmps21
      go_wp2_with fail
      refine (natural_c b hlb _ (HL.out.chg (by repeat (first | with_reducible exact Chg.refl _ _ | with_reducible refine Chg.alloc ?_ _)))).mono ?_
      rw [HN.out]
      rintro e w1 ⟨rfl, hc1⟩
      obtain ⟨hcl1, hfz1⟩ := hc1.cells
      have hza1 : w.heap.size < w1.heap.size := Nat.lt_of_lt_of_le (by simp) hc1.size
      have hbk1 : bk < w1.heap.size := Nat.lt_of_lt_of_le hb1 (by have := hc1.size; simpa using this)
      go_wp2_with fail
      refine (hexBytes_c c hlc _).mono ?_
      rintro e w2 ⟨vb, G, rfl, hc2, hr2, ho2, hg2⟩
      obtain ⟨hcl2, hfz2⟩ := hc2.cells
      have hza2 : w.heap.size < w2.heap.size := Nat.lt_of_lt_of_le hza1 hc2.size
      obtain ⟨Ab, cb, rfl, -, -⟩ := hr2.form
      rw [HX.out]
      go_wp2
      refine bodyPost_ret (v := .tuple #[evV ev0 (.slice none 0 0), .bool false]) (by simp [results, Tryd.results21, go_sem, ev0, hcl1, hcl2, hza1, hza2]) rfl ?_
      rw [E.out]
      exact RetEv.none_ (by repeat (first | with_reducible exact Chg.refl _ _ | with_reducible assumption | with_reducible refine Chg.setCell ?_ (Or.inr (by first | (simp; done) | (simp; omega))) _ | with_reducible refine Chg.trans0 ?_ hc2 | with_reducible refine Chg.trans0 ?_ hc1 | with_reducible refine Chg.alloc ?_ _))
    · have HN := Lib.hid hn
      have HX := Lib.hid hx
      have E : Hid (madeI [a, b, c] = some ⟨7, n, 0, 0, x⟩) := Lib.hid (by rw [HM.out, hn, hx])
      have HNR := Lib.hid (nat?_some.1 hn).1
      clear hn HM hx
      go_enter Tryd.func21, Tryd.ntmps21
      go_wp2_with fail
      refine (natural_c b hlb _ (HL.out.chg (by repeat (first | with_reducible exact Chg.refl _ _ | with_reducible refine Chg.alloc ?_ _)))).mono ?_
      rw [HN.out]
      rintro e w1 ⟨rfl, hc1⟩
      obtain ⟨hcl1, hfz1⟩ := hc1.cells
      have hza1 : w.heap.size < w1.heap.size := Nat.lt_of_lt_of_le (by simp) hc1.size
      have hbk1 : bk < w1.heap.size := Nat.lt_of_lt_of_le hb1 (by have := hc1.size; simpa using this)
      go_wp2_with fail
      refine (hexBytes_c c hlc _).mono ?_
      rintro e w2 ⟨vb, G, rfl, hc2, hr2, ho2, hg2⟩
      obtain ⟨hcl2, hfz2⟩ := hc2.cells
      have hza2 : w.heap.size < w2.heap.size := Nat.lt_of_lt_of_le hza1 hc2.size
      obtain ⟨Ab, cb, rfl, -, -⟩ := hr2.form
      rw [HX.out]
      rw [HX.out] at hr2
      rw [HNR.out]
      go_wp2
      refine bodyPost_ret (v := .tuple #[evV ⟨7, n, 0, 0, x⟩ (.slice Ab x.length cb), .bool true]) (by simp [results, Tryd.results21, go_sem, ev0, hcl1, hcl2, hza1, hza2]) rfl ?_
      rw [E.out]
      have hgw : ∀ g ∈ G, w.heap.size < g := fun g hg => Nat.lt_of_lt_of_le hza1 (hg2 g hg)
      refine ⟨_, G, rfl, by repeat (first | with_reducible exact Chg.refl _ _ | with_reducible assumption | with_reducible refine Chg.setCell ?_ (Or.inr (by first | (simp; done) | (simp; omega))) _ | with_reducible refine Chg.trans0 ?_ hc2 | with_reducible refine Chg.trans0 ?_ hc1 | with_reducible refine Chg.alloc ?_ _), ?_, ?_, fun g hg => Nat.le_of_lt (hgw g hg)⟩
      · exact RL.chg (G := [w.heap.size]) hr2 (by repeat (first | with_reducible exact Chg.refl _ _ | with_reducible refine Chg.setCell ?_ (Or.inl (by first | (simp; done) | (simp; omega))) _)) (fun g h1 h2 => by have := hgw g h1; simp at h2; omega)
      · exact Own.chg (G := [w.heap.size]) ho2 (by repeat (first | with_reducible exact Chg.refl _ _ | with_reducible refine Chg.setCell ?_ (Or.inl (by first | (simp; done) | (simp; omega))) _)) (fun g h1 h2 => by have := hgw g h1; simp at h2; omega)
  · have hb : (((ws.length : Nat) : Int) != 3) = true := by simp; omega
    have E : Hid (madeI ws = none) := Lib.hid (if_pos h3)
    clear h h3
    go_enter Tryd.func21, Tryd.ntmps21
    go_wp2
    refine bodyPost_ret (v := .tuple #[evV ev0 (.slice none 0 0), .bool false]) (by simp [results, Tryd.results21, go_sem, ev0]) rfl ?_
    rw [E.out]
    exact RetEv.none_ (by repeat (first | with_reducible exact Chg.refl _ _ | with_reducible assumption | with_reducible refine Chg.setCell ?_ (Or.inr (by first | (simp; done) | (simp; omega))) _ | with_reducible refine Chg.trans0 ?_ hc2 | with_reducible refine Chg.trans0 ?_ hc1 | with_reducible refine Chg.alloc ?_ _))
end Go.Proofs.YtaiinlhobcclcaaDoor.Wk
