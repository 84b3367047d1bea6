/- The law FnExactDskEvent returns true. -/
import Derived.Test.YtaiinlhobcclcaaDoorImplDsk
import Derived.Test.YtaiinlhobcclcaaDoorSpecDsk
import Derived.Test.YtaiinlhobcclcaaDoorLawB
namespace Go.Proofs.YtaiinlhobcclcaaDoor.Wk
open Go Go.RowKit Go.Deep Ow
open Rp (R sz)
open Mk (mark cnt)

theorem cntB (xs : List UInt8) : cntL xs = xs.length := by
  induction xs with
  | nil => rfl
  | cons a r ih => simp only [cntL, List.length_cons, ih]; show 1 + r.length = r.length + 1; omega
set_option maxRecDepth 100000 in
set_option maxHeartbeats 1000000 in
theorem eqEvEvent_c (x : Ev) (va vb : Value) (F G : List Nat) (w : World) (ha : RL w x.bytes va F) (hb : RL w x.bytes vb G) :
    Calls Tryd.prog 7 #[evV x va, evV x vb] w fun e w' => e = .returned (.bool true) ∧ Chg [] w w' := by
  obtain ⟨A, ca, rfl, -, -⟩ := ha.form
  obtain ⟨B, cb, rfl, -, -⟩ := hb.form
  have HA := Lib.hid ha
  have HB := Lib.hid hb
  obtain ⟨xk, xa, xp, xv, xb⟩ := x
  clear ha hb
  have t0 : (xk != xk) = false := by simp
  have t1 : (xa != xa) = false := by simp
  have t2 : (xp != xp) = false := by simp
  have t3 : (xv != xv) = false := by simp
  go_enter Tryd.func7, Tryd.ntmps7
  go_wp2_with (go_at_call 24; refine (eqByteS_c xb _ _ F G _ (HA.out.chg0 (by repeat (first | with_reducible exact Chg.refl _ _ | with_reducible refine Chg.alloc ?_ _))) (HB.out.chg0 (by repeat (first | with_reducible exact Chg.refl _ _ | with_reducible refine Chg.alloc ?_ _)))).mono ?_; rintro e w1 ⟨rfl, hc1⟩)
  go_ret
  exact ⟨rfl, by repeat (first | with_reducible exact Chg.refl _ _ | with_reducible refine Chg.trans0 ?_ hc1 | with_reducible refine Chg.alloc ?_ _)⟩

set_option maxRecDepth 100000 in
set_option maxHeartbeats 1000000 in
theorem markEvEvent_c (x : Ev) (va : Value) (F : List Nat) (w : World) (ha : RL w x.bytes va F) (ho : Own w F) (hl : (1 : Int) + cntL x.bytes ≤ 4611686018427387904) :
    Calls Tryd.prog 8 #[evV x va, .int .i64 1] w fun e w' => e = .returned (.int .i64 (1 + cntL x.bytes)) ∧ Chg F w w' ∧ RL w' (mkL x.bytes 1) va F ∧ Own w' F := by
  obtain ⟨A, ca, rfl, -, -⟩ := ha.form
  have HA := Lib.hid ha
  have HO := Lib.hid ho
  have HL := Lib.hid hl
  obtain ⟨xk, xa, xp, xv, xb⟩ := x
  clear ha ho hl
  go_enter Tryd.func8, Tryd.ntmps8
  go_wp2_with fail
  refine (markByteS_c xb 1 _ F _ (HA.out.chg0 (by repeat (first | with_reducible exact Chg.refl _ _ | with_reducible refine Chg.alloc ?_ _))) (HO.out.chg0 (by repeat (first | with_reducible exact Chg.refl _ _ | with_reducible refine Chg.alloc ?_ _))) (by decide) HL.out).mono ?_
  rintro e w1 ⟨rfl, hc1, hr1, ho1⟩
  have HR := Lib.hid hr1
  have HO1 := Lib.hid ho1
  have HC := Lib.hid hc1
  clear hr1 ho1 hc1
  go_wp2
  go_ret
  exact ⟨rfl, ((Chg.refl F w).alloc _).trans HC.out (fun g hg => Or.inl hg), HR.out, HO1.out⟩

set_option maxRecDepth 100000 in
set_option maxHeartbeats 1000000 in
theorem heldEvEvent_c (x : Ev) (va : Value) (F : List Nat) (w : World) (ha : RL w (mkL x.bytes 1) va F) (hl : (1 : Int) + cntL x.bytes ≤ 4611686018427387904) :
    Calls Tryd.prog 9 #[evV x va, .int .i64 1] w fun e w' => e = .returned (.int .i64 (1 + cntL x.bytes)) ∧ Chg [] w w' := by
  obtain ⟨A, ca, rfl, -, -⟩ := ha.form
  rw [mkL_length] at *
  have HA := Lib.hid ha
  have HL := Lib.hid hl
  obtain ⟨xk, xa, xp, xv, xb⟩ := x
  clear ha hl
  obtain ⟨q, hq⟩ : ∃ q : Int, q = (1 : Int) + (cntL xb : Int) := ⟨_, rfl⟩
  have hnn : (decide (q < 0)) = false := by rw [hq]; simp; omega
  have HQ := Lib.hid hq
  show Calls _ _ _ _ (fun e w' => e = .returned (.int .i64 ((1 : Int) + (cntL xb : Int))) ∧ Chg [] w w')
  rw [← hq]
  clear hq
  go_enter Tryd.func9, Tryd.ntmps9
  go_wp2_with (go_at_call 26; refine (heldByteS_c xb 1 _ F _ (HA.out.chg0 (by repeat (first | with_reducible exact Chg.refl _ _ | with_reducible refine Chg.alloc ?_ _))) (by decide) HL.out).mono ?_; rw [← HQ.out]; rintro e w1 ⟨rfl, hc1⟩)
  go_ret
  exact ⟨rfl, by repeat (first | with_reducible exact Chg.refl _ _ | with_reducible refine Chg.trans0 ?_ hc1 | with_reducible refine Chg.alloc ?_ _)⟩

/-- a box that holds what happens -/
structure EvBox (W : World) (b : Nat) (x : Ev) (vb : Value) : Prop where
  c0 : W.cell? ⟨b, 0, none⟩ = some (.int .i64 x.kind)
  c1 : W.cell? ⟨b, 1, none⟩ = some (.int .i64 x.at_)
  c2 : W.cell? ⟨b, 2, none⟩ = some (.int .i64 x.pos)
  c3 : W.cell? ⟨b, 3, none⟩ = some (.int .i64 x.v)
  c4 : W.cell? ⟨b, 4, none⟩ = some vb
theorem EvBox.new_ (W : World) (x : Ev) (vb : Value) (e : TypeId) : EvBox (W.alloc (.cells #[.int .i64 x.kind, .int .i64 x.at_, .int .i64 x.pos, .int .i64 x.v, vb] e)) W.heap.size x vb :=
  ⟨by simp, by simp, by simp, by simp, by simp⟩
theorem EvBox.lt {W : World} {b : Nat} {x : Ev} {vb : Value} (h : EvBox W b x vb) : b < W.heap.size := World.block_lt_of_cell? _ _ h.c0
theorem EvBox.chg {W W' : World} {b : Nat} {x : Ev} {vb : Value} {F : List Nat} (h : EvBox W b x vb) (hc : Chg F W W') (hb : b ∉ F) : EvBox W' b x vb :=
  ⟨(hc.cell (p := ⟨b, 0, none⟩) h.lt hb).trans h.c0, (hc.cell (p := ⟨b, 1, none⟩) h.lt hb).trans h.c1, (hc.cell (p := ⟨b, 2, none⟩) h.lt hb).trans h.c2, (hc.cell (p := ⟨b, 3, none⟩) h.lt hb).trans h.c3, (hc.cell (p := ⟨b, 4, none⟩) h.lt hb).trans h.c4⟩
theorem EvBox.on {W W' : World} {b : Nat} {x : Ev} {vb : Value} (h : EvBox W b x vb) (hc : Chg [] W W') : EvBox W' b x vb := h.chg hc (by simp)

theorem pairs_le : ∀ ds : List Int, (pairs ds).length ≤ ds.length
  | [] => Nat.le_refl _
  | [_] => Nat.zero_le _
  | a :: b :: r => by
    have := pairs_le r
    simp only [pairs, List.length_cons]
    omega
theorem hexB_le {w b : Bs} (h : hexB w = some b) : b.length ≤ 4008 := by
  unfold hexB at h
  split at h
  · rename_i h1
    injection h with h
    subst h
    have h2 := pairs_le (digs w)
    have h3 : (digs w).length = w.length := by simp [digs]
    omega
  · cases h
theorem dskI_bytes {l : Bs} {e : Ev} (h : dskI l = some e) : e.bytes.length ≤ 4008 := by
  unfold dskI at h
  simp only at h
  split at h
  · split at h
    · cases h
    · split at h
      · rename_i n b hn hb
        cases h
        exact hexB_le hb
      · cases h
  · split at h
    · cases h
    · split at h
      · cases h
      · cases h
        simp
theorem dskI_cnt (l : Bs) : (1 : Int) + cntL ((dskI l).getD ev0).bytes ≤ 4611686018427387904 := by
  rw [cntB]
  rcases h : dskI l with _ | e
  · simp [ev0]
  · have := dskI_bytes h
    simp only [Option.getD_some]
    omega

/-- what both readings hand back -/
def RetX (x : Ev) (ok : Bool) (w : World) (e : Ending) (w' : World) : Prop :=
  ∃ A k G, e = .returned (.tuple #[evV x (.slice A x.bytes.length k), .bool ok]) ∧ Chg [] w w' ∧ RL w' x.bytes (.slice A x.bytes.length k) G ∧ Own w' G ∧ ∀ g ∈ G, w.heap.size ≤ g
theorem RetEv.x {o : Option Ev} {w w' : World} {e : Ending} {x : Ev} {ok : Bool} (hx : x = o.getD ev0) (hk : ok = o.isSome) (h : RetEv o w e w') : RetX x ok w e w' := by
  obtain ⟨vb, G, rfl, hc, hr, ho, hg⟩ := h
  obtain ⟨A, k, rfl, -, -⟩ := hr.form
  subst hx hk
  exact ⟨A, k, G, rfl, hc, hr, ho, hg⟩

set_option maxRecDepth 100000 in
set_option maxHeartbeats 1000000 in
theorem walkDsk (l : Bs) (w : World) (hL : Lay w) : Calls Tryd.prog 3 #[str l] w fun e w' => e = .returned (.bool true) ∧ Chg [] w w' := by
  have hs : (ByteArray.mk l.toArray).size = l.length := by simp [ByteArray.size]
  have HL := Lib.hid hL
  clear hL
  by_cases hn : 1048576 < l.length
  · go_enter Tryd.func3, Tryd.ntmps3
    go_wp2
    go_ret
    exact ⟨rfl, Chg.refl _ _⟩
  · have hl : (l.length : Int) ≤ 1100000 := by omega
    have hcn := Lib.hid (dskI_cnt l)
    obtain ⟨x, hx⟩ : ∃ x, x = (dskI l).getD ev0 := ⟨_, rfl⟩
    obtain ⟨ok, hk⟩ : ∃ ok, ok = (dskI l).isSome := ⟨_, rfl⟩
    rw [← hx] at hcn
    have S : ∀ W, Calls Tryd.prog 5 #[str l] W (RetX x ok W) := fun W => (specDsk_c l hl W).mono fun e w' h => by
      rw [dsk_eq] at h
      exact RetEv.x hx hk h
    have I : ∀ W, Lay W → Calls Tryd.prog 6 #[str l] W (RetX x ok W) := fun W hW => (implDsk_c l hl W hW).mono fun e w' h => RetEv.x hx hk h
    obtain ⟨q, hq⟩ : ∃ q : Int, q = (1 : Int) + (cntL x.bytes : Int) := ⟨_, rfl⟩
    have hnn : (decide (q < 0)) = false := by rw [hq]; simp; omega
    have hqq : (q != q) = false := by simp
    have HQ := Lib.hid hq
    clear hq
    have SS := Lib.hid S
    have II := Lib.hid I
    clear S I hx hk
    have hne : (ok != ok) = false := by simp
    go_enter Tryd.func3, Tryd.ntmps3
    go_wp2_with fail
    refine (SS.out _).mono ?_
    rintro e w1 ⟨A1, k1, G1, rfl, hc1, hr1, ho1, hg1⟩
    have HG1 := Lib.hid hg1
    have HR1 := Lib.hid hr1
    have HC1 := Lib.hid hc1
    clear hr1 hc1 ho1 hg1
    go_wp2_with fail
    refine (II.out _ (HL.out.chg (HC1.out.alloc _))).mono ?_
    rintro e w2 ⟨A2, k2, G2, rfl, hc2, hr2, ho2, hg2⟩
    obtain ⟨p0, p1, p2, p3, p4⟩ := (EvBox.new_ w1 x _ _).on hc2
    have HR2 := Lib.hid hr2
    have HC2 := Lib.hid hc2
    have HO2 := Lib.hid ho2
    have HG2 := Lib.hid hg2
    have hz12 : w1.heap.size < w2.heap.size := Nat.lt_of_lt_of_le (by simp) hc2.size
    clear hr2 hc2 ho2 hg2
    go_wp2_with fail
    refine (eqEvEvent_c x _ _ G2 G1 _ (HR2.out.chg0 ((Chg.refl [] w2).alloc _)) (HR1.out.chg0 ((((Chg.refl [] w1).alloc _).trans0 HC2.out).alloc _))).mono ?_
    rintro e w3 ⟨rfl, hc3⟩
    obtain ⟨q0, q1, q2, q3, q4⟩ := (((⟨p0, p1, p2, p3, p4⟩ : EvBox w2 w1.heap.size x _).on ((Chg.refl [] w2).alloc _)).on hc3)
    obtain ⟨r0, r1, r2, r3, r4⟩ := (EvBox.new_ w2 x (.slice A2 x.bytes.length k2) 24).on hc3
    clear p0 p1 p2 p3 p4
    have HC3 := Lib.hid (((Chg.refl [] w2).alloc _).trans0 hc3)
    have hz3 : w2.heap.size < w3.heap.size := Nat.lt_of_lt_of_le (by simp) hc3.size
    clear hc3
    go_wp2_with fail
    refine (markEvEvent_c x _ G2 _ (HR2.out.chg0 HC3.out) (HO2.out.chg0 HC3.out) hcn.out).mono ?_
    rw [← HQ.out]
    rintro e w4 ⟨rfl, hc4, hr4, ho4⟩
    have HLT2 : Hid (∀ g ∈ G2, g < w2.heap.size) := Lib.hid HR2.out.lt
    have HN0 : Hid (w1.heap.size ∉ G2) := Lib.hid (fun h => by have := HG2.out _ h; simp at this; omega)
    have HN1 : Hid (w2.heap.size ∉ G2) := Lib.hid (fun h => by have := HLT2.out _ h; omega)
    have HD : Hid (∀ g ∈ G1, g ∉ G2) := Lib.hid (fun g h1 h2 => by have a1 := HR1.out.lt g h1; have a2 := HG2.out g h2; simp at a2; omega)
    obtain ⟨p0, p1, p2, p3, p4⟩ := (⟨q0, q1, q2, q3, q4⟩ : EvBox w3 w1.heap.size x _).chg hc4 HN0.out
    obtain ⟨s0, s1, s2, s3, s4⟩ := (⟨r0, r1, r2, r3, r4⟩ : EvBox w3 w2.heap.size x _).chg hc4 HN1.out
    clear q0 q1 q2 q3 q4 r0 r1 r2 r3 r4
    have hz4 : w2.heap.size < w4.heap.size := Nat.lt_of_lt_of_le hz3 hc4.size
    have HC4 := Lib.hid hc4
    have HR4 := Lib.hid hr4
    have HRA : Hid (RL w4 x.bytes (.slice A1 x.bytes.length k1) G1) := Lib.hid ((HR1.out.chg0 ((((Chg.refl [] w1).alloc _).trans0 HC2.out).trans0 HC3.out)).chg hc4 HD.out)
    clear hc4 hr4 ho4
    go_wp2_with fail
    refine (heldEvEvent_c x _ G2 _ HR4.out hcn.out).mono ?_
    rw [← HQ.out]
    rintro e w5 ⟨rfl, hc5⟩
    obtain ⟨q0, q1, q2, q3, q4⟩ := (⟨p0, p1, p2, p3, p4⟩ : EvBox w4 w1.heap.size x _).on hc5
    obtain ⟨r0, r1, r2, r3, r4⟩ := (⟨s0, s1, s2, s3, s4⟩ : EvBox w4 w2.heap.size x _).on hc5
    clear p0 p1 p2 p3 p4 s0 s1 s2 s3 s4
    have hz5 : w2.heap.size < w5.heap.size := Nat.lt_of_lt_of_le hz4 hc5.size
    have HC5 := Lib.hid hc5
    have HCA : Hid (Chg [] w w5) := Lib.hid (by
      have h3 : Chg [] w w3 := (((HC1.out.alloc _).trans0 HC2.out).trans0 HC3.out)
      have h4 : Chg [] w w4 := h3.trans HC4.out (fun g hg => Or.inr (by have := HG2.out g hg; have := HC1.out.size; simp at *; omega))
      exact h4.trans0 HC5.out)
    clear hc5
    go_wp2_with fail
    refine (II.out _ (HL.out.chg HCA.out)).mono ?_
    rintro e w6 ⟨A6, k6, G6, rfl, hc6, hr6, ho6, hg6⟩
    obtain ⟨p0, p1, p2, p3, p4⟩ := (⟨q0, q1, q2, q3, q4⟩ : EvBox w5 w1.heap.size x _).on hc6
    obtain ⟨s0, s1, s2, s3, s4⟩ := (⟨r0, r1, r2, r3, r4⟩ : EvBox w5 w2.heap.size x _).on hc6
    clear q0 q1 q2 q3 q4 r0 r1 r2 r3 r4
    have hz6 : w2.heap.size < w6.heap.size := Nat.lt_of_lt_of_le hz5 hc6.size
    have hz16 : w1.heap.size < w6.heap.size := Nat.lt_trans hz12 hz6
    have HC6 := Lib.hid hc6
    have HR6 := Lib.hid hr6
    clear hc6 hr6 ho6 hg6
    go_wp2_with fail
    refine (eqEvEvent_c x _ _ G6 G1 _ (HR6.out.chg0 ((Chg.refl [] w6).alloc _)) (HRA.out.chg0 ((HC5.out.trans0 HC6.out).alloc _))).mono ?_
    rintro e w7 ⟨rfl, hc7⟩
    obtain ⟨r0, r1, r2, r3, r4⟩ := ((⟨s0, s1, s2, s3, s4⟩ : EvBox w6 w2.heap.size x _).on ((Chg.refl [] w6).alloc _)).on hc7
    clear p0 p1 p2 p3 p4 s0 s1 s2 s3 s4
    have HC7 := Lib.hid (((Chg.refl [] w6).alloc _).trans0 hc7)
    clear hc7
    go_wp2_with fail
    refine (heldEvEvent_c x _ G2 _ (HR4.out.chg0 ((HC5.out.trans0 HC6.out).trans0 HC7.out)) hcn.out).mono ?_
    rw [← HQ.out]
    rintro e w8 ⟨rfl, hc8⟩
    have HC8 := Lib.hid hc8
    clear hc8
    go_wp2
    go_ret
    exact ⟨rfl, ((HCA.out.trans0 HC6.out).trans0 HC7.out).trans0 HC8.out⟩
#print axioms walkDsk
end Go.Proofs.YtaiinlhobcclcaaDoor.Wk
