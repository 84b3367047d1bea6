/- The law FnDskEvent returns true. -/
import Derived.Test.YtaiinlhobcclcaaDoorDskLaw
import Derived.Test.YtaiinlhobcclcaaDoorDrawW4
namespace Go.Proofs.YtaiinlhobcclcaaDoor.Wk
set_option linter.unusedVariables false
set_option linter.unusedSimpArgs false
open Go Go.RowKit Go.Deep Ow
open Rp (R sz)
open Mk (mark cnt)

set_option maxRecDepth 100000 in
set_option maxHeartbeats 1000000 in
theorem owBytes_c (xs : List UInt8) (a b : Value) (F G : List Nat) (w : World) (ha : RL w xs a F) (hb : RL w xs b G) :
    Calls Tryd.prog 11 #[a, b] w fun e w' => e = .returned (.bool true) ∧ Chg [] w w' := by
  obtain ⟨A, ca, rfl, hla, hma⟩ := ha.form
  obtain ⟨B, cb, rfl, hlb, hmb⟩ := hb.form
  have hn : xs.length ≤ maxLen := by omega
  unfold maxLen at hn
  have h0 : (((xs.length : Nat) : Int) != ((xs.length : Nat) : Int)) = false := by simp
  go_enter Tryd.func11, Tryd.ntmps11
  go_wp2
  go_loopw [5] (fun i wr => ∃ k : Nat, k ≤ xs.length ∧ i = .int .i64 k ∧ Chg [] w wr) (fun i _ => xs.length - (intOf i).toNat)
  case atStart => exact ⟨0, Nat.zero_le _, rfl, Chg.refl _ _⟩
  case round =>
    obtain ⟨k, hk, rfl, hc⟩ := hrel
    by_cases hlt : k < xs.length
    · obtain ⟨b1, o1, rfl, -, m1⟩ := RL.at8 (ha.chg0 hc) (by omega)
      obtain ⟨b2, o2, rfl, -, m2⟩ := RL.at8 (hb.chg0 hc) (by omega)
      have ya0 := m1 k hlt
      have yb0 := m2 k hlt
      clear m1 m2 ha hb
      generalize xs.getD k 0 = x at *
      have t0 : (((x.toNat : Nat) : Int) != ((x.toNat : Nat) : Int)) = false := by simp
      have t1 : (x != x) = false := by simp
      go_wp2_with fail
      go_quiet (fail)
      go_wp2
      go_roundw
      case rel => exact ⟨k + 1, by omega, by go_num, hc.drewN _⟩
      case measure => simp [intOf]; omega
    · clear ha hb
      go_wp2
      go_ret
      exact ⟨rfl, hc⟩

theorem owOk_c (w : World) : Calls Tryd.prog 12 #[] w fun e w' => e = .returned (.bool true) ∧ Chg [] w w' := by
  have hd : (decide ((-32768 : Int) ≤ 1 ∧ (1 : Int) ≤ 32767)) = true := by decide
  go_enter Tryd.func12, Tryd.ntmps12
  go_wp2_with fail
  refine (implNumOk_c 1 _).mono ?_
  rw [hd]
  rintro e w1 ⟨rfl, hc1⟩
  go_wp2
  go_ret
  exact ⟨rfl, hc1⟩

set_option maxRecDepth 100000 in
set_option maxHeartbeats 1000000 in
theorem walkFnDsk (xs : Bs) (va : Value) (F : List Nat) (w : World) (hL : Lay w) (hva : RL w xs va F) : Calls Tryd.prog 4 #[va] w fun e w' => e = .returned (.bool true) ∧ Chg [] w w' := by
  obtain ⟨A, ca, rfl, -, -⟩ := hva.form
  have HL := Lib.hid hL
  have HV := Lib.hid hva
  clear hL hva
  by_cases hn : (1048576 : Int) < (xs.length : Int)
  · go_enter Tryd.func4, Tryd.ntmps4
    go_wp2
    go_ret
    exact ⟨rfl, Chg.refl _ _⟩
  go_enter Tryd.func4, Tryd.ntmps4
  go_wp2_with fail
  refine (drawDsk_c xs _ F _ HV.out).mono ?_
  rintro e w1 ⟨l, rfl, hll, hc1⟩
  have HC1 := Lib.hid hc1
  clear hc1
  obtain ⟨x, hx⟩ : ∃ x, x = (dskI l).getD ev0 := ⟨_, rfl⟩
  obtain ⟨ok, hk⟩ : ∃ ok, ok = (dskI l).isSome := ⟨_, rfl⟩
  have S : ∀ W, Calls Tryd.prog 5 #[str l] W (RetX x ok W) := fun W => (specDsk_c l (by omega) W).mono fun e w' h => by
    rw [dsk_eq] at h
    exact RetEv.x hx hk h
  have I : ∀ W, Lay W → Calls Tryd.prog 6 #[str l] W (RetX x ok W) := fun W hW => (implDsk_c l (by omega) W hW).mono fun e w' h => RetEv.x hx hk h
  obtain ⟨m, hm⟩ : ∃ m, l ++ [32, 49, 32, 49, 32, 49, 32, 49] = m := ⟨_, rfl⟩
  have hml : (m.length : Int) ≤ 1100000 := by rw [← hm]; simp; omega
  have hadd := add_str l [32, 49, 32, 49, 32, 49, 32, 49] (by simp only [List.length_cons, List.length_nil]; omega)
  have hmore := dskI_more l
  rw [hm] at hadd hmore
  have J : ∀ W, Lay W → Calls Tryd.prog 6 #[str m] W (RetX ev0 false W) := fun W hW => (implDsk_c m hml W hW).mono fun e w' h => RetEv.x (by rw [hmore]; rfl) (by rw [hmore]; rfl) h
  have hks : (ok = true ∧ 1 ≤ x.kind ∧ x.kind ≤ 13 ∧ 0 ≤ x.at_ ∧ 0 ≤ x.pos) ∨ (ok = false ∧ x = ev0) := by
    rcases h : dskI l with _ | e
    · exact Or.inr ⟨by rw [hk, h]; rfl, by rw [hx, h]; rfl⟩
    · have h1 := dskI_some h
      rw [h] at hx hk
      have hx' : x = e := hx
      exact Or.inl ⟨hk, by rw [hx']; exact h1.1, by rw [hx']; exact h1.2.1, by rw [hx']; exact h1.2.2.1, by rw [hx']; exact h1.2.2.2.1⟩
  have SS := Lib.hid S
  have II := Lib.hid I
  have JJ := Lib.hid J
  clear S I J hx hk hm hmore
  have hne : (ok != ok) = false := by simp
  have e0 : (x.kind != x.kind) = false := by simp
  have e1 : (x.at_ != x.at_) = false := by simp
  have e2 : (x.pos != x.pos) = false := by simp
  have e3 : (x.v != x.v) = false := by simp
  go_wp2_with fail
  refine (II.out _ (HL.out.chg HC1.out)).mono ?_
  rintro e w2 ⟨A2, k2, G2, rfl, hc2, hr2, -, -⟩
  have HC2 := Lib.hid hc2
  have HR2 := Lib.hid hr2
  clear hc2 hr2
  go_wp2_with fail
  refine (SS.out _).mono ?_
  rintro e w3 ⟨A3, k3, G3, rfl, hc3, hr3, -, -⟩
  obtain ⟨p0, p1, p2, p3, p4⟩ := (EvBox.new_ w2 x _ _).on hc3
  have hz23 : w2.heap.size < w3.heap.size := Nat.lt_of_lt_of_le (by simp) hc3.size
  have HC3 := Lib.hid hc3
  have HR3 := Lib.hid hr3
  clear hc3 hr3
  go_wp2_with fail
  refine (owBytes_c x.bytes _ _ G2 G3 _ (HR2.out.chg0 ((((Chg.refl [] w2).alloc _).trans0 HC3.out).alloc _)) (HR3.out.chg0 ((Chg.refl [] w3).alloc _))).mono ?_
  rintro e w4 ⟨rfl, hc4⟩
  obtain ⟨q0, q1, q2, q3, q4⟩ := ((⟨p0, p1, p2, p3, p4⟩ : EvBox w3 w2.heap.size x _).on ((Chg.refl [] w3).alloc _)).on hc4
  clear p0 p1 p2 p3 p4
  have HC4 : Hid (Chg [] w w4) := Lib.hid (((((HC1.out.trans0 HC2.out).alloc _).trans0 HC3.out).alloc _).trans0 hc4)
  have hz4 : w2.heap.size < w4.heap.size := Nat.lt_of_lt_of_le hz23 (Nat.le_trans (by simp) hc4.size)
  clear hc4
  go_wp2_with fail
  refine (JJ.out _ (HL.out.chg HC4.out)).mono ?_
  rintro e w5 ⟨A5, k5, G5, rfl, hc5, -, -, -⟩
  obtain ⟨p0, p1, p2, p3, p4⟩ := (⟨q0, q1, q2, q3, q4⟩ : EvBox w4 w2.heap.size x _).on hc5
  clear q0 q1 q2 q3 q4
  have hz5 : w2.heap.size < w5.heap.size := Nat.lt_of_lt_of_le hz4 hc5.size
  have HC5 : Hid (Chg [] w w5) := Lib.hid (HC4.out.trans0 hc5)
  clear hc5
  rcases hks with ⟨rfl, b1, b2, b3, b4⟩ | ⟨rfl, rfl⟩
  · go_wp2
    go_ret
    exact ⟨rfl, HC5.out.alloc _⟩
  · change w5.cell? ⟨w2.heap.size, 0, none⟩ = some (.int .i64 0) at p0
    go_wp2_with fail
    refine (owOk_c _).mono ?_
    rintro e w6 ⟨rfl, hc6⟩
    go_wp2
    go_ret
    exact ⟨rfl, (HC5.out.alloc _).trans0 hc6⟩
#print axioms walkFnDsk
end Go.Proofs.YtaiinlhobcclcaaDoor.Wk
