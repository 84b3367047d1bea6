/- Contracts of the draws: a line, a line bent, a line drawn. -/
import Derived.Test.YtaiinlhobcclcaaDoorDrawW2
import Derived.Test.YtaiinlhobcclcaaDoorText17
namespace Go.Proofs.YtaiinlhobcclcaaDoor.Wk
set_option linter.unusedVariables false
set_option linter.unusedSimpArgs false
open Go Go.RowKit Go.Deep Ow
open Rp (R sz)

theorem conv2 (N : Nat) (x y : UInt8) (w : World) (h0 : w.cell? ⟨N, 0, none⟩ = some (.int .u8 x.toNat)) (h1 : w.cell? ⟨N, 1, none⟩ = some (.int .u8 y.toNat)) :
    (convert 22 9 (.slice (some ⟨N, 0, none⟩) 2 2)).run Tryd.prog w = .ok (str [x, y]) w := by
  refine run_convert_bytes_back _ 22 9 5 ⟨N, 0, none⟩ 2 [x, y] Tryd.underlying22 Tryd.underlying5 Tryd.underlying9 ?_
  intro j hj
  obtain rfl | rfl : j = 0 ∨ j = 1 := by simp only [List.length_cons, List.length_nil] at hj; omega
  · simpa [Addr.add] using h0
  · simpa [Addr.add] using h1

set_option maxRecDepth 100000 in
set_option maxHeartbeats 1000000 in
theorem l22Digits_c (xs : Bs) (v : Value) (F : List Nat) (w : World) (h : RL w xs v F) (hl : xs.length ≤ 20) : Calls Tryd.prog 44 #[v] w fun e w' => ∃ s : Bs, e = .returned (str s) ∧ s.length ≤ 40 ∧ Chg [] w w' := by
  obtain ⟨A, c, rfl, h1, h2⟩ := h.form
  go_enter Tryd.func44, Tryd.ntmps44
  go_wp2
  go_loopw [3, 4] (fun s i wr => ∃ (k : Nat) (t : Bs), k ≤ xs.length ∧ i = .int .i64 k ∧ s = str t ∧ t.length ≤ 2 * k ∧ Chg [] w wr) (fun _ i _ => xs.length - (intOf i).toNat)
  case atStart => exact ⟨0, [], Nat.zero_le _, rfl, rfl, by simp, Chg.refl _ _⟩
  case round =>
    obtain ⟨k, t, hk, rfl, rfl, htl, hc⟩ := hrel
    by_cases hlt : k < xs.length
    · obtain ⟨b1, o1, rfl, hb1, hel⟩ := RL.at8 (h.chg0 hc) (by omega)
      have m1 := hel k hlt
      clear hel
      generalize xs.getD k 0 = x at *
      have hX := x.toNat_lt
      generalize x.toNat = X at *
      obtain ⟨a, ha, ha16⟩ : ∃ a : Nat, (X : Int) / 16 = a ∧ a < 16 := ⟨X / 16, by omega, by omega⟩
      obtain ⟨d, hd, hd16⟩ : ∃ d : Nat, (X : Int) % 16 = d ∧ d < 16 := ⟨X % 16, by omega, by omega⟩
      obtain ⟨y1, e1⟩ : ∃ y : UInt8, ∀ hq, (ByteArray.mk #[48, 49, 50, 51, 52, 53, 54, 55, 56, 57, 97, 98, 99, 100, 101, 102])[a]'hq = y := ⟨_, byte_getD [48, 49, 50, 51, 52, 53, 54, 55, 56, 57, 97, 98, 99, 100, 101, 102] a ha16⟩
      obtain ⟨y2, e2⟩ : ∃ y : UInt8, ∀ hq, (ByteArray.mk #[48, 49, 50, 51, 52, 53, 54, 55, 56, 57, 97, 98, 99, 100, 101, 102])[d]'hq = y := ⟨_, byte_getD [48, 49, 50, 51, 52, 53, 54, 55, 56, 57, 97, 98, 99, 100, 101, 102] d hd16⟩
      have hcv := fun W => conv2 wr.heap.size y1 y2 W
      have hadd := add_str t [y1, y2] (by simp only [List.length_cons, List.length_nil]; omega)
      have htl2 : (t ++ [y1, y2]).length ≤ 2 * (k + 1) := by simp; omega
      generalize t ++ [y1, y2] = t2 at *
      have HH := Lib.hid h
      have HC := Lib.hid hc
      clear h hc
      go_wp2
      go_region
      go_wp2
      go_roundw
      case rel => exact ⟨k + 1, t2, by omega, by go_num, rfl, htl2, (HC.out.alloc _).drew⟩
      case measure => simp [intOf]; omega
    · have HC := Lib.hid hc
      clear h hc
      go_wp2
      go_ret
      exact ⟨t, rfl, by omega, HC.out⟩

theorem l1In_c (n lo hi : Int) (w : World) : Calls Tryd.prog 45 #[.int .i64 n, .int .i64 lo, .int .i64 hi] w fun e w' => e = .returned (.bool (decide (lo ≤ n ∧ n ≤ hi))) ∧ Chg [] w w' := by
  by_cases h0 : lo ≤ n
  · by_cases h1 : n ≤ hi
    · have e : (decide (lo ≤ n ∧ n ≤ hi)) = true := by simp [h0, h1]
      rw [e]
      go_enter Tryd.func45, Tryd.ntmps45
      go_wp2
      go_ret
      exact ⟨rfl, by repeat (first | with_reducible exact Chg.refl _ _ | with_reducible refine Chg.drew ?_ | with_reducible refine Chg.drewN ?_ _)⟩
    · have e : (decide (lo ≤ n ∧ n ≤ hi)) = false := by simp [h0, h1]
      have e1 : (decide (n ≤ hi)) = false := by simp [h1]
      rw [e]
      clear h1
      go_enter Tryd.func45, Tryd.ntmps45
      go_wp2
      go_ret
      exact ⟨rfl, by repeat (first | with_reducible exact Chg.refl _ _ | with_reducible refine Chg.drew ?_ | with_reducible refine Chg.drewN ?_ _)⟩
  · have e : (decide (lo ≤ n ∧ n ≤ hi)) = false := by simp [h0]
    have e1 : (decide (lo ≤ n)) = false := by simp [h0]
    rw [e]
    clear h0
    go_enter Tryd.func45, Tryd.ntmps45
    go_wp2
    go_ret
    exact ⟨rfl, by repeat (first | with_reducible exact Chg.refl _ _ | with_reducible refine Chg.drew ?_ | with_reducible refine Chg.drewN ?_ _)⟩

theorem name_le (k : Nat) : (evNames.getD k []).length ≤ 10 := by
  have h : ∀ x ∈ evNames, x.length ≤ 10 := by decide
  rw [List.getD_eq_getElem?_getD]
  rcases hx : evNames[k]? with _ | x
  · simp
  · exact h x (List.mem_of_getElem? hx)
theorem textS_len (k : Nat) (a p v : Nat) (ha : a < 300) (hp : p < 300) (hv : v < 300) : (textS k a p v).length ≤ 200 := by
  have h1 := name_le k
  have h2 : (Lib.itoa (a : Int)).length ≤ 7 := itoa_len a (by omega) (by omega)
  have h3 : (Lib.itoa (p : Int)).length ≤ 7 := itoa_len p (by omega) (by omega)
  have h4 : (Lib.itoa (v : Int)).length ≤ 7 := itoa_len v (by omega) (by omega)
  unfold textS
  split
  · simp only; omega
  · split
    · simp only [List.length_append, List.length_cons]; omega
    · split
      · simp only [List.length_append, List.length_cons]; omega
      · simp only [List.length_append, List.length_cons]; omega

set_option maxRecDepth 100000 in
set_option maxHeartbeats 2000000 in
theorem l22Line_c (k : Nat) (hk : 1 ≤ k ∧ k ≤ 13) (a p v : Nat) (ha : a < 300) (hp : p < 300) (hv : v < 300) (ys : Bs) (vb : Value) (G : List Nat) (hy : ys.length ≤ 20) (w : World) (h : RL w ys vb G) :
    Calls Tryd.prog 30 #[.agg #[.int .i64 k, .int .i64 a, .int .i64 p, .int .i64 v, vb]] w fun e w' => ∃ s : Bs, e = .returned (str s) ∧ s.length ≤ 200 ∧ Chg [] w w' := by
  obtain ⟨A, c, rfl, -, -⟩ := h.form
  have HH := Lib.hid h
  clear h
  by_cases h7 : k = 7
  · subst h7
    go_enter Tryd.func30, Tryd.ntmps30
    have la := itoa_len a (by omega) (by omega)
    obtain ⟨t1, ht1⟩ : ∃ t, [109, 97, 100, 101, 32] ++ Lib.itoa a = t := ⟨_, rfl⟩
    have l1 : t1.length ≤ 12 := by rw [← ht1]; simp only [List.length_append, List.length_cons, List.length_nil]; omega
    have hx1 := add_str [109, 97, 100, 101, 32] (Lib.itoa a) (by simp only [List.length_cons, List.length_nil]; omega)
    rw [ht1] at hx1
    obtain ⟨t2, ht2⟩ : ∃ t, t1 ++ [32] = t := ⟨_, rfl⟩
    have l2 : t2.length ≤ 13 := by rw [← ht2]; simp only [List.length_append, List.length_cons, List.length_nil]; omega
    have hx2 := add_str t1 [32] (by simp only [List.length_cons, List.length_nil]; omega)
    rw [ht2] at hx2
    clear ht1 ht2
    go_wp2_with fail
    go_region_with (first | (go_at_call 37; refine (l1Digits_c a (by omega) (by omega) _).mono ?_; rintro e w1 ⟨rfl, hc1⟩; obtain ⟨hcl1, hfz1⟩ := hc1.cells) | (go_at_call 44; refine (l22Digits_c ys _ G _ (HH.out.chg0 (by repeat (first | with_reducible exact Chg.refl _ _ | with_reducible assumption | with_reducible refine Chg.trans0 ?_ hc2 | with_reducible refine Chg.trans0 ?_ hc1 | with_reducible refine Chg.alloc ?_ _ | with_reducible refine Chg.drew ?_ | with_reducible refine Chg.drewN ?_ _))) hy).mono ?_; rintro e w2 ⟨t, rfl, htl, hc2⟩; have hx3 := add_str t2 t (by omega)))
    all_goals
      go_wp2
      go_ret
      exact ⟨t2 ++ t, rfl, by rw [List.length_append]; omega, by repeat (first | with_reducible exact Chg.refl _ _ | with_reducible assumption | with_reducible refine Chg.trans0 ?_ hc2 | with_reducible refine Chg.trans0 ?_ hc1 | with_reducible refine Chg.alloc ?_ _ | with_reducible refine Chg.drew ?_ | with_reducible refine Chg.drewN ?_ _)⟩
  · have HT := fun W => l17Text_c k hk a p v (by omega) (by omega) (by omega) (by omega) (by omega) (by omega) (.slice A ys.length c) W
    have HLT : (textS k a p v).length ≤ 200 := textS_len k a p v (by omega) (by omega) (by omega)
    have HI := fun W => l1In_c k 1 13 W
    have hd : (decide ((1 : Int) ≤ (k : Int) ∧ (k : Int) ≤ 13)) = true := by simp; omega
    rw [hd] at HI
    have hk7 : ((k : Int) == 7) = false := by rw [beq_eq_false_iff_ne]; omega
    have HTT := Lib.hid HT
    have HII := Lib.hid HI
    clear HT HI h7
    go_enter Tryd.func30, Tryd.ntmps30
    go_wp2_with fail
    refine (HII.out _).mono ?_
    rintro e w1 ⟨rfl, hc1⟩
    obtain ⟨hcl1, hfz1⟩ := hc1.cells
    go_wp2_with fail
    refine (HTT.out _).mono ?_
    rintro e w2 ⟨rfl, hc2⟩
    go_wp2
    go_ret
    exact ⟨_, rfl, HLT, by repeat (first | with_reducible exact Chg.refl _ _ | with_reducible assumption | with_reducible refine Chg.trans0 ?_ hc2 | with_reducible refine Chg.trans0 ?_ hc1 | with_reducible refine Chg.alloc ?_ _ | with_reducible refine Chg.drew ?_ | with_reducible refine Chg.drewN ?_ _)⟩
end Go.Proofs.YtaiinlhobcclcaaDoor.Wk
