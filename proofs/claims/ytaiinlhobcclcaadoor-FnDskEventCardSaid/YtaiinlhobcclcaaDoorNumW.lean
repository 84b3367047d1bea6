/- Contracts: numerals and digits, the reference's. -/
import Derived.Test.YtaiinlhobcclcaaDoorBaseW
import Derived.Test.YtaiinlhobcclcaaDoorPlainW
import Derived.Laws.IdiomStrings
namespace Go.Proofs.YtaiinlhobcclcaaDoor.Wk
open Go Go.RowKit Go.Deep Ow
open Rp (R sz)

abbrev str (l : Bs) : Value := .string ⟨l.toArray⟩

theorem specNumOk_c (n : Int) (w : World) : Calls Tryd.prog 46 #[.int .i64 n] w fun e w' => e = .returned (.bool (decide (-32768 ≤ n ∧ n ≤ 32767))) ∧ Chg [] w w' := by
  go_enter Tryd.func46, Tryd.ntmps46
  go_wp2
  all_goals go_ret
  all_goals exact ⟨by simp_all; try omega, Chg.refl _ _⟩
theorem implNumOk_c (n : Int) (w : World) : Calls Tryd.prog 32 #[.int .i64 n] w fun e w' => e = .returned (.bool (decide (-32768 ≤ n ∧ n ≤ 32767))) ∧ Chg [] w w' := by
  go_enter Tryd.func32, Tryd.ntmps32
  go_wp2
  all_goals go_ret
  all_goals exact ⟨by simp_all; try omega, Chg.refl _ _⟩
theorem l17Digit_c (c : UInt8) (w : World) : Calls Tryd.prog 34 #[.int .u8 c.toNat] w fun e w' => e = .returned (.int .i64 (hexD c.toNat)) ∧ Chg [] w w' := by
  have hc : c.toNat < 256 := c.toNat_lt
  generalize c.toNat = n at *
  go_enter Tryd.func34, Tryd.ntmps34
  go_wp2
  all_goals go_ret
  all_goals refine ⟨congrArg (fun x => Ending.returned (.int .i64 x)) ?_, Chg.refl _ _⟩
  all_goals (unfold hexD; split <;> (try split) <;> omega)
theorem hexDigit_c (n : Nat) (hn : n < 2147483648) (w : World) : Calls Tryd.prog 48 #[.int .i32 n] w fun e w' => e = .returned (.int .i64 (hexD n)) ∧ Chg [] w w' := by
  go_enter Tryd.func48, Tryd.ntmps48
  go_wp2
  all_goals go_ret
  all_goals refine ⟨congrArg (fun x => Ending.returned (.int .i64 x)) ?_, Chg.refl _ _⟩
  all_goals (unfold hexD; split <;> (try split) <;> omega)

/-- two strings, one behind the other -/
theorem add_str (a b : Bs) (h : (a.length : Int) + b.length ≤ 9223372036854775807) (w : World) : (Op.stringOp .add ⟨a.toArray⟩ ⟨b.toArray⟩).run Tryd.prog w = .ok (str (a ++ b)) w := by
  rw [run_string_add_sum w _ _ (by simp only [ByteArray.size, List.size_toArray]; omega), ByteArray.mk_append_mk]
theorem conv1 (w : World) (v : Int) (h0 : 0 ≤ v) (h1 : v < 256) :
    (convert 22 9 (.slice (some ⟨w.heap.size, 0, none⟩) 1 1)).run Tryd.prog (w.alloc (.cells #[.int .u8 v] 5)) = .ok (str [UInt8.ofNat v.toNat]) (w.alloc (.cells #[.int .u8 v] 5)) := by
  refine run_convert_bytes_back _ 22 9 5 ⟨w.heap.size, 0, none⟩ 1 [UInt8.ofNat v.toNat] Tryd.underlying22 Tryd.underlying5 Tryd.underlying9 ?_
  intro j hj
  have hj0 : j = 0 := by simpa using hj
  subst hj0
  have e : ((UInt8.ofNat v.toNat).toNat : Int) = v := by
    rw [UInt8.toNat_ofNat', Nat.mod_eq_of_lt (by omega)]; omega
  simp only [List.getElem_cons_zero, e]
  simp [Addr.add]

set_option maxRecDepth 100000 in
theorem l1Plain_c (m : Nat) (hm : m < 1000000) (w : World) : Calls Tryd.prog 47 #[.int .i64 m] w fun e w' => e = .returned (str (Lib.decDigits m)) ∧ Chg [] w w' := by
  have hdl := digits_length m hm
  go_enter Tryd.func47, Tryd.ntmps47
  go_wp2
  go_loopw [0, 3] (fun n out wr => ∃ (k : Nat) (r : Bs), k < 1000000 ∧ n = .int .i64 k ∧ out = str r ∧ r.length ≤ 6 ∧ Hid (Lib.decDigits k ++ r = Lib.decDigits m) ∧ Chg [] w wr) (fun n _ _ => (intOf n).toNat)
  case atStart => exact ⟨m, [], hm, rfl, rfl, by simp, Lib.hid (by simp), Chg.refl _ _⟩
  case round =>
    obtain ⟨k, r, hk, rfl, rfl, hrl, H, hc⟩ := hrel
    by_cases h9 : (9 : Int) < (k : Int)
    · have hcv := conv1 wr (48 + (k : Int) % 10) (by omega) (by omega)
      have hd : Lib.decDigits k = Lib.decDigits (k / 10) ++ [UInt8.ofNat (48 + (k : Int) % 10).toNat] := by
        have e : (48 + (k : Int) % 10).toNat = 48 + k % 10 := by omega
        rw [Lib.decDigits, dif_neg (by omega), e]
      generalize UInt8.ofNat (48 + (k : Int) % 10).toNat = c at hcv hd
      have hadd := add_str [c] r (by simp only [List.length_cons, List.length_nil]; omega)
      have H2 := Lib.hid hd
      clear hd
      go_wp2
      go_roundw
      case rel =>
        have h1 := H.out
        rw [H2.out, List.append_assoc] at h1
        have h2 := congrArg List.length h1
        simp only [List.length_append] at h2
        refine ⟨k / 10, [c] ++ r, by omega, by go_num, rfl, ?_, Lib.hid h1, by repeat (first | with_reducible exact hc | with_reducible refine Chg.alloc ?_ _)⟩
        simp only [List.length_append]
        omega
      case measure => simp [intOf]; omega
    · have hcv := conv1 wr (48 + (k : Int)) (by omega) (by omega)
      have hd : Lib.decDigits k = [UInt8.ofNat (48 + (k : Int)).toNat] := by
        have e : (48 + (k : Int)).toNat = 48 + k := by omega
        rw [Lib.decDigits, dif_pos (by omega), e]
      generalize UInt8.ofNat (48 + (k : Int)).toNat = c at hcv hd
      have hadd := add_str [c] r (by simp only [List.length_cons, List.length_nil]; omega)
      have H2 := Lib.hid hd
      clear hd
      go_wp2
      go_ret
      have h1 := H.out
      rw [H2.out] at h1
      exact ⟨by rw [← h1]; rfl, by repeat (first | with_reducible exact hc | with_reducible refine Chg.alloc ?_ _)⟩

theorem l1Digits_c (n : Int) (h0 : -1000000 < n) (h1 : n < 1000000) (w : World) : Calls Tryd.prog 37 #[.int .i64 n] w fun e w' => e = .returned (str (Lib.itoa n)) ∧ Chg [] w w' := by
  by_cases hn : n < 0
  · obtain ⟨m, rfl⟩ : ∃ m : Nat, n = -(m : Int) := ⟨n.natAbs, by omega⟩
    have e : Lib.itoa (-(m : Int)) = [45] ++ Lib.decDigits m := by
      unfold Lib.itoa
      rw [if_pos hn, Int.natAbs_neg, Int.natAbs_natCast]; rfl
    rw [e]
    have hdl := digits_length m (by omega)
    have hadd := add_str [45] (Lib.decDigits m) (by simp only [List.length_cons, List.length_nil]; omega)
    go_enter Tryd.func37, Tryd.ntmps37
    go_wp2_with (go_at_call 47; refine (l1Plain_c m (by omega) _).mono ?_; rintro e w1 ⟨rfl, hc1⟩)
    go_ret
    exact ⟨rfl, hc1⟩
  · obtain ⟨m, rfl⟩ : ∃ m : Nat, n = (m : Int) := ⟨n.natAbs, by omega⟩
    have e : Lib.itoa (m : Int) = Lib.decDigits m := by
      unfold Lib.itoa
      rw [if_neg hn, Int.toNat_natCast]
    rw [e]
    go_enter Tryd.func37, Tryd.ntmps37
    go_wp2_with (go_at_call 47; refine (l1Plain_c m (by omega) _).mono ?_; rintro e w1 ⟨rfl, hc1⟩)
    go_ret
    exact ⟨rfl, hc1⟩

theorem specNumText_c (n : Int) (w : World) : Calls Tryd.prog 36 #[.int .i64 n] w fun e w' => e = .returned (str (numText n)) ∧ Chg [] w w' := by
  by_cases hn : -32768 ≤ n ∧ n ≤ 32767
  · have e : numText n = Lib.itoa n := if_pos hn
    have e2 : decide (-32768 ≤ n ∧ n ≤ 32767) = true := decide_eq_true hn
    rw [e]
    obtain ⟨hn0, hn1⟩ := hn
    go_enter Tryd.func36, Tryd.ntmps36
    go_wp2_with (first | (go_at_call 46; refine (specNumOk_c n _).mono ?_; rw [e2]; rintro e w1 ⟨rfl, hc1⟩) | (go_at_call 37; refine (l1Digits_c n (by omega) (by omega) _).mono ?_; rintro e w2 ⟨rfl, hc2⟩))
    go_ret
    exact ⟨rfl, hc1.trans0 hc2⟩
  · have e : numText n = [] := if_neg hn
    have e2 : decide (-32768 ≤ n ∧ n ≤ 32767) = false := decide_eq_false hn
    rw [e]
    clear hn
    go_enter Tryd.func36, Tryd.ntmps36
    go_wp2_with (first | (go_at_call 46; refine (specNumOk_c n _).mono ?_; rw [e2]; rintro e w1 ⟨rfl, hc1⟩))
    go_ret
    exact ⟨rfl, hc1⟩
end Go.Proofs.YtaiinlhobcclcaaDoor.Wk
