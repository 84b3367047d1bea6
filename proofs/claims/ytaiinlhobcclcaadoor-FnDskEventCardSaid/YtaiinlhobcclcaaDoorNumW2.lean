/- Contracts: how the reference reads a number. -/
import Derived.Test.YtaiinlhobcclcaaDoorNumW
namespace Go.Proofs.YtaiinlhobcclcaaDoor.Wk
open Go Go.RowKit Go.Deep Ow
open Rp (R sz)

theorem decFrom_bad {l : Bs} {k : Nat} {b : UInt8} (hb : l[k]? = some b) (hd : Lib.digitVal b = none) : Lib.decFrom 0 l = none := by
  rcases h : Lib.decFrom 0 l with _ | n
  · rfl
  · obtain ⟨d, h2⟩ := Lib.digit_of_decFrom l 0 n h k b hb
    rw [hd] at h2; cases h2
theorem byte_at (l : Bs) (k : Nat) (h : k < l.length) : ∃ c, l[k]? = some c ∧ ∀ hq, (ByteArray.mk l.toArray)[k]'hq = c :=
  ⟨l[k], List.getElem?_eq_getElem h, fun h' => by simp [ByteArray.getElem_eq_getElem_data]⟩
theorem pow_small (k : Nat) (h : k ≤ 6) : 10 ^ k ≤ 1000000 := Nat.pow_le_pow_right (n := 10) (by decide) h

set_option maxRecDepth 100000 in
theorem l1Value_c (l : Bs) (hl : (l.length : Int) ≤ 9223372036854775807) (w : World) : Calls Tryd.prog 35 #[str l] w fun e w' => e = .returned (.tuple #[.int .i64 ((numValue l).getD 0 : Nat), .bool (numValue l).isSome]) ∧ Chg [] w w' := by
  by_cases hne : l = []
  · subst hne
    have e : numValue ([] : Bs) = none := rfl
    rw [e]
    go_enter Tryd.func35, Tryd.ntmps35
    go_wp2
    go_ret2
    exact ⟨rfl, Chg.refl _ _⟩
  have hb0 : (((l.length : Nat) : Int) == 0) = false := by
    rw [beq_eq_false_iff_ne]; intro h; exact hne (List.eq_nil_of_length_eq_zero (by omega))
  by_cases h6 : (6 : Int) < ((l.length : Nat) : Int)
  · have e : numValue l = none := if_pos (Or.inr (by omega))
    rw [e]
    clear e
    go_enter Tryd.func35, Tryd.ntmps35
    go_wp2
    go_ret2
    exact ⟨rfl, Chg.refl _ _⟩
  · have e : numValue l = Lib.decFrom 0 l := if_neg (by rw [not_or]; exact ⟨hne, by omega⟩)
    rw [e]
    clear e
    go_enter Tryd.func35, Tryd.ntmps35
    go_wp2
    go_loopw [4, 5] (fun n i wr => ∃ (k m : Nat), k ≤ l.length ∧ i = .int .i64 k ∧ n = .int .i64 m ∧ (m : Int) ≤ 1000000 ∧ Hid (Lib.decFrom 0 (l.take k) = some m ∧ m < 10 ^ k) ∧ Chg [] w wr) (fun _ i _ => l.length - (intOf i).toNat)
    case atStart => exact ⟨0, 0, Nat.zero_le _, rfl, rfl, by decide, Lib.hid ⟨rfl, by decide⟩, Chg.refl _ _⟩
    case round =>
      obtain ⟨k, m, hk, rfl, rfl, hm, H, hc⟩ := hrel
      by_cases hlt : k < l.length
      · obtain ⟨c, hck, hce⟩ := byte_at l k hlt
        have hcl := c.toNat_lt
        by_cases hdg : 48 ≤ c.toNat ∧ c.toNat ≤ 57
        · have hd : Lib.digitVal c = some (c.toNat - 48) := if_pos hdg
          have H2 := Lib.hid (Lib.decFrom_take l k 0 m c _ H.out.1 hck hd)
          have H3 := Lib.hid H.out.2
          have hk6 : k < 6 := by omega
          have hp := pow_small (k + 1) (by omega)
          have hms : m * 10 + (c.toNat - 48) < 10 ^ (k + 1) := by
            have := H3.out
            rw [Nat.pow_succ]; omega
          have hm2 : ((m * 10 + (c.toNat - 48) : Nat) : Int) ≤ 1000000 := by omega
          have H4 := Lib.hid (And.intro hp hms)
          obtain ⟨hd0, hd1⟩ := hdg
          have g0 : ¬ ((c.toNat : Int) < 48) := by omega
          have g1 : ¬ ((57 : Int) < (c.toNat : Int)) := by omega
          clear H hck hd hp hms
          go_wp2
          go_roundw
          case rel => exact ⟨k + 1, m * 10 + (c.toNat - 48), by omega, by go_num, by go_num, hm2, Lib.hid ⟨H2.out, H4.out.2⟩, hc⟩
          case measure => simp [intOf]; omega
        · have hd : Lib.digitVal c = none := if_neg hdg
          have e := decFrom_bad hck hd
          have E := Lib.hid e
          clear hck hd H e
          by_cases hd0 : ((c.toNat : Int) < 48)
          · clear hdg
            go_wp2
            go_ret2
            exact ⟨by rw [E.out]; rfl, hc⟩
          · have hd1 : (57 : Int) < (c.toNat : Int) := by omega
            clear hdg
            go_wp2
            go_ret2
            exact ⟨by rw [E.out]; rfl, hc⟩
      · have hkl : k = l.length := by omega
        have e := H.out.1
        rw [hkl, List.take_length] at e
        have E := Lib.hid e
        clear hkl H e
        go_wp2
        go_ret2
        exact ⟨by rw [E.out]; rfl, hc⟩
end Go.Proofs.YtaiinlhobcclcaaDoor.Wk
