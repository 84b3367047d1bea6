/- Contracts of the laws' own functions on bytes: eqByteS, markByteS, heldByteS. -/
import Derived.Test.YtaiinlhobcclcaaDoorBaseW
import Derived.Test.YtaiinlhobcclcaaDoorOwn
namespace Go.Proofs.YtaiinlhobcclcaaDoor.Wk
open Go Go.RowKit Go.Deep Ow
open Rp (R sz)
open Mk (mark cnt)

set_option maxRecDepth 100000 in
set_option maxHeartbeats 1000000 in
theorem eqByteS_c (xs : List UInt8) (a b : Value) (F G : List Nat) (w : World) (ha : RL w xs a F) (hb : RL w xs b G) :
    Calls Tryd.prog 24 #[a, b] w fun e w' => e = .returned (.bool true) ∧ Chg [] w w' := by
  obtain ⟨A, ca, rfl, hla, hma⟩ := ha.form
  obtain ⟨B, cb, rfl, hlb, hmb⟩ := hb.form
  have hn : xs.length ≤ maxLen := by omega
  unfold maxLen at hn
  have h0 : (((xs.length : Nat) : Int) != ((xs.length : Nat) : Int)) = false := by simp
  go_enter Tryd.func24, Tryd.ntmps24
  go_wp2
  go_loopw [5] (fun i wr => ∃ k : Nat, k ≤ xs.length ∧ i = .int .i64 k ∧ Chg [] w wr) (fun i _ => xs.length - (intOf i).toNat)
  case atStart => exact ⟨0, Nat.zero_le _, rfl, Chg.refl _ _⟩
  case round =>
    obtain ⟨k, hk, rfl, hc⟩ := hrel
    by_cases hlt : k < xs.length
    · obtain ⟨b1, o1, p1, c1, f1, e1, r1, m1, -⟩ := (ha.chg0 hc).elem hlt
      obtain ⟨b2, o2, p2, c2, f2, e2, r2, m2, -⟩ := (hb.chg0 hc).elem hlt
      obtain ⟨rfl, -⟩ := R_u8.1 r1
      obtain ⟨rfl, -⟩ := R_u8.1 r2
      injection e1 with e1 _ e1c
      injection e2 with e2 _ e2c
      subst e1 e2 e1c e2c
      have ya0 := m1 0 (by decide)
      have yb0 := m2 0 (by decide)
      simp only [sz_u8, Nat.mul_one, Nat.add_zero, List.getElem?_cons_zero] at ya0 yb0
      clear m1 m2 r1 r2 ha hb
      generalize xs[k] = x at *
      have t0 : (((x.toNat : Nat) : Int) != ((x.toNat : Nat) : Int)) = false := by simp
      have t1 : (x != x) = false := by simp
      go_wp2_with fail
      go_quiet (fail)
      go_wp2
      go_roundw
      case rel => exact ⟨k + 1, by omega, by go_num, hc.drewN _⟩
      case measure => simp [intOf]; omega
    · clear ha hb
      go_wp2
      go_ret
      exact ⟨rfl, hc⟩

set_option maxRecDepth 100000 in
set_option maxHeartbeats 4000000 in
theorem markByteS_c (xs : List UInt8) (k0 : Int) (a : Value) (F : List Nat) (w : World) (ha : RL w xs a F) (ho : Own w F) (hk0 : 0 ≤ k0) (hk1 : k0 + cntL xs ≤ 4611686018427387904) :
    Calls Tryd.prog 25 #[a, .int .i64 k0] w fun e w' => e = .returned (.int .i64 (k0 + cntL xs)) ∧ Chg F w w' ∧ RL w' (mkL xs k0) a F ∧ Own w' F := by
  obtain ⟨A, ca, rfl, hla, hma⟩ := ha.form
  have hn : xs.length ≤ maxLen := by omega
  unfold maxLen at hn
  go_enter Tryd.func25, Tryd.ntmps25
  go_wp2
  go_loopw [1, 5] (fun kk i wr => ∃ k : Nat, k ≤ xs.length ∧ i = .int .i64 k ∧ kk = .int .i64 (k0 + cntL (xs.take k)) ∧ Chg F w wr ∧ RL wr (midL xs k0 k) (.slice A xs.length ca) F ∧ Own wr F) (fun _ i _ => xs.length - (intOf i).toNat)
  case atStart => exact ⟨0, Nat.zero_le _, rfl, by simp [cntL], Chg.refl _ _, by rw [midL_zero]; exact ha, ho⟩
  case round =>
    obtain ⟨k, hk, rfl, rfl, hc, hr, ho'⟩ := hrel
    by_cases hlt : k < xs.length
    · obtain ⟨b, off, cap, cs, Fi, e1, r1, m1, hFi, hbF, hbn, hnd, E0, shut⟩ := hr.open_elt ho'.nodup (i := k) (by simpa using hlt)
      rw [midL_at xs k0 hlt] at r1
      rw [midL_length] at e1
      have hct := cntL_take_le xs (k + 1)
      rw [cntL_succ xs hlt] at hct
      obtain ⟨rfl, hF1⟩ := R_u8.1 r1
      subst hF1
      injection e1 with e1 _ e1c
      subst e1 e1c
      have ya0 := m1 0 (by decide)
      simp only [sz_u8, Nat.mul_one, Nat.add_zero, List.getElem?_cons_zero] at E0 shut ya0
      change cntL (xs.take k) + 1 ≤ _ at hct
      have hq0 : 0 ≤ k0 + (cntL (xs.take k) : Int) := by omega
      have hq1 : k0 + (cntL (xs.take k) : Int) + 1 ≤ 4611686018427387904 := by omega
      generalize hq : k0 + (cntL (xs.take k) : Int) = q at *
      have HOF := Lib.hid ho'
      have HLt := Lib.hid hr.lt
      have S := Lib.hid shut
      have HE := Lib.hid E0
      have HC := Lib.hid hc
      have HqE := Lib.hid hq
      have HFi := Lib.hid hFi
      have Hbn := Lib.hid hbn
      have yf0 := ho'.frozen hbF (o := off + k)
      clear shut E0 hc ho' hct hq ha ho r1 m1 hr hFi hbn hnd
      go_wp2
      go_roundw
      case rel =>
        have hW := (HE.out.store0 (by simp) (.int .u8 ((q) % 256)))
        refine ⟨k + 1, by omega, by go_num, ?_, by repeat (first | with_reducible exact HC.out | with_reducible refine Chg.setCell ?_ (Or.inl hbF) _), ?_, by repeat (first | with_reducible exact HOF.out | with_reducible refine Own.setCell ?_ _ _)⟩
        · rw [cntL_succ xs hlt, ← HqE.out]
          change _ = Value.int IntKind.i64 (k0 + ((cntL (xs.take k) + 1 : Nat) : Int))
          go_num
        · rw [midL_succ xs k0 hlt, HqE.out]
          refine S.out _ _ _ (R_u8.2 ⟨?_, rfl⟩) hW
          exact (u8_mark_cell q).symm
      case measure => simp [intOf]; omega
    · rw [cntL_all xs (by omega)] at *
      rw [midL_all xs k0 (by omega)] at hr
      have HR := Lib.hid hr
      have HC := Lib.hid hc
      have HO := Lib.hid ho'
      clear hr hc ho' ha ho
      go_wp2
      go_ret
      exact ⟨rfl, HC.out, HR.out, HO.out⟩

set_option maxRecDepth 100000 in
set_option maxHeartbeats 2000000 in
theorem heldByteS_c (xs : List UInt8) (k0 : Int) (a : Value) (F : List Nat) (w : World) (ha : RL w (mkL xs k0) a F) (hk0 : 0 ≤ k0) (hk1 : k0 + cntL xs ≤ 4611686018427387904) :
    Calls Tryd.prog 26 #[a, .int .i64 k0] w fun e w' => e = .returned (.int .i64 (k0 + cntL xs)) ∧ Chg [] w w' := by
  obtain ⟨A, ca, rfl, hla, hma⟩ := ha.form
  rw [mkL_length] at *
  have hn : xs.length ≤ maxLen := by omega
  unfold maxLen at hn
  go_enter Tryd.func26, Tryd.ntmps26
  go_wp2
  go_loopw [1, 5] (fun kk i wr => ∃ k : Nat, k ≤ xs.length ∧ i = .int .i64 k ∧ kk = .int .i64 (k0 + cntL (xs.take k)) ∧ Chg [] w wr) (fun _ i _ => xs.length - (intOf i).toNat)
  case atStart => exact ⟨0, Nat.zero_le _, rfl, by simp [cntL], Chg.refl _ _⟩
  case round =>
    obtain ⟨k, hk, rfl, rfl, hc⟩ := hrel
    by_cases hlt : k < xs.length
    · obtain ⟨b, off, cap, cs, Fi, e1, r1, m1, -⟩ := (ha.chg0 hc).elem (i := k) (by simpa using hlt)
      rw [mkL_at xs k0 hlt] at r1
      rw [mkL_length] at e1
      have hct := cntL_take_le xs (k + 1)
      rw [cntL_succ xs hlt] at hct
      change R wr (UInt8.ofNat ((k0 + (cntL (xs.take k) : Int)) % 256).toNat) cs Fi at r1
      obtain ⟨rfl, -⟩ := R_u8.1 r1
      injection e1 with e1 _ e1c
      subst e1 e1c
      have ya0 := m1 0 (by decide)
      simp only [sz_u8, Nat.mul_one, Nat.add_zero, List.getElem?_cons_zero] at ya0
      change cntL (xs.take k) + 1 ≤ _ at hct
      have hq0 : 0 ≤ k0 + (cntL (xs.take k) : Int) := by omega
      have hq1 : k0 + (cntL (xs.take k) : Int) + 1 ≤ 4611686018427387904 := by omega
      generalize hq : k0 + (cntL (xs.take k) : Int) = q at *
      have HC := Lib.hid hc
      have HqE := Lib.hid hq
      clear r1 m1 hc hct hq ha
      have tb : ((((UInt8.ofNat ((q) % 256).toNat).toNat : Nat) : Int) != (q) % 256) = false := by rw [u8_mark]; simp
      go_wp2
      go_roundw
      case rel =>
        refine ⟨k + 1, by omega, by go_num, ?_, HC.out⟩
        rw [cntL_succ xs hlt, ← HqE.out]
        change _ = Value.int IntKind.i64 (k0 + ((cntL (xs.take k) + 1 : Nat) : Int))
        go_num
      case measure => simp [intOf]; omega
    · rw [cntL_all xs (by omega)] at *
      have HC := Lib.hid hc
      clear hc ha
      go_wp2
      go_ret
      exact ⟨rfl, HC.out⟩
end Go.Proofs.YtaiinlhobcclcaaDoor.Wk
