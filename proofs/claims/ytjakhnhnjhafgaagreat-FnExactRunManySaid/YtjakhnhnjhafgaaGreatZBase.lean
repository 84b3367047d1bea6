import Derived.Test.YtjakhnhnjhafgaaGreatZMem
import Derived.Test.YtjakhnhnjhafgaaGreatChecked
import Derived.Handy
import Derived.Deep.QuietTactic
import Derived.BigQuiet
import Derived.Deep.RegionWith
import Derived.WalkSpells
import Derived.WalkLawsBesides
import Derived.OwnWalk
import Derived.Lib.Hide
set_option linter.unusedVariables false
set_option linter.unusedSimpArgs false

namespace Go.Proofs.YtjakhnhnjhafgaaGreat.Wk
open Go Go.RowKit Go.Deep Ow
open Rp (R sz)

theorem implNumOk_c (n : Int) (w : World) : Calls Tryz.prog 63 #[.int .i64 n] w fun e w' => e = .returned (.bool (numOk n)) ∧ w = w' := by
  by_cases h1 : -32768 ≤ n
  all_goals by_cases h2 : n ≤ 32767
  all_goals
    go_enter Tryz.func63, Tryz.ntmps63
    go_wp2
    go_ret
    exact ⟨by simp [numOk, h1, h2], rfl⟩
theorem specNumOk_c (n : Int) (w : World) : Calls Tryz.prog 72 #[.int .i64 n] w fun e w' => e = .returned (.bool (numOk n)) ∧ w = w' := by
  by_cases h1 : -32768 ≤ n
  all_goals by_cases h2 : n ≤ 32767
  all_goals
    go_enter Tryz.func72, Tryz.ntmps72
    go_wp2
    go_ret
    exact ⟨by simp [numOk, h1, h2], rfl⟩
theorem implIsVar_c (n : Int) (w : World) : Calls Tryz.prog 121 #[.int .i64 n] w fun e w' => e = .returned (.bool (varOk n)) ∧ w = w' := by
  by_cases h1 : 0 ≤ n
  all_goals by_cases h2 : n < 4
  all_goals
    go_enter Tryz.func121, Tryz.ntmps121
    go_wp2
    go_ret
    exact ⟨by simp [varOk, h1, h2], rfl⟩
theorem implIsRel_c (n : Int) (w : World) : Calls Tryz.prog 122 #[.int .i64 n] w fun e w' => e = .returned (.bool (relOk n)) ∧ w = w' := by
  by_cases h1 : 1 ≤ n
  all_goals by_cases h2 : n ≤ 4
  all_goals
    go_enter Tryz.func122, Tryz.ntmps122
    go_wp2
    go_ret
    exact ⟨by simp [relOk, h1, h2], rfl⟩
theorem implBelow_c (n m : Int) (w : World) : Calls Tryz.prog 98 #[.int .i64 n, .int .i64 m] w fun e w' => e = .returned (.bool (below n m)) ∧ w = w' := by
  by_cases h1 : 0 ≤ n
  all_goals by_cases h2 : n < m
  all_goals
    go_enter Tryz.func98, Tryz.ntmps98
    go_wp2
    go_ret
    exact ⟨by simp [below, h1, h2], rfl⟩
theorem specL1In_c (n lo hi : Int) (w : World) : Calls Tryz.prog 71 #[.int .i64 n, .int .i64 lo, .int .i64 hi] w fun e w' => e = .returned (.bool (decide (lo ≤ n) && decide (n ≤ hi))) ∧ w = w' := by
  by_cases h1 : lo ≤ n
  all_goals by_cases h2 : n ≤ hi
  all_goals
    go_enter Tryz.func71, Tryz.ntmps71
    go_wp2
    go_ret
    exact ⟨by simp [h1, h2], rfl⟩

theorem implItvOk_c (lo hi : Int) (w : World) : Calls Tryz.prog 113 #[.agg #[.int .i64 lo, .int .i64 hi]] w fun e w' => e = .returned (.bool (itvOk ⟨lo, hi⟩)) ∧ Chg [] w w' := by
  by_cases h1 : numOk lo = true
  all_goals by_cases h2 : numOk hi = true
  all_goals by_cases h3 : lo ≤ hi
  all_goals
    (try rw [Bool.not_eq_true] at h1)
    (try rw [Bool.not_eq_true] at h2)
    go_enter Tryz.func113, Tryz.ntmps113
    go_wp2_with (go_at_call 63; refine (implNumOk_c _ _).mono ?_; rintro e w' ⟨rfl, rfl⟩)
    go_ret
    exact ⟨by simp [itvOk, h1, h2, h3], (Chg.refl _ _).alloc _⟩
theorem specItvOk_c (lo hi : Int) (w : World) : Calls Tryz.prog 106 #[.agg #[.int .i64 lo, .int .i64 hi]] w fun e w' => e = .returned (.bool (itvOk ⟨lo, hi⟩)) ∧ Chg [] w w' := by
  by_cases h1 : numOk lo = true
  all_goals by_cases h2 : numOk hi = true
  all_goals by_cases h3 : lo ≤ hi
  all_goals
    (try rw [Bool.not_eq_true] at h1)
    (try rw [Bool.not_eq_true] at h2)
    go_enter Tryz.func106, Tryz.ntmps106
    go_wp2_with (go_at_call 72; refine (specNumOk_c _ _).mono ?_; rintro e w' ⟨rfl, rfl⟩)
    go_ret
    exact ⟨by simp [itvOk, h1, h2, h3], (Chg.refl _ _).alloc _⟩

/-- an instruction as a value -/
abbrev insV (i : InsIns) : Value := .agg #[.int .i64 i.Op, .int .i64 i.D, .int .i64 i.A, .int .i64 i.B, .int .i64 i.Rel, .int .i64 i.Lo, .int .i64 i.Hi, .int .i64 i.To]
theorem implEnds_c (i : InsIns) (w : World) : Calls Tryz.prog 117 #[insV i] w fun e w' => e = .returned (.bool (insEnds i)) ∧ Chg [] w w' := by
  by_cases h1 : (i.Op == 12) = true
  all_goals by_cases h2 : (i.Op == 9) = true
  all_goals
    (try rw [Bool.not_eq_true] at h1)
    (try rw [Bool.not_eq_true] at h2)
    go_enter Tryz.func117, Tryz.ntmps117
    go_wp2
    go_ret
    exact ⟨by simp [insEnds, h1, h2], (Chg.refl _ _).alloc _⟩
end Go.Proofs.YtjakhnhnjhafgaaGreat.Wk
namespace Go.Proofs.YtjakhnhnjhafgaaGreat.Wk
open Go Go.RowKit Go.Deep Ow
open Rp (R sz)

theorem mulB {a b : Int} (ha : -32768 ≤ a ∧ a ≤ 32767) (hb : -32768 ≤ b ∧ b ≤ 32767) : -1073741824 ≤ a * b ∧ a * b ≤ 1073741824 := by
  have h1 : a.natAbs ≤ 32768 := by omega
  have h2 : b.natAbs ≤ 32768 := by omega
  have h3 := Nat.mul_le_mul h1 h2
  rw [← Int.natAbs_mul] at h3
  omega
theorem tdivB {a b : Int} (ha : -32768 ≤ a ∧ a ≤ 32767) : -32768 ≤ a.tdiv b ∧ a.tdiv b ≤ 32768 := by
  have h1 : a.natAbs ≤ 32768 := by omega
  have h3 := Nat.div_le_self a.natAbs b.natAbs
  have h4 : (a.tdiv b).natAbs = a.natAbs / b.natAbs := Int.natAbs_tdiv a b
  generalize a.tdiv b = q at h4 ⊢
  generalize a.natAbs / b.natAbs = d at h3 h4
  omega

theorem specNumWrap_c (n : Int) (w : World) (hn : -9000000000000000000 ≤ n ∧ n ≤ 9000000000000000000) : Calls Tryz.prog 140 #[.int .i64 n] w fun e w' => e = .returned (.int .i64 (numWrap n)) ∧ w = w' := by
  obtain ⟨hn1, hn2⟩ := hn
  by_cases hs : 0 ≤ n
  · have ht : n.tmod 65536 = n % 65536 := Int.tmod_eq_emod_of_nonneg hs
    by_cases h2 : n % 65536 ≤ 32767
    all_goals
      go_enter Tryz.func140, Tryz.ntmps140
      go_wp2
      go_ret
      refine ⟨?_, rfl⟩
      show Ending.returned (.int .i64 _) = _
      congr 2
      unfold numWrap
      omega
  · have ht : n.tmod 65536 = -((-n) % 65536) := by
      have h := Int.neg_tmod (a := -n) (b := 65536)
      rw [Int.neg_neg] at h
      rw [h, Int.tmod_eq_emod_of_nonneg (by omega)]
    by_cases h1 : (-n) % 65536 = 0
    · have h3 : -((-n) % 65536) = 0 := by omega
      rw [h3] at ht
      go_enter Tryz.func140, Tryz.ntmps140
      go_wp2
      go_ret
      refine ⟨?_, rfl⟩
      show Ending.returned (.int .i64 _) = _
      congr 2
      unfold numWrap
      omega
    · have h3 : 0 < (-n) % 65536 := by omega
      by_cases h2 : -((-n) % 65536) + 65536 ≤ 32767
      all_goals
        go_enter Tryz.func140, Tryz.ntmps140
        go_wp2
        go_ret
        refine ⟨?_, rfl⟩
        show Ending.returned (.int .i64 _) = _
        congr 2
        unfold numWrap
        omega

theorem implNumWrap_c (n : Int) (w : World) : Calls Tryz.prog 206 #[.int .i64 n] w fun e w' => e = .returned (.int .i64 (numWrap n)) ∧ w = w' := by
  have h16 : IntKind.i16.wrap n = numWrap n := by
    simp [IntKind.wrap, IntKind.signed, IntKind.bits]
    unfold numWrap
    split <;> omega
  have hb := numWrap_ok n
  have h64 : wrap64 (numWrap n) = numWrap n := by unfold wrap64; omega
  go_enter Tryz.func206, Tryz.ntmps206
  go_wp2
  go_ret
  exact ⟨rfl, rfl⟩

theorem implRelHolds_c (r a b : Int) (w : World) : Calls Tryz.prog 178 #[.int .i64 r, .int .i64 a, .int .i64 b] w fun e w' => e = .returned (.bool (relHolds r a b)) ∧ w = w' := by
  by_cases h1 : r = 1
  · subst h1
    go_enter Tryz.func178, Tryz.ntmps178
    go_wp2
    go_ret
    exact ⟨rfl, rfl⟩
  by_cases h2 : r = 2
  · subst h2
    go_enter Tryz.func178, Tryz.ntmps178
    go_wp2
    go_ret
    exact ⟨rfl, rfl⟩
  by_cases h3 : r = 3
  · subst h3
    go_enter Tryz.func178, Tryz.ntmps178
    go_wp2
    go_ret
    exact ⟨rfl, rfl⟩
  by_cases h4 : r = 4
  · subst h4
    go_enter Tryz.func178, Tryz.ntmps178
    go_wp2
    go_ret
    exact ⟨rfl, rfl⟩
  go_enter Tryz.func178, Tryz.ntmps178
  go_wp2
  go_ret
  exact ⟨by simp [relHolds, h1, h2, h3, h4], rfl⟩
theorem specRelHolds_c (r a b : Int) (w : World) : Calls Tryz.prog 83 #[.int .i64 r, .int .i64 a, .int .i64 b] w fun e w' => e = .returned (.bool (relHolds r a b)) ∧ w = w' := by
  by_cases h1 : r = 1
  · subst h1
    go_enter Tryz.func83, Tryz.ntmps83
    go_wp2
    go_ret
    exact ⟨rfl, rfl⟩
  by_cases h2 : r = 2
  · subst h2
    go_enter Tryz.func83, Tryz.ntmps83
    go_wp2
    go_ret
    exact ⟨rfl, rfl⟩
  by_cases h3 : r = 3
  · subst h3
    go_enter Tryz.func83, Tryz.ntmps83
    go_wp2
    go_ret
    exact ⟨rfl, rfl⟩
  by_cases h4 : r = 4
  · subst h4
    go_enter Tryz.func83, Tryz.ntmps83
    go_wp2
    go_ret
    exact ⟨rfl, rfl⟩
  go_enter Tryz.func83, Tryz.ntmps83
  go_wp2
  go_ret
  exact ⟨by simp [relHolds, h1, h2, h3, h4], rfl⟩

theorem implInsRisks_c (r : Int) (w : World) : Calls Tryz.prog 12 #[.int .i64 r] w fun e w' => e = .returned (.bool (insRisks r)) ∧ w = w' := by
  by_cases h : r = 4 ∨ r = 6 ∨ r = 7 ∨ r = 10 ∨ r = 11
  · rcases h with rfl | rfl | rfl | rfl | rfl
    all_goals
      go_enter Tryz.func12, Tryz.ntmps12
      go_wp2
      go_ret
      exact ⟨rfl, rfl⟩
  · obtain ⟨h1, h2, h3, h4, h5⟩ : r ≠ 4 ∧ r ≠ 6 ∧ r ≠ 7 ∧ r ≠ 10 ∧ r ≠ 11 := by omega
    clear h
    go_enter Tryz.func12, Tryz.ntmps12
    go_wp2
    go_ret
    exact ⟨by simp [insRisks, h1, h2, h3, h4, h5], rfl⟩
theorem specInsRisks_c (r : Int) (w : World) : Calls Tryz.prog 73 #[.int .i64 r] w fun e w' => e = .returned (.bool (insRisks r)) ∧ w = w' := by
  by_cases h : r = 4 ∨ r = 6 ∨ r = 7 ∨ r = 10 ∨ r = 11
  · rcases h with rfl | rfl | rfl | rfl | rfl
    all_goals
      go_enter Tryz.func73, Tryz.ntmps73
      go_wp2
      go_ret
      exact ⟨rfl, rfl⟩
  · obtain ⟨h1, h2, h3, h4, h5⟩ : r ≠ 4 ∧ r ≠ 6 ∧ r ≠ 7 ∧ r ≠ 10 ∧ r ≠ 11 := by omega
    clear h
    go_enter Tryz.func73, Tryz.ntmps73
    go_wp2
    go_ret
    exact ⟨by simp [insRisks, h1, h2, h3, h4, h5], rfl⟩

theorem specNumDo_c (op a b : Int) (w : World) : Calls Tryz.prog 88 #[.int .i64 op, .int .i64 a, .int .i64 b] w fun e w' => e = .returned (.tuple #[.int .i64 (numDo op a b).1, .bool (numDo op a b).2]) ∧ w = w' := by
  by_cases ha : numOk a = true
  case neg =>
    rw [Bool.not_eq_true] at ha
    go_enter Tryz.func88, Tryz.ntmps88
    go_wp2_with (go_at_call 72; refine (specNumOk_c _ _).mono ?_; rintro e w' ⟨rfl, rfl⟩)
    go_ret2
    exact ⟨by simp [numDo, ha], rfl⟩
  by_cases hb : numOk b = true
  case neg =>
    rw [Bool.not_eq_true] at hb
    go_enter Tryz.func88, Tryz.ntmps88
    go_wp2_with (go_at_call 72; refine (specNumOk_c _ _).mono ?_; rintro e w' ⟨rfl, rfl⟩)
    go_ret2
    exact ⟨by simp [numDo, ha, hb], rfl⟩
  have ba := (numOk_iff a).1 ha
  have bb := (numOk_iff b).1 hb
  have bm := mulB ba bb
  have bd := tdivB (b := b) ba
  by_cases h1 : op = 1
  · subst h1
    go_enter Tryz.func88, Tryz.ntmps88
    go_wp2_with (first | (go_at_call 72; refine (specNumOk_c _ _).mono ?_; rintro e w' ⟨rfl, rfl⟩) | (go_at_call 140; refine (specNumWrap_c _ _ (by omega)).mono ?_; rintro e w' ⟨rfl, rfl⟩))
    go_ret2
    exact ⟨by simp [numDo, ha, hb], rfl⟩
  by_cases h2 : op = 2
  · subst h2
    go_enter Tryz.func88, Tryz.ntmps88
    go_wp2_with (first | (go_at_call 72; refine (specNumOk_c _ _).mono ?_; rintro e w' ⟨rfl, rfl⟩) | (go_at_call 140; refine (specNumWrap_c _ _ (by omega)).mono ?_; rintro e w' ⟨rfl, rfl⟩))
    go_ret2
    exact ⟨by simp [numDo, ha, hb], rfl⟩
  by_cases h3 : op = 3
  · subst h3
    go_enter Tryz.func88, Tryz.ntmps88
    go_wp2_with (first | (go_at_call 72; refine (specNumOk_c _ _).mono ?_; rintro e w' ⟨rfl, rfl⟩) | (go_at_call 140; refine (specNumWrap_c _ _ (by omega)).mono ?_; rintro e w' ⟨rfl, rfl⟩))
    go_ret2
    exact ⟨by simp [numDo, ha, hb], rfl⟩
  by_cases h4 : op = 4
  · subst h4
    by_cases hz : b = 0
    · subst hz
      go_enter Tryz.func88, Tryz.ntmps88
      go_wp2_with (first | (go_at_call 72; refine (specNumOk_c _ _).mono ?_; rintro e w' ⟨rfl, rfl⟩))
      go_ret2
      exact ⟨by simp [numDo, ha, hb], rfl⟩
    · go_enter Tryz.func88, Tryz.ntmps88
      go_wp2_with (first | (go_at_call 72; refine (specNumOk_c _ _).mono ?_; rintro e w' ⟨rfl, rfl⟩) | (go_at_call 140; refine (specNumWrap_c _ _ (by omega)).mono ?_; rintro e w' ⟨rfl, rfl⟩))
      go_ret2
      exact ⟨by simp [numDo, ha, hb, hz], rfl⟩
  go_enter Tryz.func88, Tryz.ntmps88
  go_wp2_with (first | (go_at_call 72; refine (specNumOk_c _ _).mono ?_; rintro e w' ⟨rfl, rfl⟩))
  go_ret2
  exact ⟨by simp [numDo, ha, hb, h1, h2, h3, h4], rfl⟩
end Go.Proofs.YtjakhnhnjhafgaaGreat.Wk
