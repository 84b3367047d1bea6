/- The program's runner: top. Written by a program of mine (wip/gen/gen_runner.py). -/
import Derived.Test.YtjakhnhnjhafgaaGreatZRunMem
import Derived.Test.YtjakhnhnjhafgaaGreatZBase
import Derived.Deep.RegionHeld3
import Derived.Test.YtjakhnhnjhafgaaGreatZPlain
set_option linter.unusedVariables false
set_option linter.unusedSimpArgs false
namespace Go.Proofs.YtjakhnhnjhafgaaGreat.Wk
open Go Go.RowKit Go.Deep Ow
open Rp (R sz)

set_option maxRecDepth 100000 in
set_option maxHeartbeats 1000000 in
theorem top_c (X b off m cap : Nat) (w : World) (hX : w.cell? ⟨X, 2, none⟩ = some (.slice (some ⟨b, off, none⟩) (m + 1) cap)) (hm : (m : Int) + 1 ≤ 9223372036854775807) :
    Calls Tryz.prog 174 #[.pointer (some ⟨X, 0, none⟩)] w fun e w' => e = .returned (.pointer (some ⟨b, off + m * 4, none⟩)) ∧ Chg [] w w' := by
  have hsub : ((m : Int) + 1 - 1) = m := by omega
  go_enter Tryz.func174, Tryz.ntmps174
  go_wp2_with fail
  go_quiet (fail)
  go_wp2
  go_ret
  exact ⟨rfl, Chg.c⟩
end Go.Proofs.YtjakhnhnjhafgaaGreat.Wk
namespace Go.Proofs.YtjakhnhnjhafgaaGreat.Wk
open Go Go.RowKit Go.Deep Ow
open Rp (R sz)

theorem implHas_c (lo hi n : Int) (hok : itvOk ⟨lo, hi⟩ = true) (w : World) : Calls Tryz.prog 108 #[.agg #[.int .i64 lo, .int .i64 hi], .int .i64 n] w fun e w' => e = .returned (.bool (decide (lo ≤ n) && decide (n ≤ hi))) ∧ Chg [] w w' := by
  have hok' := Lib.hid hok
  clear hok
  by_cases h1 : n ≥ lo
  all_goals by_cases h2 : n ≤ hi
  all_goals
    go_enter Tryz.func108, Tryz.ntmps108
    go_wp2_with (go_at_call 113; refine (implItvOk_c _ _ _).mono ?_; rintro e w5 ⟨rfl, hc5⟩; rw [hok'.out]; have k0 := hc5.cell0 (p := ⟨w.heap.size, 0, none⟩) (v := .int .i64 lo) (by simp [go_sem]); have k1 := hc5.cell0 (p := ⟨w.heap.size, 1, none⟩) (v := .int .i64 hi) (by simp [go_sem]))
    go_ret
    exact ⟨by first | (simp [h2, show lo ≤ n from h1]; done) | (simp [show ¬ lo ≤ n by omega]; done), Chg.k⟩

theorem failNo_c (X : Nat) (w : World) : Calls Tryz.prog 176 #[.pointer (some ⟨X, 0, none⟩), .bool false] w fun e w' => e = .returned (.tuple #[]) ∧ Chg [] w w' := by
  go_enter Tryz.func176, Tryz.ntmps176
  go_wp2
  go_end0
  exact ⟨rfl, Chg.c⟩
set_option maxRecDepth 100000 in
set_option maxHeartbeats 1000000 in
theorem failYes_c (X b off m cap : Nat) (f : RunFrame) (w : World) (hX : w.cell? ⟨X, 2, none⟩ = some (.slice (some ⟨b, off, none⟩) (m + 1) cap)) (hm : (m : Int) + 1 ≤ 9223372036854775807)
    (c0 : w.cell? ⟨b, off + m * 4, none⟩ = some (.int .i64 f.Proc)) (c1 : w.cell? ⟨b, off + m * 4 + 1, none⟩ = some (.int .i64 f.Pc)) :
    Calls Tryz.prog 176 #[.pointer (some ⟨X, 0, none⟩), .bool true] w fun e w' => e = .panicked [{ v := .iface 182 (runV (runFail f) (.slice none 0 0)), recovered := false }] ∧ Chg [] w w' := by
  have htop := fun (wx : World) (hx : Chg [] w wx) => top_c X b off m cap wx (hx.cell0 hX) hm
  clear hX hm
  go_enter Tryz.func176, Tryz.ntmps176
  go_wp2_with fail
  refine wp_region_any (by kernel_rfl) ?_
  change wpAny _ _ _ _ _ _ _ (World.drew _)
  refine wpAny_take (i := 0) (v := ?_) rfl (by kernel_rfl) (by kernel_rfl) (by kernel_rfl) (fun _ _ _ h => h) (Or.inl ⟨by rfl, ?_⟩) ?_
  rotate_left
  focus (intro w; go_simp <;> with_reducible rfl)
  rotate_right
  refine wpAny_take (i := 5) (v := ?_) rfl (by kernel_rfl) (by kernel_rfl) (by kernel_rfl) (fun _ _ _ h => h) (Or.inl ⟨by rfl, ?_⟩) ?_
  rotate_left
  focus (intro w; go_simp <;> with_reducible rfl)
  rotate_right
  refine wpAny_ready (rs := [1]) (by kernel_rfl) (by simp) ?_
  refine AllReady.cons rfl (fun K hK => ?_) ?_
  focus
    go_simp
    go_wp2_with (go_at_call 174; refine (htop _ (Chg.k)).mono ?_; rintro e w5 ⟨rfl, hc5⟩; have hK5 : Chg [] w w5 := Chg.trans0 (show Chg [] w _ from Chg.k) hc5; have k0 := hK5.cell0 c0; have k1 := hK5.cell0 c1)
    refine wpAny_take (i := 2) (v := ?_) rfl (by kernel_rfl) (by kernel_rfl) (by kernel_rfl) (fun _ _ _ h => h) (Or.inl ⟨by rfl, ?_⟩) ?_
    rotate_left
    focus (intro w; go_simp <;> with_reducible rfl)
    rotate_right
    refine wpAny_take (i := 3) (v := ?_) rfl (by kernel_rfl) (by kernel_rfl) (by kernel_rfl) (fun _ _ _ h => h) (Or.inl ⟨by rfl, ?_⟩) ?_
    rotate_left
    focus (intro w; go_simp <;> with_reducible rfl)
    rotate_right
    refine wpAny_ready (rs := [4, 6]) (by kernel_rfl) (by simp) ?_
    refine AllReady.cons rfl (fun K hK => ?_) ?_
    focus
      go_simp
      refine hK _ _ ?_
      clear hK K
      refine wpAny_ready (rs := [6]) (by kernel_rfl) (by simp) ?_
      refine AllReady.cons rfl (fun K hK => ?_) ?_
      focus
        go_simp
        go_wp2_with (go_at_call 174; refine (htop _ (Chg.k)).mono ?_; rintro e w5 ⟨rfl, hc5⟩; have hK5 : Chg [] w w5 := Chg.trans0 (show Chg [] w _ from Chg.k) hc5; have k0 := hK5.cell0 c0; have k1 := hK5.cell0 c1)
        refine wpAny_take (i := 7) (v := ?_) rfl (by kernel_rfl) (by kernel_rfl) (by kernel_rfl) (fun _ _ _ h => h) (Or.inl ⟨by rfl, ?_⟩) ?_
        rotate_left
        focus (intro w; go_simp <;> with_reducible rfl)
        rotate_right
        refine wpAny_take (i := 8) (v := ?_) rfl (by kernel_rfl) (by kernel_rfl) (by kernel_rfl) (fun _ _ _ h => h) (Or.inl ⟨by rfl, ?_⟩) ?_
        rotate_left
        focus (intro w; go_simp <;> with_reducible rfl)
        rotate_right
        refine wpAny_ready (rs := [9]) (by kernel_rfl) (by simp) ?_
        refine AllReady.cons rfl (fun K hK => ?_) ?_
        focus
          go_simp
          refine hK _ _ ?_
          clear hK K
          refine wpAny_take (i := 10) (v := ?_) rfl (by kernel_rfl) (by kernel_rfl) (by kernel_rfl) (fun _ _ _ h => h) (Or.inl ⟨by rfl, ?_⟩) ?_
          rotate_left
          focus (intro w; go_simp <;> with_reducible rfl)
          rotate_right
          refine wpAny_take (i := 11) (v := ?_) rfl (by kernel_rfl) (by kernel_rfl) (by kernel_rfl) (fun _ _ _ h => h) (Or.inl ⟨by rfl, ?_⟩) ?_
          rotate_left
          focus (intro w; go_simp <;> with_reducible rfl)
          rotate_right
          refine wpAny_take (i := 12) (v := ?_) rfl (by kernel_rfl) (by kernel_rfl) (by kernel_rfl) (fun _ _ _ h => h) (Or.inl ⟨by rfl, ?_⟩) ?_
          rotate_left
          focus (intro w; go_simp <;> with_reducible rfl)
          rotate_right
          refine wpAny_ready (rs := [13]) (by kernel_rfl) (by simp) ?_
          refine AllReady.cons rfl (fun K hK => ?_) ?_
          focus
            go_simp
            exact ⟨rfl, rfl, Chg.k⟩
          exact AllReady.nil
        exact AllReady.nil
      exact AllReady.nil
    refine AllReady.cons rfl (fun K hK => ?_) ?_
    focus
      go_simp
      go_wp2_with (go_at_call 174; refine (htop _ (Chg.k)).mono ?_; rintro e w5 ⟨rfl, hc5⟩; have hK5 : Chg [] w w5 := Chg.trans0 (show Chg [] w _ from Chg.k) hc5; have k0 := hK5.cell0 c0; have k1 := hK5.cell0 c1)
      refine wpAny_take (i := 7) (v := ?_) rfl (by kernel_rfl) (by kernel_rfl) (by kernel_rfl) (fun _ _ _ h => h) (Or.inl ⟨by rfl, ?_⟩) ?_
      rotate_left
      focus (intro w; go_simp <;> with_reducible rfl)
      rotate_right
      refine wpAny_take (i := 8) (v := ?_) rfl (by kernel_rfl) (by kernel_rfl) (by kernel_rfl) (fun _ _ _ h => h) (Or.inl ⟨by rfl, ?_⟩) ?_
      rotate_left
      focus (intro w; go_simp <;> with_reducible rfl)
      rotate_right
      refine wpAny_ready (rs := [4, 9]) (by kernel_rfl) (by simp) ?_
      refine AllReady.cons rfl (fun K hK => ?_) ?_
      focus
        go_simp
        refine hK _ _ ?_
        clear hK K
        refine wpAny_ready (rs := [9]) (by kernel_rfl) (by simp) ?_
        refine AllReady.cons rfl (fun K hK => ?_) ?_
        focus
          go_simp
          refine hK _ _ ?_
          clear hK K
          refine wpAny_take (i := 10) (v := ?_) rfl (by kernel_rfl) (by kernel_rfl) (by kernel_rfl) (fun _ _ _ h => h) (Or.inl ⟨by rfl, ?_⟩) ?_
          rotate_left
          focus (intro w; go_simp <;> with_reducible rfl)
          rotate_right
          refine wpAny_take (i := 11) (v := ?_) rfl (by kernel_rfl) (by kernel_rfl) (by kernel_rfl) (fun _ _ _ h => h) (Or.inl ⟨by rfl, ?_⟩) ?_
          rotate_left
          focus (intro w; go_simp <;> with_reducible rfl)
          rotate_right
          refine wpAny_take (i := 12) (v := ?_) rfl (by kernel_rfl) (by kernel_rfl) (by kernel_rfl) (fun _ _ _ h => h) (Or.inl ⟨by rfl, ?_⟩) ?_
          rotate_left
          focus (intro w; go_simp <;> with_reducible rfl)
          rotate_right
          refine wpAny_ready (rs := [13]) (by kernel_rfl) (by simp) ?_
          refine AllReady.cons rfl (fun K hK => ?_) ?_
          focus
            go_simp
            exact ⟨rfl, rfl, Chg.k⟩
          exact AllReady.nil
        exact AllReady.nil
      refine AllReady.cons rfl (fun K hK => ?_) ?_
      focus
        go_simp
        refine hK _ _ ?_
        clear hK K
        refine wpAny_ready (rs := [4]) (by kernel_rfl) (by simp) ?_
        refine AllReady.cons rfl (fun K hK => ?_) ?_
        focus
          go_simp
          refine hK _ _ ?_
          clear hK K
          refine wpAny_take (i := 10) (v := ?_) rfl (by kernel_rfl) (by kernel_rfl) (by kernel_rfl) (fun _ _ _ h => h) (Or.inl ⟨by rfl, ?_⟩) ?_
          rotate_left
          focus (intro w; go_simp <;> with_reducible rfl)
          rotate_right
          refine wpAny_take (i := 11) (v := ?_) rfl (by kernel_rfl) (by kernel_rfl) (by kernel_rfl) (fun _ _ _ h => h) (Or.inl ⟨by rfl, ?_⟩) ?_
          rotate_left
          focus (intro w; go_simp <;> with_reducible rfl)
          rotate_right
          refine wpAny_take (i := 12) (v := ?_) rfl (by kernel_rfl) (by kernel_rfl) (by kernel_rfl) (fun _ _ _ h => h) (Or.inl ⟨by rfl, ?_⟩) ?_
          rotate_left
          focus (intro w; go_simp <;> with_reducible rfl)
          rotate_right
          refine wpAny_ready (rs := [13]) (by kernel_rfl) (by simp) ?_
          refine AllReady.cons rfl (fun K hK => ?_) ?_
          focus
            go_simp
            exact ⟨rfl, rfl, Chg.k⟩
          exact AllReady.nil
        exact AllReady.nil
      exact AllReady.nil
    exact AllReady.nil
  exact AllReady.nil
end Go.Proofs.YtjakhnhnjhafgaaGreat.Wk
namespace Go.Proofs.YtjakhnhnjhafgaaGreat.Wk
open Go Go.RowKit Go.Deep Ow
open Rp (R sz)

theorem cellOk_c (X b off m cap a bX oX nX kX : Nat) (w : World) (hX : w.cell? ⟨X, 2, none⟩ = some (.slice (some ⟨b, off, none⟩) (m + 1) cap)) (hm : (m : Int) + 1 ≤ 9223372036854775807)
    (c3 : w.cell? ⟨b, off + m * 4 + 3, none⟩ = some (.slice (some ⟨bX, oX, none⟩) nX kX)) (ha4 : a < 4) (han : a < nX) :
    Calls Tryz.prog 177 #[.pointer (some ⟨X, 0, none⟩), .int .i64 a] w fun e w' => e = .returned (.pointer (some ⟨bX, oX + a, none⟩)) ∧ Chg [] w w' := by
  have htop := fun (wx : World) (hx : Chg [] w wx) => top_c X b off m cap wx (hx.cell0 hX) hm
  have hbl := Lib.hid (below_nat ha4)
  have haI : (a : Int) < nX := by omega
  clear hX hm ha4
  go_enter Tryz.func177, Tryz.ntmps177
  go_wp2_with (first
    | (go_at_call 98; refine (implBelow_c _ _ _).mono ?_; rintro e w7 ⟨rfl, rfl⟩; rw [hbl.out])
    | (go_at_call 176; refine (failNo_c X _).mono ?_; rintro e w4 ⟨rfl, hc4⟩; have hK4 : Chg [] w w4 := Chg.trans0 (show Chg [] w _ from Chg.c) hc4)
    | (go_at_call 174; refine (htop _ (Chg.k)).mono ?_; rintro e w5 ⟨rfl, hc5⟩; have hK5 : Chg [] w w5 := Chg.trans0 (show Chg [] w _ from Chg.k) hc5; have k3 := hK5.cell0 c3))
  go_ret
  exact ⟨rfl, Chg.k⟩
theorem cellBad_c (X b off m cap : Nat) (n : Int) (f : RunFrame) (w : World) (hX : w.cell? ⟨X, 2, none⟩ = some (.slice (some ⟨b, off, none⟩) (m + 1) cap)) (hm : (m : Int) + 1 ≤ 9223372036854775807)
    (c0 : w.cell? ⟨b, off + m * 4, none⟩ = some (.int .i64 f.Proc)) (c1 : w.cell? ⟨b, off + m * 4 + 1, none⟩ = some (.int .i64 f.Pc)) (hbad : below n 4 = false) :
    Calls Tryz.prog 177 #[.pointer (some ⟨X, 0, none⟩), .int .i64 n] w fun e w' => e = .panicked [{ v := .iface 182 (runV (runFail f) (.slice none 0 0)), recovered := false }] ∧ Chg [] w w' := by
  have hfl := fun (wx : World) (hx : Chg [] w wx) => failYes_c X b off m cap f wx (hx.cell0 hX) hm (hx.cell0 c0) (hx.cell0 c1)
  have hbl := Lib.hid hbad
  clear hX hm hbad c0 c1
  go_enter Tryz.func177, Tryz.ntmps177
  go_wp2_with (first
    | (go_at_call 98; refine (implBelow_c _ _ _).mono ?_; rintro e w7 ⟨rfl, rfl⟩; rw [hbl.out])
    | (go_at_call 176; refine (hfl _ (Chg.c)).mono ?_; rintro e w4 ⟨rfl, hc4⟩; have hK4 : Chg [] w w4 := Chg.trans0 (show Chg [] w _ from Chg.c) hc4))
  exact ⟨rfl, rfl, Chg.k⟩
end Go.Proofs.YtjakhnhnjhafgaaGreat.Wk
