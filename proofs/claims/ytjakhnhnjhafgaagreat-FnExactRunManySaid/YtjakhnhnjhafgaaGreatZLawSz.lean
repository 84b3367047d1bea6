/-
  Contracts of the laws' own functions, written by a program of mine (wip/gen/gen_laws.py).
-/
import Derived.Test.YtjakhnhnjhafgaaGreatZBase
set_option linter.unusedVariables false
set_option linter.unusedSimpArgs false
namespace Go.Proofs.YtjakhnhnjhafgaaGreat.Wk
open Go Go.RowKit Go.Deep Ow
open Rp (R sz)
open Mk (mark cnt)
open Zr (zero zcells zr)

set_option maxRecDepth 100000 in
set_option maxHeartbeats 2000000 in
theorem heldIntS_c (xs : List Int) (k0 : Int) (a : Value) (F : List Nat) (w : World) (ha : RL w (mkL xs k0) a F) (hk0 : 0 ≤ k0) (hk1 : k0 + cntL xs ≤ 4611686018427387904) :
    Calls Tryz.prog 146 #[a, .int .i64 k0] w fun e w' => e = .returned (.int .i64 (k0 + cntL xs)) ∧ Chg [] w w' := by
  obtain ⟨A, ca, rfl, hla, hma⟩ := ha.form
  rw [mkL_length] at *
  have hn : xs.length ≤ maxLen := by omega
  unfold maxLen at hn
  go_enter Tryz.func146, Tryz.ntmps146
  go_wp2
  go_loopw [1, 5] (fun kk i wr => ∃ k : Nat, k ≤ xs.length ∧ i = .int .i64 k ∧ kk = .int .i64 (k0 + cntL (xs.take k)) ∧ Chg [] w wr) (fun _ i _ => xs.length - (intOf i).toNat)
  case atStart => exact ⟨0, Nat.zero_le _, rfl, by simp [cntL], Chg.refl _ _⟩
  case round =>
    obtain ⟨k, hk, rfl, rfl, hc⟩ := hrel
    by_cases hlt : k < xs.length
    · obtain ⟨b, off, cap, cs, Fi, e1, r1, m1, -⟩ := (ha.chg0 hc).elem (i := k) (by simpa using hlt)
      rw [mkL_at xs k0 hlt] at r1
      rw [mkL_length] at e1
      have hct := cntL_take_le xs (k + 1)
      rw [cntL_succ xs hlt] at hct
      change R wr ((k0 + (cntL (xs.take k) : Int))) cs Fi at r1
      obtain ⟨rfl, -, i1_0⟩ := R_int.1 r1
      injection e1 with e1 _ e1c
      subst e1 e1c
      have ya0 := m1 0 (by decide)
      simp only [sz_int, Nat.mul_one, Nat.add_zero, List.getElem?_cons_zero] at ya0
      change cntL (xs.take k) + 1 ≤ _ at hct
      have hq0 : 0 ≤ k0 + (cntL (xs.take k) : Int) := by omega
      have hq1 : k0 + (cntL (xs.take k) : Int) + 1 ≤ 4611686018427387904 := by omega
      generalize hq : k0 + (cntL (xs.take k) : Int) = q at *
      have HC := Lib.hid hc
      have HqE := Lib.hid hq
      clear r1 m1 hc hct hq ha
      have ti15 : (q != q) = false := by simp
      go_wp2
      go_roundw
      case rel =>
        refine ⟨k + 1, by omega, by go_num, ?_, HC.out⟩
        rw [cntL_succ xs hlt, ← HqE.out]
        change _ = Value.int IntKind.i64 (k0 + ((cntL (xs.take k) + 1 : Nat) : Int))
        go_num
      case measure => simp [intOf]; omega
    · rw [cntL_all xs (by omega)] at *
      have HC := Lib.hid hc
      clear hc ha
      go_wp2
      go_ret
      exact ⟨rfl, HC.out⟩

set_option maxRecDepth 100000 in
set_option maxHeartbeats 2000000 in
theorem heldRunFrameS_c (xs : List RunFrame) (k0 : Int) (a : Value) (F : List Nat) (w : World) (ha : RL w (mkL xs k0) a F) (hk0 : 0 ≤ k0) (hk1 : k0 + cntL xs ≤ 4611686018427387904) :
    Calls Tryz.prog 95 #[a, .int .i64 k0] w fun e w' => e = .returned (.int .i64 (k0 + cntL xs)) ∧ Chg [] w w' := by
  obtain ⟨A, ca, rfl, hla, hma⟩ := ha.form
  rw [mkL_length] at *
  have hn : xs.length ≤ maxLen := by omega
  unfold maxLen at hn
  go_enter Tryz.func95, Tryz.ntmps95
  go_wp2
  go_loopw [1, 5] (fun kk i wr => ∃ k : Nat, k ≤ xs.length ∧ i = .int .i64 k ∧ kk = .int .i64 (k0 + cntL (xs.take k)) ∧ Chg [] w wr) (fun _ i _ => xs.length - (intOf i).toNat)
  case atStart => exact ⟨0, Nat.zero_le _, rfl, by simp [cntL], Chg.refl _ _⟩
  case round =>
    obtain ⟨k, hk, rfl, rfl, hc⟩ := hrel
    by_cases hlt : k < xs.length
    · obtain ⟨b, off, cap, cs, Fi, e1, r1, m1, -⟩ := (ha.chg0 hc).elem (i := k) (by simpa using hlt)
      rw [mkL_at xs k0 hlt] at r1
      rw [mkL_length] at e1
      have hct := cntL_take_le xs (k + 1)
      rw [cntL_succ xs hlt] at hct
      rw [mark_RunFrame] at r1
      obtain ⟨v1_0, F1_0, v1_1, F1_1, rfl, hF1, i1_0, i1_1, g1_0, g1_1⟩ := R_RunFrame.1 r1
      injection e1 with e1 _ e1c
      subst e1 e1c
      have ya0 := m1 0 (by decide)
      have ya1 := m1 1 (by decide)
      have ya2 := m1 2 (by decide)
      have ya3 := m1 3 (by decide)
      simp only [sz_RunFrame, Nat.add_zero, List.getElem?_cons_zero, List.getElem?_cons_succ] at ya0 ya1 ya2 ya3
      simp only [cnt_RunFrame] at hct
      have hq0 : 0 ≤ k0 + (cntL (xs.take k) : Int) := by omega
      have hq1 : k0 + (cntL (xs.take k) : Int) + 1 + 1 + (cntL xs[k].Vars : Int) + (cntL xs[k].Cells : Int) ≤ 4611686018427387904 := by omega
      generalize hq : k0 + (cntL (xs.take k) : Int) = q at *
      have HC := Lib.hid hc
      have HqE := Lib.hid hq
      clear r1 m1 hc hct hq ha
      have ti18 : (q != q) = false := by simp
      have ti19 : (q + 1 != q + 1) = false := by simp
      go_wp2_with fail
      refine (heldIntS_c xs[k].Vars (q + 1 + 1) _ _ _ (by exact RL.same g1_0 rfl) (by omega) (by omega)).mono ?_
      rintro e w1 ⟨rfl, hc1⟩
      replace ya0 := hc1.cell0 ya0
      replace ya1 := hc1.cell0 ya1
      replace ya2 := hc1.cell0 ya2
      replace ya3 := hc1.cell0 ya3
      have HCW := Lib.hid hc1
      clear hc1
      go_wp2_with fail
      refine (heldIntS_c xs[k].Cells (q + 1 + 1 + (cntL xs[k].Vars : Int)) _ _ _ (by exact RL.same (RL.chg0 g1_1 HCW.out) rfl) (by omega) (by omega)).mono ?_
      rintro e w2 ⟨rfl, hc2⟩
      replace ya0 := hc2.cell0 ya0
      replace ya1 := hc2.cell0 ya1
      replace ya2 := hc2.cell0 ya2
      replace ya3 := hc2.cell0 ya3
      have HCW' := Lib.hid (HCW.out.trans0 hc2)
      clear HCW hc2
      have HCW := HCW'
      clear HCW'
      go_wp2
      go_roundw
      case rel =>
        refine ⟨k + 1, by omega, by go_num, ?_, HC.out.trans0 HCW.out⟩
        rw [cntL_succ xs hlt, ← HqE.out]
        rw [cnt_RunFrame]
        go_num
      case measure => simp [intOf]; omega
    · rw [cntL_all xs (by omega)] at *
      have HC := Lib.hid hc
      clear hc ha
      go_wp2
      go_ret
      exact ⟨rfl, HC.out⟩

set_option maxRecDepth 100000 in
set_option maxHeartbeats 1000000 in
theorem heldRunRun_c (x : RunRun) (k0 : Int) (vFrames : Value) (FFrames : List Nat) (w : World) (hFrames : RL w (mkL x.Frames (k0)) vFrames FFrames) (hk0 : 0 ≤ k0) (hk1 : k0 + (cntL x.Frames : Int) ≤ 4611686018427387904) : Calls Tryz.prog 32 #[.agg #[.int .i64 x.State, vFrames, .int .i64 x.Out, .int .i64 x.Proc, .int .i64 x.Pc], .int .i64 k0] w fun e w' => e = .returned (.int .i64 (k0 + (cntL x.Frames : Int))) ∧ Chg [] w w' := by
  go_enter Tryz.func32, Tryz.ntmps32
  go_wp2_with fail
  refine (heldRunFrameS_c x.Frames (k0) _ _ _ (hFrames.chg0 (Chg.f)) (by omega) (by omega)).mono ?_
  rintro e w1 ⟨rfl, hc1⟩
  obtain ⟨hcl1, hfz1⟩ := hc1.cells
  have hz1 := hc1.size
  repeat (first | rw [World.size_alloc] at hz1 | rw [World.size_setCell] at hz1 | rw [World.size_drew] at hz1 | rw [World.heap_drewN] at hz1)
  have hza1 : w.heap.size < w1.heap.size := by omega
  go_wp2
  go_ret
  exact ⟨rfl, by repeat (with_reducible first | exact Chg.refl _ _ | refine Chg.r ?_ _ | refine Chg.alloc ?_ _ | refine Chg.drewN ?_ _ | refine Chg.drew ?_ | refine Chg.trans0 ?_ hc1)⟩

end Go.Proofs.YtjakhnhnjhafgaaGreat.Wk
namespace Go.Proofs.YtjakhnhnjhafgaaGreat.Wk
open Go Go.RowKit Go.Deep Ow
open Rp (R sz)
open Mk (mark cnt)
open Zr (zero zcells zr)

set_option maxRecDepth 100000 in
set_option maxHeartbeats 4000000 in
theorem markInsInsS_c (xs : List InsIns) (k0 : Int) (a : Value) (F : List Nat) (w : World) (ha : RL w xs a F) (ho : Own w F) (hk0 : 0 ≤ k0) (hk1 : k0 + cntL xs ≤ 4611686018427387904) :
    Calls Tryz.prog 145 #[a, .int .i64 k0] w fun e w' => e = .returned (.int .i64 (k0 + cntL xs)) ∧ Chg F w w' ∧ RL w' (mkL xs k0) a F ∧ Own w' F := by
  obtain ⟨A, ca, rfl, hla, hma⟩ := ha.form
  have hn : xs.length ≤ maxLen := by omega
  unfold maxLen at hn
  go_enter Tryz.func145, Tryz.ntmps145
  go_wp2
  go_loopw [1, 5] (fun kk i wr => ∃ k : Nat, k ≤ xs.length ∧ i = .int .i64 k ∧ kk = .int .i64 (k0 + cntL (xs.take k)) ∧ Chg F w wr ∧ RL wr (midL xs k0 k) (.slice A xs.length ca) F ∧ Own wr F) (fun _ i _ => xs.length - (intOf i).toNat)
  case atStart => exact ⟨0, Nat.zero_le _, rfl, by simp [cntL], Chg.refl _ _, by rw [midL_zero]; exact ha, ho⟩
  case round =>
    obtain ⟨k, hk, rfl, rfl, hc, hr, ho'⟩ := hrel
    by_cases hlt : k < xs.length
    · obtain ⟨b, off, cap, cs, Fi, e1, r1, m1, hFi, hbF, hbn, hnd, E0, shut⟩ := hr.open_elt ho'.nodup (i := k) (by simpa using hlt)
      rw [midL_at xs k0 hlt] at r1
      rw [midL_length] at e1
      have hct := cntL_take_le xs (k + 1)
      rw [cntL_succ xs hlt] at hct
      obtain ⟨rfl, hF1, i1_0, i1_1, i1_2, i1_3, i1_4, i1_5, i1_6, i1_7⟩ := R_InsIns.1 r1
      injection e1 with e1 _ e1c
      subst e1 e1c
      have ya0 := m1 0 (by decide)
      have ya1 := m1 1 (by decide)
      have ya2 := m1 2 (by decide)
      have ya3 := m1 3 (by decide)
      have ya4 := m1 4 (by decide)
      have ya5 := m1 5 (by decide)
      have ya6 := m1 6 (by decide)
      have ya7 := m1 7 (by decide)
      simp only [sz_InsIns, Nat.add_zero, List.getElem?_cons_zero, List.getElem?_cons_succ] at E0 shut ya0 ya1 ya2 ya3 ya4 ya5 ya6 ya7
      simp only [cnt_InsIns] at hct
      have hq0 : 0 ≤ k0 + (cntL (xs.take k) : Int) := by omega
      have hq1 : k0 + (cntL (xs.take k) : Int) + 1 + 1 + 1 + 1 + 1 + 1 + 1 + 1 ≤ 4611686018427387904 := by omega
      generalize hq : k0 + (cntL (xs.take k) : Int) = q at *
      have HOF := Lib.hid ho'
      have HLt := Lib.hid hr.lt
      have S := Lib.hid shut
      have HE := Lib.hid E0
      have HC := Lib.hid hc
      have HqE := Lib.hid hq
      have HFi := Lib.hid hFi
      have Hbn := Lib.hid hbn
      have yf0 := ho'.frozen hbF (o := off + k * 8)
      have yf1 := ho'.frozen hbF (o := off + k * 8 + 1)
      have yf2 := ho'.frozen hbF (o := off + k * 8 + 2)
      have yf3 := ho'.frozen hbF (o := off + k * 8 + 3)
      have yf4 := ho'.frozen hbF (o := off + k * 8 + 4)
      have yf5 := ho'.frozen hbF (o := off + k * 8 + 5)
      have yf6 := ho'.frozen hbF (o := off + k * 8 + 6)
      have yf7 := ho'.frozen hbF (o := off + k * 8 + 7)
      clear shut E0 hc ho' hct hq ha ho r1 m1 hr hFi hbn hnd
      clear i1_0 i1_1 i1_2 i1_3 i1_4 i1_5 i1_6 i1_7
      subst hF1
      go_wp2
      go_roundw
      case rel =>
        have hW := ((((((((HE.out.store0 (by simp) (.int .i64 (q))).store 1 (by simp) (.int .i64 (q + 1))).store 2 (by simp) (.int .i64 (q + 1 + 1))).store 3 (by simp) (.int .i64 (q + 1 + 1 + 1))).store 4 (by simp) (.int .i64 (q + 1 + 1 + 1 + 1))).store 5 (by simp) (.int .i64 (q + 1 + 1 + 1 + 1 + 1))).store 6 (by simp) (.int .i64 (q + 1 + 1 + 1 + 1 + 1 + 1))).store 7 (by simp) (.int .i64 (q + 1 + 1 + 1 + 1 + 1 + 1 + 1)))
        refine ⟨k + 1, by omega, by go_num, ?_, by repeat (with_reducible first | exact HC.out | refine Chg.setCell ?_ (Or.inl hbF) _), ?_, by repeat (with_reducible first | exact HOF.out | refine Own.setCell ?_ _ _)⟩
        · rw [cntL_succ xs hlt, ← HqE.out]
          rw [cnt_InsIns]
          go_num
        · rw [midL_succ xs k0 hlt, HqE.out]
          refine S.out _ _ _ (R_InsIns.2 ⟨?_, rfl, ⟨by simp only [mark_InsIns]; omega, by simp only [mark_InsIns]; omega⟩, ⟨by simp only [mark_InsIns]; omega, by simp only [mark_InsIns]; omega⟩, ⟨by simp only [mark_InsIns]; omega, by simp only [mark_InsIns]; omega⟩, ⟨by simp only [mark_InsIns]; omega, by simp only [mark_InsIns]; omega⟩, ⟨by simp only [mark_InsIns]; omega, by simp only [mark_InsIns]; omega⟩, ⟨by simp only [mark_InsIns]; omega, by simp only [mark_InsIns]; omega⟩, ⟨by simp only [mark_InsIns]; omega, by simp only [mark_InsIns]; omega⟩, ⟨by simp only [mark_InsIns]; omega, by simp only [mark_InsIns]; omega⟩⟩) hW
          all_goals first | rfl | simp [mark_InsIns]
      case measure => simp [intOf]; omega
    · rw [cntL_all xs (by omega)] at *
      rw [midL_all xs k0 (by omega)] at hr
      have HR := Lib.hid hr
      have HC := Lib.hid hc
      have HO := Lib.hid ho'
      clear hr hc ho' ha ho
      go_wp2
      go_ret
      exact ⟨rfl, HC.out, HR.out, HO.out⟩

set_option maxRecDepth 100000 in
set_option maxHeartbeats 4000000 in
theorem markPrcProcS_c (xs : List PrcProc) (k0 : Int) (a : Value) (F : List Nat) (w : World) (ha : RL w xs a F) (ho : Own w F) (hk0 : 0 ≤ k0) (hk1 : k0 + cntL xs ≤ 4611686018427387904) :
    Calls Tryz.prog 93 #[a, .int .i64 k0] w fun e w' => e = .returned (.int .i64 (k0 + cntL xs)) ∧ Chg F w w' ∧ RL w' (mkL xs k0) a F ∧ Own w' F := by
  obtain ⟨A, ca, rfl, hla, hma⟩ := ha.form
  have hn : xs.length ≤ maxLen := by omega
  unfold maxLen at hn
  go_enter Tryz.func93, Tryz.ntmps93
  go_wp2
  go_loopw [1, 5] (fun kk i wr => ∃ k : Nat, k ≤ xs.length ∧ i = .int .i64 k ∧ kk = .int .i64 (k0 + cntL (xs.take k)) ∧ Chg F w wr ∧ RL wr (midL xs k0 k) (.slice A xs.length ca) F ∧ Own wr F) (fun _ i _ => xs.length - (intOf i).toNat)
  case atStart => exact ⟨0, Nat.zero_le _, rfl, by simp [cntL], Chg.refl _ _, by rw [midL_zero]; exact ha, ho⟩
  case round =>
    obtain ⟨k, hk, rfl, rfl, hc, hr, ho'⟩ := hrel
    by_cases hlt : k < xs.length
    · obtain ⟨b, off, cap, cs, Fi, e1, r1, m1, hFi, hbF, hbn, hnd, E0, shut⟩ := hr.open_elt ho'.nodup (i := k) (by simpa using hlt)
      rw [midL_at xs k0 hlt] at r1
      rw [midL_length] at e1
      have hct := cntL_take_le xs (k + 1)
      rw [cntL_succ xs hlt] at hct
      obtain ⟨v1_0, F1_0, rfl, hF1, i1_0, i1_1, g1_0⟩ := R_PrcProc.1 r1
      injection e1 with e1 _ e1c
      subst e1 e1c
      have ya0 := m1 0 (by decide)
      have ya1 := m1 1 (by decide)
      have ya2 := m1 2 (by decide)
      simp only [sz_PrcProc, Nat.add_zero, List.getElem?_cons_zero, List.getElem?_cons_succ] at E0 shut ya0 ya1 ya2
      simp only [cnt_PrcProc] at hct
      have hq0 : 0 ≤ k0 + (cntL (xs.take k) : Int) := by omega
      have hq1 : k0 + (cntL (xs.take k) : Int) + 1 + 1 + (cntL xs[k].Code : Int) ≤ 4611686018427387904 := by omega
      generalize hq : k0 + (cntL (xs.take k) : Int) = q at *
      have HOF := Lib.hid ho'
      have HLt := Lib.hid hr.lt
      rw [hF1] at hFi hbn hnd E0 shut
      have OF : Own wr (F1_0) := ⟨hnd, fun g hg => ho'.free g (hFi g hg)⟩
      have O0 := Lib.hid OF
      have HLO := Lib.hid OF.lt
      have S := Lib.hid shut
      have HE := Lib.hid E0
      have HC := Lib.hid hc
      have HqE := Lib.hid hq
      have HFi := Lib.hid hFi
      have Hbn := Lib.hid hbn
      have yf0 := ho'.frozen hbF (o := off + k * 3)
      have yf1 := ho'.frozen hbF (o := off + k * 3 + 1)
      have yf2 := ho'.frozen hbF (o := off + k * 3 + 2)
      clear shut E0 hc ho' hct hq ha ho r1 m1 hr hFi hbn hnd OF
      clear i1_0 i1_1
      go_wp2_with fail
      refine (markInsInsS_c xs[k].Code (q + 1 + 1) _ _ _ (by exact RL.chg (G := [b]) g1_0 (by repeat (with_reducible first | exact Chg.refl _ _ | refine Chg.setCell ?_ (Or.inl (by simp)) _)) (fun g hg h => by rcases List.mem_cons.1 h with h | h; exact Hbn.out (h ▸ (hg)); simp at h)) (by exact Own.chg (G := [b]) O0.out (by repeat (with_reducible first | exact Chg.refl _ _ | refine Chg.setCell ?_ (Or.inl (by simp)) _)) (fun g hg h => by rcases List.mem_cons.1 h with h | h; exact Hbn.out (h ▸ (hg)); simp at h)) (by omega) (by omega)).mono ?_
      rintro e w1 ⟨rfl, hm1, rm1, om1⟩
      have hbl1 : b < wr.heap.size := HLt.out b hbF
      have hbk1 : b ∉ F1_0 := fun h => Hbn.out (h)
      have Hm1 := Lib.hid hm1
      have Hrm1 := Lib.hid rm1
      have Hom1 := Lib.hid om1
      have hcb1 : ∀ o, w1.cell? ⟨b, o, none⟩ = _ := fun o => hm1.cell (p := ⟨b, o, none⟩) (by simpa using hbl1) hbk1
      have hfb1 : ∀ o, w1.frozen? ⟨b, o, none⟩ = _ := fun o => World.frozen?_of_block (a := ⟨b, o, none⟩) (hm1.block b (by simpa using hbl1) hbk1)
      clear hm1 rm1 om1 hbk1
      go_wp2
      go_roundw
      case rel =>
        have hW := (((HE.out.store0 (by simp) (.int .i64 (q))).store 1 (by simp) (.int .i64 (q + 1))).call HLt.out hbF Hbn.out Hm1.out (fun g hg => hg))
        refine ⟨k + 1, by omega, by go_num, ?_, by repeat (with_reducible first | exact HC.out | refine Chg.setCell ?_ (Or.inl hbF) _ | refine Chg.trans ?_ Hm1.out (fun g hg => Or.inl (HFi.out g (hg)))), ?_, by repeat (with_reducible first | exact HOF.out | refine Own.setCell ?_ _ _ | refine Own.over ?_ Hom1.out Hm1.out)⟩
        · rw [cntL_succ xs hlt, ← HqE.out]
          rw [cnt_PrcProc]
          go_num
        · rw [midL_succ xs k0 hlt, HqE.out]
          refine S.out _ _ _ (R_PrcProc.2 ⟨_, _, ?_, rfl, ⟨by simp only [mark_PrcProc]; omega, by simp only [mark_PrcProc]; omega⟩, ⟨by simp only [mark_PrcProc]; omega, by simp only [mark_PrcProc]; omega⟩, RL.chg (G := [b]) Hrm1.out (by repeat (with_reducible first | exact Chg.refl _ _ | refine Chg.setCell ?_ (Or.inl (by simp)) _)) (fun g hg h => by rcases List.mem_cons.1 h with h | h; exact Hbn.out (h ▸ (hg)); simp at h)⟩) hW
          all_goals first | rfl | simp [mark_PrcProc]
      case measure => simp [intOf]; omega
    · rw [cntL_all xs (by omega)] at *
      rw [midL_all xs k0 (by omega)] at hr
      have HR := Lib.hid hr
      have HC := Lib.hid hc
      have HO := Lib.hid ho'
      clear hr hc ho' ha ho
      go_wp2
      go_ret
      exact ⟨rfl, HC.out, HR.out, HO.out⟩

set_option maxRecDepth 100000 in
set_option maxHeartbeats 2000000 in
theorem markPrgProg_c (x : PrgProg) (k0 : Int) (vProcs : Value) (FProcs : List Nat) (w : World) (hProcs : RL w x.Procs vProcs FProcs) (ho : Own w (FProcs)) (hk0 : 0 ≤ k0) (hk1 : k0 + (cntL x.Procs : Int) ≤ 4611686018427387904) : Calls Tryz.prog 30 #[.agg #[vProcs], .int .i64 k0] w fun e w' => e = .returned (.int .i64 (k0 + (cntL x.Procs : Int))) ∧ Chg (FProcs) w w' ∧ Own w' (FProcs) ∧ RL w' (mkL x.Procs (k0)) vProcs FProcs := by
  have O0 := Lib.hid ho
  have HO := Lib.hid ho
  have HL := Lib.hid ho.lt
  clear ho
  go_enter Tryz.func30, Tryz.ntmps30
  go_wp2_with fail
  refine (markPrcProcS_c x.Procs (k0) _ _ _ (RL.chg (G := []) hProcs (by repeat (with_reducible first | exact Chg.refl _ _ | refine Chg.alloc ?_ _)) (fun g hg h => by simp at h)) (Own.chg (G := []) O0.out (by repeat (with_reducible first | exact Chg.refl _ _ | refine Chg.alloc ?_ _)) (fun g hg h => by simp at h)) (by omega) (by omega)).mono ?_
  rintro e w1 ⟨rfl, hm1, rmProcs, om1⟩
  have hbk1 : w.heap.size ∉ FProcs := fun h => by have := HL.out _ (by exact h); omega
  have hs1 := hm1.size
  repeat (first | rw [World.size_alloc] at hs1 | rw [World.size_setCell] at hs1 | rw [World.size_drew] at hs1 | rw [World.heap_drewN] at hs1)
  have hcb1 := fun o => hm1.cell (p := ⟨w.heap.size, o, none⟩) (by first | (simp; done) | omega | (simp; omega)) hbk1
  clear hbk1
  go_wp2
  go_ret
  exact ⟨rfl, by repeat (with_reducible first | exact Chg.refl _ _ | refine Chg.alloc ?_ _ | refine Chg.trans ?_ hm1 (fun g hg => Or.inl hg)), by repeat (with_reducible first | exact HO.out | refine Own.alloc ?_ _ | refine Own.over ?_ om1 hm1), rmProcs⟩

set_option maxRecDepth 100000 in
set_option maxHeartbeats 4000000 in
theorem markIntS_c (xs : List Int) (k0 : Int) (a : Value) (F : List Nat) (w : World) (ha : RL w xs a F) (ho : Own w F) (hk0 : 0 ≤ k0) (hk1 : k0 + cntL xs ≤ 4611686018427387904) :
    Calls Tryz.prog 36 #[a, .int .i64 k0] w fun e w' => e = .returned (.int .i64 (k0 + cntL xs)) ∧ Chg F w w' ∧ RL w' (mkL xs k0) a F ∧ Own w' F := by
  obtain ⟨A, ca, rfl, hla, hma⟩ := ha.form
  have hn : xs.length ≤ maxLen := by omega
  unfold maxLen at hn
  go_enter Tryz.func36, Tryz.ntmps36
  go_wp2
  go_loopw [1, 5] (fun kk i wr => ∃ k : Nat, k ≤ xs.length ∧ i = .int .i64 k ∧ kk = .int .i64 (k0 + cntL (xs.take k)) ∧ Chg F w wr ∧ RL wr (midL xs k0 k) (.slice A xs.length ca) F ∧ Own wr F) (fun _ i _ => xs.length - (intOf i).toNat)
  case atStart => exact ⟨0, Nat.zero_le _, rfl, by simp [cntL], Chg.refl _ _, by rw [midL_zero]; exact ha, ho⟩
  case round =>
    obtain ⟨k, hk, rfl, rfl, hc, hr, ho'⟩ := hrel
    by_cases hlt : k < xs.length
    · obtain ⟨b, off, cap, cs, Fi, e1, r1, m1, hFi, hbF, hbn, hnd, E0, shut⟩ := hr.open_elt ho'.nodup (i := k) (by simpa using hlt)
      rw [midL_at xs k0 hlt] at r1
      rw [midL_length] at e1
      have hct := cntL_take_le xs (k + 1)
      rw [cntL_succ xs hlt] at hct
      obtain ⟨rfl, hF1, i1_0⟩ := R_int.1 r1
      subst hF1
      injection e1 with e1 _ e1c
      subst e1 e1c
      have ya0 := m1 0 (by decide)
      simp only [sz_int, Nat.mul_one, Nat.add_zero, List.getElem?_cons_zero] at E0 shut ya0
      change cntL (xs.take k) + 1 ≤ _ at hct
      have hq0 : 0 ≤ k0 + (cntL (xs.take k) : Int) := by omega
      have hq1 : k0 + (cntL (xs.take k) : Int) + 1 ≤ 4611686018427387904 := by omega
      generalize hq : k0 + (cntL (xs.take k) : Int) = q at *
      have HOF := Lib.hid ho'
      have HLt := Lib.hid hr.lt
      have S := Lib.hid shut
      have HE := Lib.hid E0
      have HC := Lib.hid hc
      have HqE := Lib.hid hq
      have HFi := Lib.hid hFi
      have Hbn := Lib.hid hbn
      have yf0 := ho'.frozen hbF (o := off + k)
      clear shut E0 hc ho' hct hq ha ho r1 m1 hr hFi hbn hnd
      clear i1_0
      go_wp2
      go_roundw
      case rel =>
        have hW := (HE.out.store0 (by simp) (.int .i64 (q)))
        refine ⟨k + 1, by omega, by go_num, ?_, by repeat (with_reducible first | exact HC.out | refine Chg.setCell ?_ (Or.inl hbF) _), ?_, by repeat (with_reducible first | exact HOF.out | refine Own.setCell ?_ _ _)⟩
        · rw [cntL_succ xs hlt, ← HqE.out]
          change _ = Value.int IntKind.i64 (k0 + ((cntL (xs.take k) + 1 : Nat) : Int))
          go_num
        · rw [midL_succ xs k0 hlt, HqE.out]
          refine S.out _ _ _ (R_int.2 ⟨rfl, rfl, (show I64 q from ⟨by omega, by omega⟩)⟩) hW
          
      case measure => simp [intOf]; omega
    · rw [cntL_all xs (by omega)] at *
      rw [midL_all xs k0 (by omega)] at hr
      have HR := Lib.hid hr
      have HC := Lib.hid hc
      have HO := Lib.hid ho'
      clear hr hc ho' ha ho
      go_wp2
      go_ret
      exact ⟨rfl, HC.out, HR.out, HO.out⟩

set_option maxRecDepth 100000 in
set_option maxHeartbeats 4000000 in
theorem markRunFrameS_c (xs : List RunFrame) (k0 : Int) (a : Value) (F : List Nat) (w : World) (ha : RL w xs a F) (ho : Own w F) (hk0 : 0 ≤ k0) (hk1 : k0 + cntL xs ≤ 4611686018427387904) :
    Calls Tryz.prog 94 #[a, .int .i64 k0] w fun e w' => e = .returned (.int .i64 (k0 + cntL xs)) ∧ Chg F w w' ∧ RL w' (mkL xs k0) a F ∧ Own w' F := by
  obtain ⟨A, ca, rfl, hla, hma⟩ := ha.form
  have hn : xs.length ≤ maxLen := by omega
  unfold maxLen at hn
  go_enter Tryz.func94, Tryz.ntmps94
  go_wp2
  go_loopw [1, 5] (fun kk i wr => ∃ k : Nat, k ≤ xs.length ∧ i = .int .i64 k ∧ kk = .int .i64 (k0 + cntL (xs.take k)) ∧ Chg F w wr ∧ RL wr (midL xs k0 k) (.slice A xs.length ca) F ∧ Own wr F) (fun _ i _ => xs.length - (intOf i).toNat)
  case atStart => exact ⟨0, Nat.zero_le _, rfl, by simp [cntL], Chg.refl _ _, by rw [midL_zero]; exact ha, ho⟩
  case round =>
    obtain ⟨k, hk, rfl, rfl, hc, hr, ho'⟩ := hrel
    by_cases hlt : k < xs.length
    · obtain ⟨b, off, cap, cs, Fi, e1, r1, m1, hFi, hbF, hbn, hnd, E0, shut⟩ := hr.open_elt ho'.nodup (i := k) (by simpa using hlt)
      rw [midL_at xs k0 hlt] at r1
      rw [midL_length] at e1
      have hct := cntL_take_le xs (k + 1)
      rw [cntL_succ xs hlt] at hct
      obtain ⟨v1_0, F1_0, v1_1, F1_1, rfl, hF1, i1_0, i1_1, g1_0, g1_1⟩ := R_RunFrame.1 r1
      injection e1 with e1 _ e1c
      subst e1 e1c
      have ya0 := m1 0 (by decide)
      have ya1 := m1 1 (by decide)
      have ya2 := m1 2 (by decide)
      have ya3 := m1 3 (by decide)
      simp only [sz_RunFrame, Nat.add_zero, List.getElem?_cons_zero, List.getElem?_cons_succ] at E0 shut ya0 ya1 ya2 ya3
      simp only [cnt_RunFrame] at hct
      have hq0 : 0 ≤ k0 + (cntL (xs.take k) : Int) := by omega
      have hq1 : k0 + (cntL (xs.take k) : Int) + 1 + 1 + (cntL xs[k].Vars : Int) + (cntL xs[k].Cells : Int) ≤ 4611686018427387904 := by omega
      generalize hq : k0 + (cntL (xs.take k) : Int) = q at *
      have HOF := Lib.hid ho'
      have HLt := Lib.hid hr.lt
      rw [hF1] at hFi hbn hnd E0 shut
      have OF : Own wr (F1_0 ++ (F1_1)) := ⟨hnd, fun g hg => ho'.free g (hFi g hg)⟩
      have O0 := Lib.hid (Own.left OF)
      have D0 := Lib.hid (Own.apart OF)
      have OR0 := Own.right OF
      have O1 := Lib.hid OR0
      have HLO := Lib.hid OF.lt
      have S := Lib.hid shut
      have HE := Lib.hid E0
      have HC := Lib.hid hc
      have HqE := Lib.hid hq
      have HFi := Lib.hid hFi
      have Hbn := Lib.hid hbn
      have yf0 := ho'.frozen hbF (o := off + k * 4)
      have yf1 := ho'.frozen hbF (o := off + k * 4 + 1)
      have yf2 := ho'.frozen hbF (o := off + k * 4 + 2)
      have yf3 := ho'.frozen hbF (o := off + k * 4 + 3)
      clear shut E0 hc ho' hct hq ha ho r1 m1 hr hFi hbn hnd OF OR0
      clear i1_0 i1_1
      go_wp2_with fail
      refine (markIntS_c xs[k].Vars (q + 1 + 1) _ _ _ (by exact RL.chg (G := [b]) g1_0 (by repeat (with_reducible first | exact Chg.refl _ _ | refine Chg.setCell ?_ (Or.inl (by simp)) _)) (fun g hg h => by rcases List.mem_cons.1 h with h | h; exact Hbn.out (h ▸ (List.mem_append_left _ hg)); simp at h)) (by exact Own.chg (G := [b]) O0.out (by repeat (with_reducible first | exact Chg.refl _ _ | refine Chg.setCell ?_ (Or.inl (by simp)) _)) (fun g hg h => by rcases List.mem_cons.1 h with h | h; exact Hbn.out (h ▸ (List.mem_append_left _ hg)); simp at h)) (by omega) (by omega)).mono ?_
      rintro e w1 ⟨rfl, hm1, rm1, om1⟩
      have hbl1 : b < wr.heap.size := HLt.out b hbF
      have hbk1 : b ∉ F1_0 := fun h => Hbn.out (List.mem_append_left _ h)
      have Hm1 := Lib.hid hm1
      have Hrm1 := Lib.hid rm1
      have Hom1 := Lib.hid om1
      have hcb1 : ∀ o, w1.cell? ⟨b, o, none⟩ = _ := fun o => hm1.cell (p := ⟨b, o, none⟩) (by simpa using hbl1) hbk1
      have hfb1 : ∀ o, w1.frozen? ⟨b, o, none⟩ = _ := fun o => World.frozen?_of_block (a := ⟨b, o, none⟩) (hm1.block b (by simpa using hbl1) hbk1)
      clear hm1 rm1 om1 hbk1
      go_wp2_with fail
      refine (markIntS_c xs[k].Cells (q + 1 + 1 + (cntL xs[k].Vars : Int)) _ _ _ (by exact RL.chg (G := b :: F1_0) g1_1 (by repeat (with_reducible first | exact Chg.refl _ _ | refine Chg.setCell ?_ (Or.inl (by simp)) _ | refine Chg.trans ?_ Hm1.out (fun g hg => Or.inl (by grind)))) (fun g hg h => by rcases List.mem_cons.1 h with h | h; exact Hbn.out (h ▸ (List.mem_append_right _ (hg))); exact D0.out g h (hg))) (by exact Own.chg (G := b :: F1_0) O1.out (by repeat (with_reducible first | exact Chg.refl _ _ | refine Chg.setCell ?_ (Or.inl (by simp)) _ | refine Chg.trans ?_ Hm1.out (fun g hg => Or.inl (by grind)))) (fun g hg h => by rcases List.mem_cons.1 h with h | h; exact Hbn.out (h ▸ (List.mem_append_right _ (hg))); exact D0.out g h (hg))) (by omega) (by omega)).mono ?_
      rintro e w2 ⟨rfl, hm2, rm2, om2⟩
      have hbl2 : b < w1.heap.size := Nat.lt_of_lt_of_le hbl1 (by simpa using Hm1.out.size)
      have hbk2 : b ∉ F1_1 := fun h => Hbn.out (List.mem_append_right _ (h))
      have Hm2 := Lib.hid hm2
      have Hrm2 := Lib.hid rm2
      have Hom2 := Lib.hid om2
      have hcb2 : ∀ o, w2.cell? ⟨b, o, none⟩ = _ := fun o => hm2.cell (p := ⟨b, o, none⟩) (by simpa using hbl2) hbk2
      have hfb2 : ∀ o, w2.frozen? ⟨b, o, none⟩ = _ := fun o => World.frozen?_of_block (a := ⟨b, o, none⟩) (hm2.block b (by simpa using hbl2) hbk2)
      clear hm2 rm2 om2 hbk2
      go_wp2
      go_roundw
      case rel =>
        have hW := ((((HE.out.store0 (by simp) (.int .i64 (q))).store 1 (by simp) (.int .i64 (q + 1))).call HLt.out hbF Hbn.out Hm1.out (fun g hg => List.mem_append_left _ hg)).call HLt.out hbF Hbn.out Hm2.out (fun g hg => List.mem_append_right _ (hg)))
        refine ⟨k + 1, by omega, by go_num, ?_, by repeat (with_reducible first | exact HC.out | refine Chg.setCell ?_ (Or.inl hbF) _ | refine Chg.trans ?_ Hm1.out (fun g hg => Or.inl (HFi.out g (List.mem_append_left _ hg))) | refine Chg.trans ?_ Hm2.out (fun g hg => Or.inl (HFi.out g (List.mem_append_right _ (hg))))), ?_, by repeat (with_reducible first | exact HOF.out | refine Own.setCell ?_ _ _ | refine Own.over ?_ Hom1.out Hm1.out | refine Own.over ?_ Hom2.out Hm2.out)⟩
        · rw [cntL_succ xs hlt, ← HqE.out]
          rw [cnt_RunFrame]
          go_num
        · rw [midL_succ xs k0 hlt, HqE.out]
          refine S.out _ _ _ (R_RunFrame.2 ⟨_, _, _, _, ?_, rfl, ⟨by simp only [mark_RunFrame]; omega, by simp only [mark_RunFrame]; omega⟩, ⟨by simp only [mark_RunFrame]; omega, by simp only [mark_RunFrame]; omega⟩, RL.chg (G := b :: F1_1) Hrm1.out (by repeat (with_reducible first | exact Chg.refl _ _ | refine Chg.setCell ?_ (Or.inl (by simp)) _ | refine Chg.trans ?_ Hm2.out (fun g hg => Or.inl (by grind)))) (fun g hg h => by rcases List.mem_cons.1 h with h | h; exact Hbn.out (h ▸ (List.mem_append_left _ hg)); exact D0.out g hg h), RL.chg (G := [b]) Hrm2.out (by repeat (with_reducible first | exact Chg.refl _ _ | refine Chg.setCell ?_ (Or.inl (by simp)) _)) (fun g hg h => by rcases List.mem_cons.1 h with h | h; exact Hbn.out (h ▸ (List.mem_append_right _ (hg))); simp at h)⟩) hW
          all_goals first | rfl | simp [mark_RunFrame]
      case measure => simp [intOf]; omega
    · rw [cntL_all xs (by omega)] at *
      rw [midL_all xs k0 (by omega)] at hr
      have HR := Lib.hid hr
      have HC := Lib.hid hc
      have HO := Lib.hid ho'
      clear hr hc ho' ha ho
      go_wp2
      go_ret
      exact ⟨rfl, HC.out, HR.out, HO.out⟩

set_option maxRecDepth 100000 in
set_option maxHeartbeats 2000000 in
theorem markRunRun_c (x : RunRun) (k0 : Int) (vFrames : Value) (FFrames : List Nat) (w : World) (hFrames : RL w x.Frames vFrames FFrames) (ho : Own w (FFrames)) (hk0 : 0 ≤ k0) (hk1 : k0 + (cntL x.Frames : Int) ≤ 4611686018427387904) : Calls Tryz.prog 31 #[.agg #[.int .i64 x.State, vFrames, .int .i64 x.Out, .int .i64 x.Proc, .int .i64 x.Pc], .int .i64 k0] w fun e w' => e = .returned (.int .i64 (k0 + (cntL x.Frames : Int))) ∧ Chg (FFrames) w w' ∧ Own w' (FFrames) ∧ RL w' (mkL x.Frames (k0)) vFrames FFrames := by
  have O0 := Lib.hid ho
  have HO := Lib.hid ho
  have HL := Lib.hid ho.lt
  clear ho
  go_enter Tryz.func31, Tryz.ntmps31
  go_wp2_with fail
  refine (markRunFrameS_c x.Frames (k0) _ _ _ (RL.chg (G := []) hFrames (by repeat (with_reducible first | exact Chg.refl _ _ | refine Chg.alloc ?_ _)) (fun g hg h => by simp at h)) (Own.chg (G := []) O0.out (by repeat (with_reducible first | exact Chg.refl _ _ | refine Chg.alloc ?_ _)) (fun g hg h => by simp at h)) (by omega) (by omega)).mono ?_
  rintro e w1 ⟨rfl, hm1, rmFrames, om1⟩
  have hbk1 : w.heap.size ∉ FFrames := fun h => by have := HL.out _ (by exact h); omega
  have hs1 := hm1.size
  repeat (first | rw [World.size_alloc] at hs1 | rw [World.size_setCell] at hs1 | rw [World.size_drew] at hs1 | rw [World.heap_drewN] at hs1)
  have hcb1 := fun o => hm1.cell (p := ⟨w.heap.size, o, none⟩) (by first | (simp; done) | omega | (simp; omega)) hbk1
  clear hbk1
  go_wp2
  go_ret
  exact ⟨rfl, by repeat (with_reducible first | exact Chg.refl _ _ | refine Chg.alloc ?_ _ | refine Chg.trans ?_ hm1 (fun g hg => Or.inl hg)), by repeat (with_reducible first | exact HO.out | refine Own.alloc ?_ _ | refine Own.over ?_ om1 hm1), rmFrames⟩

end Go.Proofs.YtjakhnhnjhafgaaGreat.Wk
namespace Go.Proofs.YtjakhnhnjhafgaaGreat.Wk
open Go Go.RowKit Go.Deep Ow
open Rp (R sz)
open Mk (mark cnt)
open Zr (zero zcells zr)

set_option maxRecDepth 100000 in
set_option maxHeartbeats 1000000 in
theorem szInsInsS_c (xs : List InsIns) (a : Value) (F : List Nat) (l : Int) (w : World) (ha : RL w xs a F) (hl0 : 0 ≤ l) (hl1 : l ≤ 4611686018427387904) :
    Calls Tryz.prog 183 #[a, .int .i64 l] w fun e w' => (∃ r, e = .returned (.int .i64 r) ∧ SzR r l (szL xs)) ∧ Chg [] w w' := by
  obtain ⟨A, ca, rfl, hla, hma⟩ := ha.form
  have hn : xs.length ≤ maxLen := by omega
  unfold maxLen at hn
  have hz : szI xs = 0 := by
    clear ha hla hn
    induction xs with
    | nil => rfl
    | cons x r ih => simp only [szI, ih, size_InsIns]
  have hs : szL xs = xs.length := by unfold szL; omega
  rw [hs]
  clear ha hz hs
  by_cases hf : (xs.length : Int) ≤ l
  · have t : ¬ l - (xs.length : Int) < 0 := by omega
    go_enter Tryz.func183, Tryz.ntmps183
    go_wp2
    go_ret
    exact ⟨⟨_, rfl, Or.inr ⟨by omega, by omega⟩⟩, Chg.refl _ _⟩
  · have t : l - (xs.length : Int) < 0 := by omega
    go_enter Tryz.func183, Tryz.ntmps183
    go_wp2
    go_ret
    exact ⟨⟨_, rfl, Or.inl rfl⟩, Chg.refl _ _⟩

set_option maxRecDepth 100000 in
set_option maxHeartbeats 1000000 in
theorem szPrcProc_c (x : PrcProc) (vCode : Value) (FCode : List Nat) (l : Int) (w : World) (hCode : RL w x.Code vCode FCode) (hl0 : 0 ≤ l) (hl1 : l ≤ 4611686018427387904) : Calls Tryz.prog 136 #[.agg #[.int .i64 x.Lo, .int .i64 x.Hi, vCode], .int .i64 l] w fun e w' => (∃ r, e = .returned (.int .i64 r) ∧ SzR r l (Sz.size x)) ∧ Chg [] w w' := by
  go_enter Tryz.func136, Tryz.ntmps136
  go_wp2_with fail
  refine (szInsInsS_c x.Code _ _ _ _ (hCode.chg0 (Chg.e)) hl0 hl1).mono ?_
  rintro e w1 ⟨⟨r1, rfl, hr1⟩, hc1⟩
  have hw1 : Chg [] w w1 := Chg.trans0 (Chg.e) hc1
  obtain ⟨hcl1, hfz1⟩ := hc1.cells
  have hz1 := hc1.size
  repeat (first | rw [World.size_alloc] at hz1 | rw [World.size_setCell] at hz1 | rw [World.size_drew] at hz1 | rw [World.heap_drewN] at hz1)
  have hza1 : w.heap.size < w1.heap.size := by omega
  clear hc1
  rcases hr1 with rfl | ⟨hn1, he1⟩
  · go_wp2
    go_ret
    exact ⟨⟨_, rfl, Or.inl rfl⟩, Chg.e⟩
  have hb1 : r1 ≤ 4611686018427387904 := by omega
  have hE1 := Lib.hid he1
  clear he1
  go_wp2
  go_ret
  refine ⟨⟨_, rfl, Or.inr ⟨hn1, ?_⟩⟩, Chg.e⟩
  have ghE1 := hE1.out
  clear hcl1 hfz1
  rw [size_PrcProc]
  omega

set_option maxRecDepth 100000 in
set_option maxHeartbeats 1000000 in
theorem szPrcProcS_c (xs : List PrcProc) (a : Value) (F : List Nat) (l : Int) (w : World) (ha : RL w xs a F) (hl0 : 0 ≤ l) (hl1 : l ≤ 4611686018427387904) :
    Calls Tryz.prog 77 #[a, .int .i64 l] w fun e w' => (∃ r, e = .returned (.int .i64 r) ∧ SzR r l (szL xs)) ∧ Chg [] w w' := by
  obtain ⟨A, ca, rfl, hla, hma⟩ := ha.form
  have hn : xs.length ≤ maxLen := by omega
  unfold maxLen at hn
  by_cases hf : ¬ (xs.length : Int) ≤ l
  · have t : l - (xs.length : Int) < 0 := by omega
    clear ha
    go_enter Tryz.func77, Tryz.ntmps77
    go_wp2
    go_ret
    exact ⟨⟨_, rfl, Or.inl rfl⟩, Chg.refl _ _⟩
  have hf' : (xs.length : Int) ≤ l := Decidable.not_not.1 hf
  clear hf
  have t : ¬ l - (xs.length : Int) < 0 := by omega
  go_enter Tryz.func77, Tryz.ntmps77
  go_wp2
  go_loopw [1, 5] (fun lf i wr => ∃ (k : Nat) (r : Int), k ≤ xs.length ∧ i = .int .i64 k ∧ lf = .int .i64 r ∧ 0 ≤ r ∧ r + xs.length + szI (xs.take k) = l ∧ Chg [] w wr) (fun _ i _ => xs.length - (intOf i).toNat)
  case atStart => exact ⟨0, _, Nat.zero_le _, rfl, rfl, by omega, by simp [szI], Chg.refl _ _⟩
  case round =>
    obtain ⟨k, r, hk, rfl, rfl, hr0, hre, hc⟩ := hrel
    have hr1 : r ≤ 4611686018427387904 := by omega
    by_cases hlt : k < xs.length
    · obtain ⟨b1, o1, p1, c1, f1, e1, r1, m1, -⟩ := (ha.chg0 hc).elem hlt
      obtain ⟨v1_0, F1_0, rfl, hF1, i1_0, i1_1, g1_0⟩ := R_PrcProc.1 r1
      injection e1 with e1 _ e1c
      subst e1 e1c
      have ya0 := m1 0 (by decide)
      have ya1 := m1 1 (by decide)
      have ya2 := m1 2 (by decide)
      simp only [sz_PrcProc, Nat.add_zero, List.getElem?_cons_zero, List.getElem?_cons_succ] at ya0 ya1 ya2
      have HE := Lib.hid hre
      have HC := Lib.hid hc
      clear m1 r1 ha hre hc
      go_wp2_with fail
      refine (szPrcProc_c xs[k] _ _ _ _ (by exact RL.same g1_0 rfl) hr0 hr1).mono ?_
      rintro e w1 ⟨⟨r2, rfl, hr2⟩, hc1⟩
      have hc2 := HC.out.trans0 hc1
      have HC2 := Lib.hid hc2
      clear hc1 hc2
      rcases hr2 with rfl | ⟨hn2, he2⟩
      · go_wp2
        go_ret
        exact ⟨⟨_, rfl, Or.inl rfl⟩, HC2.out⟩
      have HE2 := Lib.hid he2
      clear he2
      go_wp2
      go_roundw
      case rel => exact ⟨k + 1, _, by omega, by go_num, rfl, hn2, by have h1 := HE.out; have h2 := HE2.out; rw [szI_succ xs hlt]; first | omega | (change r2 + ((Sz.size xs[k] : Nat) : Int) = r at h2; omega), HC2.out⟩
      case measure => simp [intOf]; omega
    · have he3 : szI (xs.take k) = szI xs := szI_all xs (by omega)
      rw [he3] at hre
      have HE := Lib.hid hre
      have HC := Lib.hid hc
      clear ha hre hc he3
      go_wp2
      go_ret
      exact ⟨⟨_, rfl, Or.inr ⟨hr0, by have := HE.out; unfold szL; omega⟩⟩, HC.out⟩

set_option maxRecDepth 100000 in
set_option maxHeartbeats 1000000 in
theorem szPrgProg_c (x : PrgProg) (vProcs : Value) (FProcs : List Nat) (l : Int) (w : World) (hProcs : RL w x.Procs vProcs FProcs) (hl0 : 0 ≤ l) (hl1 : l ≤ 4611686018427387904) : Calls Tryz.prog 23 #[.agg #[vProcs], .int .i64 l] w fun e w' => (∃ r, e = .returned (.int .i64 r) ∧ SzR r l (Sz.size x)) ∧ Chg [] w w' := by
  go_enter Tryz.func23, Tryz.ntmps23
  go_wp2_with fail
  refine (szPrcProcS_c x.Procs _ _ _ _ (hProcs.chg0 (Chg.e)) hl0 hl1).mono ?_
  rintro e w1 ⟨⟨r1, rfl, hr1⟩, hc1⟩
  have hw1 : Chg [] w w1 := Chg.trans0 (Chg.e) hc1
  obtain ⟨hcl1, hfz1⟩ := hc1.cells
  have hz1 := hc1.size
  repeat (first | rw [World.size_alloc] at hz1 | rw [World.size_setCell] at hz1 | rw [World.size_drew] at hz1 | rw [World.heap_drewN] at hz1)
  have hza1 : w.heap.size < w1.heap.size := by omega
  clear hc1
  rcases hr1 with rfl | ⟨hn1, he1⟩
  · go_wp2
    go_ret
    exact ⟨⟨_, rfl, Or.inl rfl⟩, Chg.e⟩
  have hb1 : r1 ≤ 4611686018427387904 := by omega
  have hE1 := Lib.hid he1
  clear he1
  go_wp2
  go_ret
  refine ⟨⟨_, rfl, Or.inr ⟨hn1, ?_⟩⟩, Chg.e⟩
  have ghE1 := hE1.out
  clear hcl1 hfz1
  rw [size_PrgProg]
  omega

set_option maxRecDepth 100000 in
set_option maxHeartbeats 1000000 in
theorem szIntS_c (xs : List Int) (a : Value) (F : List Nat) (l : Int) (w : World) (ha : RL w xs a F) (hl0 : 0 ≤ l) (hl1 : l ≤ 4611686018427387904) :
    Calls Tryz.prog 184 #[a, .int .i64 l] w fun e w' => (∃ r, e = .returned (.int .i64 r) ∧ SzR r l (szL xs)) ∧ Chg [] w w' := by
  obtain ⟨A, ca, rfl, hla, hma⟩ := ha.form
  have hn : xs.length ≤ maxLen := by omega
  unfold maxLen at hn
  have hz : szI xs = 0 := by
    clear ha hla hn
    induction xs with
    | nil => rfl
    | cons x r ih => simp only [szI, ih, Sz.size]
  have hs : szL xs = xs.length := by unfold szL; omega
  rw [hs]
  clear ha hz hs
  by_cases hf : (xs.length : Int) ≤ l
  · have t : ¬ l - (xs.length : Int) < 0 := by omega
    go_enter Tryz.func184, Tryz.ntmps184
    go_wp2
    go_ret
    exact ⟨⟨_, rfl, Or.inr ⟨by omega, by omega⟩⟩, Chg.refl _ _⟩
  · have t : l - (xs.length : Int) < 0 := by omega
    go_enter Tryz.func184, Tryz.ntmps184
    go_wp2
    go_ret
    exact ⟨⟨_, rfl, Or.inl rfl⟩, Chg.refl _ _⟩

set_option maxRecDepth 100000 in
set_option maxHeartbeats 1000000 in
theorem szRunFrame_c (x : RunFrame) (vVars : Value) (FVars : List Nat) (vCells : Value) (FCells : List Nat) (l : Int) (w : World) (hVars : RL w x.Vars vVars FVars) (hCells : RL w x.Cells vCells FCells) (hl0 : 0 ≤ l) (hl1 : l ≤ 4611686018427387904) : Calls Tryz.prog 137 #[.agg #[.int .i64 x.Proc, .int .i64 x.Pc, vVars, vCells], .int .i64 l] w fun e w' => (∃ r, e = .returned (.int .i64 r) ∧ SzR r l (Sz.size x)) ∧ Chg [] w w' := by
  go_enter Tryz.func137, Tryz.ntmps137
  go_wp2_with fail
  refine (szIntS_c x.Vars _ _ _ _ (hVars.chg0 (Chg.e)) hl0 hl1).mono ?_
  rintro e w1 ⟨⟨r1, rfl, hr1⟩, hc1⟩
  have hw1 : Chg [] w w1 := Chg.trans0 (Chg.e) hc1
  obtain ⟨hcl1, hfz1⟩ := hc1.cells
  have hz1 := hc1.size
  repeat (first | rw [World.size_alloc] at hz1 | rw [World.size_setCell] at hz1 | rw [World.size_drew] at hz1 | rw [World.heap_drewN] at hz1)
  have hza1 : w.heap.size < w1.heap.size := by omega
  clear hc1
  rcases hr1 with rfl | ⟨hn1, he1⟩
  · go_wp2
    go_ret
    exact ⟨⟨_, rfl, Or.inl rfl⟩, Chg.e⟩
  have hb1 : r1 ≤ 4611686018427387904 := by omega
  have hE1 := Lib.hid he1
  clear he1
  go_wp2_with fail
  refine (szIntS_c x.Cells _ _ _ _ (hCells.chg0 (Chg.e)) hn1 hb1).mono ?_
  rintro e w2 ⟨⟨r2, rfl, hr2⟩, hc2⟩
  have hw2 : Chg [] w w2 := Chg.trans0 (Chg.e) hc2
  obtain ⟨hcl2, hfz2⟩ := hc2.cells
  have hz2 := hc2.size
  repeat (first | rw [World.size_alloc] at hz2 | rw [World.size_setCell] at hz2 | rw [World.size_drew] at hz2 | rw [World.heap_drewN] at hz2)
  have hza2 : w.heap.size < w2.heap.size := by omega
  clear hc2
  rcases hr2 with rfl | ⟨hn2, he2⟩
  · go_wp2
    go_ret
    exact ⟨⟨_, rfl, Or.inl rfl⟩, Chg.e⟩
  have hb2 : r2 ≤ 4611686018427387904 := by omega
  have hE2 := Lib.hid he2
  clear he2
  go_wp2
  go_ret
  refine ⟨⟨_, rfl, Or.inr ⟨hn2, ?_⟩⟩, Chg.e⟩
  have ghE1 := hE1.out
  have ghE2 := hE2.out
  clear hcl1 hfz1 hcl2 hfz2
  rw [size_RunFrame]
  omega

set_option maxRecDepth 100000 in
set_option maxHeartbeats 1000000 in
theorem szRunFrameS_c (xs : List RunFrame) (a : Value) (F : List Nat) (l : Int) (w : World) (ha : RL w xs a F) (hl0 : 0 ≤ l) (hl1 : l ≤ 4611686018427387904) :
    Calls Tryz.prog 78 #[a, .int .i64 l] w fun e w' => (∃ r, e = .returned (.int .i64 r) ∧ SzR r l (szL xs)) ∧ Chg [] w w' := by
  obtain ⟨A, ca, rfl, hla, hma⟩ := ha.form
  have hn : xs.length ≤ maxLen := by omega
  unfold maxLen at hn
  by_cases hf : ¬ (xs.length : Int) ≤ l
  · have t : l - (xs.length : Int) < 0 := by omega
    clear ha
    go_enter Tryz.func78, Tryz.ntmps78
    go_wp2
    go_ret
    exact ⟨⟨_, rfl, Or.inl rfl⟩, Chg.refl _ _⟩
  have hf' : (xs.length : Int) ≤ l := Decidable.not_not.1 hf
  clear hf
  have t : ¬ l - (xs.length : Int) < 0 := by omega
  go_enter Tryz.func78, Tryz.ntmps78
  go_wp2
  go_loopw [1, 5] (fun lf i wr => ∃ (k : Nat) (r : Int), k ≤ xs.length ∧ i = .int .i64 k ∧ lf = .int .i64 r ∧ 0 ≤ r ∧ r + xs.length + szI (xs.take k) = l ∧ Chg [] w wr) (fun _ i _ => xs.length - (intOf i).toNat)
  case atStart => exact ⟨0, _, Nat.zero_le _, rfl, rfl, by omega, by simp [szI], Chg.refl _ _⟩
  case round =>
    obtain ⟨k, r, hk, rfl, rfl, hr0, hre, hc⟩ := hrel
    have hr1 : r ≤ 4611686018427387904 := by omega
    by_cases hlt : k < xs.length
    · obtain ⟨b1, o1, p1, c1, f1, e1, r1, m1, -⟩ := (ha.chg0 hc).elem hlt
      obtain ⟨v1_0, F1_0, v1_1, F1_1, rfl, hF1, i1_0, i1_1, g1_0, g1_1⟩ := R_RunFrame.1 r1
      injection e1 with e1 _ e1c
      subst e1 e1c
      have ya0 := m1 0 (by decide)
      have ya1 := m1 1 (by decide)
      have ya2 := m1 2 (by decide)
      have ya3 := m1 3 (by decide)
      simp only [sz_RunFrame, Nat.add_zero, List.getElem?_cons_zero, List.getElem?_cons_succ] at ya0 ya1 ya2 ya3
      have HE := Lib.hid hre
      have HC := Lib.hid hc
      clear m1 r1 ha hre hc
      go_wp2_with fail
      refine (szRunFrame_c xs[k] _ _ _ _ _ _ (by exact RL.same g1_0 rfl) (by exact RL.same g1_1 rfl) hr0 hr1).mono ?_
      rintro e w1 ⟨⟨r2, rfl, hr2⟩, hc1⟩
      have hc2 := HC.out.trans0 hc1
      have HC2 := Lib.hid hc2
      clear hc1 hc2
      rcases hr2 with rfl | ⟨hn2, he2⟩
      · go_wp2
        go_ret
        exact ⟨⟨_, rfl, Or.inl rfl⟩, HC2.out⟩
      have HE2 := Lib.hid he2
      clear he2
      go_wp2
      go_roundw
      case rel => exact ⟨k + 1, _, by omega, by go_num, rfl, hn2, by have h1 := HE.out; have h2 := HE2.out; rw [szI_succ xs hlt]; first | omega | (change r2 + ((Sz.size xs[k] : Nat) : Int) = r at h2; omega), HC2.out⟩
      case measure => simp [intOf]; omega
    · have he3 : szI (xs.take k) = szI xs := szI_all xs (by omega)
      rw [he3] at hre
      have HE := Lib.hid hre
      have HC := Lib.hid hc
      clear ha hre hc he3
      go_wp2
      go_ret
      exact ⟨⟨_, rfl, Or.inr ⟨hr0, by have := HE.out; unfold szL; omega⟩⟩, HC.out⟩

set_option maxRecDepth 100000 in
set_option maxHeartbeats 1000000 in
theorem szRunRun_c (x : RunRun) (vFrames : Value) (FFrames : List Nat) (l : Int) (w : World) (hFrames : RL w x.Frames vFrames FFrames) (hl0 : 0 ≤ l) (hl1 : l ≤ 4611686018427387904) : Calls Tryz.prog 24 #[.agg #[.int .i64 x.State, vFrames, .int .i64 x.Out, .int .i64 x.Proc, .int .i64 x.Pc], .int .i64 l] w fun e w' => (∃ r, e = .returned (.int .i64 r) ∧ SzR r l (Sz.size x)) ∧ Chg [] w w' := by
  go_enter Tryz.func24, Tryz.ntmps24
  go_wp2_with fail
  refine (szRunFrameS_c x.Frames _ _ _ _ (hFrames.chg0 (Chg.e)) hl0 hl1).mono ?_
  rintro e w1 ⟨⟨r1, rfl, hr1⟩, hc1⟩
  have hw1 : Chg [] w w1 := Chg.trans0 (Chg.e) hc1
  obtain ⟨hcl1, hfz1⟩ := hc1.cells
  have hz1 := hc1.size
  repeat (first | rw [World.size_alloc] at hz1 | rw [World.size_setCell] at hz1 | rw [World.size_drew] at hz1 | rw [World.heap_drewN] at hz1)
  have hza1 : w.heap.size < w1.heap.size := by omega
  clear hc1
  rcases hr1 with rfl | ⟨hn1, he1⟩
  · go_wp2
    go_ret
    exact ⟨⟨_, rfl, Or.inl rfl⟩, Chg.e⟩
  have hb1 : r1 ≤ 4611686018427387904 := by omega
  have hE1 := Lib.hid he1
  clear he1
  go_wp2
  go_ret
  refine ⟨⟨_, rfl, Or.inr ⟨hn1, ?_⟩⟩, Chg.e⟩
  have ghE1 := hE1.out
  clear hcl1 hfz1
  rw [size_RunRun]
  omega

end Go.Proofs.YtjakhnhnjhafgaaGreat.Wk
