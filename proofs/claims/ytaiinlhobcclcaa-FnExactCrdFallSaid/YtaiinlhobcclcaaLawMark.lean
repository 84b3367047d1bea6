/-
  Contracts of the laws' own functions, written by a program of mine (wip/gen/gen_laws.py).
-/
import Derived.Test.YtaiinlhobcclcaaBase
namespace Go.Proofs.Ytaiinlhobcclcaa.Wk
open Go Go.RowKit Go.Deep Ow
open Rp (R sz)
open Mk (mark cnt)
open Zr (zero zcells zr)

set_option maxRecDepth 100000 in
set_option maxHeartbeats 4000000 in
theorem markCrtSiteS_c (xs : List CrtSite) (k0 : Int) (a : Value) (F : List Nat) (w : World) (ha : RL w xs a F) (ho : Own w F) (hk0 : 0 ≤ k0) (hk1 : k0 + cntL xs ≤ 4611686018427387904) :
    Calls Try.prog 61 #[a, .int .i64 k0] w fun e w' => e = .returned (.int .i64 (k0 + cntL xs)) ∧ Chg F w w' ∧ RL w' (mkL xs k0) a F ∧ Own w' F := by
  obtain ⟨A, ca, rfl, hla, hma⟩ := ha.form
  have hn : xs.length ≤ maxLen := by omega
  unfold maxLen at hn
  go_enter Try.func61, Try.ntmps61
  go_wp2
  go_loopw [1, 5] (fun kk i wr => ∃ k : Nat, k ≤ xs.length ∧ i = .int .i64 k ∧ kk = .int .i64 (k0 + cntL (xs.take k)) ∧ Chg F w wr ∧ RL wr (midL xs k0 k) (.slice A xs.length ca) F ∧ Own wr F) (fun _ i _ => xs.length - (intOf i).toNat)
  case atStart => exact ⟨0, Nat.zero_le _, rfl, by simp [cntL], Chg.refl _ _, by rw [midL_zero]; exact ha, ho⟩
  case round =>
    obtain ⟨k, hk, rfl, rfl, hc, hr, ho'⟩ := hrel
    by_cases hlt : k < xs.length
    · obtain ⟨b, off, cap, cs, Fi, e1, r1, m1, hFi, hbF, hbn, hnd, E0, shut⟩ := hr.open_elt ho'.nodup (i := k) (by simpa using hlt)
      rw [midL_at xs k0 hlt] at r1
      rw [midL_length] at e1
      have hct := cntL_take_le xs (k + 1)
      rw [cntL_succ xs hlt] at hct
      obtain ⟨rfl, hF1, i1_0, i1_1⟩ := R_CrtSite.1 r1
      injection e1 with e1 _ e1c
      subst e1 e1c
      have ya0 := m1 0 (by decide)
      have ya1 := m1 1 (by decide)
      simp only [sz_CrtSite, Nat.add_zero, List.getElem?_cons_zero, List.getElem?_cons_succ] at E0 shut ya0 ya1
      simp only [cnt_CrtSite] at hct
      have hq0 : 0 ≤ k0 + (cntL (xs.take k) : Int) := by omega
      have hq1 : k0 + (cntL (xs.take k) : Int) + 1 + 1 ≤ 4611686018427387904 := by omega
      generalize hq : k0 + (cntL (xs.take k) : Int) = q at *
      have HOF := Lib.hid ho'
      have HLt := Lib.hid hr.lt
      have S := Lib.hid shut
      have HE := Lib.hid E0
      have HC := Lib.hid hc
      have HqE := Lib.hid hq
      have HFi := Lib.hid hFi
      have Hbn := Lib.hid hbn
      have yf0 := ho'.frozen hbF (o := off + k * 2)
      have yf1 := ho'.frozen hbF (o := off + k * 2 + 1)
      clear shut E0 hc ho' hct hq ha ho r1 m1 hr hFi hbn hnd
      clear i1_0 i1_1
      subst hF1
      go_wp2
      go_roundw
      case rel =>
        have hW := ((HE.out.store0 (by simp) (.int .i64 (q))).store 1 (by simp) (.int .i64 (q + 1)))
        refine ⟨k + 1, by omega, by go_num, ?_, by repeat (first | with_reducible exact HC.out | with_reducible refine Chg.setCell ?_ (Or.inl hbF) _), ?_, by repeat (first | with_reducible exact HOF.out | with_reducible refine Own.setCell ?_ _ _)⟩
        · rw [cntL_succ xs hlt, ← HqE.out]
          rw [cnt_CrtSite]
          go_num
        · rw [midL_succ xs k0 hlt, HqE.out]
          refine S.out _ _ _ (R_CrtSite.2 ⟨?_, rfl, ⟨by simp only [mark_CrtSite]; omega, by simp only [mark_CrtSite]; omega⟩, ⟨by simp only [mark_CrtSite]; omega, by simp only [mark_CrtSite]; omega⟩⟩) hW
          all_goals first | rfl | simp [mark_CrtSite]
      case measure => simp [intOf]; omega
    · rw [cntL_all xs (by omega)] at *
      rw [midL_all xs k0 (by omega)] at hr
      have HR := Lib.hid hr
      have HC := Lib.hid hc
      have HO := Lib.hid ho'
      clear hr hc ho' ha ho
      go_wp2
      go_ret
      exact ⟨rfl, HC.out, HR.out, HO.out⟩

set_option maxRecDepth 100000 in
set_option maxHeartbeats 2000000 in
theorem markVrdVerdict_c (x : VrdVerdict) (k0 : Int) (vSites : Value) (FSites : List Nat) (w : World) (hSites : RL w x.Sites vSites FSites) (ho : Own w (FSites)) (hk0 : 0 ≤ k0) (hk1 : k0 + (cntL x.Sites : Int) ≤ 4611686018427387904) : Calls Try.prog 42 #[.agg #[.int .i64 x.Kind, .int .i64 x.Line, vSites], .int .i64 k0] w fun e w' => e = .returned (.int .i64 (k0 + (cntL x.Sites : Int))) ∧ Chg (FSites) w w' ∧ Own w' (FSites) ∧ RL w' (mkL x.Sites (k0)) vSites FSites := by
  have O0 := Lib.hid ho
  have HO := Lib.hid ho
  have HL := Lib.hid ho.lt
  clear ho
  go_enter Try.func42, Try.ntmps42
  go_wp2_with fail
  refine (markCrtSiteS_c x.Sites (k0) _ _ _ (RL.chg (G := []) hSites (by repeat (first | with_reducible exact Chg.refl _ _ | with_reducible refine Chg.alloc ?_ _)) (fun g hg h => by simp at h)) (Own.chg (G := []) O0.out (by repeat (first | with_reducible exact Chg.refl _ _ | with_reducible refine Chg.alloc ?_ _)) (fun g hg h => by simp at h)) (by omega) (by omega)).mono ?_
  rintro e w1 ⟨rfl, hm1, rmSites, om1⟩
  have hbk1 : w.heap.size ∉ FSites := fun h => by have := HL.out _ (by exact h); omega
  have hs1 := hm1.size
  repeat (first | rw [World.size_alloc] at hs1 | rw [World.size_setCell] at hs1 | rw [World.size_drew] at hs1 | rw [World.heap_drewN] at hs1)
  have hcb1 := fun o => hm1.cell (p := ⟨w.heap.size, o, none⟩) (by first | (simp; done) | omega | (simp; omega)) hbk1
  clear hbk1
  go_wp2
  go_ret
  exact ⟨rfl, by repeat (first | with_reducible exact Chg.refl _ _ | with_reducible refine Chg.alloc ?_ _ | with_reducible refine Chg.trans ?_ hm1 (fun g hg => Or.inl hg)), by repeat (first | with_reducible exact HO.out | with_reducible refine Own.alloc ?_ _ | with_reducible refine Own.over ?_ om1 hm1), rmSites⟩

set_option maxRecDepth 100000 in
set_option maxHeartbeats 4000000 in
theorem markItvItvS_c (xs : List ItvItv) (k0 : Int) (a : Value) (F : List Nat) (w : World) (ha : RL w xs a F) (ho : Own w F) (hk0 : 0 ≤ k0) (hk1 : k0 + cntL xs ≤ 4611686018427387904) :
    Calls Try.prog 78 #[a, .int .i64 k0] w fun e w' => e = .returned (.int .i64 (k0 + cntL xs)) ∧ Chg F w w' ∧ RL w' (mkL xs k0) a F ∧ Own w' F := by
  obtain ⟨A, ca, rfl, hla, hma⟩ := ha.form
  have hn : xs.length ≤ maxLen := by omega
  unfold maxLen at hn
  go_enter Try.func78, Try.ntmps78
  go_wp2
  go_loopw [1, 5] (fun kk i wr => ∃ k : Nat, k ≤ xs.length ∧ i = .int .i64 k ∧ kk = .int .i64 (k0 + cntL (xs.take k)) ∧ Chg F w wr ∧ RL wr (midL xs k0 k) (.slice A xs.length ca) F ∧ Own wr F) (fun _ i _ => xs.length - (intOf i).toNat)
  case atStart => exact ⟨0, Nat.zero_le _, rfl, by simp [cntL], Chg.refl _ _, by rw [midL_zero]; exact ha, ho⟩
  case round =>
    obtain ⟨k, hk, rfl, rfl, hc, hr, ho'⟩ := hrel
    by_cases hlt : k < xs.length
    · obtain ⟨b, off, cap, cs, Fi, e1, r1, m1, hFi, hbF, hbn, hnd, E0, shut⟩ := hr.open_elt ho'.nodup (i := k) (by simpa using hlt)
      rw [midL_at xs k0 hlt] at r1
      rw [midL_length] at e1
      have hct := cntL_take_le xs (k + 1)
      rw [cntL_succ xs hlt] at hct
      obtain ⟨rfl, hF1, i1_0, i1_1⟩ := R_ItvItv.1 r1
      injection e1 with e1 _ e1c
      subst e1 e1c
      have ya0 := m1 0 (by decide)
      have ya1 := m1 1 (by decide)
      simp only [sz_ItvItv, Nat.add_zero, List.getElem?_cons_zero, List.getElem?_cons_succ] at E0 shut ya0 ya1
      simp only [cnt_ItvItv] at hct
      have hq0 : 0 ≤ k0 + (cntL (xs.take k) : Int) := by omega
      have hq1 : k0 + (cntL (xs.take k) : Int) + 1 + 1 ≤ 4611686018427387904 := by omega
      generalize hq : k0 + (cntL (xs.take k) : Int) = q at *
      have HOF := Lib.hid ho'
      have HLt := Lib.hid hr.lt
      have S := Lib.hid shut
      have HE := Lib.hid E0
      have HC := Lib.hid hc
      have HqE := Lib.hid hq
      have HFi := Lib.hid hFi
      have Hbn := Lib.hid hbn
      have yf0 := ho'.frozen hbF (o := off + k * 2)
      have yf1 := ho'.frozen hbF (o := off + k * 2 + 1)
      clear shut E0 hc ho' hct hq ha ho r1 m1 hr hFi hbn hnd
      clear i1_0 i1_1
      subst hF1
      go_wp2
      go_roundw
      case rel =>
        have hW := ((HE.out.store0 (by simp) (.int .i64 (q))).store 1 (by simp) (.int .i64 (q + 1)))
        refine ⟨k + 1, by omega, by go_num, ?_, by repeat (first | with_reducible exact HC.out | with_reducible refine Chg.setCell ?_ (Or.inl hbF) _), ?_, by repeat (first | with_reducible exact HOF.out | with_reducible refine Own.setCell ?_ _ _)⟩
        · rw [cntL_succ xs hlt, ← HqE.out]
          rw [cnt_ItvItv]
          go_num
        · rw [midL_succ xs k0 hlt, HqE.out]
          refine S.out _ _ _ (R_ItvItv.2 ⟨?_, rfl, ⟨by simp only [mark_ItvItv]; omega, by simp only [mark_ItvItv]; omega⟩, ⟨by simp only [mark_ItvItv]; omega, by simp only [mark_ItvItv]; omega⟩⟩) hW
          all_goals first | rfl | simp [mark_ItvItv]
      case measure => simp [intOf]; omega
    · rw [cntL_all xs (by omega)] at *
      rw [midL_all xs k0 (by omega)] at hr
      have HR := Lib.hid hr
      have HC := Lib.hid hc
      have HO := Lib.hid ho'
      clear hr hc ho' ha ho
      go_wp2
      go_ret
      exact ⟨rfl, HC.out, HR.out, HO.out⟩

set_option maxRecDepth 100000 in
set_option maxHeartbeats 4000000 in
theorem markAbsStateS_c (xs : List AbsState) (k0 : Int) (a : Value) (F : List Nat) (w : World) (ha : RL w xs a F) (ho : Own w F) (hk0 : 0 ≤ k0) (hk1 : k0 + cntL xs ≤ 4611686018427387904) :
    Calls Try.prog 72 #[a, .int .i64 k0] w fun e w' => e = .returned (.int .i64 (k0 + cntL xs)) ∧ Chg F w w' ∧ RL w' (mkL xs k0) a F ∧ Own w' F := by
  obtain ⟨A, ca, rfl, hla, hma⟩ := ha.form
  have hn : xs.length ≤ maxLen := by omega
  unfold maxLen at hn
  go_enter Try.func72, Try.ntmps72
  go_wp2
  go_loopw [1, 5] (fun kk i wr => ∃ k : Nat, k ≤ xs.length ∧ i = .int .i64 k ∧ kk = .int .i64 (k0 + cntL (xs.take k)) ∧ Chg F w wr ∧ RL wr (midL xs k0 k) (.slice A xs.length ca) F ∧ Own wr F) (fun _ i _ => xs.length - (intOf i).toNat)
  case atStart => exact ⟨0, Nat.zero_le _, rfl, by simp [cntL], Chg.refl _ _, by rw [midL_zero]; exact ha, ho⟩
  case round =>
    obtain ⟨k, hk, rfl, rfl, hc, hr, ho'⟩ := hrel
    by_cases hlt : k < xs.length
    · obtain ⟨b, off, cap, cs, Fi, e1, r1, m1, hFi, hbF, hbn, hnd, E0, shut⟩ := hr.open_elt ho'.nodup (i := k) (by simpa using hlt)
      rw [midL_at xs k0 hlt] at r1
      rw [midL_length] at e1
      have hct := cntL_take_le xs (k + 1)
      rw [cntL_succ xs hlt] at hct
      obtain ⟨v1_0, F1_0, rfl, hF1, g1_0, i1_0, i1_1⟩ := R_AbsState.1 r1
      injection e1 with e1 _ e1c
      subst e1 e1c
      have ya0 := m1 0 (by decide)
      have ya1 := m1 1 (by decide)
      have ya2 := m1 2 (by decide)
      have ya3 := m1 3 (by decide)
      simp only [sz_AbsState, Nat.add_zero, List.getElem?_cons_zero, List.getElem?_cons_succ] at E0 shut ya0 ya1 ya2 ya3
      simp only [cnt_AbsState] at hct
      have hq0 : 0 ≤ k0 + (cntL (xs.take k) : Int) := by omega
      have hq1 : k0 + (cntL (xs.take k) : Int) + 1 + (cntL xs[k].Vars : Int) + 1 + 1 ≤ 4611686018427387904 := by omega
      generalize hq : k0 + (cntL (xs.take k) : Int) = q at *
      have HOF := Lib.hid ho'
      have HLt := Lib.hid hr.lt
      rw [hF1] at hFi hbn hnd E0 shut
      have OF : Own wr (F1_0) := ⟨hnd, fun g hg => ho'.free g (hFi g hg)⟩
      have O0 := Lib.hid OF
      have HLO := Lib.hid OF.lt
      have S := Lib.hid shut
      have HE := Lib.hid E0
      have HC := Lib.hid hc
      have HqE := Lib.hid hq
      have HFi := Lib.hid hFi
      have Hbn := Lib.hid hbn
      have yf0 := ho'.frozen hbF (o := off + k * 4)
      have yf1 := ho'.frozen hbF (o := off + k * 4 + 1)
      have yf2 := ho'.frozen hbF (o := off + k * 4 + 2)
      have yf3 := ho'.frozen hbF (o := off + k * 4 + 3)
      clear shut E0 hc ho' hct hq ha ho r1 m1 hr hFi hbn hnd OF
      clear i1_0 i1_1
      go_wp2_with fail
      refine (markItvItvS_c xs[k].Vars (q + 1) _ _ _ (by exact RL.chg (G := [b]) g1_0 (by repeat (first | with_reducible exact Chg.refl _ _ | with_reducible refine Chg.setCell ?_ (Or.inl (by simp)) _)) (fun g hg h => by rcases List.mem_cons.1 h with h | h; exact Hbn.out (h ▸ (hg)); simp at h)) (by exact Own.chg (G := [b]) O0.out (by repeat (first | with_reducible exact Chg.refl _ _ | with_reducible refine Chg.setCell ?_ (Or.inl (by simp)) _)) (fun g hg h => by rcases List.mem_cons.1 h with h | h; exact Hbn.out (h ▸ (hg)); simp at h)) (by omega) (by omega)).mono ?_
      rintro e w1 ⟨rfl, hm1, rm1, om1⟩
      have hbl1 : b < wr.heap.size := HLt.out b hbF
      have hbk1 : b ∉ F1_0 := fun h => Hbn.out (h)
      have Hm1 := Lib.hid hm1
      have Hrm1 := Lib.hid rm1
      have Hom1 := Lib.hid om1
      have hcb1 : ∀ o, w1.cell? ⟨b, o, none⟩ = _ := fun o => hm1.cell (p := ⟨b, o, none⟩) (by simpa using hbl1) hbk1
      have hfb1 : ∀ o, w1.frozen? ⟨b, o, none⟩ = _ := fun o => World.frozen?_of_block (a := ⟨b, o, none⟩) (hm1.block b (by simpa using hbl1) hbk1)
      clear hm1 rm1 om1 hbk1
      go_wp2
      go_roundw
      case rel =>
        have hW := ((((HE.out.store0 (by simp) (.bool ((q) % 3 == 0))).call HLt.out hbF Hbn.out Hm1.out (fun g hg => hg)).store 2 (by simp) (.int .i64 (q + 1 + (cntL xs[k].Vars : Int)))).store 3 (by simp) (.int .i64 (q + 1 + (cntL xs[k].Vars : Int) + 1)))
        refine ⟨k + 1, by omega, by go_num, ?_, by repeat (first | with_reducible exact HC.out | with_reducible refine Chg.setCell ?_ (Or.inl hbF) _ | with_reducible refine Chg.trans ?_ Hm1.out (fun g hg => Or.inl (HFi.out g (hg)))), ?_, by repeat (first | with_reducible exact HOF.out | with_reducible refine Own.setCell ?_ _ _ | with_reducible refine Own.over ?_ Hom1.out Hm1.out)⟩
        · rw [cntL_succ xs hlt, ← HqE.out]
          rw [cnt_AbsState]
          go_num
        · rw [midL_succ xs k0 hlt, HqE.out]
          refine S.out _ _ _ (R_AbsState.2 ⟨_, _, ?_, rfl, RL.chg (G := [b]) Hrm1.out (by repeat (first | with_reducible exact Chg.refl _ _ | with_reducible refine Chg.setCell ?_ (Or.inl (by simp)) _)) (fun g hg h => by rcases List.mem_cons.1 h with h | h; exact Hbn.out (h ▸ (hg)); simp at h), ⟨by simp only [mark_AbsState]; omega, by simp only [mark_AbsState]; omega⟩, ⟨by simp only [mark_AbsState]; omega, by simp only [mark_AbsState]; omega⟩⟩) hW
          all_goals first | rfl | simp [mark_AbsState]
      case measure => simp [intOf]; omega
    · rw [cntL_all xs (by omega)] at *
      rw [midL_all xs k0 (by omega)] at hr
      have HR := Lib.hid hr
      have HC := Lib.hid hc
      have HO := Lib.hid ho'
      clear hr hc ho' ha ho
      go_wp2
      go_ret
      exact ⟨rfl, HC.out, HR.out, HO.out⟩

set_option maxRecDepth 100000 in
set_option maxHeartbeats 4000000 in
theorem markAbsStateSS_c (xs : List (List AbsState)) (k0 : Int) (a : Value) (F : List Nat) (w : World) (ha : RL w xs a F) (ho : Own w F) (hk0 : 0 ≤ k0) (hk1 : k0 + cntL xs ≤ 4611686018427387904) :
    Calls Try.prog 60 #[a, .int .i64 k0] w fun e w' => e = .returned (.int .i64 (k0 + cntL xs)) ∧ Chg F w w' ∧ RL w' (mkL xs k0) a F ∧ Own w' F := by
  obtain ⟨A, ca, rfl, hla, hma⟩ := ha.form
  have hn : xs.length ≤ maxLen := by omega
  unfold maxLen at hn
  go_enter Try.func60, Try.ntmps60
  go_wp2
  go_loopw [1, 5] (fun kk i wr => ∃ k : Nat, k ≤ xs.length ∧ i = .int .i64 k ∧ kk = .int .i64 (k0 + cntL (xs.take k)) ∧ Chg F w wr ∧ RL wr (midL xs k0 k) (.slice A xs.length ca) F ∧ Own wr F) (fun _ i _ => xs.length - (intOf i).toNat)
  case atStart => exact ⟨0, Nat.zero_le _, rfl, by simp [cntL], Chg.refl _ _, by rw [midL_zero]; exact ha, ho⟩
  case round =>
    obtain ⟨k, hk, rfl, rfl, hc, hr, ho'⟩ := hrel
    by_cases hlt : k < xs.length
    · obtain ⟨b, off, cap, cs, Fi, e1, r1, m1, hFi, hbF, hbn, hnd, E0, shut⟩ := hr.open_elt ho'.nodup (i := k) (by simpa using hlt)
      rw [midL_at xs k0 hlt] at r1
      rw [midL_length] at e1
      have hct := cntL_take_le xs (k + 1)
      rw [cntL_succ xs hlt] at hct
      obtain ⟨v1_0, rfl, g1_0⟩ := R_list.1 r1
      injection e1 with e1 _ e1c
      subst e1 e1c
      have ya0 := m1 0 (by decide)
      simp only [sz_list, Nat.mul_one, Nat.add_zero, List.getElem?_cons_zero] at E0 shut ya0
      change cntL (xs.take k) + cntL xs[k] ≤ _ at hct
      have hq0 : 0 ≤ k0 + (cntL (xs.take k) : Int) := by omega
      have hq1 : k0 + (cntL (xs.take k) : Int) + (cntL xs[k] : Int) ≤ 4611686018427387904 := by omega
      generalize hq : k0 + (cntL (xs.take k) : Int) = q at *
      have HOF := Lib.hid ho'
      have HLt := Lib.hid hr.lt
      have OF : Own wr (Fi) := ⟨hnd, fun g hg => ho'.free g (hFi g hg)⟩
      have O0 := Lib.hid OF
      have HLO := Lib.hid OF.lt
      have S := Lib.hid shut
      have HE := Lib.hid E0
      have HC := Lib.hid hc
      have HqE := Lib.hid hq
      have HFi := Lib.hid hFi
      have Hbn := Lib.hid hbn
      have yf0 := ho'.frozen hbF (o := off + k)
      clear shut E0 hc ho' hct hq ha ho r1 m1 hr hFi hbn hnd OF
      go_wp2_with fail
      refine (markAbsStateS_c xs[k] (q) _ _ _ (by exact g1_0) (by exact O0.out) (by omega) (by omega)).mono ?_
      rintro e w1 ⟨rfl, hm1, rm1, om1⟩
      have hbl1 : b < wr.heap.size := HLt.out b hbF
      have hbk1 : b ∉ Fi := fun h => Hbn.out (h)
      have Hm1 := Lib.hid hm1
      have Hrm1 := Lib.hid rm1
      have Hom1 := Lib.hid om1
      have hcb1 : ∀ o, w1.cell? ⟨b, o, none⟩ = _ := fun o => hm1.cell (p := ⟨b, o, none⟩) (by simpa using hbl1) hbk1
      have hfb1 : ∀ o, w1.frozen? ⟨b, o, none⟩ = _ := fun o => World.frozen?_of_block (a := ⟨b, o, none⟩) (hm1.block b (by simpa using hbl1) hbk1)
      clear hm1 rm1 om1 hbk1
      go_wp2
      go_roundw
      case rel =>
        have hW := (HE.out.call HLt.out hbF Hbn.out Hm1.out (fun g hg => hg))
        refine ⟨k + 1, by omega, by go_num, ?_, by repeat (first | with_reducible exact HC.out | with_reducible refine Chg.setCell ?_ (Or.inl hbF) _ | with_reducible refine Chg.trans ?_ Hm1.out (fun g hg => Or.inl (HFi.out g (hg)))), ?_, by repeat (first | with_reducible exact HOF.out | with_reducible refine Own.setCell ?_ _ _ | with_reducible refine Own.over ?_ Hom1.out Hm1.out)⟩
        · rw [cntL_succ xs hlt, ← HqE.out]
          change _ = Value.int IntKind.i64 (k0 + ((cntL (xs.take k) + cntL xs[k] : Nat) : Int))
          go_num
        · rw [midL_succ xs k0 hlt, HqE.out]
          refine S.out _ _ _ (R_list.2 ⟨_, rfl, Hrm1.out⟩) hW
          
      case measure => simp [intOf]; omega
    · rw [cntL_all xs (by omega)] at *
      rw [midL_all xs k0 (by omega)] at hr
      have HR := Lib.hid hr
      have HC := Lib.hid hc
      have HO := Lib.hid ho'
      clear hr hc ho' ha ho
      go_wp2
      go_ret
      exact ⟨rfl, HC.out, HR.out, HO.out⟩

set_option maxRecDepth 100000 in
set_option maxHeartbeats 4000000 in
theorem markSumSumS_c (xs : List SumSum) (k0 : Int) (a : Value) (F : List Nat) (w : World) (ha : RL w xs a F) (ho : Own w F) (hk0 : 0 ≤ k0) (hk1 : k0 + cntL xs ≤ 4611686018427387904) :
    Calls Try.prog 19 #[a, .int .i64 k0] w fun e w' => e = .returned (.int .i64 (k0 + cntL xs)) ∧ Chg F w w' ∧ RL w' (mkL xs k0) a F ∧ Own w' F := by
  obtain ⟨A, ca, rfl, hla, hma⟩ := ha.form
  have hn : xs.length ≤ maxLen := by omega
  unfold maxLen at hn
  go_enter Try.func19, Try.ntmps19
  go_wp2
  go_loopw [1, 5] (fun kk i wr => ∃ k : Nat, k ≤ xs.length ∧ i = .int .i64 k ∧ kk = .int .i64 (k0 + cntL (xs.take k)) ∧ Chg F w wr ∧ RL wr (midL xs k0 k) (.slice A xs.length ca) F ∧ Own wr F) (fun _ i _ => xs.length - (intOf i).toNat)
  case atStart => exact ⟨0, Nat.zero_le _, rfl, by simp [cntL], Chg.refl _ _, by rw [midL_zero]; exact ha, ho⟩
  case round =>
    obtain ⟨k, hk, rfl, rfl, hc, hr, ho'⟩ := hrel
    by_cases hlt : k < xs.length
    · obtain ⟨b, off, cap, cs, Fi, e1, r1, m1, hFi, hbF, hbn, hnd, E0, shut⟩ := hr.open_elt ho'.nodup (i := k) (by simpa using hlt)
      rw [midL_at xs k0 hlt] at r1
      rw [midL_length] at e1
      have hct := cntL_take_le xs (k + 1)
      rw [cntL_succ xs hlt] at hct
      obtain ⟨rfl, hF1, i1_0, i1_1⟩ := R_SumSum.1 r1
      injection e1 with e1 _ e1c
      subst e1 e1c
      have ya0 := m1 0 (by decide)
      have ya1 := m1 1 (by decide)
      have ya2 := m1 2 (by decide)
      simp only [sz_SumSum, Nat.add_zero, List.getElem?_cons_zero, List.getElem?_cons_succ] at E0 shut ya0 ya1 ya2
      simp only [cnt_SumSum] at hct
      have hq0 : 0 ≤ k0 + (cntL (xs.take k) : Int) := by omega
      have hq1 : k0 + (cntL (xs.take k) : Int) + 1 + 1 + 1 ≤ 4611686018427387904 := by omega
      generalize hq : k0 + (cntL (xs.take k) : Int) = q at *
      have HOF := Lib.hid ho'
      have HLt := Lib.hid hr.lt
      have S := Lib.hid shut
      have HE := Lib.hid E0
      have HC := Lib.hid hc
      have HqE := Lib.hid hq
      have HFi := Lib.hid hFi
      have Hbn := Lib.hid hbn
      have yf0 := ho'.frozen hbF (o := off + k * 3)
      have yf1 := ho'.frozen hbF (o := off + k * 3 + 1)
      have yf2 := ho'.frozen hbF (o := off + k * 3 + 2)
      clear shut E0 hc ho' hct hq ha ho r1 m1 hr hFi hbn hnd
      clear i1_0 i1_1
      subst hF1
      go_wp2
      go_roundw
      case rel =>
        have hW := (((HE.out.store0 (by simp) (.bool ((q) % 3 == 0))).store 1 (by simp) (.int .i64 (q + 1))).store 2 (by simp) (.int .i64 (q + 1 + 1)))
        refine ⟨k + 1, by omega, by go_num, ?_, by repeat (first | with_reducible exact HC.out | with_reducible refine Chg.setCell ?_ (Or.inl hbF) _), ?_, by repeat (first | with_reducible exact HOF.out | with_reducible refine Own.setCell ?_ _ _)⟩
        · rw [cntL_succ xs hlt, ← HqE.out]
          rw [cnt_SumSum]
          go_num
        · rw [midL_succ xs k0 hlt, HqE.out]
          refine S.out _ _ _ (R_SumSum.2 ⟨?_, rfl, ⟨by simp only [mark_SumSum]; omega, by simp only [mark_SumSum]; omega⟩, ⟨by simp only [mark_SumSum]; omega, by simp only [mark_SumSum]; omega⟩⟩) hW
          all_goals first | rfl | simp [mark_SumSum]
      case measure => simp [intOf]; omega
    · rw [cntL_all xs (by omega)] at *
      rw [midL_all xs k0 (by omega)] at hr
      have HR := Lib.hid hr
      have HC := Lib.hid hc
      have HO := Lib.hid ho'
      clear hr hc ho' ha ho
      go_wp2
      go_ret
      exact ⟨rfl, HC.out, HR.out, HO.out⟩

set_option maxRecDepth 100000 in
set_option maxHeartbeats 2000000 in
theorem markCrtCert_c (x : CrtCert) (k0 : Int) (vStates : Value) (FStates : List Nat) (vOuts : Value) (FOuts : List Nat) (w : World) (hStates : RL w x.States vStates FStates) (hOuts : RL w x.Outs vOuts FOuts) (ho : Own w (FStates ++ (FOuts))) (hk0 : 0 ≤ k0) (hk1 : k0 + (cntL x.States : Int) + (cntL x.Outs : Int) ≤ 4611686018427387904) : Calls Try.prog 51 #[.agg #[vStates, vOuts], .int .i64 k0] w fun e w' => e = .returned (.int .i64 (k0 + (cntL x.States : Int) + (cntL x.Outs : Int))) ∧ Chg (FStates ++ (FOuts)) w w' ∧ Own w' (FStates ++ (FOuts)) ∧ RL w' (mkL x.States (k0)) vStates FStates ∧ RL w' (mkL x.Outs (k0 + (cntL x.States : Int))) vOuts FOuts := by
  have O0 := Lib.hid (Own.left ho)
  have D0 := Lib.hid (Own.apart ho)
  have OR0 := Own.right ho
  have O1 := Lib.hid OR0
  have HO := Lib.hid ho
  have HL := Lib.hid ho.lt
  clear ho OR0
  go_enter Try.func51, Try.ntmps51
  go_wp2_with fail
  refine (markAbsStateSS_c x.States (k0) _ _ _ (RL.chg (G := []) hStates (by repeat (first | with_reducible exact Chg.refl _ _ | with_reducible refine Chg.alloc ?_ _)) (fun g hg h => by simp at h)) (Own.chg (G := []) O0.out (by repeat (first | with_reducible exact Chg.refl _ _ | with_reducible refine Chg.alloc ?_ _)) (fun g hg h => by simp at h)) (by omega) (by omega)).mono ?_
  rintro e w1 ⟨rfl, hm1, rmStates, om1⟩
  have hbk1 : w.heap.size ∉ FStates := fun h => by have := HL.out _ (by exact List.mem_append_left _ h); omega
  have hs1 := hm1.size
  repeat (first | rw [World.size_alloc] at hs1 | rw [World.size_setCell] at hs1 | rw [World.size_drew] at hs1 | rw [World.heap_drewN] at hs1)
  have hcb1 := fun o => hm1.cell (p := ⟨w.heap.size, o, none⟩) (by first | (simp; done) | omega | (simp; omega)) hbk1
  clear hbk1
  go_wp2_with fail
  refine (markSumSumS_c x.Outs (k0 + (cntL x.States : Int)) _ _ _ (RL.chg (G := FStates) hOuts (by repeat (first | with_reducible exact Chg.refl _ _ | with_reducible refine Chg.alloc ?_ _ | with_reducible refine Chg.trans ?_ hm1 (fun g hg => Or.inl (by exact hg)))) (fun g hg h => by exact D0.out g h (hg))) (Own.chg (G := FStates) O1.out (by repeat (first | with_reducible exact Chg.refl _ _ | with_reducible refine Chg.alloc ?_ _ | with_reducible refine Chg.trans ?_ hm1 (fun g hg => Or.inl (by exact hg)))) (fun g hg h => by exact D0.out g h (hg))) (by omega) (by omega)).mono ?_
  rintro e w2 ⟨rfl, hm2, rmOuts, om2⟩
  have hbk2 : w.heap.size ∉ FOuts := fun h => by have := HL.out _ (by exact List.mem_append_right _ (h)); omega
  have hs2 := hm2.size
  repeat (first | rw [World.size_alloc] at hs2 | rw [World.size_setCell] at hs2 | rw [World.size_drew] at hs2 | rw [World.heap_drewN] at hs2)
  have hcb2 := fun o => hm2.cell (p := ⟨w.heap.size, o, none⟩) (by first | (simp; done) | omega | (simp; omega)) hbk2
  clear hbk2
  go_wp2
  go_ret
  exact ⟨rfl, by repeat (first | with_reducible exact Chg.refl _ _ | with_reducible refine Chg.alloc ?_ _ | with_reducible refine Chg.trans ?_ hm1 (fun g hg => Or.inl (by exact List.mem_append_left _ hg)) | with_reducible refine Chg.trans ?_ hm2 (fun g hg => Or.inl (by exact List.mem_append_right _ (hg)))), by repeat (first | with_reducible exact HO.out | with_reducible refine Own.alloc ?_ _ | with_reducible refine Own.over ?_ om1 hm1 | with_reducible refine Own.over ?_ om2 hm2), RL.chg (G := FOuts) rmStates (by repeat (first | with_reducible exact Chg.refl _ _ | with_reducible refine Chg.trans ?_ hm2 (fun g hg => Or.inl (by exact hg)))) (fun g hg h => D0.out g hg (h)),
    rmOuts⟩

set_option maxRecDepth 100000 in
set_option maxHeartbeats 4000000 in
theorem markCrtCertS_c (xs : List CrtCert) (k0 : Int) (a : Value) (F : List Nat) (w : World) (ha : RL w xs a F) (ho : Own w F) (hk0 : 0 ≤ k0) (hk1 : k0 + cntL xs ≤ 4611686018427387904) :
    Calls Try.prog 40 #[a, .int .i64 k0] w fun e w' => e = .returned (.int .i64 (k0 + cntL xs)) ∧ Chg F w w' ∧ RL w' (mkL xs k0) a F ∧ Own w' F := by
  obtain ⟨A, ca, rfl, hla, hma⟩ := ha.form
  have hn : xs.length ≤ maxLen := by omega
  unfold maxLen at hn
  go_enter Try.func40, Try.ntmps40
  go_wp2
  go_loopw [1, 5] (fun kk i wr => ∃ k : Nat, k ≤ xs.length ∧ i = .int .i64 k ∧ kk = .int .i64 (k0 + cntL (xs.take k)) ∧ Chg F w wr ∧ RL wr (midL xs k0 k) (.slice A xs.length ca) F ∧ Own wr F) (fun _ i _ => xs.length - (intOf i).toNat)
  case atStart => exact ⟨0, Nat.zero_le _, rfl, by simp [cntL], Chg.refl _ _, by rw [midL_zero]; exact ha, ho⟩
  case round =>
    obtain ⟨k, hk, rfl, rfl, hc, hr, ho'⟩ := hrel
    by_cases hlt : k < xs.length
    · obtain ⟨b, off, cap, cs, Fi, e1, r1, m1, hFi, hbF, hbn, hnd, E0, shut⟩ := hr.open_elt ho'.nodup (i := k) (by simpa using hlt)
      rw [midL_at xs k0 hlt] at r1
      rw [midL_length] at e1
      have hct := cntL_take_le xs (k + 1)
      rw [cntL_succ xs hlt] at hct
      obtain ⟨v1_0, F1_0, v1_1, F1_1, rfl, hF1, g1_0, g1_1⟩ := R_CrtCert.1 r1
      injection e1 with e1 _ e1c
      subst e1 e1c
      have ya0 := m1 0 (by decide)
      have ya1 := m1 1 (by decide)
      simp only [sz_CrtCert, Nat.add_zero, List.getElem?_cons_zero, List.getElem?_cons_succ] at E0 shut ya0 ya1
      simp only [cnt_CrtCert] at hct
      have hq0 : 0 ≤ k0 + (cntL (xs.take k) : Int) := by omega
      have hq1 : k0 + (cntL (xs.take k) : Int) + (cntL xs[k].States : Int) + (cntL xs[k].Outs : Int) ≤ 4611686018427387904 := by omega
      generalize hq : k0 + (cntL (xs.take k) : Int) = q at *
      have HOF := Lib.hid ho'
      have HLt := Lib.hid hr.lt
      rw [hF1] at hFi hbn hnd E0 shut
      have OF : Own wr (F1_0 ++ (F1_1)) := ⟨hnd, fun g hg => ho'.free g (hFi g hg)⟩
      have O0 := Lib.hid (Own.left OF)
      have D0 := Lib.hid (Own.apart OF)
      have OR0 := Own.right OF
      have O1 := Lib.hid OR0
      have HLO := Lib.hid OF.lt
      have S := Lib.hid shut
      have HE := Lib.hid E0
      have HC := Lib.hid hc
      have HqE := Lib.hid hq
      have HFi := Lib.hid hFi
      have Hbn := Lib.hid hbn
      have yf0 := ho'.frozen hbF (o := off + k * 2)
      have yf1 := ho'.frozen hbF (o := off + k * 2 + 1)
      clear shut E0 hc ho' hct hq ha ho r1 m1 hr hFi hbn hnd OF OR0
      go_wp2_with fail
      refine (markAbsStateSS_c xs[k].States (q) _ _ _ (by exact g1_0) (by exact O0.out) (by omega) (by omega)).mono ?_
      rintro e w1 ⟨rfl, hm1, rm1, om1⟩
      have hbl1 : b < wr.heap.size := HLt.out b hbF
      have hbk1 : b ∉ F1_0 := fun h => Hbn.out (List.mem_append_left _ h)
      have Hm1 := Lib.hid hm1
      have Hrm1 := Lib.hid rm1
      have Hom1 := Lib.hid om1
      have hcb1 : ∀ o, w1.cell? ⟨b, o, none⟩ = _ := fun o => hm1.cell (p := ⟨b, o, none⟩) (by simpa using hbl1) hbk1
      have hfb1 : ∀ o, w1.frozen? ⟨b, o, none⟩ = _ := fun o => World.frozen?_of_block (a := ⟨b, o, none⟩) (hm1.block b (by simpa using hbl1) hbk1)
      clear hm1 rm1 om1 hbk1
      go_wp2_with fail
      refine (markSumSumS_c xs[k].Outs (q + (cntL xs[k].States : Int)) _ _ _ (by exact RL.chg (G := b :: F1_0) g1_1 (by repeat (first | with_reducible exact Chg.refl _ _ | with_reducible refine Chg.setCell ?_ (Or.inl (by simp)) _ | with_reducible refine Chg.trans ?_ Hm1.out (fun g hg => Or.inl (by grind)))) (fun g hg h => by rcases List.mem_cons.1 h with h | h; exact Hbn.out (h ▸ (List.mem_append_right _ (hg))); exact D0.out g h (hg))) (by exact Own.chg (G := b :: F1_0) O1.out (by repeat (first | with_reducible exact Chg.refl _ _ | with_reducible refine Chg.setCell ?_ (Or.inl (by simp)) _ | with_reducible refine Chg.trans ?_ Hm1.out (fun g hg => Or.inl (by grind)))) (fun g hg h => by rcases List.mem_cons.1 h with h | h; exact Hbn.out (h ▸ (List.mem_append_right _ (hg))); exact D0.out g h (hg))) (by omega) (by omega)).mono ?_
      rintro e w2 ⟨rfl, hm2, rm2, om2⟩
      have hbl2 : b < w1.heap.size := Nat.lt_of_lt_of_le hbl1 (by simpa using Hm1.out.size)
      have hbk2 : b ∉ F1_1 := fun h => Hbn.out (List.mem_append_right _ (h))
      have Hm2 := Lib.hid hm2
      have Hrm2 := Lib.hid rm2
      have Hom2 := Lib.hid om2
      have hcb2 : ∀ o, w2.cell? ⟨b, o, none⟩ = _ := fun o => hm2.cell (p := ⟨b, o, none⟩) (by simpa using hbl2) hbk2
      have hfb2 : ∀ o, w2.frozen? ⟨b, o, none⟩ = _ := fun o => World.frozen?_of_block (a := ⟨b, o, none⟩) (hm2.block b (by simpa using hbl2) hbk2)
      clear hm2 rm2 om2 hbk2
      go_wp2
      go_roundw
      case rel =>
        have hW := ((HE.out.call HLt.out hbF Hbn.out Hm1.out (fun g hg => List.mem_append_left _ hg)).call HLt.out hbF Hbn.out Hm2.out (fun g hg => List.mem_append_right _ (hg)))
        refine ⟨k + 1, by omega, by go_num, ?_, by repeat (first | with_reducible exact HC.out | with_reducible refine Chg.setCell ?_ (Or.inl hbF) _ | with_reducible refine Chg.trans ?_ Hm1.out (fun g hg => Or.inl (HFi.out g (List.mem_append_left _ hg))) | with_reducible refine Chg.trans ?_ Hm2.out (fun g hg => Or.inl (HFi.out g (List.mem_append_right _ (hg))))), ?_, by repeat (first | with_reducible exact HOF.out | with_reducible refine Own.setCell ?_ _ _ | with_reducible refine Own.over ?_ Hom1.out Hm1.out | with_reducible refine Own.over ?_ Hom2.out Hm2.out)⟩
        · rw [cntL_succ xs hlt, ← HqE.out]
          rw [cnt_CrtCert]
          go_num
        · rw [midL_succ xs k0 hlt, HqE.out]
          refine S.out _ _ _ (R_CrtCert.2 ⟨_, _, _, _, ?_, rfl, RL.chg (G := b :: F1_1) Hrm1.out (by repeat (first | with_reducible exact Chg.refl _ _ | with_reducible refine Chg.setCell ?_ (Or.inl (by simp)) _ | with_reducible refine Chg.trans ?_ Hm2.out (fun g hg => Or.inl (by grind)))) (fun g hg h => by rcases List.mem_cons.1 h with h | h; exact Hbn.out (h ▸ (List.mem_append_left _ hg)); exact D0.out g hg h), RL.chg (G := [b]) Hrm2.out (by repeat (first | with_reducible exact Chg.refl _ _ | with_reducible refine Chg.setCell ?_ (Or.inl (by simp)) _)) (fun g hg h => by rcases List.mem_cons.1 h with h | h; exact Hbn.out (h ▸ (List.mem_append_right _ (hg))); simp at h)⟩) hW
          all_goals first | rfl | simp [mark_CrtCert]
      case measure => simp [intOf]; omega
    · rw [cntL_all xs (by omega)] at *
      rw [midL_all xs k0 (by omega)] at hr
      have HR := Lib.hid hr
      have HC := Lib.hid hc
      have HO := Lib.hid ho'
      clear hr hc ho' ha ho
      go_wp2
      go_ret
      exact ⟨rfl, HC.out, HR.out, HO.out⟩

set_option maxRecDepth 100000 in
set_option maxHeartbeats 2000000 in
theorem markEngEng_c (x : EngEng) (k0 : Int) (vCertStates : Value) (FCertStates : List Nat) (vCertOuts : Value) (FCertOuts : List Nat) (w : World) (hCertStates : RL w x.Cert.States vCertStates FCertStates) (hCertOuts : RL w x.Cert.Outs vCertOuts FCertOuts) (ho : Own w (FCertStates ++ (FCertOuts))) (hk0 : 0 ≤ k0) (hk1 : k0 + (cntL x.Cert.States : Int) + (cntL x.Cert.Outs : Int) ≤ 4611686018427387904) : Calls Try.prog 20 #[.agg #[.int .i64 x.Phase, .int .i64 x.Round, vCertStates, vCertOuts], .int .i64 k0] w fun e w' => e = .returned (.int .i64 (k0 + (cntL x.Cert.States : Int) + (cntL x.Cert.Outs : Int))) ∧ Chg (FCertStates ++ (FCertOuts)) w w' ∧ Own w' (FCertStates ++ (FCertOuts)) ∧ RL w' (mkL x.Cert.States (k0)) vCertStates FCertStates ∧ RL w' (mkL x.Cert.Outs (k0 + (cntL x.Cert.States : Int))) vCertOuts FCertOuts := by
  have O0 := Lib.hid (Own.left ho)
  have D0 := Lib.hid (Own.apart ho)
  have OR0 := Own.right ho
  have O1 := Lib.hid OR0
  have HO := Lib.hid ho
  have HL := Lib.hid ho.lt
  clear ho OR0
  go_enter Try.func20, Try.ntmps20
  go_wp2_with fail
  refine (markCrtCert_c x.Cert (k0) _ _ _ _ _ (RL.chg (G := []) hCertStates (by repeat (first | with_reducible exact Chg.refl _ _ | with_reducible refine Chg.alloc ?_ _)) (fun g hg h => by simp at h)) (RL.chg (G := []) hCertOuts (by repeat (first | with_reducible exact Chg.refl _ _ | with_reducible refine Chg.alloc ?_ _)) (fun g hg h => by simp at h)) (Own.append (Own.chg (G := []) O0.out (by repeat (first | with_reducible exact Chg.refl _ _ | with_reducible refine Chg.alloc ?_ _)) (fun g hg h => by simp at h)) (Own.chg (G := []) O1.out (by repeat (first | with_reducible exact Chg.refl _ _ | with_reducible refine Chg.alloc ?_ _)) (fun g hg h => by simp at h)) (fun g hg h => D0.out g hg (by exact h))) (by omega) (by omega)).mono ?_
  rintro e w1 ⟨rfl, hm1, om1, rmCertStates, rmCertOuts⟩
  have hbk1 : w.heap.size ∉ FCertStates ++ (FCertOuts) := fun h => by have := HL.out _ (by rcases List.mem_append.1 h with h | h; exact List.mem_append_left _ h; exact List.mem_append_right _ (h)); omega
  have hs1 := hm1.size
  repeat (first | rw [World.size_alloc] at hs1 | rw [World.size_setCell] at hs1 | rw [World.size_drew] at hs1 | rw [World.heap_drewN] at hs1)
  have hcb1 := fun o => hm1.cell (p := ⟨w.heap.size, o, none⟩) (by first | (simp; done) | omega | (simp; omega)) hbk1
  clear hbk1
  go_wp2
  go_ret
  exact ⟨rfl, by repeat (first | with_reducible exact Chg.refl _ _ | with_reducible refine Chg.alloc ?_ _ | with_reducible refine Chg.trans ?_ hm1 (fun g hg => Or.inl (by rcases List.mem_append.1 hg with hg | hg; exact List.mem_append_left _ hg; exact List.mem_append_right _ (hg)))), by repeat (first | with_reducible exact HO.out | with_reducible refine Own.alloc ?_ _ | with_reducible refine Own.over ?_ om1 hm1), rmCertStates,
    rmCertOuts⟩

set_option maxRecDepth 100000 in
set_option maxHeartbeats 2000000 in
theorem markWrkWorker_c (x : WrkWorker) (k0 : Int) (vSums : Value) (FSums : List Nat) (vEngCertStates : Value) (FEngCertStates : List Nat) (vEngCertOuts : Value) (FEngCertOuts : List Nat) (w : World) (hSums : RL w x.Sums vSums FSums) (hEngCertStates : RL w x.Eng.Cert.States vEngCertStates FEngCertStates) (hEngCertOuts : RL w x.Eng.Cert.Outs vEngCertOuts FEngCertOuts) (ho : Own w (FSums ++ (FEngCertStates ++ (FEngCertOuts)))) (hk0 : 0 ≤ k0) (hk1 : k0 + (cntL x.Sums : Int) + (cntL x.Eng.Cert.States : Int) + (cntL x.Eng.Cert.Outs : Int) ≤ 4611686018427387904) : Calls Try.prog 8 #[.agg #[.bool x.Up, .bool x.Busy, .int .i64 x.Part, .int .i64 x.Epoch, .int .i64 x.Seq, vSums, .int .i64 x.Eng.Phase, .int .i64 x.Eng.Round, vEngCertStates, vEngCertOuts], .int .i64 k0] w fun e w' => e = .returned (.int .i64 (k0 + (cntL x.Sums : Int) + (cntL x.Eng.Cert.States : Int) + (cntL x.Eng.Cert.Outs : Int))) ∧ Chg (FSums ++ (FEngCertStates ++ (FEngCertOuts))) w w' ∧ Own w' (FSums ++ (FEngCertStates ++ (FEngCertOuts))) ∧ RL w' (mkL x.Sums (k0)) vSums FSums ∧ RL w' (mkL x.Eng.Cert.States (k0 + (cntL x.Sums : Int))) vEngCertStates FEngCertStates ∧ RL w' (mkL x.Eng.Cert.Outs (k0 + (cntL x.Sums : Int) + (cntL x.Eng.Cert.States : Int))) vEngCertOuts FEngCertOuts := by
  have O0 := Lib.hid (Own.left ho)
  have D0 := Lib.hid (Own.apart ho)
  have OR0 := Own.right ho
  have O1 := Lib.hid (Own.left OR0)
  have D1 := Lib.hid (Own.apart OR0)
  have OR1 := Own.right OR0
  have O2 := Lib.hid OR1
  have HO := Lib.hid ho
  have HL := Lib.hid ho.lt
  clear ho OR0 OR1
  go_enter Try.func8, Try.ntmps8
  go_wp2_with fail
  refine (markSumSumS_c x.Sums (k0) _ _ _ (RL.chg (G := []) hSums (by repeat (first | with_reducible exact Chg.refl _ _ | with_reducible refine Chg.alloc ?_ _)) (fun g hg h => by simp at h)) (Own.chg (G := []) O0.out (by repeat (first | with_reducible exact Chg.refl _ _ | with_reducible refine Chg.alloc ?_ _)) (fun g hg h => by simp at h)) (by omega) (by omega)).mono ?_
  rintro e w1 ⟨rfl, hm1, rmSums, om1⟩
  have hbk1 : w.heap.size ∉ FSums := fun h => by have := HL.out _ (by exact List.mem_append_left _ h); omega
  have hs1 := hm1.size
  repeat (first | rw [World.size_alloc] at hs1 | rw [World.size_setCell] at hs1 | rw [World.size_drew] at hs1 | rw [World.heap_drewN] at hs1)
  have hcb1 := fun o => hm1.cell (p := ⟨w.heap.size, o, none⟩) (by first | (simp; done) | omega | (simp; omega)) hbk1
  clear hbk1
  go_wp2_with fail
  refine (markEngEng_c x.Eng (k0 + (cntL x.Sums : Int)) _ _ _ _ _ (RL.chg (G := FSums) hEngCertStates (by repeat (first | with_reducible exact Chg.refl _ _ | with_reducible refine Chg.alloc ?_ _ | with_reducible refine Chg.trans ?_ hm1 (fun g hg => Or.inl (by exact hg)))) (fun g hg h => by exact D0.out g h (List.mem_append_left _ hg))) (RL.chg (G := FSums) hEngCertOuts (by repeat (first | with_reducible exact Chg.refl _ _ | with_reducible refine Chg.alloc ?_ _ | with_reducible refine Chg.trans ?_ hm1 (fun g hg => Or.inl (by exact hg)))) (fun g hg h => by exact D0.out g h (List.mem_append_right _ (hg)))) (Own.append (Own.chg (G := FSums) O1.out (by repeat (first | with_reducible exact Chg.refl _ _ | with_reducible refine Chg.alloc ?_ _ | with_reducible refine Chg.trans ?_ hm1 (fun g hg => Or.inl (by exact hg)))) (fun g hg h => by exact D0.out g h (List.mem_append_left _ hg))) (Own.chg (G := FSums) O2.out (by repeat (first | with_reducible exact Chg.refl _ _ | with_reducible refine Chg.alloc ?_ _ | with_reducible refine Chg.trans ?_ hm1 (fun g hg => Or.inl (by exact hg)))) (fun g hg h => by exact D0.out g h (List.mem_append_right _ (hg)))) (fun g hg h => D1.out g hg (by exact h))) (by omega) (by omega)).mono ?_
  rintro e w2 ⟨rfl, hm2, om2, rmEngCertStates, rmEngCertOuts⟩
  have hbk2 : w.heap.size ∉ FEngCertStates ++ (FEngCertOuts) := fun h => by have := HL.out _ (by rcases List.mem_append.1 h with h | h; exact List.mem_append_right _ (List.mem_append_left _ h); exact List.mem_append_right _ (List.mem_append_right _ (h))); omega
  have hs2 := hm2.size
  repeat (first | rw [World.size_alloc] at hs2 | rw [World.size_setCell] at hs2 | rw [World.size_drew] at hs2 | rw [World.heap_drewN] at hs2)
  have hcb2 := fun o => hm2.cell (p := ⟨w.heap.size, o, none⟩) (by first | (simp; done) | omega | (simp; omega)) hbk2
  clear hbk2
  go_wp2
  go_ret
  exact ⟨rfl, by repeat (first | with_reducible exact Chg.refl _ _ | with_reducible refine Chg.alloc ?_ _ | with_reducible refine Chg.trans ?_ hm1 (fun g hg => Or.inl (by exact List.mem_append_left _ hg)) | with_reducible refine Chg.trans ?_ hm2 (fun g hg => Or.inl (by rcases List.mem_append.1 hg with hg | hg; exact List.mem_append_right _ (List.mem_append_left _ hg); exact List.mem_append_right _ (List.mem_append_right _ (hg))))), by repeat (first | with_reducible exact HO.out | with_reducible refine Own.alloc ?_ _ | with_reducible refine Own.over ?_ om1 hm1 | with_reducible refine Own.over ?_ om2 hm2), RL.chg (G := FEngCertStates ++ (FEngCertOuts)) rmSums (by repeat (first | with_reducible exact Chg.refl _ _ | with_reducible refine Chg.trans ?_ hm2 (fun g hg => Or.inl (by rcases List.mem_append.1 hg with hg | hg; exact List.mem_append_left _ hg; exact List.mem_append_right _ (hg))))) (fun g hg h => D0.out g hg (h)),
    rmEngCertStates,
    rmEngCertOuts⟩

set_option maxRecDepth 100000 in
set_option maxHeartbeats 4000000 in
theorem markCrdLeaseS_c (xs : List CrdLease) (k0 : Int) (a : Value) (F : List Nat) (w : World) (ha : RL w xs a F) (ho : Own w F) (hk0 : 0 ≤ k0) (hk1 : k0 + cntL xs ≤ 4611686018427387904) :
    Calls Try.prog 41 #[a, .int .i64 k0] w fun e w' => e = .returned (.int .i64 (k0 + cntL xs)) ∧ Chg F w w' ∧ RL w' (mkL xs k0) a F ∧ Own w' F := by
  obtain ⟨A, ca, rfl, hla, hma⟩ := ha.form
  have hn : xs.length ≤ maxLen := by omega
  unfold maxLen at hn
  go_enter Try.func41, Try.ntmps41
  go_wp2
  go_loopw [1, 5] (fun kk i wr => ∃ k : Nat, k ≤ xs.length ∧ i = .int .i64 k ∧ kk = .int .i64 (k0 + cntL (xs.take k)) ∧ Chg F w wr ∧ RL wr (midL xs k0 k) (.slice A xs.length ca) F ∧ Own wr F) (fun _ i _ => xs.length - (intOf i).toNat)
  case atStart => exact ⟨0, Nat.zero_le _, rfl, by simp [cntL], Chg.refl _ _, by rw [midL_zero]; exact ha, ho⟩
  case round =>
    obtain ⟨k, hk, rfl, rfl, hc, hr, ho'⟩ := hrel
    by_cases hlt : k < xs.length
    · obtain ⟨b, off, cap, cs, Fi, e1, r1, m1, hFi, hbF, hbn, hnd, E0, shut⟩ := hr.open_elt ho'.nodup (i := k) (by simpa using hlt)
      rw [midL_at xs k0 hlt] at r1
      rw [midL_length] at e1
      have hct := cntL_take_le xs (k + 1)
      rw [cntL_succ xs hlt] at hct
      obtain ⟨rfl, hF1, i1_0, i1_1, i1_2, i1_3⟩ := R_CrdLease.1 r1
      injection e1 with e1 _ e1c
      subst e1 e1c
      have ya0 := m1 0 (by decide)
      have ya1 := m1 1 (by decide)
      have ya2 := m1 2 (by decide)
      have ya3 := m1 3 (by decide)
      simp only [sz_CrdLease, Nat.add_zero, List.getElem?_cons_zero, List.getElem?_cons_succ] at E0 shut ya0 ya1 ya2 ya3
      simp only [cnt_CrdLease] at hct
      have hq0 : 0 ≤ k0 + (cntL (xs.take k) : Int) := by omega
      have hq1 : k0 + (cntL (xs.take k) : Int) + 1 + 1 + 1 + 1 ≤ 4611686018427387904 := by omega
      generalize hq : k0 + (cntL (xs.take k) : Int) = q at *
      have HOF := Lib.hid ho'
      have HLt := Lib.hid hr.lt
      have S := Lib.hid shut
      have HE := Lib.hid E0
      have HC := Lib.hid hc
      have HqE := Lib.hid hq
      have HFi := Lib.hid hFi
      have Hbn := Lib.hid hbn
      have yf0 := ho'.frozen hbF (o := off + k * 4)
      have yf1 := ho'.frozen hbF (o := off + k * 4 + 1)
      have yf2 := ho'.frozen hbF (o := off + k * 4 + 2)
      have yf3 := ho'.frozen hbF (o := off + k * 4 + 3)
      clear shut E0 hc ho' hct hq ha ho r1 m1 hr hFi hbn hnd
      clear i1_0 i1_1 i1_2 i1_3
      subst hF1
      go_wp2
      go_roundw
      case rel =>
        have hW := ((((HE.out.store0 (by simp) (.int .i64 (q))).store 1 (by simp) (.int .i64 (q + 1))).store 2 (by simp) (.int .i64 (q + 1 + 1))).store 3 (by simp) (.int .i64 (q + 1 + 1 + 1)))
        refine ⟨k + 1, by omega, by go_num, ?_, by repeat (first | with_reducible exact HC.out | with_reducible refine Chg.setCell ?_ (Or.inl hbF) _), ?_, by repeat (first | with_reducible exact HOF.out | with_reducible refine Own.setCell ?_ _ _)⟩
        · rw [cntL_succ xs hlt, ← HqE.out]
          rw [cnt_CrdLease]
          go_num
        · rw [midL_succ xs k0 hlt, HqE.out]
          refine S.out _ _ _ (R_CrdLease.2 ⟨?_, rfl, ⟨by simp only [mark_CrdLease]; omega, by simp only [mark_CrdLease]; omega⟩, ⟨by simp only [mark_CrdLease]; omega, by simp only [mark_CrdLease]; omega⟩, ⟨by simp only [mark_CrdLease]; omega, by simp only [mark_CrdLease]; omega⟩, ⟨by simp only [mark_CrdLease]; omega, by simp only [mark_CrdLease]; omega⟩⟩) hW
          all_goals first | rfl | simp [mark_CrdLease]
      case measure => simp [intOf]; omega
    · rw [cntL_all xs (by omega)] at *
      rw [midL_all xs k0 (by omega)] at hr
      have HR := Lib.hid hr
      have HC := Lib.hid hc
      have HO := Lib.hid ho'
      clear hr hc ho' ha ho
      go_wp2
      go_ret
      exact ⟨rfl, HC.out, HR.out, HO.out⟩

set_option maxRecDepth 100000 in
set_option maxHeartbeats 4000000 in
theorem markBoolS_c (xs : List Bool) (k0 : Int) (a : Value) (F : List Nat) (w : World) (ha : RL w xs a F) (ho : Own w F) (hk0 : 0 ≤ k0) (hk1 : k0 + cntL xs ≤ 4611686018427387904) :
    Calls Try.prog 39 #[a, .int .i64 k0] w fun e w' => e = .returned (.int .i64 (k0 + cntL xs)) ∧ Chg F w w' ∧ RL w' (mkL xs k0) a F ∧ Own w' F := by
  obtain ⟨A, ca, rfl, hla, hma⟩ := ha.form
  have hn : xs.length ≤ maxLen := by omega
  unfold maxLen at hn
  go_enter Try.func39, Try.ntmps39
  go_wp2
  go_loopw [1, 5] (fun kk i wr => ∃ k : Nat, k ≤ xs.length ∧ i = .int .i64 k ∧ kk = .int .i64 (k0 + cntL (xs.take k)) ∧ Chg F w wr ∧ RL wr (midL xs k0 k) (.slice A xs.length ca) F ∧ Own wr F) (fun _ i _ => xs.length - (intOf i).toNat)
  case atStart => exact ⟨0, Nat.zero_le _, rfl, by simp [cntL], Chg.refl _ _, by rw [midL_zero]; exact ha, ho⟩
  case round =>
    obtain ⟨k, hk, rfl, rfl, hc, hr, ho'⟩ := hrel
    by_cases hlt : k < xs.length
    · obtain ⟨b, off, cap, cs, Fi, e1, r1, m1, hFi, hbF, hbn, hnd, E0, shut⟩ := hr.open_elt ho'.nodup (i := k) (by simpa using hlt)
      rw [midL_at xs k0 hlt] at r1
      rw [midL_length] at e1
      have hct := cntL_take_le xs (k + 1)
      rw [cntL_succ xs hlt] at hct
      obtain ⟨rfl, hF1⟩ := R_bool.1 r1
      subst hF1
      injection e1 with e1 _ e1c
      subst e1 e1c
      have ya0 := m1 0 (by decide)
      simp only [sz_bool, Nat.mul_one, Nat.add_zero, List.getElem?_cons_zero] at E0 shut ya0
      change cntL (xs.take k) + 1 ≤ _ at hct
      have hq0 : 0 ≤ k0 + (cntL (xs.take k) : Int) := by omega
      have hq1 : k0 + (cntL (xs.take k) : Int) + 1 ≤ 4611686018427387904 := by omega
      generalize hq : k0 + (cntL (xs.take k) : Int) = q at *
      have HOF := Lib.hid ho'
      have HLt := Lib.hid hr.lt
      have S := Lib.hid shut
      have HE := Lib.hid E0
      have HC := Lib.hid hc
      have HqE := Lib.hid hq
      have HFi := Lib.hid hFi
      have Hbn := Lib.hid hbn
      have yf0 := ho'.frozen hbF (o := off + k)
      clear shut E0 hc ho' hct hq ha ho r1 m1 hr hFi hbn hnd
      go_wp2
      go_roundw
      case rel =>
        have hW := (HE.out.store0 (by simp) (.bool ((q) % 3 == 0)))
        refine ⟨k + 1, by omega, by go_num, ?_, by repeat (first | with_reducible exact HC.out | with_reducible refine Chg.setCell ?_ (Or.inl hbF) _), ?_, by repeat (first | with_reducible exact HOF.out | with_reducible refine Own.setCell ?_ _ _)⟩
        · rw [cntL_succ xs hlt, ← HqE.out]
          change _ = Value.int IntKind.i64 (k0 + ((cntL (xs.take k) + 1 : Nat) : Int))
          go_num
        · rw [midL_succ xs k0 hlt, HqE.out]
          refine S.out _ _ _ (R_bool.2 ⟨rfl, rfl⟩) hW
          
      case measure => simp [intOf]; omega
    · rw [cntL_all xs (by omega)] at *
      rw [midL_all xs k0 (by omega)] at hr
      have HR := Lib.hid hr
      have HC := Lib.hid hc
      have HO := Lib.hid ho'
      clear hr hc ho' ha ho
      go_wp2
      go_ret
      exact ⟨rfl, HC.out, HR.out, HO.out⟩

set_option maxRecDepth 100000 in
set_option maxHeartbeats 4000000 in
theorem markByteS_c (xs : List UInt8) (k0 : Int) (a : Value) (F : List Nat) (w : World) (ha : RL w xs a F) (ho : Own w F) (hk0 : 0 ≤ k0) (hk1 : k0 + cntL xs ≤ 4611686018427387904) :
    Calls Try.prog 43 #[a, .int .i64 k0] w fun e w' => e = .returned (.int .i64 (k0 + cntL xs)) ∧ Chg F w w' ∧ RL w' (mkL xs k0) a F ∧ Own w' F := by
  obtain ⟨A, ca, rfl, hla, hma⟩ := ha.form
  have hn : xs.length ≤ maxLen := by omega
  unfold maxLen at hn
  go_enter Try.func43, Try.ntmps43
  go_wp2
  go_loopw [1, 5] (fun kk i wr => ∃ k : Nat, k ≤ xs.length ∧ i = .int .i64 k ∧ kk = .int .i64 (k0 + cntL (xs.take k)) ∧ Chg F w wr ∧ RL wr (midL xs k0 k) (.slice A xs.length ca) F ∧ Own wr F) (fun _ i _ => xs.length - (intOf i).toNat)
  case atStart => exact ⟨0, Nat.zero_le _, rfl, by simp [cntL], Chg.refl _ _, by rw [midL_zero]; exact ha, ho⟩
  case round =>
    obtain ⟨k, hk, rfl, rfl, hc, hr, ho'⟩ := hrel
    by_cases hlt : k < xs.length
    · obtain ⟨b, off, cap, cs, Fi, e1, r1, m1, hFi, hbF, hbn, hnd, E0, shut⟩ := hr.open_elt ho'.nodup (i := k) (by simpa using hlt)
      rw [midL_at xs k0 hlt] at r1
      rw [midL_length] at e1
      have hct := cntL_take_le xs (k + 1)
      rw [cntL_succ xs hlt] at hct
      obtain ⟨rfl, hF1⟩ := R_u8.1 r1
      subst hF1
      injection e1 with e1 _ e1c
      subst e1 e1c
      have ya0 := m1 0 (by decide)
      simp only [sz_u8, Nat.mul_one, Nat.add_zero, List.getElem?_cons_zero] at E0 shut ya0
      change cntL (xs.take k) + 1 ≤ _ at hct
      have hq0 : 0 ≤ k0 + (cntL (xs.take k) : Int) := by omega
      have hq1 : k0 + (cntL (xs.take k) : Int) + 1 ≤ 4611686018427387904 := by omega
      generalize hq : k0 + (cntL (xs.take k) : Int) = q at *
      have HOF := Lib.hid ho'
      have HLt := Lib.hid hr.lt
      have S := Lib.hid shut
      have HE := Lib.hid E0
      have HC := Lib.hid hc
      have HqE := Lib.hid hq
      have HFi := Lib.hid hFi
      have Hbn := Lib.hid hbn
      have yf0 := ho'.frozen hbF (o := off + k)
      clear shut E0 hc ho' hct hq ha ho r1 m1 hr hFi hbn hnd
      go_wp2
      go_roundw
      case rel =>
        have hW := (HE.out.store0 (by simp) (.int .u8 ((q) % 256)))
        refine ⟨k + 1, by omega, by go_num, ?_, by repeat (first | with_reducible exact HC.out | with_reducible refine Chg.setCell ?_ (Or.inl hbF) _), ?_, by repeat (first | with_reducible exact HOF.out | with_reducible refine Own.setCell ?_ _ _)⟩
        · rw [cntL_succ xs hlt, ← HqE.out]
          change _ = Value.int IntKind.i64 (k0 + ((cntL (xs.take k) + 1 : Nat) : Int))
          go_num
        · rw [midL_succ xs k0 hlt, HqE.out]
          refine S.out _ _ _ (R_u8.2 ⟨?_, rfl⟩) hW
          exact (u8_mark_cell q).symm
      case measure => simp [intOf]; omega
    · rw [cntL_all xs (by omega)] at *
      rw [midL_all xs k0 (by omega)] at hr
      have HR := Lib.hid hr
      have HC := Lib.hid hc
      have HO := Lib.hid ho'
      clear hr hc ho' ha ho
      go_wp2
      go_ret
      exact ⟨rfl, HC.out, HR.out, HO.out⟩

set_option maxRecDepth 100000 in
set_option maxHeartbeats 2000000 in
theorem markCrdCoord_c (x : CrdCoord) (k0 : Int) (vDone : Value) (FDone : List Nat) (vCerts : Value) (FCerts : List Nat) (vLeases : Value) (FLeases : List Nat) (vVerdictSites : Value) (FVerdictSites : List Nat) (vLog : Value) (FLog : List Nat) (w : World) (hDone : RL w x.Done vDone FDone) (hCerts : RL w x.Certs vCerts FCerts) (hLeases : RL w x.Leases vLeases FLeases) (hVerdictSites : RL w x.Verdict.Sites vVerdictSites FVerdictSites) (hLog : RL w x.Log vLog FLog) (ho : Own w (FDone ++ (FCerts ++ (FLeases ++ (FVerdictSites ++ (FLog)))))) (hk0 : 0 ≤ k0) (hk1 : k0 + (cntL x.Done : Int) + (cntL x.Certs : Int) + (cntL x.Leases : Int) + (cntL x.Verdict.Sites : Int) + (cntL x.Log : Int) ≤ 4611686018427387904) : Calls Try.prog 15 #[.agg #[.bool x.Up, .int .i64 x.Epoch, .int .i64 x.Seq, .int .i64 x.Clock, vDone, vCerts, vLeases, .int .i64 x.Verdict.Kind, .int .i64 x.Verdict.Line, vVerdictSites, vLog], .int .i64 k0] w fun e w' => e = .returned (.int .i64 (k0 + (cntL x.Done : Int) + (cntL x.Certs : Int) + (cntL x.Leases : Int) + (cntL x.Verdict.Sites : Int) + (cntL x.Log : Int))) ∧ Chg (FDone ++ (FCerts ++ (FLeases ++ (FVerdictSites ++ (FLog))))) w w' ∧ Own w' (FDone ++ (FCerts ++ (FLeases ++ (FVerdictSites ++ (FLog))))) ∧ RL w' (mkL x.Done (k0)) vDone FDone ∧ RL w' (mkL x.Certs (k0 + (cntL x.Done : Int))) vCerts FCerts ∧ RL w' (mkL x.Leases (k0 + (cntL x.Done : Int) + (cntL x.Certs : Int))) vLeases FLeases ∧ RL w' (mkL x.Verdict.Sites (k0 + (cntL x.Done : Int) + (cntL x.Certs : Int) + (cntL x.Leases : Int))) vVerdictSites FVerdictSites ∧ RL w' (mkL x.Log (k0 + (cntL x.Done : Int) + (cntL x.Certs : Int) + (cntL x.Leases : Int) + (cntL x.Verdict.Sites : Int))) vLog FLog := by
  have O0 := Lib.hid (Own.left ho)
  have D0 := Lib.hid (Own.apart ho)
  have OR0 := Own.right ho
  have O1 := Lib.hid (Own.left OR0)
  have D1 := Lib.hid (Own.apart OR0)
  have OR1 := Own.right OR0
  have O2 := Lib.hid (Own.left OR1)
  have D2 := Lib.hid (Own.apart OR1)
  have OR2 := Own.right OR1
  have O3 := Lib.hid (Own.left OR2)
  have D3 := Lib.hid (Own.apart OR2)
  have OR3 := Own.right OR2
  have O4 := Lib.hid OR3
  have HO := Lib.hid ho
  have HL := Lib.hid ho.lt
  clear ho OR0 OR1 OR2 OR3
  go_enter Try.func15, Try.ntmps15
  go_wp2_with fail
  refine (markBoolS_c x.Done (k0) _ _ _ (RL.chg (G := []) hDone (by repeat (first | with_reducible exact Chg.refl _ _ | with_reducible refine Chg.alloc ?_ _)) (fun g hg h => by simp at h)) (Own.chg (G := []) O0.out (by repeat (first | with_reducible exact Chg.refl _ _ | with_reducible refine Chg.alloc ?_ _)) (fun g hg h => by simp at h)) (by omega) (by omega)).mono ?_
  rintro e w1 ⟨rfl, hm1, rmDone, om1⟩
  have hbk1 : w.heap.size ∉ FDone := fun h => by have := HL.out _ (by exact List.mem_append_left _ h); omega
  have hs1 := hm1.size
  repeat (first | rw [World.size_alloc] at hs1 | rw [World.size_setCell] at hs1 | rw [World.size_drew] at hs1 | rw [World.heap_drewN] at hs1)
  have hcb1 := fun o => hm1.cell (p := ⟨w.heap.size, o, none⟩) (by first | (simp; done) | omega | (simp; omega)) hbk1
  clear hbk1
  go_wp2_with fail
  refine (markCrtCertS_c x.Certs (k0 + (cntL x.Done : Int)) _ _ _ (RL.chg (G := FDone) hCerts (by repeat (first | with_reducible exact Chg.refl _ _ | with_reducible refine Chg.alloc ?_ _ | with_reducible refine Chg.trans ?_ hm1 (fun g hg => Or.inl (by exact hg)))) (fun g hg h => by exact D0.out g h (List.mem_append_left _ hg))) (Own.chg (G := FDone) O1.out (by repeat (first | with_reducible exact Chg.refl _ _ | with_reducible refine Chg.alloc ?_ _ | with_reducible refine Chg.trans ?_ hm1 (fun g hg => Or.inl (by exact hg)))) (fun g hg h => by exact D0.out g h (List.mem_append_left _ hg))) (by omega) (by omega)).mono ?_
  rintro e w2 ⟨rfl, hm2, rmCerts, om2⟩
  have hbk2 : w.heap.size ∉ FCerts := fun h => by have := HL.out _ (by exact List.mem_append_right _ (List.mem_append_left _ h)); omega
  have hs2 := hm2.size
  repeat (first | rw [World.size_alloc] at hs2 | rw [World.size_setCell] at hs2 | rw [World.size_drew] at hs2 | rw [World.heap_drewN] at hs2)
  have hcb2 := fun o => hm2.cell (p := ⟨w.heap.size, o, none⟩) (by first | (simp; done) | omega | (simp; omega)) hbk2
  clear hbk2
  go_wp2_with fail
  refine (markCrdLeaseS_c x.Leases (k0 + (cntL x.Done : Int) + (cntL x.Certs : Int)) _ _ _ (RL.chg (G := FDone ++ (FCerts)) hLeases (by repeat (first | with_reducible exact Chg.refl _ _ | with_reducible refine Chg.alloc ?_ _ | with_reducible refine Chg.trans ?_ hm1 (fun g hg => Or.inl (by exact List.mem_append_left _ hg)) | with_reducible refine Chg.trans ?_ hm2 (fun g hg => Or.inl (by exact List.mem_append_right _ (hg))))) (fun g hg h => by rcases List.mem_append.1 h with h | h; exact D0.out g h (List.mem_append_right _ (List.mem_append_left _ hg)); exact D1.out g h (List.mem_append_left _ hg))) (Own.chg (G := FDone ++ (FCerts)) O2.out (by repeat (first | with_reducible exact Chg.refl _ _ | with_reducible refine Chg.alloc ?_ _ | with_reducible refine Chg.trans ?_ hm1 (fun g hg => Or.inl (by exact List.mem_append_left _ hg)) | with_reducible refine Chg.trans ?_ hm2 (fun g hg => Or.inl (by exact List.mem_append_right _ (hg))))) (fun g hg h => by rcases List.mem_append.1 h with h | h; exact D0.out g h (List.mem_append_right _ (List.mem_append_left _ hg)); exact D1.out g h (List.mem_append_left _ hg))) (by omega) (by omega)).mono ?_
  rintro e w3 ⟨rfl, hm3, rmLeases, om3⟩
  have hbk3 : w.heap.size ∉ FLeases := fun h => by have := HL.out _ (by exact List.mem_append_right _ (List.mem_append_right _ (List.mem_append_left _ h))); omega
  have hs3 := hm3.size
  repeat (first | rw [World.size_alloc] at hs3 | rw [World.size_setCell] at hs3 | rw [World.size_drew] at hs3 | rw [World.heap_drewN] at hs3)
  have hcb3 := fun o => hm3.cell (p := ⟨w.heap.size, o, none⟩) (by first | (simp; done) | omega | (simp; omega)) hbk3
  clear hbk3
  go_wp2_with fail
  refine (markVrdVerdict_c x.Verdict (k0 + (cntL x.Done : Int) + (cntL x.Certs : Int) + (cntL x.Leases : Int)) _ _ _ (RL.chg (G := FDone ++ (FCerts ++ (FLeases))) hVerdictSites (by repeat (first | with_reducible exact Chg.refl _ _ | with_reducible refine Chg.alloc ?_ _ | with_reducible refine Chg.trans ?_ hm1 (fun g hg => Or.inl (by exact List.mem_append_left _ hg)) | with_reducible refine Chg.trans ?_ hm2 (fun g hg => Or.inl (by exact List.mem_append_right _ (List.mem_append_left _ hg))) | with_reducible refine Chg.trans ?_ hm3 (fun g hg => Or.inl (by exact List.mem_append_right _ (List.mem_append_right _ (hg)))))) (fun g hg h => by rcases List.mem_append.1 h with h | h; exact D0.out g h (List.mem_append_right _ (List.mem_append_right _ (List.mem_append_left _ hg))); rcases List.mem_append.1 h with h | h; exact D1.out g h (List.mem_append_right _ (List.mem_append_left _ hg)); exact D2.out g h (List.mem_append_left _ hg))) (Own.chg (G := FDone ++ (FCerts ++ (FLeases))) O3.out (by repeat (first | with_reducible exact Chg.refl _ _ | with_reducible refine Chg.alloc ?_ _ | with_reducible refine Chg.trans ?_ hm1 (fun g hg => Or.inl (by exact List.mem_append_left _ hg)) | with_reducible refine Chg.trans ?_ hm2 (fun g hg => Or.inl (by exact List.mem_append_right _ (List.mem_append_left _ hg))) | with_reducible refine Chg.trans ?_ hm3 (fun g hg => Or.inl (by exact List.mem_append_right _ (List.mem_append_right _ (hg)))))) (fun g hg h => by rcases List.mem_append.1 h with h | h; exact D0.out g h (List.mem_append_right _ (List.mem_append_right _ (List.mem_append_left _ hg))); rcases List.mem_append.1 h with h | h; exact D1.out g h (List.mem_append_right _ (List.mem_append_left _ hg)); exact D2.out g h (List.mem_append_left _ hg))) (by omega) (by omega)).mono ?_
  rintro e w4 ⟨rfl, hm4, om4, rmVerdictSites⟩
  have hbk4 : w.heap.size ∉ FVerdictSites := fun h => by have := HL.out _ (by exact List.mem_append_right _ (List.mem_append_right _ (List.mem_append_right _ (List.mem_append_left _ h)))); omega
  have hs4 := hm4.size
  repeat (first | rw [World.size_alloc] at hs4 | rw [World.size_setCell] at hs4 | rw [World.size_drew] at hs4 | rw [World.heap_drewN] at hs4)
  have hcb4 := fun o => hm4.cell (p := ⟨w.heap.size, o, none⟩) (by first | (simp; done) | omega | (simp; omega)) hbk4
  clear hbk4
  go_wp2_with fail
  refine (markByteS_c x.Log (k0 + (cntL x.Done : Int) + (cntL x.Certs : Int) + (cntL x.Leases : Int) + (cntL x.Verdict.Sites : Int)) _ _ _ (RL.chg (G := FDone ++ (FCerts ++ (FLeases ++ (FVerdictSites)))) hLog (by repeat (first | with_reducible exact Chg.refl _ _ | with_reducible refine Chg.alloc ?_ _ | with_reducible refine Chg.trans ?_ hm1 (fun g hg => Or.inl (by exact List.mem_append_left _ hg)) | with_reducible refine Chg.trans ?_ hm2 (fun g hg => Or.inl (by exact List.mem_append_right _ (List.mem_append_left _ hg))) | with_reducible refine Chg.trans ?_ hm3 (fun g hg => Or.inl (by exact List.mem_append_right _ (List.mem_append_right _ (List.mem_append_left _ hg)))) | with_reducible refine Chg.trans ?_ hm4 (fun g hg => Or.inl (by exact List.mem_append_right _ (List.mem_append_right _ (List.mem_append_right _ (hg))))))) (fun g hg h => by rcases List.mem_append.1 h with h | h; exact D0.out g h (List.mem_append_right _ (List.mem_append_right _ (List.mem_append_right _ (hg)))); rcases List.mem_append.1 h with h | h; exact D1.out g h (List.mem_append_right _ (List.mem_append_right _ (hg))); rcases List.mem_append.1 h with h | h; exact D2.out g h (List.mem_append_right _ (hg)); exact D3.out g h (hg))) (Own.chg (G := FDone ++ (FCerts ++ (FLeases ++ (FVerdictSites)))) O4.out (by repeat (first | with_reducible exact Chg.refl _ _ | with_reducible refine Chg.alloc ?_ _ | with_reducible refine Chg.trans ?_ hm1 (fun g hg => Or.inl (by exact List.mem_append_left _ hg)) | with_reducible refine Chg.trans ?_ hm2 (fun g hg => Or.inl (by exact List.mem_append_right _ (List.mem_append_left _ hg))) | with_reducible refine Chg.trans ?_ hm3 (fun g hg => Or.inl (by exact List.mem_append_right _ (List.mem_append_right _ (List.mem_append_left _ hg)))) | with_reducible refine Chg.trans ?_ hm4 (fun g hg => Or.inl (by exact List.mem_append_right _ (List.mem_append_right _ (List.mem_append_right _ (hg))))))) (fun g hg h => by rcases List.mem_append.1 h with h | h; exact D0.out g h (List.mem_append_right _ (List.mem_append_right _ (List.mem_append_right _ (hg)))); rcases List.mem_append.1 h with h | h; exact D1.out g h (List.mem_append_right _ (List.mem_append_right _ (hg))); rcases List.mem_append.1 h with h | h; exact D2.out g h (List.mem_append_right _ (hg)); exact D3.out g h (hg))) (by omega) (by omega)).mono ?_
  rintro e w5 ⟨rfl, hm5, rmLog, om5⟩
  have hbk5 : w.heap.size ∉ FLog := fun h => by have := HL.out _ (by exact List.mem_append_right _ (List.mem_append_right _ (List.mem_append_right _ (List.mem_append_right _ (h))))); omega
  have hs5 := hm5.size
  repeat (first | rw [World.size_alloc] at hs5 | rw [World.size_setCell] at hs5 | rw [World.size_drew] at hs5 | rw [World.heap_drewN] at hs5)
  have hcb5 := fun o => hm5.cell (p := ⟨w.heap.size, o, none⟩) (by first | (simp; done) | omega | (simp; omega)) hbk5
  clear hbk5
  go_wp2
  go_ret
  exact ⟨rfl, by repeat (first | with_reducible exact Chg.refl _ _ | with_reducible refine Chg.alloc ?_ _ | with_reducible refine Chg.trans ?_ hm1 (fun g hg => Or.inl (by exact List.mem_append_left _ hg)) | with_reducible refine Chg.trans ?_ hm2 (fun g hg => Or.inl (by exact List.mem_append_right _ (List.mem_append_left _ hg))) | with_reducible refine Chg.trans ?_ hm3 (fun g hg => Or.inl (by exact List.mem_append_right _ (List.mem_append_right _ (List.mem_append_left _ hg)))) | with_reducible refine Chg.trans ?_ hm4 (fun g hg => Or.inl (by exact List.mem_append_right _ (List.mem_append_right _ (List.mem_append_right _ (List.mem_append_left _ hg))))) | with_reducible refine Chg.trans ?_ hm5 (fun g hg => Or.inl (by exact List.mem_append_right _ (List.mem_append_right _ (List.mem_append_right _ (List.mem_append_right _ (hg))))))), by repeat (first | with_reducible exact HO.out | with_reducible refine Own.alloc ?_ _ | with_reducible refine Own.over ?_ om1 hm1 | with_reducible refine Own.over ?_ om2 hm2 | with_reducible refine Own.over ?_ om3 hm3 | with_reducible refine Own.over ?_ om4 hm4 | with_reducible refine Own.over ?_ om5 hm5), RL.chg (G := FCerts ++ (FLeases ++ (FVerdictSites ++ (FLog)))) rmDone (by repeat (first | with_reducible exact Chg.refl _ _ | with_reducible refine Chg.trans ?_ hm2 (fun g hg => Or.inl (by exact List.mem_append_left _ hg)) | with_reducible refine Chg.trans ?_ hm3 (fun g hg => Or.inl (by exact List.mem_append_right _ (List.mem_append_left _ hg))) | with_reducible refine Chg.trans ?_ hm4 (fun g hg => Or.inl (by exact List.mem_append_right _ (List.mem_append_right _ (List.mem_append_left _ hg)))) | with_reducible refine Chg.trans ?_ hm5 (fun g hg => Or.inl (by exact List.mem_append_right _ (List.mem_append_right _ (List.mem_append_right _ (hg))))))) (fun g hg h => D0.out g hg (h)),
    RL.chg (G := FLeases ++ (FVerdictSites ++ (FLog))) rmCerts (by repeat (first | with_reducible exact Chg.refl _ _ | with_reducible refine Chg.trans ?_ hm3 (fun g hg => Or.inl (by exact List.mem_append_left _ hg)) | with_reducible refine Chg.trans ?_ hm4 (fun g hg => Or.inl (by exact List.mem_append_right _ (List.mem_append_left _ hg))) | with_reducible refine Chg.trans ?_ hm5 (fun g hg => Or.inl (by exact List.mem_append_right _ (List.mem_append_right _ (hg)))))) (fun g hg h => D1.out g hg (h)),
    RL.chg (G := FVerdictSites ++ (FLog)) rmLeases (by repeat (first | with_reducible exact Chg.refl _ _ | with_reducible refine Chg.trans ?_ hm4 (fun g hg => Or.inl (by exact List.mem_append_left _ hg)) | with_reducible refine Chg.trans ?_ hm5 (fun g hg => Or.inl (by exact List.mem_append_right _ (hg))))) (fun g hg h => D2.out g hg (h)),
    RL.chg (G := FLog) rmVerdictSites (by repeat (first | with_reducible exact Chg.refl _ _ | with_reducible refine Chg.trans ?_ hm5 (fun g hg => Or.inl (by exact hg)))) (fun g hg h => D3.out g hg (h)),
    rmLog⟩

end Go.Proofs.Ytaiinlhobcclcaa.Wk
