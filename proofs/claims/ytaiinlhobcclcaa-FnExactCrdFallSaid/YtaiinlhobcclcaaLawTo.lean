/-
  Contracts of the laws' own functions, written by a program of mine (wip/gen/gen_laws.py).
-/
import Derived.Test.YtaiinlhobcclcaaBase
namespace Go.Proofs.Ytaiinlhobcclcaa.Wk
open Go Go.RowKit Go.Deep Ow
open Rp (R sz)
open Mk (mark cnt)
open Zr (zero zcells zr)

set_option maxRecDepth 100000 in
set_option maxHeartbeats 2000000 in
theorem toCrtSite_c (x : CrtSite) (w : World) : Calls Try.prog 70 #[.agg #[.int .i64 x.Proc, .int .i64 x.Pc]] w fun e w' => e = .returned (.agg #[.int .i64 x.Proc, .int .i64 x.Pc]) ∧ Chg [] w w' := by
  go_enter Try.func70, Try.ntmps70
  go_wp2
  exact bodyPost_ret (v := .agg #[.int .i64 x.Proc, .int .i64 x.Pc]) (by simp [results, Try.results70, go_sem]) rfl ⟨rfl, by repeat (first | with_reducible exact Chg.refl _ _ | with_reducible refine Chg.setCell ?_ (Or.inr (by first | (simp; done) | (simp; omega))) _ | with_reducible refine Chg.alloc ?_ _ | with_reducible refine Chg.drewN ?_ _ | with_reducible refine Chg.drew ?_)⟩

set_option maxRecDepth 100000 in
set_option maxHeartbeats 1000000 in
theorem toCrtSiteS_c (xs : List CrtSite) (a : Value) (F : List Nat) (w : World) (ha : RL w xs a F) (hl : szL xs ≤ 1048576) :
    Calls Try.prog 57 #[a] w fun e w' => ∃ v G, e = .returned v ∧ Chg [] w w' ∧ RL w' xs v G ∧ Own w' G ∧ ∀ g ∈ G, w.heap.size ≤ g := by
  obtain ⟨A, ca, rfl, hla, hma⟩ := ha.form
  have hn : (xs.length : Int) ≤ 1048576 := by unfold szL at hl; omega
  have HLZ := Lib.hid hl
  clear hl
  obtain ⟨i0, hi, hz0, hz1, hz2⟩ := info_parts (show (Try.prog.info? 108).map (fun i => (i.zero, i.size, i.bytes)) = some (some (.agg #[.int .i64 0, .int .i64 0]), 2, 16) by kernel_rfl)
  go_enter Try.func57, Try.ntmps57
  go_wp2_with (at_make; refine wpList_make_full _ rfl _ _ 46 rfl w.heap.size 108 i0 (.agg #[.int .i64 0, .int .i64 0]) 2 Try.underlying46 hi hz0 hz1 .i64 .i64 _ _ xs.length rfl rfl rfl rfl ?_ ?_ ?_ ?_; (rw [hz2]; omega); (unfold maxLen; omega); omega; intro w1 hown hg)
  obtain ⟨G0, hG0, hO0, hb0⟩ := RL.made (α := CrtSite) (by decide) hown rfl
  have hc0 : Chg [] w w1 := (Chg.refl [] w).grown hg (by simp)
  have hG1 : ∀ g ∈ G0, w.heap.size ≤ g := fun g h => by rw [hb0 g h]; exact Nat.le_refl _
  have hsz0 : w.heap.size < w1.heap.size ∨ xs.length = 0 := by
    rcases Nat.eq_zero_or_pos xs.length with h | h
    · exact Or.inr h
    · left
      have h3 := hown.2
      rcases h3 with ⟨h3, _⟩ | ⟨g', cap, cur, hv, _, hb, _⟩
      · simp at h3
      · simp only [Value.slice.injEq, Option.some.injEq, Addr.mk.injEq, and_true, true_and] at hv
        obtain ⟨rfl, _⟩ := hv
        rcases Nat.lt_or_ge w.heap.size w1.heap.size with h4 | h4
        · exact h4
        · rw [Array.getElem?_eq_none h4] at hb; cases hb
  clear hown hg hb0 hi hz0 hz1 hz2
  have HS0 := Lib.hid hsz0
  clear hsz0
  go_loopw [4] (fun i wr => ∃ (k : Nat) (G : List Nat), k ≤ xs.length ∧ i = .int .i64 k ∧ Chg [] w wr ∧ RL wr (fillL xs k) (.slice (some ⟨w.heap.size, 0, none⟩) xs.length xs.length) G ∧ Own wr G ∧ (∀ g ∈ G, w.heap.size ≤ g) ∧ w1.heap.size ≤ wr.heap.size) (fun i _ => xs.length - (intOf i).toNat)
  case atStart => exact ⟨0, G0, Nat.zero_le _, rfl, hc0, by rw [fillL_zero]; exact hG0, hO0, hG1, Nat.le_refl _⟩
  case round =>
    clear hc0 hG0 hO0 hG1
    obtain ⟨k, G, hk, rfl, hc, hr, hO, hG, hsr⟩ := hrel
    by_cases hlt : k < xs.length
    · have hws : w.heap.size < wr.heap.size := by rcases HS0.out with h | h <;> omega
      obtain ⟨b1, o1, p1, c1, f1, e1, r1, m1, -⟩ := (ha.chg0 hc).elem hlt
      obtain ⟨rfl, hF1, i1_0, i1_1⟩ := R_CrtSite.1 r1
      injection e1 with e1 _ e1c
      subst e1 e1c
      have ya0 := m1 0 (by decide)
      have ya1 := m1 1 (by decide)
      obtain ⟨b, off, cap, cs, Fi, e2, r2, m2, hFi, hbF, hbn, E0, shut⟩ := hr.put hO (i := k) (by simpa using hlt)
      rw [fillL_at xs hlt] at r2
      rw [fillL_length] at e2
      have hlen := Rp.len r2
      have hq : ∀ j, j < 2 → ∃ u, wr.cell? ⟨b, off + k * 2 + j, none⟩ = some u := fun j hj => by
        have h1 := m2 j hj
        rw [List.getElem?_eq_getElem (by rw [hlen]; exact hj)] at h1
        exact ⟨_, h1⟩
      obtain ⟨z0, yb0⟩ := hq 0 (by decide)
      obtain ⟨z1, yb1⟩ := hq 1 (by decide)
      injection e2 with e2 _ e2c
      injection e2 with e2
      injection e2 with e2 e2o
      subst e2 e2o
      simp only [sz_CrtSite, Nat.add_zero, List.getElem?_cons_zero, List.getElem?_cons_succ, Nat.zero_add] at shut E0 ya0 yb0 ya1 yb1
      have hcl : cs.length = 2 := hlen
      have S := Lib.hid shut
      have HE := Lib.hid E0
      have HC := Lib.hid hc
      have HO := Lib.hid hO
      have HG := Lib.hid hG
      have HLt := Lib.hid hr.lt
      have HCL := Lib.hid hcl
      have HI0 := Lib.hid i1_0
      have HI1 := Lib.hid i1_1
      clear shut E0 hc hO hG hr m1 m2 r1 r2 ha e2c hq hlen hcl hFi i1_0 i1_1
      go_wp2_with fail
      refine (toCrtSite_c xs[k] _).mono ?_
      rintro e w2 ⟨rfl, hc2⟩
      have z0' := hc2.cell0 yb0
      have yf0 := (HO.out.chg0 hc2).frozen hbF (o := k * 2)
      have z1' := hc2.cell0 yb1
      have yf1 := (HO.out.chg0 hc2).frozen hbF (o := k * 2 + 1)
      have HC2 := Lib.hid hc2
      have hs2 := hc2.size
      clear hc2
      go_wp2
      go_roundw
      case rel =>
        have hW := ((HE.out.call HLt.out hbF hbn HC2.out (by simp)).store0 (by rw [HCL.out]; decide) (.int .i64 xs[k].Proc)).store 1 (by simp only [List.length_set]; rw [HCL.out]; decide) (.int .i64 xs[k].Pc)
        have hcs : ((cs.set 0 (.int .i64 xs[k].Proc)).set 1 (.int .i64 xs[k].Pc)) = [.int .i64 xs[k].Proc, .int .i64 xs[k].Pc] := by
          have := HCL.out
          match cs, this with
          | [c0, c1], _ => rfl
        rw [hcs] at hW
        obtain ⟨F', h1, h2, h3⟩ := S.out _ xs[k] _ ([]) (R_CrtSite.2 ⟨rfl, rfl, HI0.out, HI1.out⟩) hW (((HO.out.chg0 HC2.out).setCell _ _).setCell _ _) (Own.nil_ _) (by simp)
        exact ⟨k + 1, F', by omega, by go_num, (((HC.out.trans0 HC2.out).setCell (Or.inr (Nat.le_refl _)) _).setCell (Or.inr (Nat.le_refl _)) _), by rw [fillL_succ xs hlt]; exact h1, h2, fun g hg => (h3 g hg).elim (HG.out g) (fun h => by simp at h), (by simp only [World.size_setCell]; omega)⟩
      case measure => simp [intOf]; omega
    · rw [fillL_all xs (by omega)] at hr
      have HC := Lib.hid hc
      have HO := Lib.hid hO
      have HG := Lib.hid hG
      have HR := Lib.hid hr
      clear hc hO hG hr ha
      go_wp2
      go_ret
      exact ⟨_, _, rfl, HC.out, HR.out, HO.out, HG.out⟩

set_option maxRecDepth 100000 in
set_option maxHeartbeats 2000000 in
theorem toVrdVerdict_c (x : VrdVerdict) (vSites : Value) (FSites : List Nat) (w : World) (hSites : RL w x.Sites vSites FSites) (hl : Sz.size x ≤ 1048576) : Calls Try.prog 31 #[.agg #[.int .i64 x.Kind, .int .i64 x.Line, vSites]] w fun e w' => ∃ uSites GSites, e = .returned (.agg #[.int .i64 x.Kind, .int .i64 x.Line, uSites]) ∧ Chg [] w w' ∧ RL w' x.Sites uSites GSites ∧ Own w' (GSites) ∧ ∀ g ∈ GSites, w.heap.size ≤ g := by
  rw [size_VrdVerdict] at hl
  have hl1 : szL x.Sites ≤ 1048576 := by first | omega | (simp only [size_VrdVerdict, size_CrtCert, size_EngEng, size_CrdCoord, size_AbsState] at hl ⊢; omega) | (simp only [size_VrdVerdict, size_CrtCert, size_EngEng, size_CrdCoord, size_AbsState] at hl; omega) | (simp only [size_VrdVerdict, size_CrtCert, size_EngEng, size_CrdCoord, size_AbsState]; omega)
  have HL1 := Lib.hid hl1; clear hl1; clear hl
  go_enter Try.func31, Try.ntmps31
  go_wp2_with fail
  refine (toCrtSiteS_c x.Sites _ _ _ (hSites.chg0 (by repeat (first | with_reducible exact Chg.refl _ _ | with_reducible refine Chg.setCell ?_ (Or.inr (by first | (simp; done) | (simp; omega))) _ | with_reducible refine Chg.alloc ?_ _ | with_reducible refine Chg.drewN ?_ _ | with_reducible refine Chg.drew ?_))) HL1.out).mono ?_
  rintro e w1 ⟨uSites, GSites, rfl, hc1, qSites, O1, L1⟩
  obtain ⟨ASites, cSites, rfl, -, -⟩ := qSites.form
  obtain ⟨hcl1, hfz1⟩ := hc1.cells
  have hz1 := hc1.size
  repeat (first | rw [World.size_alloc] at hz1 | rw [World.size_setCell] at hz1 | rw [World.size_drew] at hz1 | rw [World.heap_drewN] at hz1)
  have hza1 : w.heap.size < w1.heap.size := by omega
  have hzb1 : w.heap.size + 1 < w1.heap.size := by omega
  have hzc1 : w.heap.size + 2 < w1.heap.size := by omega
  have B1 : Hid (∀ g ∈ GSites, w.heap.size + 3 ≤ g ∧ g < w1.heap.size) := Lib.hid (fun g hg => ⟨by have := L1 g hg; (repeat (first | rw [World.size_alloc] at this | rw [World.size_setCell] at this | rw [World.size_drew] at this | rw [World.heap_drewN] at this)); omega, O1.lt g hg⟩)
  clear L1
  go_wp2
  refine bodyPost_ret (v := .agg #[.int .i64 x.Kind, .int .i64 x.Line, .slice ASites x.Sites.length cSites]) (by simp [results, Try.results31, go_sem, hcl1, hza1, hzb1, hzc1]) rfl ⟨_, GSites, rfl, by repeat (first | with_reducible exact Chg.refl _ _ | with_reducible refine Chg.setCell ?_ (Or.inr (by first | (simp; done) | (simp; omega))) _ | with_reducible refine Chg.alloc ?_ _ | with_reducible refine Chg.drewN ?_ _ | with_reducible refine Chg.drew ?_ | with_reducible refine Chg.trans0 ?_ hc1), ?_⟩
  clear hcl1 hfz1
  have PB : ∀ g ∈ GSites, w.heap.size ≤ g := fun g hg => by have h2 := (B1.out g hg).1; omega
  exact ⟨RL.chg (G := [w.heap.size, w.heap.size + 1, w.heap.size + 2]) qSites (by repeat (first | with_reducible exact Chg.refl _ _ | with_reducible refine Chg.setCell ?_ (Or.inl (by first | (simp; done) | (simp; omega))) _ | with_reducible refine Chg.alloc ?_ _ | with_reducible refine Chg.drewN ?_ _ | with_reducible refine Chg.drew ?_)) (fun g hg h => by have := (B1.out g (hg)).1; simp at h; omega), (Own.chg (G := [w.heap.size, w.heap.size + 1, w.heap.size + 2]) O1 (by repeat (first | with_reducible exact Chg.refl _ _ | with_reducible refine Chg.setCell ?_ (Or.inl (by first | (simp; done) | (simp; omega))) _ | with_reducible refine Chg.alloc ?_ _ | with_reducible refine Chg.drewN ?_ _ | with_reducible refine Chg.drew ?_)) (fun g hg h => by have := (B1.out g hg).1; simp at h; omega)), PB⟩

set_option maxRecDepth 100000 in
set_option maxHeartbeats 2000000 in
theorem toItvItv_c (x : ItvItv) (w : World) : Calls Try.prog 83 #[.agg #[.int .i64 x.Lo, .int .i64 x.Hi]] w fun e w' => e = .returned (.agg #[.int .i64 x.Lo, .int .i64 x.Hi]) ∧ Chg [] w w' := by
  go_enter Try.func83, Try.ntmps83
  go_wp2
  exact bodyPost_ret (v := .agg #[.int .i64 x.Lo, .int .i64 x.Hi]) (by simp [results, Try.results83, go_sem]) rfl ⟨rfl, by repeat (first | with_reducible exact Chg.refl _ _ | with_reducible refine Chg.setCell ?_ (Or.inr (by first | (simp; done) | (simp; omega))) _ | with_reducible refine Chg.alloc ?_ _ | with_reducible refine Chg.drewN ?_ _ | with_reducible refine Chg.drew ?_)⟩

set_option maxRecDepth 100000 in
set_option maxHeartbeats 1000000 in
theorem toItvItvS_c (xs : List ItvItv) (a : Value) (F : List Nat) (w : World) (ha : RL w xs a F) (hl : szL xs ≤ 1048576) :
    Calls Try.prog 86 #[a] w fun e w' => ∃ v G, e = .returned v ∧ Chg [] w w' ∧ RL w' xs v G ∧ Own w' G ∧ ∀ g ∈ G, w.heap.size ≤ g := by
  obtain ⟨A, ca, rfl, hla, hma⟩ := ha.form
  have hn : (xs.length : Int) ≤ 1048576 := by unfold szL at hl; omega
  have HLZ := Lib.hid hl
  clear hl
  obtain ⟨i0, hi, hz0, hz1, hz2⟩ := info_parts (show (Try.prog.info? 80).map (fun i => (i.zero, i.size, i.bytes)) = some (some (.agg #[.int .i64 0, .int .i64 0]), 2, 16) by kernel_rfl)
  go_enter Try.func86, Try.ntmps86
  go_wp2_with (at_make; refine wpList_make_full _ rfl _ _ 122 rfl w.heap.size 80 i0 (.agg #[.int .i64 0, .int .i64 0]) 2 Try.underlying122 hi hz0 hz1 .i64 .i64 _ _ xs.length rfl rfl rfl rfl ?_ ?_ ?_ ?_; (rw [hz2]; omega); (unfold maxLen; omega); omega; intro w1 hown hg)
  obtain ⟨G0, hG0, hO0, hb0⟩ := RL.made (α := ItvItv) (by decide) hown rfl
  have hc0 : Chg [] w w1 := (Chg.refl [] w).grown hg (by simp)
  have hG1 : ∀ g ∈ G0, w.heap.size ≤ g := fun g h => by rw [hb0 g h]; exact Nat.le_refl _
  have hsz0 : w.heap.size < w1.heap.size ∨ xs.length = 0 := by
    rcases Nat.eq_zero_or_pos xs.length with h | h
    · exact Or.inr h
    · left
      have h3 := hown.2
      rcases h3 with ⟨h3, _⟩ | ⟨g', cap, cur, hv, _, hb, _⟩
      · simp at h3
      · simp only [Value.slice.injEq, Option.some.injEq, Addr.mk.injEq, and_true, true_and] at hv
        obtain ⟨rfl, _⟩ := hv
        rcases Nat.lt_or_ge w.heap.size w1.heap.size with h4 | h4
        · exact h4
        · rw [Array.getElem?_eq_none h4] at hb; cases hb
  clear hown hg hb0 hi hz0 hz1 hz2
  have HS0 := Lib.hid hsz0
  clear hsz0
  go_loopw [4] (fun i wr => ∃ (k : Nat) (G : List Nat), k ≤ xs.length ∧ i = .int .i64 k ∧ Chg [] w wr ∧ RL wr (fillL xs k) (.slice (some ⟨w.heap.size, 0, none⟩) xs.length xs.length) G ∧ Own wr G ∧ (∀ g ∈ G, w.heap.size ≤ g) ∧ w1.heap.size ≤ wr.heap.size) (fun i _ => xs.length - (intOf i).toNat)
  case atStart => exact ⟨0, G0, Nat.zero_le _, rfl, hc0, by rw [fillL_zero]; exact hG0, hO0, hG1, Nat.le_refl _⟩
  case round =>
    clear hc0 hG0 hO0 hG1
    obtain ⟨k, G, hk, rfl, hc, hr, hO, hG, hsr⟩ := hrel
    by_cases hlt : k < xs.length
    · have hws : w.heap.size < wr.heap.size := by rcases HS0.out with h | h <;> omega
      obtain ⟨b1, o1, p1, c1, f1, e1, r1, m1, -⟩ := (ha.chg0 hc).elem hlt
      obtain ⟨rfl, hF1, i1_0, i1_1⟩ := R_ItvItv.1 r1
      injection e1 with e1 _ e1c
      subst e1 e1c
      have ya0 := m1 0 (by decide)
      have ya1 := m1 1 (by decide)
      obtain ⟨b, off, cap, cs, Fi, e2, r2, m2, hFi, hbF, hbn, E0, shut⟩ := hr.put hO (i := k) (by simpa using hlt)
      rw [fillL_at xs hlt] at r2
      rw [fillL_length] at e2
      have hlen := Rp.len r2
      have hq : ∀ j, j < 2 → ∃ u, wr.cell? ⟨b, off + k * 2 + j, none⟩ = some u := fun j hj => by
        have h1 := m2 j hj
        rw [List.getElem?_eq_getElem (by rw [hlen]; exact hj)] at h1
        exact ⟨_, h1⟩
      obtain ⟨z0, yb0⟩ := hq 0 (by decide)
      obtain ⟨z1, yb1⟩ := hq 1 (by decide)
      injection e2 with e2 _ e2c
      injection e2 with e2
      injection e2 with e2 e2o
      subst e2 e2o
      simp only [sz_ItvItv, Nat.add_zero, List.getElem?_cons_zero, List.getElem?_cons_succ, Nat.zero_add] at shut E0 ya0 yb0 ya1 yb1
      have hcl : cs.length = 2 := hlen
      have S := Lib.hid shut
      have HE := Lib.hid E0
      have HC := Lib.hid hc
      have HO := Lib.hid hO
      have HG := Lib.hid hG
      have HLt := Lib.hid hr.lt
      have HCL := Lib.hid hcl
      have HI0 := Lib.hid i1_0
      have HI1 := Lib.hid i1_1
      clear shut E0 hc hO hG hr m1 m2 r1 r2 ha e2c hq hlen hcl hFi i1_0 i1_1
      go_wp2_with fail
      refine (toItvItv_c xs[k] _).mono ?_
      rintro e w2 ⟨rfl, hc2⟩
      have z0' := hc2.cell0 yb0
      have yf0 := (HO.out.chg0 hc2).frozen hbF (o := k * 2)
      have z1' := hc2.cell0 yb1
      have yf1 := (HO.out.chg0 hc2).frozen hbF (o := k * 2 + 1)
      have HC2 := Lib.hid hc2
      have hs2 := hc2.size
      clear hc2
      go_wp2
      go_roundw
      case rel =>
        have hW := ((HE.out.call HLt.out hbF hbn HC2.out (by simp)).store0 (by rw [HCL.out]; decide) (.int .i64 xs[k].Lo)).store 1 (by simp only [List.length_set]; rw [HCL.out]; decide) (.int .i64 xs[k].Hi)
        have hcs : ((cs.set 0 (.int .i64 xs[k].Lo)).set 1 (.int .i64 xs[k].Hi)) = [.int .i64 xs[k].Lo, .int .i64 xs[k].Hi] := by
          have := HCL.out
          match cs, this with
          | [c0, c1], _ => rfl
        rw [hcs] at hW
        obtain ⟨F', h1, h2, h3⟩ := S.out _ xs[k] _ ([]) (R_ItvItv.2 ⟨rfl, rfl, HI0.out, HI1.out⟩) hW (((HO.out.chg0 HC2.out).setCell _ _).setCell _ _) (Own.nil_ _) (by simp)
        exact ⟨k + 1, F', by omega, by go_num, (((HC.out.trans0 HC2.out).setCell (Or.inr (Nat.le_refl _)) _).setCell (Or.inr (Nat.le_refl _)) _), by rw [fillL_succ xs hlt]; exact h1, h2, fun g hg => (h3 g hg).elim (HG.out g) (fun h => by simp at h), (by simp only [World.size_setCell]; omega)⟩
      case measure => simp [intOf]; omega
    · rw [fillL_all xs (by omega)] at hr
      have HC := Lib.hid hc
      have HO := Lib.hid hO
      have HG := Lib.hid hG
      have HR := Lib.hid hr
      clear hc hO hG hr ha
      go_wp2
      go_ret
      exact ⟨_, _, rfl, HC.out, HR.out, HO.out, HG.out⟩

set_option maxRecDepth 100000 in
set_option maxHeartbeats 2000000 in
theorem toAbsState_c (x : AbsState) (vVars : Value) (FVars : List Nat) (w : World) (hVars : RL w x.Vars vVars FVars) (hl : Sz.size x ≤ 1048576) : Calls Try.prog 82 #[.agg #[.bool x.On, vVars, .int .i64 x.Cells.Lo, .int .i64 x.Cells.Hi]] w fun e w' => ∃ uVars GVars, e = .returned (.agg #[.bool x.On, uVars, .int .i64 x.Cells.Lo, .int .i64 x.Cells.Hi]) ∧ Chg [] w w' ∧ RL w' x.Vars uVars GVars ∧ Own w' (GVars) ∧ ∀ g ∈ GVars, w.heap.size ≤ g := by
  rw [size_AbsState] at hl
  have hl1 : szL x.Vars ≤ 1048576 := by first | omega | (simp only [size_VrdVerdict, size_CrtCert, size_EngEng, size_CrdCoord, size_AbsState] at hl ⊢; omega) | (simp only [size_VrdVerdict, size_CrtCert, size_EngEng, size_CrdCoord, size_AbsState] at hl; omega) | (simp only [size_VrdVerdict, size_CrtCert, size_EngEng, size_CrdCoord, size_AbsState]; omega)
  have HL1 := Lib.hid hl1; clear hl1; clear hl
  go_enter Try.func82, Try.ntmps82
  go_wp2_with fail
  refine (toItvItvS_c x.Vars _ _ _ (hVars.chg0 (by repeat (first | with_reducible exact Chg.refl _ _ | with_reducible refine Chg.setCell ?_ (Or.inr (by first | (simp; done) | (simp; omega))) _ | with_reducible refine Chg.alloc ?_ _ | with_reducible refine Chg.drewN ?_ _ | with_reducible refine Chg.drew ?_))) HL1.out).mono ?_
  rintro e w1 ⟨uVars, GVars, rfl, hc1, qVars, O1, L1⟩
  obtain ⟨AVars, cVars, rfl, -, -⟩ := qVars.form
  obtain ⟨hcl1, hfz1⟩ := hc1.cells
  have hz1 := hc1.size
  repeat (first | rw [World.size_alloc] at hz1 | rw [World.size_setCell] at hz1 | rw [World.size_drew] at hz1 | rw [World.heap_drewN] at hz1)
  have hza1 : w.heap.size < w1.heap.size := by omega
  have hzb1 : w.heap.size + 1 < w1.heap.size := by omega
  have hzc1 : w.heap.size + 2 < w1.heap.size := by omega
  have B1 : Hid (∀ g ∈ GVars, w.heap.size + 3 ≤ g ∧ g < w1.heap.size) := Lib.hid (fun g hg => ⟨by have := L1 g hg; (repeat (first | rw [World.size_alloc] at this | rw [World.size_setCell] at this | rw [World.size_drew] at this | rw [World.heap_drewN] at this)); omega, O1.lt g hg⟩)
  clear L1
  go_wp2_with fail
  refine (toItvItv_c x.Cells _).mono ?_
  rintro e w2 ⟨rfl, hc2⟩
  obtain ⟨hcl2, hfz2⟩ := hc2.cells
  have hz2 := hc2.size
  repeat (first | rw [World.size_alloc] at hz2 | rw [World.size_setCell] at hz2 | rw [World.size_drew] at hz2 | rw [World.heap_drewN] at hz2)
  have hza2 : w.heap.size < w2.heap.size := by omega
  have hzb2 : w.heap.size + 1 < w2.heap.size := by omega
  have hzc2 : w.heap.size + 2 < w2.heap.size := by omega
  go_wp2
  refine bodyPost_ret (v := .agg #[.bool x.On, .slice AVars x.Vars.length cVars, .int .i64 x.Cells.Lo, .int .i64 x.Cells.Hi]) (by simp [results, Try.results82, go_sem, hcl1, hza1, hzb1, hzc1, hcl2, hza2, hzb2, hzc2]) rfl ⟨_, GVars, rfl, by repeat (first | with_reducible exact Chg.refl _ _ | with_reducible refine Chg.setCell ?_ (Or.inr (by first | (simp; done) | (simp; omega))) _ | with_reducible refine Chg.alloc ?_ _ | with_reducible refine Chg.drewN ?_ _ | with_reducible refine Chg.drew ?_ | with_reducible refine Chg.trans0 ?_ hc1 | with_reducible refine Chg.trans0 ?_ hc2), ?_⟩
  clear hcl1 hfz1 hcl2 hfz2
  have PB : ∀ g ∈ GVars, w.heap.size ≤ g := fun g hg => by have h2 := (B1.out g hg).1; omega
  exact ⟨RL.chg (G := [w.heap.size, w.heap.size + 1, w.heap.size + 2]) qVars (by repeat (first | with_reducible exact Chg.refl _ _ | with_reducible refine Chg.setCell ?_ (Or.inl (by first | (simp; done) | (simp; omega))) _ | with_reducible refine Chg.alloc ?_ _ | with_reducible refine Chg.drewN ?_ _ | with_reducible refine Chg.drew ?_ | with_reducible refine Chg.trans0 ?_ hc2)) (fun g hg h => by have := (B1.out g (hg)).1; simp at h; omega), (Own.chg (G := [w.heap.size, w.heap.size + 1, w.heap.size + 2]) O1 (by repeat (first | with_reducible exact Chg.refl _ _ | with_reducible refine Chg.setCell ?_ (Or.inl (by first | (simp; done) | (simp; omega))) _ | with_reducible refine Chg.alloc ?_ _ | with_reducible refine Chg.drewN ?_ _ | with_reducible refine Chg.drew ?_ | with_reducible refine Chg.trans0 ?_ hc2)) (fun g hg h => by have := (B1.out g hg).1; simp at h; omega)), PB⟩

set_option maxRecDepth 100000 in
set_option maxHeartbeats 1000000 in
theorem toAbsStateS_c (xs : List AbsState) (a : Value) (F : List Nat) (w : World) (ha : RL w xs a F) (hl : szL xs ≤ 1048576) :
    Calls Try.prog 76 #[a] w fun e w' => ∃ v G, e = .returned v ∧ Chg [] w w' ∧ RL w' xs v G ∧ Own w' G ∧ ∀ g ∈ G, w.heap.size ≤ g := by
  obtain ⟨A, ca, rfl, hla, hma⟩ := ha.form
  have hn : (xs.length : Int) ≤ 1048576 := by unfold szL at hl; omega
  have HLZ := Lib.hid hl
  clear hl
  obtain ⟨i0, hi, hz0, hz1, hz2⟩ := info_parts (show (Try.prog.info? 124).map (fun i => (i.zero, i.size, i.bytes)) = some (some (.agg #[.bool false, .slice none 0 0, .int .i64 0, .int .i64 0]), 4, 48) by kernel_rfl)
  go_enter Try.func76, Try.ntmps76
  go_wp2_with (at_make; refine wpList_make_full _ rfl _ _ 113 rfl w.heap.size 124 i0 (.agg #[.bool false, .slice none 0 0, .int .i64 0, .int .i64 0]) 4 Try.underlying113 hi hz0 hz1 .i64 .i64 _ _ xs.length rfl rfl rfl rfl ?_ ?_ ?_ ?_; (rw [hz2]; omega); (unfold maxLen; omega); omega; intro w1 hown hg)
  obtain ⟨G0, hG0, hO0, hb0⟩ := RL.made (α := AbsState) (by decide) hown rfl
  have hc0 : Chg [] w w1 := (Chg.refl [] w).grown hg (by simp)
  have hG1 : ∀ g ∈ G0, w.heap.size ≤ g := fun g h => by rw [hb0 g h]; exact Nat.le_refl _
  have hsz0 : w.heap.size < w1.heap.size ∨ xs.length = 0 := by
    rcases Nat.eq_zero_or_pos xs.length with h | h
    · exact Or.inr h
    · left
      have h3 := hown.2
      rcases h3 with ⟨h3, _⟩ | ⟨g', cap, cur, hv, _, hb, _⟩
      · simp at h3
      · simp only [Value.slice.injEq, Option.some.injEq, Addr.mk.injEq, and_true, true_and] at hv
        obtain ⟨rfl, _⟩ := hv
        rcases Nat.lt_or_ge w.heap.size w1.heap.size with h4 | h4
        · exact h4
        · rw [Array.getElem?_eq_none h4] at hb; cases hb
  clear hown hg hb0 hi hz0 hz1 hz2
  have HS0 := Lib.hid hsz0
  clear hsz0
  go_loopw [4] (fun i wr => ∃ (k : Nat) (G : List Nat), k ≤ xs.length ∧ i = .int .i64 k ∧ Chg [] w wr ∧ RL wr (fillL xs k) (.slice (some ⟨w.heap.size, 0, none⟩) xs.length xs.length) G ∧ Own wr G ∧ (∀ g ∈ G, w.heap.size ≤ g) ∧ w1.heap.size ≤ wr.heap.size) (fun i _ => xs.length - (intOf i).toNat)
  case atStart => exact ⟨0, G0, Nat.zero_le _, rfl, hc0, by rw [fillL_zero]; exact hG0, hO0, hG1, Nat.le_refl _⟩
  case round =>
    clear hc0 hG0 hO0 hG1
    obtain ⟨k, G, hk, rfl, hc, hr, hO, hG, hsr⟩ := hrel
    by_cases hlt : k < xs.length
    · have hws : w.heap.size < wr.heap.size := by rcases HS0.out with h | h <;> omega
      obtain ⟨b1, o1, p1, c1, f1, e1, r1, m1, -⟩ := (ha.chg0 hc).elem hlt
      obtain ⟨v1_0, F1_0, rfl, hF1, g1_0, i1_0, i1_1⟩ := R_AbsState.1 r1
      injection e1 with e1 _ e1c
      subst e1 e1c
      have ya0 := m1 0 (by decide)
      have ya1 := m1 1 (by decide)
      have ya2 := m1 2 (by decide)
      have ya3 := m1 3 (by decide)
      obtain ⟨b, off, cap, cs, Fi, e2, r2, m2, hFi, hbF, hbn, E0, shut⟩ := hr.put hO (i := k) (by simpa using hlt)
      rw [fillL_at xs hlt] at r2
      rw [fillL_length] at e2
      have hlen := Rp.len r2
      have hq : ∀ j, j < 4 → ∃ u, wr.cell? ⟨b, off + k * 4 + j, none⟩ = some u := fun j hj => by
        have h1 := m2 j hj
        rw [List.getElem?_eq_getElem (by rw [hlen]; exact hj)] at h1
        exact ⟨_, h1⟩
      obtain ⟨z0, yb0⟩ := hq 0 (by decide)
      obtain ⟨z1, yb1⟩ := hq 1 (by decide)
      obtain ⟨z2, yb2⟩ := hq 2 (by decide)
      obtain ⟨z3, yb3⟩ := hq 3 (by decide)
      injection e2 with e2 _ e2c
      injection e2 with e2
      injection e2 with e2 e2o
      subst e2 e2o
      simp only [sz_AbsState, Nat.add_zero, List.getElem?_cons_zero, List.getElem?_cons_succ, Nat.zero_add] at shut E0 ya0 yb0 ya1 yb1 ya2 yb2 ya3 yb3
      have hcl : cs.length = 4 := hlen
      have S := Lib.hid shut
      have HE := Lib.hid E0
      have HC := Lib.hid hc
      have HO := Lib.hid hO
      have HG := Lib.hid hG
      have HLt := Lib.hid hr.lt
      have HCL := Lib.hid hcl
      have HI0 := Lib.hid i1_0
      have HI1 := Lib.hid i1_1
      clear shut E0 hc hO hG hr m1 m2 r1 r2 ha e2c hq hlen hcl hFi i1_0 i1_1
      go_wp2_with fail
      refine (toAbsState_c xs[k] _ _ _ (by exact RL.same g1_0 rfl) (by have h1 := HLZ.out; have h2 := szI_take_le xs (k + 1); rw [szI_succ xs hlt] at h2; unfold szL at h1; first | omega | (change szL xs[k] ≤ 1048576; change _ + szL xs[k] ≤ _ at h2; omega))).mono ?_
      rintro e w2 ⟨u0, G0, rfl, hc2, q0, O2, L2⟩
      obtain ⟨A0, d0, rfl, -, -⟩ := q0.form
      have z0' := hc2.cell0 yb0
      have yf0 := (HO.out.chg0 hc2).frozen hbF (o := k * 4)
      have z1' := hc2.cell0 yb1
      have yf1 := (HO.out.chg0 hc2).frozen hbF (o := k * 4 + 1)
      have z2' := hc2.cell0 yb2
      have yf2 := (HO.out.chg0 hc2).frozen hbF (o := k * 4 + 2)
      have z3' := hc2.cell0 yb3
      have yf3 := (HO.out.chg0 hc2).frozen hbF (o := k * 4 + 3)
      have HC2 := Lib.hid hc2
      have HO2 := Lib.hid O2
      have HL2 := Lib.hid L2
      clear O2 L2
      have hs2 := hc2.size
      clear hc2
      go_wp2
      go_roundw
      case rel =>
        have hW := ((((HE.out.call HLt.out hbF hbn HC2.out (by simp)).store0 (by rw [HCL.out]; decide) (.bool xs[k].On)).store 1 (by simp only [List.length_set]; rw [HCL.out]; decide) (.slice A0 xs[k].Vars.length d0)).store 2 (by simp only [List.length_set]; rw [HCL.out]; decide) (.int .i64 xs[k].Cells.Lo)).store 3 (by simp only [List.length_set]; rw [HCL.out]; decide) (.int .i64 xs[k].Cells.Hi)
        have hcs : ((((cs.set 0 (.bool xs[k].On)).set 1 (.slice A0 xs[k].Vars.length d0)).set 2 (.int .i64 xs[k].Cells.Lo)).set 3 (.int .i64 xs[k].Cells.Hi)) = [.bool xs[k].On, .slice A0 xs[k].Vars.length d0, .int .i64 xs[k].Cells.Lo, .int .i64 xs[k].Cells.Hi] := by
          have := HCL.out
          match cs, this with
          | [c0, c1, c2, c3], _ => rfl
        rw [hcs] at hW
        obtain ⟨F', h1, h2, h3⟩ := S.out _ xs[k] _ (G0) (R_AbsState.2 ⟨_, _, rfl, rfl, (RL.chg (G := [w.heap.size]) q0 (by repeat (first | with_reducible exact Chg.refl _ _ | with_reducible refine Chg.setCell ?_ (Or.inl (by first | (simp; done) | (simp; omega))) _)) (fun g hg h => by have := HL2.out g (hg); simp at h; omega)), HI0.out, HI1.out⟩) hW (((((HO.out.chg0 HC2.out).setCell _ _).setCell _ _).setCell _ _).setCell _ _) (Own.chg (G := [w.heap.size]) HO2.out (by repeat (first | with_reducible exact Chg.refl _ _ | with_reducible refine Chg.setCell ?_ (Or.inl (by first | (simp; done) | (simp; omega))) _)) (fun g hg h => by have := HL2.out g hg; simp at h; omega)) (fun g hg h => by have := HL2.out g hg; have := HLt.out g h; omega)
        exact ⟨k + 1, F', by omega, by go_num, (((((HC.out.trans0 HC2.out).setCell (Or.inr (Nat.le_refl _)) _).setCell (Or.inr (Nat.le_refl _)) _).setCell (Or.inr (Nat.le_refl _)) _).setCell (Or.inr (Nat.le_refl _)) _), by rw [fillL_succ xs hlt]; exact h1, h2, fun g hg => (h3 g hg).elim (HG.out g) (fun h => by have := HL2.out g h; omega), (by simp only [World.size_setCell]; omega)⟩
      case measure => simp [intOf]; omega
    · rw [fillL_all xs (by omega)] at hr
      have HC := Lib.hid hc
      have HO := Lib.hid hO
      have HG := Lib.hid hG
      have HR := Lib.hid hr
      clear hc hO hG hr ha
      go_wp2
      go_ret
      exact ⟨_, _, rfl, HC.out, HR.out, HO.out, HG.out⟩

set_option maxRecDepth 100000 in
set_option maxHeartbeats 1000000 in
theorem toAbsStateSS_c (xs : List (List AbsState)) (a : Value) (F : List Nat) (w : World) (ha : RL w xs a F) (hl : szL xs ≤ 1048576) :
    Calls Try.prog 68 #[a] w fun e w' => ∃ v G, e = .returned v ∧ Chg [] w w' ∧ RL w' xs v G ∧ Own w' G ∧ ∀ g ∈ G, w.heap.size ≤ g := by
  obtain ⟨A, ca, rfl, hla, hma⟩ := ha.form
  have hn : (xs.length : Int) ≤ 1048576 := by unfold szL at hl; omega
  have HLZ := Lib.hid hl
  clear hl
  obtain ⟨i0, hi, hz0, hz1, hz2⟩ := info_parts (show (Try.prog.info? 113).map (fun i => (i.zero, i.size, i.bytes)) = some (some (.slice none 0 0), 1, 24) by kernel_rfl)
  go_enter Try.func68, Try.ntmps68
  go_wp2_with (at_make; refine wpList_make_full _ rfl _ _ 23 rfl w.heap.size 113 i0 (.slice none 0 0) 1 Try.underlying23 hi hz0 hz1 .i64 .i64 _ _ xs.length rfl rfl rfl rfl ?_ ?_ ?_ ?_; (rw [hz2]; omega); (unfold maxLen; omega); omega; intro w1 hown hg)
  obtain ⟨G0, hG0, hO0, hb0⟩ := RL.made (α := (List AbsState)) (by decide) hown rfl
  have hc0 : Chg [] w w1 := (Chg.refl [] w).grown hg (by simp)
  have hG1 : ∀ g ∈ G0, w.heap.size ≤ g := fun g h => by rw [hb0 g h]; exact Nat.le_refl _
  have hsz0 : w.heap.size < w1.heap.size ∨ xs.length = 0 := by
    rcases Nat.eq_zero_or_pos xs.length with h | h
    · exact Or.inr h
    · left
      have h3 := hown.2
      rcases h3 with ⟨h3, _⟩ | ⟨g', cap, cur, hv, _, hb, _⟩
      · simp at h3
      · simp only [Value.slice.injEq, Option.some.injEq, Addr.mk.injEq, and_true, true_and] at hv
        obtain ⟨rfl, _⟩ := hv
        rcases Nat.lt_or_ge w.heap.size w1.heap.size with h4 | h4
        · exact h4
        · rw [Array.getElem?_eq_none h4] at hb; cases hb
  clear hown hg hb0 hi hz0 hz1 hz2
  have HS0 := Lib.hid hsz0
  clear hsz0
  go_loopw [4] (fun i wr => ∃ (k : Nat) (G : List Nat), k ≤ xs.length ∧ i = .int .i64 k ∧ Chg [] w wr ∧ RL wr (fillL xs k) (.slice (some ⟨w.heap.size, 0, none⟩) xs.length xs.length) G ∧ Own wr G ∧ (∀ g ∈ G, w.heap.size ≤ g) ∧ w1.heap.size ≤ wr.heap.size) (fun i _ => xs.length - (intOf i).toNat)
  case atStart => exact ⟨0, G0, Nat.zero_le _, rfl, hc0, by rw [fillL_zero]; exact hG0, hO0, hG1, Nat.le_refl _⟩
  case round =>
    clear hc0 hG0 hO0 hG1
    obtain ⟨k, G, hk, rfl, hc, hr, hO, hG, hsr⟩ := hrel
    by_cases hlt : k < xs.length
    · have hws : w.heap.size < wr.heap.size := by rcases HS0.out with h | h <;> omega
      obtain ⟨b1, o1, p1, c1, f1, e1, r1, m1, -⟩ := (ha.chg0 hc).elem hlt
      obtain ⟨v1_0, rfl, g1_0⟩ := R_list.1 r1
      injection e1 with e1 _ e1c
      subst e1 e1c
      have ya0 := m1 0 (by decide)
      obtain ⟨b, off, cap, cs, Fi, e2, r2, m2, hFi, hbF, hbn, E0, shut⟩ := hr.put hO (i := k) (by simpa using hlt)
      rw [fillL_at xs hlt] at r2
      rw [fillL_length] at e2
      have hlen := Rp.len r2
      have hq : ∀ j, j < 1 → ∃ u, wr.cell? ⟨b, off + k * 1 + j, none⟩ = some u := fun j hj => by
        have h1 := m2 j hj
        rw [List.getElem?_eq_getElem (by rw [hlen]; exact hj)] at h1
        exact ⟨_, h1⟩
      obtain ⟨z0, yb0⟩ := hq 0 (by decide)
      injection e2 with e2 _ e2c
      injection e2 with e2
      injection e2 with e2 e2o
      subst e2 e2o
      simp only [sz_list, Nat.mul_one, Nat.add_zero, List.getElem?_cons_zero, Nat.zero_add] at shut E0 ya0 yb0
      have hcl : cs.length = 1 := hlen
      have S := Lib.hid shut
      have HE := Lib.hid E0
      have HC := Lib.hid hc
      have HO := Lib.hid hO
      have HG := Lib.hid hG
      have HLt := Lib.hid hr.lt
      have HCL := Lib.hid hcl
      clear shut E0 hc hO hG hr m1 m2 r1 r2 ha e2c hq hlen hcl hFi
      go_wp2_with fail
      refine (toAbsStateS_c xs[k] _ _ _ (by exact RL.same g1_0 rfl) (by have h1 := HLZ.out; have h2 := szI_take_le xs (k + 1); rw [szI_succ xs hlt] at h2; unfold szL at h1; first | omega | (change szL xs[k] ≤ 1048576; change _ + szL xs[k] ≤ _ at h2; omega))).mono ?_
      rintro e w2 ⟨u0, G0, rfl, hc2, q0, O2, L2⟩
      obtain ⟨A0, d0, rfl, -, -⟩ := q0.form
      have z0' := hc2.cell0 yb0
      have yf0 := (HO.out.chg0 hc2).frozen hbF (o := k)
      have HC2 := Lib.hid hc2
      have HO2 := Lib.hid O2
      have HL2 := Lib.hid L2
      clear O2 L2
      have hs2 := hc2.size
      clear hc2
      go_wp2
      go_roundw
      case rel =>
        have hW := (HE.out.call HLt.out hbF hbn HC2.out (by simp)).store0 (by rw [HCL.out]; decide) (.slice A0 xs[k].length d0)
        have hcs : (cs.set 0 (.slice A0 xs[k].length d0)) = [.slice A0 xs[k].length d0] := by
          have := HCL.out
          match cs, this with
          | [c0], _ => rfl
        rw [hcs] at hW
        obtain ⟨F', h1, h2, h3⟩ := S.out _ xs[k] _ (G0) (R_list.2 ⟨_, rfl, (RL.chg (G := [w.heap.size]) q0 (by repeat (first | with_reducible exact Chg.refl _ _ | with_reducible refine Chg.setCell ?_ (Or.inl (by first | (simp; done) | (simp; omega))) _)) (fun g hg h => by have := HL2.out g (hg); simp at h; omega))⟩) hW ((HO.out.chg0 HC2.out).setCell _ _) (Own.chg (G := [w.heap.size]) HO2.out (by repeat (first | with_reducible exact Chg.refl _ _ | with_reducible refine Chg.setCell ?_ (Or.inl (by first | (simp; done) | (simp; omega))) _)) (fun g hg h => by have := HL2.out g hg; simp at h; omega)) (fun g hg h => by have := HL2.out g hg; have := HLt.out g h; omega)
        exact ⟨k + 1, F', by omega, by go_num, ((HC.out.trans0 HC2.out).setCell (Or.inr (Nat.le_refl _)) _), by rw [fillL_succ xs hlt]; exact h1, h2, fun g hg => (h3 g hg).elim (HG.out g) (fun h => by have := HL2.out g h; omega), (by simp only [World.size_setCell]; omega)⟩
      case measure => simp [intOf]; omega
    · rw [fillL_all xs (by omega)] at hr
      have HC := Lib.hid hc
      have HO := Lib.hid hO
      have HG := Lib.hid hG
      have HR := Lib.hid hr
      clear hc hO hG hr ha
      go_wp2
      go_ret
      exact ⟨_, _, rfl, HC.out, HR.out, HO.out, HG.out⟩

set_option maxRecDepth 100000 in
set_option maxHeartbeats 2000000 in
theorem toSumSum_c (x : SumSum) (w : World) : Calls Try.prog 77 #[.agg #[.bool x.On, .int .i64 x.Out.Lo, .int .i64 x.Out.Hi]] w fun e w' => e = .returned (.agg #[.bool x.On, .int .i64 x.Out.Lo, .int .i64 x.Out.Hi]) ∧ Chg [] w w' := by
  go_enter Try.func77, Try.ntmps77
  go_wp2_with fail
  refine (toItvItv_c x.Out _).mono ?_
  rintro e w1 ⟨rfl, hc1⟩
  obtain ⟨hcl1, hfz1⟩ := hc1.cells
  have hz1 := hc1.size
  repeat (first | rw [World.size_alloc] at hz1 | rw [World.size_setCell] at hz1 | rw [World.size_drew] at hz1 | rw [World.heap_drewN] at hz1)
  have hza1 : w.heap.size < w1.heap.size := by omega
  have hzb1 : w.heap.size + 1 < w1.heap.size := by omega
  have hzc1 : w.heap.size + 2 < w1.heap.size := by omega
  go_wp2
  exact bodyPost_ret (v := .agg #[.bool x.On, .int .i64 x.Out.Lo, .int .i64 x.Out.Hi]) (by simp [results, Try.results77, go_sem, hcl1, hza1, hzb1, hzc1]) rfl ⟨rfl, by repeat (first | with_reducible exact Chg.refl _ _ | with_reducible refine Chg.setCell ?_ (Or.inr (by first | (simp; done) | (simp; omega))) _ | with_reducible refine Chg.alloc ?_ _ | with_reducible refine Chg.drewN ?_ _ | with_reducible refine Chg.drew ?_ | with_reducible refine Chg.trans0 ?_ hc1)⟩

set_option maxRecDepth 100000 in
set_option maxHeartbeats 1000000 in
theorem toSumSumS_c (xs : List SumSum) (a : Value) (F : List Nat) (w : World) (ha : RL w xs a F) (hl : szL xs ≤ 1048576) :
    Calls Try.prog 69 #[a] w fun e w' => ∃ v G, e = .returned v ∧ Chg [] w w' ∧ RL w' xs v G ∧ Own w' G ∧ ∀ g ∈ G, w.heap.size ≤ g := by
  obtain ⟨A, ca, rfl, hla, hma⟩ := ha.form
  have hn : (xs.length : Int) ≤ 1048576 := by unfold szL at hl; omega
  have HLZ := Lib.hid hl
  clear hl
  obtain ⟨i0, hi, hz0, hz1, hz2⟩ := info_parts (show (Try.prog.info? 82).map (fun i => (i.zero, i.size, i.bytes)) = some (some (.agg #[.bool false, .int .i64 0, .int .i64 0]), 3, 24) by kernel_rfl)
  go_enter Try.func69, Try.ntmps69
  go_wp2_with (at_make; refine wpList_make_full _ rfl _ _ 22 rfl w.heap.size 82 i0 (.agg #[.bool false, .int .i64 0, .int .i64 0]) 3 Try.underlying22 hi hz0 hz1 .i64 .i64 _ _ xs.length rfl rfl rfl rfl ?_ ?_ ?_ ?_; (rw [hz2]; omega); (unfold maxLen; omega); omega; intro w1 hown hg)
  obtain ⟨G0, hG0, hO0, hb0⟩ := RL.made (α := SumSum) (by decide) hown rfl
  have hc0 : Chg [] w w1 := (Chg.refl [] w).grown hg (by simp)
  have hG1 : ∀ g ∈ G0, w.heap.size ≤ g := fun g h => by rw [hb0 g h]; exact Nat.le_refl _
  have hsz0 : w.heap.size < w1.heap.size ∨ xs.length = 0 := by
    rcases Nat.eq_zero_or_pos xs.length with h | h
    · exact Or.inr h
    · left
      have h3 := hown.2
      rcases h3 with ⟨h3, _⟩ | ⟨g', cap, cur, hv, _, hb, _⟩
      · simp at h3
      · simp only [Value.slice.injEq, Option.some.injEq, Addr.mk.injEq, and_true, true_and] at hv
        obtain ⟨rfl, _⟩ := hv
        rcases Nat.lt_or_ge w.heap.size w1.heap.size with h4 | h4
        · exact h4
        · rw [Array.getElem?_eq_none h4] at hb; cases hb
  clear hown hg hb0 hi hz0 hz1 hz2
  have HS0 := Lib.hid hsz0
  clear hsz0
  go_loopw [4] (fun i wr => ∃ (k : Nat) (G : List Nat), k ≤ xs.length ∧ i = .int .i64 k ∧ Chg [] w wr ∧ RL wr (fillL xs k) (.slice (some ⟨w.heap.size, 0, none⟩) xs.length xs.length) G ∧ Own wr G ∧ (∀ g ∈ G, w.heap.size ≤ g) ∧ w1.heap.size ≤ wr.heap.size) (fun i _ => xs.length - (intOf i).toNat)
  case atStart => exact ⟨0, G0, Nat.zero_le _, rfl, hc0, by rw [fillL_zero]; exact hG0, hO0, hG1, Nat.le_refl _⟩
  case round =>
    clear hc0 hG0 hO0 hG1
    obtain ⟨k, G, hk, rfl, hc, hr, hO, hG, hsr⟩ := hrel
    by_cases hlt : k < xs.length
    · have hws : w.heap.size < wr.heap.size := by rcases HS0.out with h | h <;> omega
      obtain ⟨b1, o1, p1, c1, f1, e1, r1, m1, -⟩ := (ha.chg0 hc).elem hlt
      obtain ⟨rfl, hF1, i1_0, i1_1⟩ := R_SumSum.1 r1
      injection e1 with e1 _ e1c
      subst e1 e1c
      have ya0 := m1 0 (by decide)
      have ya1 := m1 1 (by decide)
      have ya2 := m1 2 (by decide)
      obtain ⟨b, off, cap, cs, Fi, e2, r2, m2, hFi, hbF, hbn, E0, shut⟩ := hr.put hO (i := k) (by simpa using hlt)
      rw [fillL_at xs hlt] at r2
      rw [fillL_length] at e2
      have hlen := Rp.len r2
      have hq : ∀ j, j < 3 → ∃ u, wr.cell? ⟨b, off + k * 3 + j, none⟩ = some u := fun j hj => by
        have h1 := m2 j hj
        rw [List.getElem?_eq_getElem (by rw [hlen]; exact hj)] at h1
        exact ⟨_, h1⟩
      obtain ⟨z0, yb0⟩ := hq 0 (by decide)
      obtain ⟨z1, yb1⟩ := hq 1 (by decide)
      obtain ⟨z2, yb2⟩ := hq 2 (by decide)
      injection e2 with e2 _ e2c
      injection e2 with e2
      injection e2 with e2 e2o
      subst e2 e2o
      simp only [sz_SumSum, Nat.add_zero, List.getElem?_cons_zero, List.getElem?_cons_succ, Nat.zero_add] at shut E0 ya0 yb0 ya1 yb1 ya2 yb2
      have hcl : cs.length = 3 := hlen
      have S := Lib.hid shut
      have HE := Lib.hid E0
      have HC := Lib.hid hc
      have HO := Lib.hid hO
      have HG := Lib.hid hG
      have HLt := Lib.hid hr.lt
      have HCL := Lib.hid hcl
      have HI0 := Lib.hid i1_0
      have HI1 := Lib.hid i1_1
      clear shut E0 hc hO hG hr m1 m2 r1 r2 ha e2c hq hlen hcl hFi i1_0 i1_1
      go_wp2_with fail
      refine (toSumSum_c xs[k] _).mono ?_
      rintro e w2 ⟨rfl, hc2⟩
      have z0' := hc2.cell0 yb0
      have yf0 := (HO.out.chg0 hc2).frozen hbF (o := k * 3)
      have z1' := hc2.cell0 yb1
      have yf1 := (HO.out.chg0 hc2).frozen hbF (o := k * 3 + 1)
      have z2' := hc2.cell0 yb2
      have yf2 := (HO.out.chg0 hc2).frozen hbF (o := k * 3 + 2)
      have HC2 := Lib.hid hc2
      have hs2 := hc2.size
      clear hc2
      go_wp2
      go_roundw
      case rel =>
        have hW := (((HE.out.call HLt.out hbF hbn HC2.out (by simp)).store0 (by rw [HCL.out]; decide) (.bool xs[k].On)).store 1 (by simp only [List.length_set]; rw [HCL.out]; decide) (.int .i64 xs[k].Out.Lo)).store 2 (by simp only [List.length_set]; rw [HCL.out]; decide) (.int .i64 xs[k].Out.Hi)
        have hcs : (((cs.set 0 (.bool xs[k].On)).set 1 (.int .i64 xs[k].Out.Lo)).set 2 (.int .i64 xs[k].Out.Hi)) = [.bool xs[k].On, .int .i64 xs[k].Out.Lo, .int .i64 xs[k].Out.Hi] := by
          have := HCL.out
          match cs, this with
          | [c0, c1, c2], _ => rfl
        rw [hcs] at hW
        obtain ⟨F', h1, h2, h3⟩ := S.out _ xs[k] _ ([]) (R_SumSum.2 ⟨rfl, rfl, HI0.out, HI1.out⟩) hW ((((HO.out.chg0 HC2.out).setCell _ _).setCell _ _).setCell _ _) (Own.nil_ _) (by simp)
        exact ⟨k + 1, F', by omega, by go_num, ((((HC.out.trans0 HC2.out).setCell (Or.inr (Nat.le_refl _)) _).setCell (Or.inr (Nat.le_refl _)) _).setCell (Or.inr (Nat.le_refl _)) _), by rw [fillL_succ xs hlt]; exact h1, h2, fun g hg => (h3 g hg).elim (HG.out g) (fun h => by simp at h), (by simp only [World.size_setCell]; omega)⟩
      case measure => simp [intOf]; omega
    · rw [fillL_all xs (by omega)] at hr
      have HC := Lib.hid hc
      have HO := Lib.hid hO
      have HG := Lib.hid hG
      have HR := Lib.hid hr
      clear hc hO hG hr ha
      go_wp2
      go_ret
      exact ⟨_, _, rfl, HC.out, HR.out, HO.out, HG.out⟩

set_option maxRecDepth 100000 in
set_option maxHeartbeats 2000000 in
theorem toCrtCert_c (x : CrtCert) (vStates : Value) (FStates : List Nat) (vOuts : Value) (FOuts : List Nat) (w : World) (hStates : RL w x.States vStates FStates) (hOuts : RL w x.Outs vOuts FOuts) (hl : Sz.size x ≤ 1048576) : Calls Try.prog 55 #[.agg #[vStates, vOuts]] w fun e w' => ∃ uStates GStates uOuts GOuts, e = .returned (.agg #[uStates, uOuts]) ∧ Chg [] w w' ∧ RL w' x.States uStates GStates ∧ RL w' x.Outs uOuts GOuts ∧ Own w' (GStates ++ (GOuts)) ∧ ∀ g ∈ GStates ++ (GOuts), w.heap.size ≤ g := by
  rw [size_CrtCert] at hl
  have hl1 : szL x.States ≤ 1048576 := by first | omega | (simp only [size_VrdVerdict, size_CrtCert, size_EngEng, size_CrdCoord, size_AbsState] at hl ⊢; omega) | (simp only [size_VrdVerdict, size_CrtCert, size_EngEng, size_CrdCoord, size_AbsState] at hl; omega) | (simp only [size_VrdVerdict, size_CrtCert, size_EngEng, size_CrdCoord, size_AbsState]; omega)
  have hl2 : szL x.Outs ≤ 1048576 := by first | omega | (simp only [size_VrdVerdict, size_CrtCert, size_EngEng, size_CrdCoord, size_AbsState] at hl ⊢; omega) | (simp only [size_VrdVerdict, size_CrtCert, size_EngEng, size_CrdCoord, size_AbsState] at hl; omega) | (simp only [size_VrdVerdict, size_CrtCert, size_EngEng, size_CrdCoord, size_AbsState]; omega)
  have HL1 := Lib.hid hl1; clear hl1; have HL2 := Lib.hid hl2; clear hl2; clear hl
  go_enter Try.func55, Try.ntmps55
  go_wp2_with fail
  refine (toAbsStateSS_c x.States _ _ _ (hStates.chg0 (by repeat (first | with_reducible exact Chg.refl _ _ | with_reducible refine Chg.setCell ?_ (Or.inr (by first | (simp; done) | (simp; omega))) _ | with_reducible refine Chg.alloc ?_ _ | with_reducible refine Chg.drewN ?_ _ | with_reducible refine Chg.drew ?_))) HL1.out).mono ?_
  rintro e w1 ⟨uStates, GStates, rfl, hc1, qStates, O1, L1⟩
  obtain ⟨AStates, cStates, rfl, -, -⟩ := qStates.form
  obtain ⟨hcl1, hfz1⟩ := hc1.cells
  have hz1 := hc1.size
  repeat (first | rw [World.size_alloc] at hz1 | rw [World.size_setCell] at hz1 | rw [World.size_drew] at hz1 | rw [World.heap_drewN] at hz1)
  have hza1 : w.heap.size < w1.heap.size := by omega
  have hzb1 : w.heap.size + 1 < w1.heap.size := by omega
  have hzc1 : w.heap.size + 2 < w1.heap.size := by omega
  have B1 : Hid (∀ g ∈ GStates, w.heap.size + 3 ≤ g ∧ g < w1.heap.size) := Lib.hid (fun g hg => ⟨by have := L1 g hg; (repeat (first | rw [World.size_alloc] at this | rw [World.size_setCell] at this | rw [World.size_drew] at this | rw [World.heap_drewN] at this)); omega, O1.lt g hg⟩)
  clear L1
  go_wp2_with fail
  refine (toSumSumS_c x.Outs _ _ _ (hOuts.chg0 (by repeat (first | with_reducible exact Chg.refl _ _ | with_reducible refine Chg.setCell ?_ (Or.inr (by first | (simp; done) | (simp; omega))) _ | with_reducible refine Chg.alloc ?_ _ | with_reducible refine Chg.drewN ?_ _ | with_reducible refine Chg.drew ?_ | with_reducible refine Chg.trans0 ?_ hc1))) HL2.out).mono ?_
  rintro e w2 ⟨uOuts, GOuts, rfl, hc2, qOuts, O2, L2⟩
  obtain ⟨AOuts, cOuts, rfl, -, -⟩ := qOuts.form
  obtain ⟨hcl2, hfz2⟩ := hc2.cells
  have hz2 := hc2.size
  repeat (first | rw [World.size_alloc] at hz2 | rw [World.size_setCell] at hz2 | rw [World.size_drew] at hz2 | rw [World.heap_drewN] at hz2)
  have hza2 : w.heap.size < w2.heap.size := by omega
  have hzb2 : w.heap.size + 1 < w2.heap.size := by omega
  have hzc2 : w.heap.size + 2 < w2.heap.size := by omega
  have B2 : Hid (∀ g ∈ GOuts, w1.heap.size ≤ g ∧ g < w2.heap.size) := Lib.hid (fun g hg => ⟨by have := L2 g hg; (repeat (first | rw [World.size_alloc] at this | rw [World.size_setCell] at this | rw [World.size_drew] at this | rw [World.heap_drewN] at this)); omega, O2.lt g hg⟩)
  clear L2
  go_wp2
  refine bodyPost_ret (v := .agg #[.slice AStates x.States.length cStates, .slice AOuts x.Outs.length cOuts]) (by simp [results, Try.results55, go_sem, hcl1, hza1, hzb1, hzc1, hcl2, hza2, hzb2, hzc2]) rfl ⟨_, GStates, _, GOuts, rfl, by repeat (first | with_reducible exact Chg.refl _ _ | with_reducible refine Chg.setCell ?_ (Or.inr (by first | (simp; done) | (simp; omega))) _ | with_reducible refine Chg.alloc ?_ _ | with_reducible refine Chg.drewN ?_ _ | with_reducible refine Chg.drew ?_ | with_reducible refine Chg.trans0 ?_ hc1 | with_reducible refine Chg.trans0 ?_ hc2), ?_⟩
  clear hcl1 hfz1 hcl2 hfz2
  have PB : ∀ g ∈ GStates ++ (GOuts), w.heap.size ≤ g := fun g hg => by rcases List.mem_append.1 hg with hg | hg; (have h2 := (B1.out g hg).1; omega); (have h2 := (B2.out g hg).1; omega)
  exact ⟨RL.chg (G := [w.heap.size, w.heap.size + 1, w.heap.size + 2]) qStates (by repeat (first | with_reducible exact Chg.refl _ _ | with_reducible refine Chg.setCell ?_ (Or.inl (by first | (simp; done) | (simp; omega))) _ | with_reducible refine Chg.alloc ?_ _ | with_reducible refine Chg.drewN ?_ _ | with_reducible refine Chg.drew ?_ | with_reducible refine Chg.trans0 ?_ hc2)) (fun g hg h => by have := (B1.out g (hg)).1; simp at h; omega),
    RL.chg (G := [w.heap.size, w.heap.size + 1, w.heap.size + 2]) qOuts (by repeat (first | with_reducible exact Chg.refl _ _ | with_reducible refine Chg.setCell ?_ (Or.inl (by first | (simp; done) | (simp; omega))) _ | with_reducible refine Chg.alloc ?_ _ | with_reducible refine Chg.drewN ?_ _ | with_reducible refine Chg.drew ?_)) (fun g hg h => by have := (B2.out g (hg)).1; simp at h; omega), (Own.append (Own.chg (G := [w.heap.size, w.heap.size + 1, w.heap.size + 2]) O1 (by repeat (first | with_reducible exact Chg.refl _ _ | with_reducible refine Chg.setCell ?_ (Or.inl (by first | (simp; done) | (simp; omega))) _ | with_reducible refine Chg.alloc ?_ _ | with_reducible refine Chg.drewN ?_ _ | with_reducible refine Chg.drew ?_ | with_reducible refine Chg.trans0 ?_ hc2)) (fun g hg h => by have := (B1.out g hg).1; simp at h; omega)) (Own.chg (G := [w.heap.size, w.heap.size + 1, w.heap.size + 2]) O2 (by repeat (first | with_reducible exact Chg.refl _ _ | with_reducible refine Chg.setCell ?_ (Or.inl (by first | (simp; done) | (simp; omega))) _ | with_reducible refine Chg.alloc ?_ _ | with_reducible refine Chg.drewN ?_ _ | with_reducible refine Chg.drew ?_)) (fun g hg h => by have := (B2.out g hg).1; simp at h; omega)) (fun g hg h => by have h1 := (B1.out g hg).2; have h2 := (B2.out g h).1; omega)), PB⟩

set_option maxRecDepth 100000 in
set_option maxHeartbeats 1000000 in
theorem toCrtCertS_c (xs : List CrtCert) (a : Value) (F : List Nat) (w : World) (ha : RL w xs a F) (hl : szL xs ≤ 1048576) :
    Calls Try.prog 29 #[a] w fun e w' => ∃ v G, e = .returned v ∧ Chg [] w w' ∧ RL w' xs v G ∧ Own w' G ∧ ∀ g ∈ G, w.heap.size ≤ g := by
  obtain ⟨A, ca, rfl, hla, hma⟩ := ha.form
  have hn : (xs.length : Int) ≤ 1048576 := by unfold szL at hl; omega
  have HLZ := Lib.hid hl
  clear hl
  obtain ⟨i0, hi, hz0, hz1, hz2⟩ := info_parts (show (Try.prog.info? 25).map (fun i => (i.zero, i.size, i.bytes)) = some (some (.agg #[.slice none 0 0, .slice none 0 0]), 2, 48) by kernel_rfl)
  go_enter Try.func29, Try.ntmps29
  go_wp2_with (at_make; refine wpList_make_full _ rfl _ _ 44 rfl w.heap.size 25 i0 (.agg #[.slice none 0 0, .slice none 0 0]) 2 Try.underlying44 hi hz0 hz1 .i64 .i64 _ _ xs.length rfl rfl rfl rfl ?_ ?_ ?_ ?_; (rw [hz2]; omega); (unfold maxLen; omega); omega; intro w1 hown hg)
  obtain ⟨G0, hG0, hO0, hb0⟩ := RL.made (α := CrtCert) (by decide) hown rfl
  have hc0 : Chg [] w w1 := (Chg.refl [] w).grown hg (by simp)
  have hG1 : ∀ g ∈ G0, w.heap.size ≤ g := fun g h => by rw [hb0 g h]; exact Nat.le_refl _
  have hsz0 : w.heap.size < w1.heap.size ∨ xs.length = 0 := by
    rcases Nat.eq_zero_or_pos xs.length with h | h
    · exact Or.inr h
    · left
      have h3 := hown.2
      rcases h3 with ⟨h3, _⟩ | ⟨g', cap, cur, hv, _, hb, _⟩
      · simp at h3
      · simp only [Value.slice.injEq, Option.some.injEq, Addr.mk.injEq, and_true, true_and] at hv
        obtain ⟨rfl, _⟩ := hv
        rcases Nat.lt_or_ge w.heap.size w1.heap.size with h4 | h4
        · exact h4
        · rw [Array.getElem?_eq_none h4] at hb; cases hb
  clear hown hg hb0 hi hz0 hz1 hz2
  have HS0 := Lib.hid hsz0
  clear hsz0
  go_loopw [4] (fun i wr => ∃ (k : Nat) (G : List Nat), k ≤ xs.length ∧ i = .int .i64 k ∧ Chg [] w wr ∧ RL wr (fillL xs k) (.slice (some ⟨w.heap.size, 0, none⟩) xs.length xs.length) G ∧ Own wr G ∧ (∀ g ∈ G, w.heap.size ≤ g) ∧ w1.heap.size ≤ wr.heap.size) (fun i _ => xs.length - (intOf i).toNat)
  case atStart => exact ⟨0, G0, Nat.zero_le _, rfl, hc0, by rw [fillL_zero]; exact hG0, hO0, hG1, Nat.le_refl _⟩
  case round =>
    clear hc0 hG0 hO0 hG1
    obtain ⟨k, G, hk, rfl, hc, hr, hO, hG, hsr⟩ := hrel
    by_cases hlt : k < xs.length
    · have hws : w.heap.size < wr.heap.size := by rcases HS0.out with h | h <;> omega
      obtain ⟨b1, o1, p1, c1, f1, e1, r1, m1, -⟩ := (ha.chg0 hc).elem hlt
      obtain ⟨v1_0, F1_0, v1_1, F1_1, rfl, hF1, g1_0, g1_1⟩ := R_CrtCert.1 r1
      injection e1 with e1 _ e1c
      subst e1 e1c
      have ya0 := m1 0 (by decide)
      have ya1 := m1 1 (by decide)
      obtain ⟨b, off, cap, cs, Fi, e2, r2, m2, hFi, hbF, hbn, E0, shut⟩ := hr.put hO (i := k) (by simpa using hlt)
      rw [fillL_at xs hlt] at r2
      rw [fillL_length] at e2
      have hlen := Rp.len r2
      have hq : ∀ j, j < 2 → ∃ u, wr.cell? ⟨b, off + k * 2 + j, none⟩ = some u := fun j hj => by
        have h1 := m2 j hj
        rw [List.getElem?_eq_getElem (by rw [hlen]; exact hj)] at h1
        exact ⟨_, h1⟩
      obtain ⟨z0, yb0⟩ := hq 0 (by decide)
      obtain ⟨z1, yb1⟩ := hq 1 (by decide)
      injection e2 with e2 _ e2c
      injection e2 with e2
      injection e2 with e2 e2o
      subst e2 e2o
      simp only [sz_CrtCert, Nat.add_zero, List.getElem?_cons_zero, List.getElem?_cons_succ, Nat.zero_add] at shut E0 ya0 yb0 ya1 yb1
      have hcl : cs.length = 2 := hlen
      have S := Lib.hid shut
      have HE := Lib.hid E0
      have HC := Lib.hid hc
      have HO := Lib.hid hO
      have HG := Lib.hid hG
      have HLt := Lib.hid hr.lt
      have HCL := Lib.hid hcl
      clear shut E0 hc hO hG hr m1 m2 r1 r2 ha e2c hq hlen hcl hFi
      go_wp2_with fail
      refine (toCrtCert_c xs[k] _ _ _ _ _ (by exact RL.same g1_0 rfl) (by exact RL.same g1_1 rfl) (by have h1 := HLZ.out; have h2 := szI_take_le xs (k + 1); rw [szI_succ xs hlt] at h2; unfold szL at h1; first | omega | (change szL xs[k] ≤ 1048576; change _ + szL xs[k] ≤ _ at h2; omega))).mono ?_
      rintro e w2 ⟨u0, G0, u1, G1, rfl, hc2, q0, q1, O2, L2⟩
      obtain ⟨A0, d0, rfl, -, -⟩ := q0.form
      obtain ⟨A1, d1, rfl, -, -⟩ := q1.form
      have z0' := hc2.cell0 yb0
      have yf0 := (HO.out.chg0 hc2).frozen hbF (o := k * 2)
      have z1' := hc2.cell0 yb1
      have yf1 := (HO.out.chg0 hc2).frozen hbF (o := k * 2 + 1)
      have HC2 := Lib.hid hc2
      have HO2 := Lib.hid O2
      have HL2 := Lib.hid L2
      clear O2 L2
      have hs2 := hc2.size
      clear hc2
      go_wp2
      go_roundw
      case rel =>
        have hW := ((HE.out.call HLt.out hbF hbn HC2.out (by simp)).store0 (by rw [HCL.out]; decide) (.slice A0 xs[k].States.length d0)).store 1 (by simp only [List.length_set]; rw [HCL.out]; decide) (.slice A1 xs[k].Outs.length d1)
        have hcs : ((cs.set 0 (.slice A0 xs[k].States.length d0)).set 1 (.slice A1 xs[k].Outs.length d1)) = [.slice A0 xs[k].States.length d0, .slice A1 xs[k].Outs.length d1] := by
          have := HCL.out
          match cs, this with
          | [c0, c1], _ => rfl
        rw [hcs] at hW
        obtain ⟨F', h1, h2, h3⟩ := S.out _ xs[k] _ (G0 ++ (G1)) (R_CrtCert.2 ⟨_, _, _, _, rfl, rfl, (RL.chg (G := [w.heap.size]) q0 (by repeat (first | with_reducible exact Chg.refl _ _ | with_reducible refine Chg.setCell ?_ (Or.inl (by first | (simp; done) | (simp; omega))) _)) (fun g hg h => by have := HL2.out g (List.mem_append_left _ hg); simp at h; omega)), (RL.chg (G := [w.heap.size]) q1 (by repeat (first | with_reducible exact Chg.refl _ _ | with_reducible refine Chg.setCell ?_ (Or.inl (by first | (simp; done) | (simp; omega))) _)) (fun g hg h => by have := HL2.out g (List.mem_append_right _ (hg)); simp at h; omega))⟩) hW (((HO.out.chg0 HC2.out).setCell _ _).setCell _ _) (Own.chg (G := [w.heap.size]) HO2.out (by repeat (first | with_reducible exact Chg.refl _ _ | with_reducible refine Chg.setCell ?_ (Or.inl (by first | (simp; done) | (simp; omega))) _)) (fun g hg h => by have := HL2.out g hg; simp at h; omega)) (fun g hg h => by have := HL2.out g hg; have := HLt.out g h; omega)
        exact ⟨k + 1, F', by omega, by go_num, (((HC.out.trans0 HC2.out).setCell (Or.inr (Nat.le_refl _)) _).setCell (Or.inr (Nat.le_refl _)) _), by rw [fillL_succ xs hlt]; exact h1, h2, fun g hg => (h3 g hg).elim (HG.out g) (fun h => by have := HL2.out g h; omega), (by simp only [World.size_setCell]; omega)⟩
      case measure => simp [intOf]; omega
    · rw [fillL_all xs (by omega)] at hr
      have HC := Lib.hid hc
      have HO := Lib.hid hO
      have HG := Lib.hid hG
      have HR := Lib.hid hr
      clear hc hO hG hr ha
      go_wp2
      go_ret
      exact ⟨_, _, rfl, HC.out, HR.out, HO.out, HG.out⟩

set_option maxRecDepth 100000 in
set_option maxHeartbeats 2000000 in
theorem toCrdLease_c (x : CrdLease) (w : World) : Calls Try.prog 56 #[.agg #[.int .i64 x.Part, .int .i64 x.Who, .int .i64 x.Seq, .int .i64 x.Due]] w fun e w' => e = .returned (.agg #[.int .i64 x.Part, .int .i64 x.Who, .int .i64 x.Seq, .int .i64 x.Due]) ∧ Chg [] w w' := by
  go_enter Try.func56, Try.ntmps56
  go_wp2
  exact bodyPost_ret (v := .agg #[.int .i64 x.Part, .int .i64 x.Who, .int .i64 x.Seq, .int .i64 x.Due]) (by simp [results, Try.results56, go_sem]) rfl ⟨rfl, by repeat (first | with_reducible exact Chg.refl _ _ | with_reducible refine Chg.setCell ?_ (Or.inr (by first | (simp; done) | (simp; omega))) _ | with_reducible refine Chg.alloc ?_ _ | with_reducible refine Chg.drewN ?_ _ | with_reducible refine Chg.drew ?_)⟩

set_option maxRecDepth 100000 in
set_option maxHeartbeats 1000000 in
theorem toCrdLeaseS_c (xs : List CrdLease) (a : Value) (F : List Nat) (w : World) (ha : RL w xs a F) (hl : szL xs ≤ 1048576) :
    Calls Try.prog 30 #[a] w fun e w' => ∃ v G, e = .returned v ∧ Chg [] w w' ∧ RL w' xs v G ∧ Own w' G ∧ ∀ g ∈ G, w.heap.size ≤ g := by
  obtain ⟨A, ca, rfl, hla, hma⟩ := ha.form
  have hn : (xs.length : Int) ≤ 1048576 := by unfold szL at hl; omega
  have HLZ := Lib.hid hl
  clear hl
  obtain ⟨i0, hi, hz0, hz1, hz2⟩ := info_parts (show (Try.prog.info? 93).map (fun i => (i.zero, i.size, i.bytes)) = some (some (.agg #[.int .i64 0, .int .i64 0, .int .i64 0, .int .i64 0]), 4, 32) by kernel_rfl)
  go_enter Try.func30, Try.ntmps30
  go_wp2_with (at_make; refine wpList_make_full _ rfl _ _ 45 rfl w.heap.size 93 i0 (.agg #[.int .i64 0, .int .i64 0, .int .i64 0, .int .i64 0]) 4 Try.underlying45 hi hz0 hz1 .i64 .i64 _ _ xs.length rfl rfl rfl rfl ?_ ?_ ?_ ?_; (rw [hz2]; omega); (unfold maxLen; omega); omega; intro w1 hown hg)
  obtain ⟨G0, hG0, hO0, hb0⟩ := RL.made (α := CrdLease) (by decide) hown rfl
  have hc0 : Chg [] w w1 := (Chg.refl [] w).grown hg (by simp)
  have hG1 : ∀ g ∈ G0, w.heap.size ≤ g := fun g h => by rw [hb0 g h]; exact Nat.le_refl _
  have hsz0 : w.heap.size < w1.heap.size ∨ xs.length = 0 := by
    rcases Nat.eq_zero_or_pos xs.length with h | h
    · exact Or.inr h
    · left
      have h3 := hown.2
      rcases h3 with ⟨h3, _⟩ | ⟨g', cap, cur, hv, _, hb, _⟩
      · simp at h3
      · simp only [Value.slice.injEq, Option.some.injEq, Addr.mk.injEq, and_true, true_and] at hv
        obtain ⟨rfl, _⟩ := hv
        rcases Nat.lt_or_ge w.heap.size w1.heap.size with h4 | h4
        · exact h4
        · rw [Array.getElem?_eq_none h4] at hb; cases hb
  clear hown hg hb0 hi hz0 hz1 hz2
  have HS0 := Lib.hid hsz0
  clear hsz0
  go_loopw [4] (fun i wr => ∃ (k : Nat) (G : List Nat), k ≤ xs.length ∧ i = .int .i64 k ∧ Chg [] w wr ∧ RL wr (fillL xs k) (.slice (some ⟨w.heap.size, 0, none⟩) xs.length xs.length) G ∧ Own wr G ∧ (∀ g ∈ G, w.heap.size ≤ g) ∧ w1.heap.size ≤ wr.heap.size) (fun i _ => xs.length - (intOf i).toNat)
  case atStart => exact ⟨0, G0, Nat.zero_le _, rfl, hc0, by rw [fillL_zero]; exact hG0, hO0, hG1, Nat.le_refl _⟩
  case round =>
    clear hc0 hG0 hO0 hG1
    obtain ⟨k, G, hk, rfl, hc, hr, hO, hG, hsr⟩ := hrel
    by_cases hlt : k < xs.length
    · have hws : w.heap.size < wr.heap.size := by rcases HS0.out with h | h <;> omega
      obtain ⟨b1, o1, p1, c1, f1, e1, r1, m1, -⟩ := (ha.chg0 hc).elem hlt
      obtain ⟨rfl, hF1, i1_0, i1_1, i1_2, i1_3⟩ := R_CrdLease.1 r1
      injection e1 with e1 _ e1c
      subst e1 e1c
      have ya0 := m1 0 (by decide)
      have ya1 := m1 1 (by decide)
      have ya2 := m1 2 (by decide)
      have ya3 := m1 3 (by decide)
      obtain ⟨b, off, cap, cs, Fi, e2, r2, m2, hFi, hbF, hbn, E0, shut⟩ := hr.put hO (i := k) (by simpa using hlt)
      rw [fillL_at xs hlt] at r2
      rw [fillL_length] at e2
      have hlen := Rp.len r2
      have hq : ∀ j, j < 4 → ∃ u, wr.cell? ⟨b, off + k * 4 + j, none⟩ = some u := fun j hj => by
        have h1 := m2 j hj
        rw [List.getElem?_eq_getElem (by rw [hlen]; exact hj)] at h1
        exact ⟨_, h1⟩
      obtain ⟨z0, yb0⟩ := hq 0 (by decide)
      obtain ⟨z1, yb1⟩ := hq 1 (by decide)
      obtain ⟨z2, yb2⟩ := hq 2 (by decide)
      obtain ⟨z3, yb3⟩ := hq 3 (by decide)
      injection e2 with e2 _ e2c
      injection e2 with e2
      injection e2 with e2 e2o
      subst e2 e2o
      simp only [sz_CrdLease, Nat.add_zero, List.getElem?_cons_zero, List.getElem?_cons_succ, Nat.zero_add] at shut E0 ya0 yb0 ya1 yb1 ya2 yb2 ya3 yb3
      have hcl : cs.length = 4 := hlen
      have S := Lib.hid shut
      have HE := Lib.hid E0
      have HC := Lib.hid hc
      have HO := Lib.hid hO
      have HG := Lib.hid hG
      have HLt := Lib.hid hr.lt
      have HCL := Lib.hid hcl
      have HI0 := Lib.hid i1_0
      have HI1 := Lib.hid i1_1
      have HI2 := Lib.hid i1_2
      have HI3 := Lib.hid i1_3
      clear shut E0 hc hO hG hr m1 m2 r1 r2 ha e2c hq hlen hcl hFi i1_0 i1_1 i1_2 i1_3
      go_wp2_with fail
      refine (toCrdLease_c xs[k] _).mono ?_
      rintro e w2 ⟨rfl, hc2⟩
      have z0' := hc2.cell0 yb0
      have yf0 := (HO.out.chg0 hc2).frozen hbF (o := k * 4)
      have z1' := hc2.cell0 yb1
      have yf1 := (HO.out.chg0 hc2).frozen hbF (o := k * 4 + 1)
      have z2' := hc2.cell0 yb2
      have yf2 := (HO.out.chg0 hc2).frozen hbF (o := k * 4 + 2)
      have z3' := hc2.cell0 yb3
      have yf3 := (HO.out.chg0 hc2).frozen hbF (o := k * 4 + 3)
      have HC2 := Lib.hid hc2
      have hs2 := hc2.size
      clear hc2
      go_wp2
      go_roundw
      case rel =>
        have hW := ((((HE.out.call HLt.out hbF hbn HC2.out (by simp)).store0 (by rw [HCL.out]; decide) (.int .i64 xs[k].Part)).store 1 (by simp only [List.length_set]; rw [HCL.out]; decide) (.int .i64 xs[k].Who)).store 2 (by simp only [List.length_set]; rw [HCL.out]; decide) (.int .i64 xs[k].Seq)).store 3 (by simp only [List.length_set]; rw [HCL.out]; decide) (.int .i64 xs[k].Due)
        have hcs : ((((cs.set 0 (.int .i64 xs[k].Part)).set 1 (.int .i64 xs[k].Who)).set 2 (.int .i64 xs[k].Seq)).set 3 (.int .i64 xs[k].Due)) = [.int .i64 xs[k].Part, .int .i64 xs[k].Who, .int .i64 xs[k].Seq, .int .i64 xs[k].Due] := by
          have := HCL.out
          match cs, this with
          | [c0, c1, c2, c3], _ => rfl
        rw [hcs] at hW
        obtain ⟨F', h1, h2, h3⟩ := S.out _ xs[k] _ ([]) (R_CrdLease.2 ⟨rfl, rfl, HI0.out, HI1.out, HI2.out, HI3.out⟩) hW (((((HO.out.chg0 HC2.out).setCell _ _).setCell _ _).setCell _ _).setCell _ _) (Own.nil_ _) (by simp)
        exact ⟨k + 1, F', by omega, by go_num, (((((HC.out.trans0 HC2.out).setCell (Or.inr (Nat.le_refl _)) _).setCell (Or.inr (Nat.le_refl _)) _).setCell (Or.inr (Nat.le_refl _)) _).setCell (Or.inr (Nat.le_refl _)) _), by rw [fillL_succ xs hlt]; exact h1, h2, fun g hg => (h3 g hg).elim (HG.out g) (fun h => by simp at h), (by simp only [World.size_setCell]; omega)⟩
      case measure => simp [intOf]; omega
    · rw [fillL_all xs (by omega)] at hr
      have HC := Lib.hid hc
      have HO := Lib.hid hO
      have HG := Lib.hid hG
      have HR := Lib.hid hr
      clear hc hO hG hr ha
      go_wp2
      go_ret
      exact ⟨_, _, rfl, HC.out, HR.out, HO.out, HG.out⟩

set_option maxRecDepth 100000 in
set_option maxHeartbeats 1000000 in
theorem toBoolS_c (xs : List Bool) (a : Value) (F : List Nat) (w : World) (ha : RL w xs a F) (hl : szL xs ≤ 1048576) :
    Calls Try.prog 28 #[a] w fun e w' => ∃ v G, e = .returned v ∧ Chg [] w w' ∧ RL w' xs v G ∧ Own w' G ∧ ∀ g ∈ G, w.heap.size ≤ g := by
  obtain ⟨A, ca, rfl, hla, hma⟩ := ha.form
  have hn : (xs.length : Int) ≤ 1048576 := by unfold szL at hl; omega
  have HLZ := Lib.hid hl
  clear hl
  obtain ⟨i0, hi, hz0, hz1, hz2⟩ := info_parts (show (Try.prog.info? 4).map (fun i => (i.zero, i.size, i.bytes)) = some (some (.bool false), 1, 1) by kernel_rfl)
  go_enter Try.func28, Try.ntmps28
  go_wp2_with (at_make; refine wpList_make_full _ rfl _ _ 34 rfl w.heap.size 4 i0 (.bool false) 1 Try.underlying34 hi hz0 hz1 .i64 .i64 _ _ xs.length rfl rfl rfl rfl ?_ ?_ ?_ ?_; (rw [hz2]; omega); (unfold maxLen; omega); omega; intro w1 hown hg)
  obtain ⟨G0, hG0, hO0, hb0⟩ := RL.made (α := Bool) (by decide) hown rfl
  have hc0 : Chg [] w w1 := (Chg.refl [] w).grown hg (by simp)
  have hG1 : ∀ g ∈ G0, w.heap.size ≤ g := fun g h => by rw [hb0 g h]; exact Nat.le_refl _
  have hsz0 : w.heap.size < w1.heap.size ∨ xs.length = 0 := by
    rcases Nat.eq_zero_or_pos xs.length with h | h
    · exact Or.inr h
    · left
      have h3 := hown.2
      rcases h3 with ⟨h3, _⟩ | ⟨g', cap, cur, hv, _, hb, _⟩
      · simp at h3
      · simp only [Value.slice.injEq, Option.some.injEq, Addr.mk.injEq, and_true, true_and] at hv
        obtain ⟨rfl, _⟩ := hv
        rcases Nat.lt_or_ge w.heap.size w1.heap.size with h4 | h4
        · exact h4
        · rw [Array.getElem?_eq_none h4] at hb; cases hb
  clear hown hg hb0 hi hz0 hz1 hz2
  have HS0 := Lib.hid hsz0
  clear hsz0
  go_loopw [4] (fun i wr => ∃ (k : Nat) (G : List Nat), k ≤ xs.length ∧ i = .int .i64 k ∧ Chg [] w wr ∧ RL wr (fillL xs k) (.slice (some ⟨w.heap.size, 0, none⟩) xs.length xs.length) G ∧ Own wr G ∧ (∀ g ∈ G, w.heap.size ≤ g) ∧ w1.heap.size ≤ wr.heap.size) (fun i _ => xs.length - (intOf i).toNat)
  case atStart => exact ⟨0, G0, Nat.zero_le _, rfl, hc0, by rw [fillL_zero]; exact hG0, hO0, hG1, Nat.le_refl _⟩
  case round =>
    clear hc0 hG0 hO0 hG1
    obtain ⟨k, G, hk, rfl, hc, hr, hO, hG, hsr⟩ := hrel
    by_cases hlt : k < xs.length
    · have hws : w.heap.size < wr.heap.size := by rcases HS0.out with h | h <;> omega
      obtain ⟨b1, o1, p1, c1, f1, e1, r1, m1, -⟩ := (ha.chg0 hc).elem hlt
      obtain ⟨rfl, -⟩ := R_bool.1 r1
      injection e1 with e1 _ e1c
      subst e1 e1c
      have ya0 := m1 0 (by decide)
      obtain ⟨b, off, cap, cs, Fi, e2, r2, m2, hFi, hbF, hbn, E0, shut⟩ := hr.put hO (i := k) (by simpa using hlt)
      rw [fillL_at xs hlt] at r2
      rw [fillL_length] at e2
      have hlen := Rp.len r2
      have hq : ∀ j, j < 1 → ∃ u, wr.cell? ⟨b, off + k * 1 + j, none⟩ = some u := fun j hj => by
        have h1 := m2 j hj
        rw [List.getElem?_eq_getElem (by rw [hlen]; exact hj)] at h1
        exact ⟨_, h1⟩
      obtain ⟨z0, yb0⟩ := hq 0 (by decide)
      injection e2 with e2 _ e2c
      injection e2 with e2
      injection e2 with e2 e2o
      subst e2 e2o
      simp only [sz_bool, Nat.mul_one, Nat.add_zero, List.getElem?_cons_zero, Nat.zero_add] at shut E0 ya0 yb0
      have hcl : cs.length = 1 := hlen
      have S := Lib.hid shut
      have HE := Lib.hid E0
      have HC := Lib.hid hc
      have HO := Lib.hid hO
      have HG := Lib.hid hG
      have HLt := Lib.hid hr.lt
      have HCL := Lib.hid hcl
      clear shut E0 hc hO hG hr m1 m2 r1 r2 ha e2c hq hlen hcl hFi
      have yf0 := HO.out.frozen hbF (o := k)
      go_wp2
      go_roundw
      case rel =>
        have hW := HE.out.store0 (by rw [HCL.out]; decide) (.bool xs[k])
        have hcs : (cs.set 0 (.bool xs[k])) = [.bool xs[k]] := by
          have := HCL.out
          match cs, this with
          | [c0], _ => rfl
        rw [hcs] at hW
        obtain ⟨F', h1, h2, h3⟩ := S.out _ xs[k] _ ([]) (R_bool.2 ⟨rfl, rfl⟩) hW (HO.out.setCell _ _) (Own.nil_ _) (by simp)
        exact ⟨k + 1, F', by omega, by go_num, (HC.out.setCell (Or.inr (Nat.le_refl _)) _), by rw [fillL_succ xs hlt]; exact h1, h2, fun g hg => (h3 g hg).elim (HG.out g) (fun h => by simp at h), (by simpa using hsr)⟩
      case measure => simp [intOf]; omega
    · rw [fillL_all xs (by omega)] at hr
      have HC := Lib.hid hc
      have HO := Lib.hid hO
      have HG := Lib.hid hG
      have HR := Lib.hid hr
      clear hc hO hG hr ha
      go_wp2
      go_ret
      exact ⟨_, _, rfl, HC.out, HR.out, HO.out, HG.out⟩

set_option maxRecDepth 100000 in
set_option maxHeartbeats 1000000 in
theorem toByteS_c (xs : List UInt8) (a : Value) (F : List Nat) (w : World) (ha : RL w xs a F) (hl : szL xs ≤ 1048576) :
    Calls Try.prog 32 #[a] w fun e w' => ∃ v G, e = .returned v ∧ Chg [] w w' ∧ RL w' xs v G ∧ Own w' G ∧ ∀ g ∈ G, w.heap.size ≤ g := by
  obtain ⟨A, ca, rfl, hla, hma⟩ := ha.form
  have hn : (xs.length : Int) ≤ 1048576 := by unfold szL at hl; omega
  have HLZ := Lib.hid hl
  clear hl
  obtain ⟨i0, hi, hz0, hz1, hz2⟩ := info_parts (show (Try.prog.info? 5).map (fun i => (i.zero, i.size, i.bytes)) = some (some (.int .u8 0), 1, 1) by kernel_rfl)
  go_enter Try.func32, Try.ntmps32
  go_wp2_with (at_make; refine wpList_make_full _ rfl _ _ 40 rfl w.heap.size 5 i0 (.int .u8 0) 1 Try.underlying40 hi hz0 hz1 .i64 .i64 _ _ xs.length rfl rfl rfl rfl ?_ ?_ ?_ ?_; (rw [hz2]; omega); (unfold maxLen; omega); omega; intro w1 hown hg)
  obtain ⟨G0, hG0, hO0, hb0⟩ := RL.made (α := UInt8) (by decide) hown rfl
  have hc0 : Chg [] w w1 := (Chg.refl [] w).grown hg (by simp)
  have hG1 : ∀ g ∈ G0, w.heap.size ≤ g := fun g h => by rw [hb0 g h]; exact Nat.le_refl _
  have hsz0 : w.heap.size < w1.heap.size ∨ xs.length = 0 := by
    rcases Nat.eq_zero_or_pos xs.length with h | h
    · exact Or.inr h
    · left
      have h3 := hown.2
      rcases h3 with ⟨h3, _⟩ | ⟨g', cap, cur, hv, _, hb, _⟩
      · simp at h3
      · simp only [Value.slice.injEq, Option.some.injEq, Addr.mk.injEq, and_true, true_and] at hv
        obtain ⟨rfl, _⟩ := hv
        rcases Nat.lt_or_ge w.heap.size w1.heap.size with h4 | h4
        · exact h4
        · rw [Array.getElem?_eq_none h4] at hb; cases hb
  clear hown hg hb0 hi hz0 hz1 hz2
  have HS0 := Lib.hid hsz0
  clear hsz0
  go_loopw [4] (fun i wr => ∃ (k : Nat) (G : List Nat), k ≤ xs.length ∧ i = .int .i64 k ∧ Chg [] w wr ∧ RL wr (fillL xs k) (.slice (some ⟨w.heap.size, 0, none⟩) xs.length xs.length) G ∧ Own wr G ∧ (∀ g ∈ G, w.heap.size ≤ g) ∧ w1.heap.size ≤ wr.heap.size) (fun i _ => xs.length - (intOf i).toNat)
  case atStart => exact ⟨0, G0, Nat.zero_le _, rfl, hc0, by rw [fillL_zero]; exact hG0, hO0, hG1, Nat.le_refl _⟩
  case round =>
    clear hc0 hG0 hO0 hG1
    obtain ⟨k, G, hk, rfl, hc, hr, hO, hG, hsr⟩ := hrel
    by_cases hlt : k < xs.length
    · have hws : w.heap.size < wr.heap.size := by rcases HS0.out with h | h <;> omega
      obtain ⟨b1, o1, p1, c1, f1, e1, r1, m1, -⟩ := (ha.chg0 hc).elem hlt
      obtain ⟨rfl, -⟩ := R_u8.1 r1
      injection e1 with e1 _ e1c
      subst e1 e1c
      have ya0 := m1 0 (by decide)
      obtain ⟨b, off, cap, cs, Fi, e2, r2, m2, hFi, hbF, hbn, E0, shut⟩ := hr.put hO (i := k) (by simpa using hlt)
      rw [fillL_at xs hlt] at r2
      rw [fillL_length] at e2
      have hlen := Rp.len r2
      have hq : ∀ j, j < 1 → ∃ u, wr.cell? ⟨b, off + k * 1 + j, none⟩ = some u := fun j hj => by
        have h1 := m2 j hj
        rw [List.getElem?_eq_getElem (by rw [hlen]; exact hj)] at h1
        exact ⟨_, h1⟩
      obtain ⟨z0, yb0⟩ := hq 0 (by decide)
      injection e2 with e2 _ e2c
      injection e2 with e2
      injection e2 with e2 e2o
      subst e2 e2o
      simp only [sz_u8, Nat.mul_one, Nat.add_zero, List.getElem?_cons_zero, Nat.zero_add] at shut E0 ya0 yb0
      have hcl : cs.length = 1 := hlen
      have S := Lib.hid shut
      have HE := Lib.hid E0
      have HC := Lib.hid hc
      have HO := Lib.hid hO
      have HG := Lib.hid hG
      have HLt := Lib.hid hr.lt
      have HCL := Lib.hid hcl
      clear shut E0 hc hO hG hr m1 m2 r1 r2 ha e2c hq hlen hcl hFi
      have yf0 := HO.out.frozen hbF (o := k)
      go_wp2
      go_roundw
      case rel =>
        have hW := HE.out.store0 (by rw [HCL.out]; decide) (.int .u8 xs[k].toNat)
        have hcs : (cs.set 0 (.int .u8 xs[k].toNat)) = [.int .u8 xs[k].toNat] := by
          have := HCL.out
          match cs, this with
          | [c0], _ => rfl
        rw [hcs] at hW
        obtain ⟨F', h1, h2, h3⟩ := S.out _ xs[k] _ ([]) (R_u8.2 ⟨rfl, rfl⟩) hW (HO.out.setCell _ _) (Own.nil_ _) (by simp)
        exact ⟨k + 1, F', by omega, by go_num, (HC.out.setCell (Or.inr (Nat.le_refl _)) _), by rw [fillL_succ xs hlt]; exact h1, h2, fun g hg => (h3 g hg).elim (HG.out g) (fun h => by simp at h), (by simpa using hsr)⟩
      case measure => simp [intOf]; omega
    · rw [fillL_all xs (by omega)] at hr
      have HC := Lib.hid hc
      have HO := Lib.hid hO
      have HG := Lib.hid hG
      have HR := Lib.hid hr
      clear hc hO hG hr ha
      go_wp2
      go_ret
      exact ⟨_, _, rfl, HC.out, HR.out, HO.out, HG.out⟩

set_option maxRecDepth 100000 in
set_option maxHeartbeats 2000000 in
theorem toCrdCoord_c (x : CrdCoord) (vDone : Value) (FDone : List Nat) (vCerts : Value) (FCerts : List Nat) (vLeases : Value) (FLeases : List Nat) (vVerdictSites : Value) (FVerdictSites : List Nat) (vLog : Value) (FLog : List Nat) (w : World) (hDone : RL w x.Done vDone FDone) (hCerts : RL w x.Certs vCerts FCerts) (hLeases : RL w x.Leases vLeases FLeases) (hVerdictSites : RL w x.Verdict.Sites vVerdictSites FVerdictSites) (hLog : RL w x.Log vLog FLog) (hl : Sz.size x ≤ 1048576) : Calls Try.prog 12 #[.agg #[.bool x.Up, .int .i64 x.Epoch, .int .i64 x.Seq, .int .i64 x.Clock, vDone, vCerts, vLeases, .int .i64 x.Verdict.Kind, .int .i64 x.Verdict.Line, vVerdictSites, vLog]] w fun e w' => ∃ uDone GDone uCerts GCerts uLeases GLeases uVerdictSites GVerdictSites uLog GLog, e = .returned (.agg #[.bool x.Up, .int .i64 x.Epoch, .int .i64 x.Seq, .int .i64 x.Clock, uDone, uCerts, uLeases, .int .i64 x.Verdict.Kind, .int .i64 x.Verdict.Line, uVerdictSites, uLog]) ∧ Chg [] w w' ∧ RL w' x.Done uDone GDone ∧ RL w' x.Certs uCerts GCerts ∧ RL w' x.Leases uLeases GLeases ∧ RL w' x.Verdict.Sites uVerdictSites GVerdictSites ∧ RL w' x.Log uLog GLog ∧ Own w' (GDone ++ (GCerts ++ (GLeases ++ (GVerdictSites ++ (GLog))))) ∧ ∀ g ∈ GDone ++ (GCerts ++ (GLeases ++ (GVerdictSites ++ (GLog)))), w.heap.size ≤ g := by
  rw [size_CrdCoord] at hl
  have hl1 : szL x.Done ≤ 1048576 := by first | omega | (simp only [size_VrdVerdict, size_CrtCert, size_EngEng, size_CrdCoord, size_AbsState] at hl ⊢; omega) | (simp only [size_VrdVerdict, size_CrtCert, size_EngEng, size_CrdCoord, size_AbsState] at hl; omega) | (simp only [size_VrdVerdict, size_CrtCert, size_EngEng, size_CrdCoord, size_AbsState]; omega)
  have hl2 : szL x.Certs ≤ 1048576 := by first | omega | (simp only [size_VrdVerdict, size_CrtCert, size_EngEng, size_CrdCoord, size_AbsState] at hl ⊢; omega) | (simp only [size_VrdVerdict, size_CrtCert, size_EngEng, size_CrdCoord, size_AbsState] at hl; omega) | (simp only [size_VrdVerdict, size_CrtCert, size_EngEng, size_CrdCoord, size_AbsState]; omega)
  have hl3 : szL x.Leases ≤ 1048576 := by first | omega | (simp only [size_VrdVerdict, size_CrtCert, size_EngEng, size_CrdCoord, size_AbsState] at hl ⊢; omega) | (simp only [size_VrdVerdict, size_CrtCert, size_EngEng, size_CrdCoord, size_AbsState] at hl; omega) | (simp only [size_VrdVerdict, size_CrtCert, size_EngEng, size_CrdCoord, size_AbsState]; omega)
  have hl4 : Sz.size x.Verdict ≤ 1048576 := by first | omega | (simp only [size_VrdVerdict, size_CrtCert, size_EngEng, size_CrdCoord, size_AbsState] at hl ⊢; omega) | (simp only [size_VrdVerdict, size_CrtCert, size_EngEng, size_CrdCoord, size_AbsState] at hl; omega) | (simp only [size_VrdVerdict, size_CrtCert, size_EngEng, size_CrdCoord, size_AbsState]; omega)
  have hl5 : szL x.Log ≤ 1048576 := by first | omega | (simp only [size_VrdVerdict, size_CrtCert, size_EngEng, size_CrdCoord, size_AbsState] at hl ⊢; omega) | (simp only [size_VrdVerdict, size_CrtCert, size_EngEng, size_CrdCoord, size_AbsState] at hl; omega) | (simp only [size_VrdVerdict, size_CrtCert, size_EngEng, size_CrdCoord, size_AbsState]; omega)
  have HL1 := Lib.hid hl1; clear hl1; have HL2 := Lib.hid hl2; clear hl2; have HL3 := Lib.hid hl3; clear hl3; have HL4 := Lib.hid hl4; clear hl4; have HL5 := Lib.hid hl5; clear hl5; clear hl
  go_enter Try.func12, Try.ntmps12
  go_wp2_with fail
  refine (toBoolS_c x.Done _ _ _ (hDone.chg0 (by repeat (first | with_reducible exact Chg.refl _ _ | with_reducible refine Chg.setCell ?_ (Or.inr (by first | (simp; done) | (simp; omega))) _ | with_reducible refine Chg.alloc ?_ _ | with_reducible refine Chg.drewN ?_ _ | with_reducible refine Chg.drew ?_))) HL1.out).mono ?_
  rintro e w1 ⟨uDone, GDone, rfl, hc1, qDone, O1, L1⟩
  obtain ⟨ADone, cDone, rfl, -, -⟩ := qDone.form
  obtain ⟨hcl1, hfz1⟩ := hc1.cells
  have hz1 := hc1.size
  repeat (first | rw [World.size_alloc] at hz1 | rw [World.size_setCell] at hz1 | rw [World.size_drew] at hz1 | rw [World.heap_drewN] at hz1)
  have hza1 : w.heap.size < w1.heap.size := by omega
  have hzb1 : w.heap.size + 1 < w1.heap.size := by omega
  have hzc1 : w.heap.size + 2 < w1.heap.size := by omega
  have B1 : Hid (∀ g ∈ GDone, w.heap.size + 3 ≤ g ∧ g < w1.heap.size) := Lib.hid (fun g hg => ⟨by have := L1 g hg; (repeat (first | rw [World.size_alloc] at this | rw [World.size_setCell] at this | rw [World.size_drew] at this | rw [World.heap_drewN] at this)); omega, O1.lt g hg⟩)
  clear L1
  go_wp2_with fail
  refine (toCrtCertS_c x.Certs _ _ _ (hCerts.chg0 (by repeat (first | with_reducible exact Chg.refl _ _ | with_reducible refine Chg.setCell ?_ (Or.inr (by first | (simp; done) | (simp; omega))) _ | with_reducible refine Chg.alloc ?_ _ | with_reducible refine Chg.drewN ?_ _ | with_reducible refine Chg.drew ?_ | with_reducible refine Chg.trans0 ?_ hc1))) HL2.out).mono ?_
  rintro e w2 ⟨uCerts, GCerts, rfl, hc2, qCerts, O2, L2⟩
  obtain ⟨ACerts, cCerts, rfl, -, -⟩ := qCerts.form
  obtain ⟨hcl2, hfz2⟩ := hc2.cells
  have hz2 := hc2.size
  repeat (first | rw [World.size_alloc] at hz2 | rw [World.size_setCell] at hz2 | rw [World.size_drew] at hz2 | rw [World.heap_drewN] at hz2)
  have hza2 : w.heap.size < w2.heap.size := by omega
  have hzb2 : w.heap.size + 1 < w2.heap.size := by omega
  have hzc2 : w.heap.size + 2 < w2.heap.size := by omega
  have B2 : Hid (∀ g ∈ GCerts, w1.heap.size ≤ g ∧ g < w2.heap.size) := Lib.hid (fun g hg => ⟨by have := L2 g hg; (repeat (first | rw [World.size_alloc] at this | rw [World.size_setCell] at this | rw [World.size_drew] at this | rw [World.heap_drewN] at this)); omega, O2.lt g hg⟩)
  clear L2
  go_wp2_with fail
  refine (toCrdLeaseS_c x.Leases _ _ _ (hLeases.chg0 (by repeat (first | with_reducible exact Chg.refl _ _ | with_reducible refine Chg.setCell ?_ (Or.inr (by first | (simp; done) | (simp; omega))) _ | with_reducible refine Chg.alloc ?_ _ | with_reducible refine Chg.drewN ?_ _ | with_reducible refine Chg.drew ?_ | with_reducible refine Chg.trans0 ?_ hc1 | with_reducible refine Chg.trans0 ?_ hc2))) HL3.out).mono ?_
  rintro e w3 ⟨uLeases, GLeases, rfl, hc3, qLeases, O3, L3⟩
  obtain ⟨ALeases, cLeases, rfl, -, -⟩ := qLeases.form
  obtain ⟨hcl3, hfz3⟩ := hc3.cells
  have hz3 := hc3.size
  repeat (first | rw [World.size_alloc] at hz3 | rw [World.size_setCell] at hz3 | rw [World.size_drew] at hz3 | rw [World.heap_drewN] at hz3)
  have hza3 : w.heap.size < w3.heap.size := by omega
  have hzb3 : w.heap.size + 1 < w3.heap.size := by omega
  have hzc3 : w.heap.size + 2 < w3.heap.size := by omega
  have B3 : Hid (∀ g ∈ GLeases, w2.heap.size ≤ g ∧ g < w3.heap.size) := Lib.hid (fun g hg => ⟨by have := L3 g hg; (repeat (first | rw [World.size_alloc] at this | rw [World.size_setCell] at this | rw [World.size_drew] at this | rw [World.heap_drewN] at this)); omega, O3.lt g hg⟩)
  clear L3
  go_wp2_with fail
  refine (toVrdVerdict_c x.Verdict _ _ _ (hVerdictSites.chg0 (by repeat (first | with_reducible exact Chg.refl _ _ | with_reducible refine Chg.setCell ?_ (Or.inr (by first | (simp; done) | (simp; omega))) _ | with_reducible refine Chg.alloc ?_ _ | with_reducible refine Chg.drewN ?_ _ | with_reducible refine Chg.drew ?_ | with_reducible refine Chg.trans0 ?_ hc1 | with_reducible refine Chg.trans0 ?_ hc2 | with_reducible refine Chg.trans0 ?_ hc3))) HL4.out).mono ?_
  rintro e w4 ⟨uVerdictSites, GVerdictSites, rfl, hc4, qVerdictSites, O4, L4⟩
  obtain ⟨AVerdictSites, cVerdictSites, rfl, -, -⟩ := qVerdictSites.form
  obtain ⟨hcl4, hfz4⟩ := hc4.cells
  have hz4 := hc4.size
  repeat (first | rw [World.size_alloc] at hz4 | rw [World.size_setCell] at hz4 | rw [World.size_drew] at hz4 | rw [World.heap_drewN] at hz4)
  have hza4 : w.heap.size < w4.heap.size := by omega
  have hzb4 : w.heap.size + 1 < w4.heap.size := by omega
  have hzc4 : w.heap.size + 2 < w4.heap.size := by omega
  have B4 : Hid (∀ g ∈ GVerdictSites, w3.heap.size ≤ g ∧ g < w4.heap.size) := Lib.hid (fun g hg => ⟨by have := L4 g hg; (repeat (first | rw [World.size_alloc] at this | rw [World.size_setCell] at this | rw [World.size_drew] at this | rw [World.heap_drewN] at this)); omega, O4.lt g hg⟩)
  clear L4
  go_wp2_with fail
  refine (toByteS_c x.Log _ _ _ (hLog.chg0 (by repeat (first | with_reducible exact Chg.refl _ _ | with_reducible refine Chg.setCell ?_ (Or.inr (by first | (simp; done) | (simp; omega))) _ | with_reducible refine Chg.alloc ?_ _ | with_reducible refine Chg.drewN ?_ _ | with_reducible refine Chg.drew ?_ | with_reducible refine Chg.trans0 ?_ hc1 | with_reducible refine Chg.trans0 ?_ hc2 | with_reducible refine Chg.trans0 ?_ hc3 | with_reducible refine Chg.trans0 ?_ hc4))) HL5.out).mono ?_
  rintro e w5 ⟨uLog, GLog, rfl, hc5, qLog, O5, L5⟩
  obtain ⟨ALog, cLog, rfl, -, -⟩ := qLog.form
  obtain ⟨hcl5, hfz5⟩ := hc5.cells
  have hz5 := hc5.size
  repeat (first | rw [World.size_alloc] at hz5 | rw [World.size_setCell] at hz5 | rw [World.size_drew] at hz5 | rw [World.heap_drewN] at hz5)
  have hza5 : w.heap.size < w5.heap.size := by omega
  have hzb5 : w.heap.size + 1 < w5.heap.size := by omega
  have hzc5 : w.heap.size + 2 < w5.heap.size := by omega
  have B5 : Hid (∀ g ∈ GLog, w4.heap.size ≤ g ∧ g < w5.heap.size) := Lib.hid (fun g hg => ⟨by have := L5 g hg; (repeat (first | rw [World.size_alloc] at this | rw [World.size_setCell] at this | rw [World.size_drew] at this | rw [World.heap_drewN] at this)); omega, O5.lt g hg⟩)
  clear L5
  go_wp2
  refine bodyPost_ret (v := .agg #[.bool x.Up, .int .i64 x.Epoch, .int .i64 x.Seq, .int .i64 x.Clock, .slice ADone x.Done.length cDone, .slice ACerts x.Certs.length cCerts, .slice ALeases x.Leases.length cLeases, .int .i64 x.Verdict.Kind, .int .i64 x.Verdict.Line, .slice AVerdictSites x.Verdict.Sites.length cVerdictSites, .slice ALog x.Log.length cLog]) (by simp [results, Try.results12, go_sem, hcl1, hza1, hzb1, hzc1, hcl2, hza2, hzb2, hzc2, hcl3, hza3, hzb3, hzc3, hcl4, hza4, hzb4, hzc4, hcl5, hza5, hzb5, hzc5]) rfl ⟨_, GDone, _, GCerts, _, GLeases, _, GVerdictSites, _, GLog, rfl, by repeat (first | with_reducible exact Chg.refl _ _ | with_reducible refine Chg.setCell ?_ (Or.inr (by first | (simp; done) | (simp; omega))) _ | with_reducible refine Chg.alloc ?_ _ | with_reducible refine Chg.drewN ?_ _ | with_reducible refine Chg.drew ?_ | with_reducible refine Chg.trans0 ?_ hc1 | with_reducible refine Chg.trans0 ?_ hc2 | with_reducible refine Chg.trans0 ?_ hc3 | with_reducible refine Chg.trans0 ?_ hc4 | with_reducible refine Chg.trans0 ?_ hc5), ?_⟩
  clear hcl1 hfz1 hcl2 hfz2 hcl3 hfz3 hcl4 hfz4 hcl5 hfz5
  have PB : ∀ g ∈ GDone ++ (GCerts ++ (GLeases ++ (GVerdictSites ++ (GLog)))), w.heap.size ≤ g := fun g hg => by rcases List.mem_append.1 hg with hg | hg; (have h2 := (B1.out g hg).1; omega); (rcases List.mem_append.1 hg with hg | hg; (have h2 := (B2.out g hg).1; omega); (rcases List.mem_append.1 hg with hg | hg; (have h2 := (B3.out g hg).1; omega); (rcases List.mem_append.1 hg with hg | hg; (have h2 := (B4.out g hg).1; omega); (have h2 := (B5.out g hg).1; omega))))
  exact ⟨RL.chg (G := [w.heap.size, w.heap.size + 1, w.heap.size + 2]) qDone (by repeat (first | with_reducible exact Chg.refl _ _ | with_reducible refine Chg.setCell ?_ (Or.inl (by first | (simp; done) | (simp; omega))) _ | with_reducible refine Chg.alloc ?_ _ | with_reducible refine Chg.drewN ?_ _ | with_reducible refine Chg.drew ?_ | with_reducible refine Chg.trans0 ?_ hc2 | with_reducible refine Chg.trans0 ?_ hc3 | with_reducible refine Chg.trans0 ?_ hc4 | with_reducible refine Chg.trans0 ?_ hc5)) (fun g hg h => by have := (B1.out g (hg)).1; simp at h; omega),
    RL.chg (G := [w.heap.size, w.heap.size + 1, w.heap.size + 2]) qCerts (by repeat (first | with_reducible exact Chg.refl _ _ | with_reducible refine Chg.setCell ?_ (Or.inl (by first | (simp; done) | (simp; omega))) _ | with_reducible refine Chg.alloc ?_ _ | with_reducible refine Chg.drewN ?_ _ | with_reducible refine Chg.drew ?_ | with_reducible refine Chg.trans0 ?_ hc3 | with_reducible refine Chg.trans0 ?_ hc4 | with_reducible refine Chg.trans0 ?_ hc5)) (fun g hg h => by have := (B2.out g (hg)).1; simp at h; omega),
    RL.chg (G := [w.heap.size, w.heap.size + 1, w.heap.size + 2]) qLeases (by repeat (first | with_reducible exact Chg.refl _ _ | with_reducible refine Chg.setCell ?_ (Or.inl (by first | (simp; done) | (simp; omega))) _ | with_reducible refine Chg.alloc ?_ _ | with_reducible refine Chg.drewN ?_ _ | with_reducible refine Chg.drew ?_ | with_reducible refine Chg.trans0 ?_ hc4 | with_reducible refine Chg.trans0 ?_ hc5)) (fun g hg h => by have := (B3.out g (hg)).1; simp at h; omega),
    RL.chg (G := [w.heap.size, w.heap.size + 1, w.heap.size + 2]) qVerdictSites (by repeat (first | with_reducible exact Chg.refl _ _ | with_reducible refine Chg.setCell ?_ (Or.inl (by first | (simp; done) | (simp; omega))) _ | with_reducible refine Chg.alloc ?_ _ | with_reducible refine Chg.drewN ?_ _ | with_reducible refine Chg.drew ?_ | with_reducible refine Chg.trans0 ?_ hc5)) (fun g hg h => by have := (B4.out g (hg)).1; simp at h; omega),
    RL.chg (G := [w.heap.size, w.heap.size + 1, w.heap.size + 2]) qLog (by repeat (first | with_reducible exact Chg.refl _ _ | with_reducible refine Chg.setCell ?_ (Or.inl (by first | (simp; done) | (simp; omega))) _ | with_reducible refine Chg.alloc ?_ _ | with_reducible refine Chg.drewN ?_ _ | with_reducible refine Chg.drew ?_)) (fun g hg h => by have := (B5.out g (hg)).1; simp at h; omega), (Own.append (Own.chg (G := [w.heap.size, w.heap.size + 1, w.heap.size + 2]) O1 (by repeat (first | with_reducible exact Chg.refl _ _ | with_reducible refine Chg.setCell ?_ (Or.inl (by first | (simp; done) | (simp; omega))) _ | with_reducible refine Chg.alloc ?_ _ | with_reducible refine Chg.drewN ?_ _ | with_reducible refine Chg.drew ?_ | with_reducible refine Chg.trans0 ?_ hc2 | with_reducible refine Chg.trans0 ?_ hc3 | with_reducible refine Chg.trans0 ?_ hc4 | with_reducible refine Chg.trans0 ?_ hc5)) (fun g hg h => by have := (B1.out g hg).1; simp at h; omega)) (Own.append (Own.chg (G := [w.heap.size, w.heap.size + 1, w.heap.size + 2]) O2 (by repeat (first | with_reducible exact Chg.refl _ _ | with_reducible refine Chg.setCell ?_ (Or.inl (by first | (simp; done) | (simp; omega))) _ | with_reducible refine Chg.alloc ?_ _ | with_reducible refine Chg.drewN ?_ _ | with_reducible refine Chg.drew ?_ | with_reducible refine Chg.trans0 ?_ hc3 | with_reducible refine Chg.trans0 ?_ hc4 | with_reducible refine Chg.trans0 ?_ hc5)) (fun g hg h => by have := (B2.out g hg).1; simp at h; omega)) (Own.append (Own.chg (G := [w.heap.size, w.heap.size + 1, w.heap.size + 2]) O3 (by repeat (first | with_reducible exact Chg.refl _ _ | with_reducible refine Chg.setCell ?_ (Or.inl (by first | (simp; done) | (simp; omega))) _ | with_reducible refine Chg.alloc ?_ _ | with_reducible refine Chg.drewN ?_ _ | with_reducible refine Chg.drew ?_ | with_reducible refine Chg.trans0 ?_ hc4 | with_reducible refine Chg.trans0 ?_ hc5)) (fun g hg h => by have := (B3.out g hg).1; simp at h; omega)) (Own.append (Own.chg (G := [w.heap.size, w.heap.size + 1, w.heap.size + 2]) O4 (by repeat (first | with_reducible exact Chg.refl _ _ | with_reducible refine Chg.setCell ?_ (Or.inl (by first | (simp; done) | (simp; omega))) _ | with_reducible refine Chg.alloc ?_ _ | with_reducible refine Chg.drewN ?_ _ | with_reducible refine Chg.drew ?_ | with_reducible refine Chg.trans0 ?_ hc5)) (fun g hg h => by have := (B4.out g hg).1; simp at h; omega)) (Own.chg (G := [w.heap.size, w.heap.size + 1, w.heap.size + 2]) O5 (by repeat (first | with_reducible exact Chg.refl _ _ | with_reducible refine Chg.setCell ?_ (Or.inl (by first | (simp; done) | (simp; omega))) _ | with_reducible refine Chg.alloc ?_ _ | with_reducible refine Chg.drewN ?_ _ | with_reducible refine Chg.drew ?_)) (fun g hg h => by have := (B5.out g hg).1; simp at h; omega)) (fun g hg h => by have h1 := (B4.out g hg).2; have h2 := (B5.out g h).1; omega)) (fun g hg h => by have h1 := (B3.out g hg).2; rcases List.mem_append.1 h with h | h; (have h2 := (B4.out g h).1; omega); (have h2 := (B5.out g h).1; omega))) (fun g hg h => by have h1 := (B2.out g hg).2; rcases List.mem_append.1 h with h | h; (have h2 := (B3.out g h).1; omega); (rcases List.mem_append.1 h with h | h; (have h2 := (B4.out g h).1; omega); (have h2 := (B5.out g h).1; omega)))) (fun g hg h => by have h1 := (B1.out g hg).2; rcases List.mem_append.1 h with h | h; (have h2 := (B2.out g h).1; omega); (rcases List.mem_append.1 h with h | h; (have h2 := (B3.out g h).1; omega); (rcases List.mem_append.1 h with h | h; (have h2 := (B4.out g h).1; omega); (have h2 := (B5.out g h).1; omega))))), PB⟩

end Go.Proofs.Ytaiinlhobcclcaa.Wk
