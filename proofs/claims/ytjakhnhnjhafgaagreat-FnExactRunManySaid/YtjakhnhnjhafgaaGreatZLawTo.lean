/-
  Contracts of the laws' own functions, written by a program of mine (wip/gen/gen_laws.py).
-/
import Derived.Test.YtjakhnhnjhafgaaGreatZBase
set_option linter.unusedVariables false
set_option linter.unusedSimpArgs false
namespace Go.Proofs.YtjakhnhnjhafgaaGreat.Wk
open Go Go.RowKit Go.Deep Ow
open Rp (R sz)
open Mk (mark cnt)
open Zr (zero zcells zr)

set_option maxRecDepth 100000 in
set_option maxHeartbeats 2000000 in
theorem toInsIns_c (x : InsIns) (w : World) : Calls Tryz.prog 209 #[.agg #[.int .i64 x.Op, .int .i64 x.D, .int .i64 x.A, .int .i64 x.B, .int .i64 x.Rel, .int .i64 x.Lo, .int .i64 x.Hi, .int .i64 x.To]] w fun e w' => e = .returned (.agg #[.int .i64 x.Op, .int .i64 x.D, .int .i64 x.A, .int .i64 x.B, .int .i64 x.Rel, .int .i64 x.Lo, .int .i64 x.Hi, .int .i64 x.To]) ∧ Chg [] w w' := by
  go_enter Tryz.func209, Tryz.ntmps209
  go_wp2
  exact bodyPost_ret (v := .agg #[.int .i64 x.Op, .int .i64 x.D, .int .i64 x.A, .int .i64 x.B, .int .i64 x.Rel, .int .i64 x.Lo, .int .i64 x.Hi, .int .i64 x.To]) (by simp [results, Tryz.results209, go_sem]) rfl ⟨rfl, Chg.f⟩

set_option maxRecDepth 100000 in
set_option maxHeartbeats 1000000 in
theorem toInsInsS_c (xs : List InsIns) (a : Value) (F : List Nat) (w : World) (ha : RL w xs a F) (hl : szL xs ≤ 1048576) :
    Calls Tryz.prog 185 #[a] w fun e w' => ∃ v G, e = .returned v ∧ Chg [] w w' ∧ RL w' xs v G ∧ Own w' G ∧ ∀ g ∈ G, w.heap.size ≤ g := by
  obtain ⟨A, ca, rfl, hla, hma⟩ := ha.form
  have hn : (xs.length : Int) ≤ 1048576 := by unfold szL at hl; omega
  have HLZ := Lib.hid hl
  clear hl
  obtain ⟨i0, hi, hz0, hz1, hz2⟩ := info_parts (show (Tryz.prog.info? 27).map (fun i => (i.zero, i.size, i.bytes)) = some (some (.agg #[.int .i64 0, .int .i64 0, .int .i64 0, .int .i64 0, .int .i64 0, .int .i64 0, .int .i64 0, .int .i64 0]), 8, 64) by kernel_rfl)
  go_enter Tryz.func185, Tryz.ntmps185
  go_wp2_with (at_make; refine wpList_make_full _ rfl _ _ 38 rfl w.heap.size 27 i0 (.agg #[.int .i64 0, .int .i64 0, .int .i64 0, .int .i64 0, .int .i64 0, .int .i64 0, .int .i64 0, .int .i64 0]) 8 Tryz.underlying38 hi hz0 hz1 .i64 .i64 _ _ xs.length rfl rfl rfl rfl ?_ ?_ ?_ ?_; (rw [hz2]; omega); (unfold maxLen; omega); omega; intro w1 hown hg)
  obtain ⟨G0, hG0, hO0, hb0⟩ := RL.made (α := InsIns) (by decide) hown rfl
  have hc0 : Chg [] w w1 := (Chg.refl [] w).grown hg (by simp)
  have hG1 : ∀ g ∈ G0, w.heap.size ≤ g := fun g h => by rw [hb0 g h]; exact Nat.le_refl _
  have hsz0 : w.heap.size < w1.heap.size ∨ xs.length = 0 := by
    rcases Nat.eq_zero_or_pos xs.length with h | h
    · exact Or.inr h
    · left
      have h3 := hown.2
      rcases h3 with ⟨h3, _⟩ | ⟨g', cap, cur, hv, _, hb, _⟩
      · simp at h3
      · simp only [Value.slice.injEq, Option.some.injEq, Addr.mk.injEq, and_true, true_and] at hv
        obtain ⟨rfl, _⟩ := hv
        rcases Nat.lt_or_ge w.heap.size w1.heap.size with h4 | h4
        · exact h4
        · rw [Array.getElem?_eq_none h4] at hb; cases hb
  clear hown hg hb0 hi hz0 hz1 hz2
  have HS0 := Lib.hid hsz0
  clear hsz0
  go_loopw [4] (fun i wr => ∃ (k : Nat) (G : List Nat), k ≤ xs.length ∧ i = .int .i64 k ∧ Chg [] w wr ∧ RL wr (fillL xs k) (.slice (some ⟨w.heap.size, 0, none⟩) xs.length xs.length) G ∧ Own wr G ∧ (∀ g ∈ G, w.heap.size ≤ g) ∧ w1.heap.size ≤ wr.heap.size) (fun i _ => xs.length - (intOf i).toNat)
  case atStart => exact ⟨0, G0, Nat.zero_le _, rfl, hc0, by rw [fillL_zero]; exact hG0, hO0, hG1, Nat.le_refl _⟩
  case round =>
    clear hc0 hG0 hO0 hG1
    obtain ⟨k, G, hk, rfl, hc, hr, hO, hG, hsr⟩ := hrel
    by_cases hlt : k < xs.length
    · have hws : w.heap.size < wr.heap.size := by rcases HS0.out with h | h <;> omega
      obtain ⟨b1, o1, p1, c1, f1, e1, r1, m1, -⟩ := (ha.chg0 hc).elem hlt
      obtain ⟨rfl, hF1, i1_0, i1_1, i1_2, i1_3, i1_4, i1_5, i1_6, i1_7⟩ := R_InsIns.1 r1
      injection e1 with e1 _ e1c
      subst e1 e1c
      have ya0 := m1 0 (by decide)
      have ya1 := m1 1 (by decide)
      have ya2 := m1 2 (by decide)
      have ya3 := m1 3 (by decide)
      have ya4 := m1 4 (by decide)
      have ya5 := m1 5 (by decide)
      have ya6 := m1 6 (by decide)
      have ya7 := m1 7 (by decide)
      obtain ⟨b, off, cap, cs, Fi, e2, r2, m2, hFi, hbF, hbn, E0, shut⟩ := hr.put hO (i := k) (by simpa using hlt)
      rw [fillL_at xs hlt] at r2
      rw [fillL_length] at e2
      have hlen := Rp.len r2
      have hq : ∀ j, j < 8 → ∃ u, wr.cell? ⟨b, off + k * 8 + j, none⟩ = some u := fun j hj => by
        have h1 := m2 j hj
        rw [List.getElem?_eq_getElem (by rw [hlen]; exact hj)] at h1
        exact ⟨_, h1⟩
      obtain ⟨z0, yb0⟩ := hq 0 (by decide)
      obtain ⟨z1, yb1⟩ := hq 1 (by decide)
      obtain ⟨z2, yb2⟩ := hq 2 (by decide)
      obtain ⟨z3, yb3⟩ := hq 3 (by decide)
      obtain ⟨z4, yb4⟩ := hq 4 (by decide)
      obtain ⟨z5, yb5⟩ := hq 5 (by decide)
      obtain ⟨z6, yb6⟩ := hq 6 (by decide)
      obtain ⟨z7, yb7⟩ := hq 7 (by decide)
      injection e2 with e2 _ e2c
      injection e2 with e2
      injection e2 with e2 e2o
      subst e2 e2o
      simp only [sz_InsIns, Nat.add_zero, List.getElem?_cons_zero, List.getElem?_cons_succ, Nat.zero_add] at shut E0 ya0 yb0 ya1 yb1 ya2 yb2 ya3 yb3 ya4 yb4 ya5 yb5 ya6 yb6 ya7 yb7
      have hcl : cs.length = 8 := hlen
      have S := Lib.hid shut
      have HE := Lib.hid E0
      have HC := Lib.hid hc
      have HO := Lib.hid hO
      have HG := Lib.hid hG
      have HLt := Lib.hid hr.lt
      have HCL := Lib.hid hcl
      have HI0 := Lib.hid i1_0
      have HI1 := Lib.hid i1_1
      have HI2 := Lib.hid i1_2
      have HI3 := Lib.hid i1_3
      have HI4 := Lib.hid i1_4
      have HI5 := Lib.hid i1_5
      have HI6 := Lib.hid i1_6
      have HI7 := Lib.hid i1_7
      clear shut E0 hc hO hG hr m1 m2 r1 r2 ha e2c hq hlen hcl hFi i1_0 i1_1 i1_2 i1_3 i1_4 i1_5 i1_6 i1_7
      go_wp2_with fail
      refine (toInsIns_c xs[k] _).mono ?_
      rintro e w2 ⟨rfl, hc2⟩
      have z0' := hc2.cell0 yb0
      have yf0 := (HO.out.chg0 hc2).frozen hbF (o := k * 8)
      have z1' := hc2.cell0 yb1
      have yf1 := (HO.out.chg0 hc2).frozen hbF (o := k * 8 + 1)
      have z2' := hc2.cell0 yb2
      have yf2 := (HO.out.chg0 hc2).frozen hbF (o := k * 8 + 2)
      have z3' := hc2.cell0 yb3
      have yf3 := (HO.out.chg0 hc2).frozen hbF (o := k * 8 + 3)
      have z4' := hc2.cell0 yb4
      have yf4 := (HO.out.chg0 hc2).frozen hbF (o := k * 8 + 4)
      have z5' := hc2.cell0 yb5
      have yf5 := (HO.out.chg0 hc2).frozen hbF (o := k * 8 + 5)
      have z6' := hc2.cell0 yb6
      have yf6 := (HO.out.chg0 hc2).frozen hbF (o := k * 8 + 6)
      have z7' := hc2.cell0 yb7
      have yf7 := (HO.out.chg0 hc2).frozen hbF (o := k * 8 + 7)
      have HC2 := Lib.hid hc2
      have hs2 := hc2.size
      clear hc2
      go_wp2
      go_roundw
      case rel =>
        have hW := ((((((((HE.out.call HLt.out hbF hbn HC2.out (by simp)).store0 (by rw [HCL.out]; decide) (.int .i64 xs[k].Op)).store 1 (by simp only [List.length_set]; rw [HCL.out]; decide) (.int .i64 xs[k].D)).store 2 (by simp only [List.length_set]; rw [HCL.out]; decide) (.int .i64 xs[k].A)).store 3 (by simp only [List.length_set]; rw [HCL.out]; decide) (.int .i64 xs[k].B)).store 4 (by simp only [List.length_set]; rw [HCL.out]; decide) (.int .i64 xs[k].Rel)).store 5 (by simp only [List.length_set]; rw [HCL.out]; decide) (.int .i64 xs[k].Lo)).store 6 (by simp only [List.length_set]; rw [HCL.out]; decide) (.int .i64 xs[k].Hi)).store 7 (by simp only [List.length_set]; rw [HCL.out]; decide) (.int .i64 xs[k].To)
        have hcs : ((((((((cs.set 0 (.int .i64 xs[k].Op)).set 1 (.int .i64 xs[k].D)).set 2 (.int .i64 xs[k].A)).set 3 (.int .i64 xs[k].B)).set 4 (.int .i64 xs[k].Rel)).set 5 (.int .i64 xs[k].Lo)).set 6 (.int .i64 xs[k].Hi)).set 7 (.int .i64 xs[k].To)) = [.int .i64 xs[k].Op, .int .i64 xs[k].D, .int .i64 xs[k].A, .int .i64 xs[k].B, .int .i64 xs[k].Rel, .int .i64 xs[k].Lo, .int .i64 xs[k].Hi, .int .i64 xs[k].To] := by
          have := HCL.out
          match cs, this with
          | [c0, c1, c2, c3, c4, c5, c6, c7], _ => rfl
        rw [hcs] at hW
        obtain ⟨F', h1, h2, h3⟩ := S.out _ xs[k] _ ([]) (R_InsIns.2 ⟨rfl, rfl, HI0.out, HI1.out, HI2.out, HI3.out, HI4.out, HI5.out, HI6.out, HI7.out⟩) hW (((((((((HO.out.chg0 HC2.out).setCell _ _).setCell _ _).setCell _ _).setCell _ _).setCell _ _).setCell _ _).setCell _ _).setCell _ _) (Own.nil_ _) (by simp)
        exact ⟨k + 1, F', by omega, by go_num, (((((((((HC.out.trans0 HC2.out).setCell (Or.inr (Nat.le_refl _)) _).setCell (Or.inr (Nat.le_refl _)) _).setCell (Or.inr (Nat.le_refl _)) _).setCell (Or.inr (Nat.le_refl _)) _).setCell (Or.inr (Nat.le_refl _)) _).setCell (Or.inr (Nat.le_refl _)) _).setCell (Or.inr (Nat.le_refl _)) _).setCell (Or.inr (Nat.le_refl _)) _), by rw [fillL_succ xs hlt]; exact h1, h2, fun g hg => (h3 g hg).elim (HG.out g) (fun h => by simp at h), (by simp only [World.size_setCell]; omega)⟩
      case measure => simp [intOf]; omega
    · rw [fillL_all xs (by omega)] at hr
      have HC := Lib.hid hc
      have HO := Lib.hid hO
      have HG := Lib.hid hG
      have HR := Lib.hid hr
      clear hc hO hG hr ha
      go_wp2
      go_ret
      exact ⟨_, _, rfl, HC.out, HR.out, HO.out, HG.out⟩

set_option maxRecDepth 100000 in
set_option maxHeartbeats 2000000 in
theorem toPrcProc_c (x : PrcProc) (vCode : Value) (FCode : List Nat) (w : World) (hCode : RL w x.Code vCode FCode) (hl : Sz.size x ≤ 1048576) : Calls Tryz.prog 141 #[.agg #[.int .i64 x.Lo, .int .i64 x.Hi, vCode]] w fun e w' => ∃ uCode GCode, e = .returned (.agg #[.int .i64 x.Lo, .int .i64 x.Hi, uCode]) ∧ Chg [] w w' ∧ RL w' x.Code uCode GCode ∧ Own w' (GCode) ∧ ∀ g ∈ GCode, w.heap.size ≤ g := by
  rw [size_PrcProc] at hl
  have hl1 : szL x.Code ≤ 1048576 := by first | omega | (simp only [size_VrdVerdict, size_CrtCert, size_EngEng, size_CrdCoord, size_AbsState] at hl ⊢; omega) | (simp only [size_VrdVerdict, size_CrtCert, size_EngEng, size_CrdCoord, size_AbsState] at hl; omega) | (simp only [size_VrdVerdict, size_CrtCert, size_EngEng, size_CrdCoord, size_AbsState]; omega)
  have HL1 := Lib.hid hl1; clear hl1; clear hl
  go_enter Tryz.func141, Tryz.ntmps141
  go_wp2_with fail
  refine (toInsInsS_c x.Code _ _ _ (hCode.chg0 (Chg.f)) HL1.out).mono ?_
  rintro e w1 ⟨uCode, GCode, rfl, hc1, qCode, O1, L1⟩
  obtain ⟨ACode, cCode, rfl, -, -⟩ := qCode.form
  obtain ⟨hcl1, hfz1⟩ := hc1.cells
  have hz1 := hc1.size
  repeat (first | rw [World.size_alloc] at hz1 | rw [World.size_setCell] at hz1 | rw [World.size_drew] at hz1 | rw [World.heap_drewN] at hz1)
  have hza1 : w.heap.size < w1.heap.size := by omega
  have hzb1 : w.heap.size + 1 < w1.heap.size := by omega
  have hzc1 : w.heap.size + 2 < w1.heap.size := by omega
  have B1 : Hid (∀ g ∈ GCode, w.heap.size + 3 ≤ g ∧ g < w1.heap.size) := Lib.hid (fun g hg => ⟨by have := L1 g hg; (repeat (first | rw [World.size_alloc] at this | rw [World.size_setCell] at this | rw [World.size_drew] at this | rw [World.heap_drewN] at this)); omega, O1.lt g hg⟩)
  clear L1
  go_wp2
  refine bodyPost_ret (v := .agg #[.int .i64 x.Lo, .int .i64 x.Hi, .slice ACode x.Code.length cCode]) (by simp [results, Tryz.results141, go_sem, hcl1, hza1, hzb1, hzc1]) rfl ⟨_, GCode, rfl, by repeat (with_reducible first | exact Chg.refl _ _ | refine Chg.r ?_ _ | refine Chg.alloc ?_ _ | refine Chg.drewN ?_ _ | refine Chg.drew ?_ | refine Chg.trans0 ?_ hc1), ?_⟩
  clear hcl1 hfz1
  have PB : ∀ g ∈ GCode, w.heap.size ≤ g := fun g hg => by have h2 := (B1.out g hg).1; omega
  exact ⟨RL.chg (G := [w.heap.size, w.heap.size + 1, w.heap.size + 2]) qCode (by repeat (with_reducible first | exact Chg.refl _ _ | refine Chg.l ?_ _ | refine Chg.alloc ?_ _ | refine Chg.drewN ?_ _ | refine Chg.drew ?_)) (fun g hg h => by have := (B1.out g (hg)).1; simp at h; omega), (Own.chg (G := [w.heap.size, w.heap.size + 1, w.heap.size + 2]) O1 (by repeat (with_reducible first | exact Chg.refl _ _ | refine Chg.l ?_ _ | refine Chg.alloc ?_ _ | refine Chg.drewN ?_ _ | refine Chg.drew ?_)) (fun g hg h => by have := (B1.out g hg).1; simp at h; omega)), PB⟩

set_option maxRecDepth 100000 in
set_option maxHeartbeats 1000000 in
theorem toPrcProcS_c (xs : List PrcProc) (a : Value) (F : List Nat) (w : World) (ha : RL w xs a F) (hl : szL xs ≤ 1048576) :
    Calls Tryz.prog 89 #[a] w fun e w' => ∃ v G, e = .returned v ∧ Chg [] w w' ∧ RL w' xs v G ∧ Own w' G ∧ ∀ g ∈ G, w.heap.size ≤ g := by
  obtain ⟨A, ca, rfl, hla, hma⟩ := ha.form
  have hn : (xs.length : Int) ≤ 1048576 := by unfold szL at hl; omega
  have HLZ := Lib.hid hl
  clear hl
  obtain ⟨i0, hi, hz0, hz1, hz2⟩ := info_parts (show (Tryz.prog.info? 40).map (fun i => (i.zero, i.size, i.bytes)) = some (some (.agg #[.int .i64 0, .int .i64 0, .slice none 0 0]), 3, 40) by kernel_rfl)
  go_enter Tryz.func89, Tryz.ntmps89
  go_wp2_with (at_make; refine wpList_make_full _ rfl _ _ 23 rfl w.heap.size 40 i0 (.agg #[.int .i64 0, .int .i64 0, .slice none 0 0]) 3 Tryz.underlying23 hi hz0 hz1 .i64 .i64 _ _ xs.length rfl rfl rfl rfl ?_ ?_ ?_ ?_; (rw [hz2]; omega); (unfold maxLen; omega); omega; intro w1 hown hg)
  obtain ⟨G0, hG0, hO0, hb0⟩ := RL.made (α := PrcProc) (by decide) hown rfl
  have hc0 : Chg [] w w1 := (Chg.refl [] w).grown hg (by simp)
  have hG1 : ∀ g ∈ G0, w.heap.size ≤ g := fun g h => by rw [hb0 g h]; exact Nat.le_refl _
  have hsz0 : w.heap.size < w1.heap.size ∨ xs.length = 0 := by
    rcases Nat.eq_zero_or_pos xs.length with h | h
    · exact Or.inr h
    · left
      have h3 := hown.2
      rcases h3 with ⟨h3, _⟩ | ⟨g', cap, cur, hv, _, hb, _⟩
      · simp at h3
      · simp only [Value.slice.injEq, Option.some.injEq, Addr.mk.injEq, and_true, true_and] at hv
        obtain ⟨rfl, _⟩ := hv
        rcases Nat.lt_or_ge w.heap.size w1.heap.size with h4 | h4
        · exact h4
        · rw [Array.getElem?_eq_none h4] at hb; cases hb
  clear hown hg hb0 hi hz0 hz1 hz2
  have HS0 := Lib.hid hsz0
  clear hsz0
  go_loopw [4] (fun i wr => ∃ (k : Nat) (G : List Nat), k ≤ xs.length ∧ i = .int .i64 k ∧ Chg [] w wr ∧ RL wr (fillL xs k) (.slice (some ⟨w.heap.size, 0, none⟩) xs.length xs.length) G ∧ Own wr G ∧ (∀ g ∈ G, w.heap.size ≤ g) ∧ w1.heap.size ≤ wr.heap.size) (fun i _ => xs.length - (intOf i).toNat)
  case atStart => exact ⟨0, G0, Nat.zero_le _, rfl, hc0, by rw [fillL_zero]; exact hG0, hO0, hG1, Nat.le_refl _⟩
  case round =>
    clear hc0 hG0 hO0 hG1
    obtain ⟨k, G, hk, rfl, hc, hr, hO, hG, hsr⟩ := hrel
    by_cases hlt : k < xs.length
    · have hws : w.heap.size < wr.heap.size := by rcases HS0.out with h | h <;> omega
      obtain ⟨b1, o1, p1, c1, f1, e1, r1, m1, -⟩ := (ha.chg0 hc).elem hlt
      obtain ⟨v1_0, F1_0, rfl, hF1, i1_0, i1_1, g1_0⟩ := R_PrcProc.1 r1
      injection e1 with e1 _ e1c
      subst e1 e1c
      have ya0 := m1 0 (by decide)
      have ya1 := m1 1 (by decide)
      have ya2 := m1 2 (by decide)
      obtain ⟨b, off, cap, cs, Fi, e2, r2, m2, hFi, hbF, hbn, E0, shut⟩ := hr.put hO (i := k) (by simpa using hlt)
      rw [fillL_at xs hlt] at r2
      rw [fillL_length] at e2
      have hlen := Rp.len r2
      have hq : ∀ j, j < 3 → ∃ u, wr.cell? ⟨b, off + k * 3 + j, none⟩ = some u := fun j hj => by
        have h1 := m2 j hj
        rw [List.getElem?_eq_getElem (by rw [hlen]; exact hj)] at h1
        exact ⟨_, h1⟩
      obtain ⟨z0, yb0⟩ := hq 0 (by decide)
      obtain ⟨z1, yb1⟩ := hq 1 (by decide)
      obtain ⟨z2, yb2⟩ := hq 2 (by decide)
      injection e2 with e2 _ e2c
      injection e2 with e2
      injection e2 with e2 e2o
      subst e2 e2o
      simp only [sz_PrcProc, Nat.add_zero, List.getElem?_cons_zero, List.getElem?_cons_succ, Nat.zero_add] at shut E0 ya0 yb0 ya1 yb1 ya2 yb2
      have hcl : cs.length = 3 := hlen
      have S := Lib.hid shut
      have HE := Lib.hid E0
      have HC := Lib.hid hc
      have HO := Lib.hid hO
      have HG := Lib.hid hG
      have HLt := Lib.hid hr.lt
      have HCL := Lib.hid hcl
      have HI0 := Lib.hid i1_0
      have HI1 := Lib.hid i1_1
      clear shut E0 hc hO hG hr m1 m2 r1 r2 ha e2c hq hlen hcl hFi i1_0 i1_1
      go_wp2_with fail
      refine (toPrcProc_c xs[k] _ _ _ (by exact RL.same g1_0 rfl) (by have h1 := HLZ.out; have h2 := szI_take_le xs (k + 1); rw [szI_succ xs hlt] at h2; unfold szL at h1; first | omega | (change szL xs[k] ≤ 1048576; change _ + szL xs[k] ≤ _ at h2; omega))).mono ?_
      rintro e w2 ⟨u0, G0, rfl, hc2, q0, O2, L2⟩
      obtain ⟨A0, d0, rfl, -, -⟩ := q0.form
      have z0' := hc2.cell0 yb0
      have yf0 := (HO.out.chg0 hc2).frozen hbF (o := k * 3)
      have z1' := hc2.cell0 yb1
      have yf1 := (HO.out.chg0 hc2).frozen hbF (o := k * 3 + 1)
      have z2' := hc2.cell0 yb2
      have yf2 := (HO.out.chg0 hc2).frozen hbF (o := k * 3 + 2)
      have HC2 := Lib.hid hc2
      have HO2 := Lib.hid O2
      have HL2 := Lib.hid L2
      clear O2 L2
      have hs2 := hc2.size
      clear hc2
      go_wp2
      go_roundw
      case rel =>
        have hW := (((HE.out.call HLt.out hbF hbn HC2.out (by simp)).store0 (by rw [HCL.out]; decide) (.int .i64 xs[k].Lo)).store 1 (by simp only [List.length_set]; rw [HCL.out]; decide) (.int .i64 xs[k].Hi)).store 2 (by simp only [List.length_set]; rw [HCL.out]; decide) (.slice A0 xs[k].Code.length d0)
        have hcs : (((cs.set 0 (.int .i64 xs[k].Lo)).set 1 (.int .i64 xs[k].Hi)).set 2 (.slice A0 xs[k].Code.length d0)) = [.int .i64 xs[k].Lo, .int .i64 xs[k].Hi, .slice A0 xs[k].Code.length d0] := by
          have := HCL.out
          match cs, this with
          | [c0, c1, c2], _ => rfl
        rw [hcs] at hW
        obtain ⟨F', h1, h2, h3⟩ := S.out _ xs[k] _ (G0) (R_PrcProc.2 ⟨_, _, rfl, rfl, HI0.out, HI1.out, (RL.chg (G := [w.heap.size]) q0 (by repeat (with_reducible first | exact Chg.refl _ _ | refine Chg.l ?_ _)) (fun g hg h => by have := HL2.out g (hg); simp at h; omega))⟩) hW ((((HO.out.chg0 HC2.out).setCell _ _).setCell _ _).setCell _ _) (Own.chg (G := [w.heap.size]) HO2.out (by repeat (with_reducible first | exact Chg.refl _ _ | refine Chg.l ?_ _)) (fun g hg h => by have := HL2.out g hg; simp at h; omega)) (fun g hg h => by have := HL2.out g hg; have := HLt.out g h; omega)
        exact ⟨k + 1, F', by omega, by go_num, ((((HC.out.trans0 HC2.out).setCell (Or.inr (Nat.le_refl _)) _).setCell (Or.inr (Nat.le_refl _)) _).setCell (Or.inr (Nat.le_refl _)) _), by rw [fillL_succ xs hlt]; exact h1, h2, fun g hg => (h3 g hg).elim (HG.out g) (fun h => by have := HL2.out g h; omega), (by simp only [World.size_setCell]; omega)⟩
      case measure => simp [intOf]; omega
    · rw [fillL_all xs (by omega)] at hr
      have HC := Lib.hid hc
      have HO := Lib.hid hO
      have HG := Lib.hid hG
      have HR := Lib.hid hr
      clear hc hO hG hr ha
      go_wp2
      go_ret
      exact ⟨_, _, rfl, HC.out, HR.out, HO.out, HG.out⟩

set_option maxRecDepth 100000 in
set_option maxHeartbeats 2000000 in
theorem toPrgProg_c (x : PrgProg) (vProcs : Value) (FProcs : List Nat) (w : World) (hProcs : RL w x.Procs vProcs FProcs) (hl : Sz.size x ≤ 1048576) : Calls Tryz.prog 26 #[.agg #[vProcs]] w fun e w' => ∃ uProcs GProcs, e = .returned (.agg #[uProcs]) ∧ Chg [] w w' ∧ RL w' x.Procs uProcs GProcs ∧ Own w' (GProcs) ∧ ∀ g ∈ GProcs, w.heap.size ≤ g := by
  rw [size_PrgProg] at hl
  have hl1 : szL x.Procs ≤ 1048576 := by first | omega | (simp only [size_VrdVerdict, size_CrtCert, size_EngEng, size_CrdCoord, size_AbsState] at hl ⊢; omega) | (simp only [size_VrdVerdict, size_CrtCert, size_EngEng, size_CrdCoord, size_AbsState] at hl; omega) | (simp only [size_VrdVerdict, size_CrtCert, size_EngEng, size_CrdCoord, size_AbsState]; omega)
  have HL1 := Lib.hid hl1; clear hl1; clear hl
  go_enter Tryz.func26, Tryz.ntmps26
  go_wp2_with fail
  refine (toPrcProcS_c x.Procs _ _ _ (hProcs.chg0 (Chg.f)) HL1.out).mono ?_
  rintro e w1 ⟨uProcs, GProcs, rfl, hc1, qProcs, O1, L1⟩
  obtain ⟨AProcs, cProcs, rfl, -, -⟩ := qProcs.form
  obtain ⟨hcl1, hfz1⟩ := hc1.cells
  have hz1 := hc1.size
  repeat (first | rw [World.size_alloc] at hz1 | rw [World.size_setCell] at hz1 | rw [World.size_drew] at hz1 | rw [World.heap_drewN] at hz1)
  have hza1 : w.heap.size < w1.heap.size := by omega
  have hzb1 : w.heap.size + 1 < w1.heap.size := by omega
  have hzc1 : w.heap.size + 2 < w1.heap.size := by omega
  have B1 : Hid (∀ g ∈ GProcs, w.heap.size + 3 ≤ g ∧ g < w1.heap.size) := Lib.hid (fun g hg => ⟨by have := L1 g hg; (repeat (first | rw [World.size_alloc] at this | rw [World.size_setCell] at this | rw [World.size_drew] at this | rw [World.heap_drewN] at this)); omega, O1.lt g hg⟩)
  clear L1
  go_wp2
  refine bodyPost_ret (v := .agg #[.slice AProcs x.Procs.length cProcs]) (by simp [results, Tryz.results26, go_sem, hcl1, hza1, hzb1, hzc1]) rfl ⟨_, GProcs, rfl, by repeat (with_reducible first | exact Chg.refl _ _ | refine Chg.r ?_ _ | refine Chg.alloc ?_ _ | refine Chg.drewN ?_ _ | refine Chg.drew ?_ | refine Chg.trans0 ?_ hc1), ?_⟩
  clear hcl1 hfz1
  have PB : ∀ g ∈ GProcs, w.heap.size ≤ g := fun g hg => by have h2 := (B1.out g hg).1; omega
  exact ⟨RL.chg (G := [w.heap.size, w.heap.size + 1, w.heap.size + 2]) qProcs (by repeat (with_reducible first | exact Chg.refl _ _ | refine Chg.l ?_ _ | refine Chg.alloc ?_ _ | refine Chg.drewN ?_ _ | refine Chg.drew ?_)) (fun g hg h => by have := (B1.out g (hg)).1; simp at h; omega), (Own.chg (G := [w.heap.size, w.heap.size + 1, w.heap.size + 2]) O1 (by repeat (with_reducible first | exact Chg.refl _ _ | refine Chg.l ?_ _ | refine Chg.alloc ?_ _ | refine Chg.drewN ?_ _ | refine Chg.drew ?_)) (fun g hg h => by have := (B1.out g hg).1; simp at h; omega)), PB⟩

set_option maxRecDepth 100000 in
set_option maxHeartbeats 1000000 in
theorem toIntS_c (xs : List Int) (a : Value) (F : List Nat) (w : World) (ha : RL w xs a F) (hl : szL xs ≤ 1048576) :
    Calls Tryz.prog 34 #[a] w fun e w' => ∃ v G, e = .returned v ∧ Chg [] w w' ∧ RL w' xs v G ∧ Own w' G ∧ ∀ g ∈ G, w.heap.size ≤ g := by
  obtain ⟨A, ca, rfl, hla, hma⟩ := ha.form
  have hn : (xs.length : Int) ≤ 1048576 := by unfold szL at hl; omega
  have HLZ := Lib.hid hl
  clear hl
  obtain ⟨i0, hi, hz0, hz1, hz2⟩ := info_parts (show (Tryz.prog.info? 3).map (fun i => (i.zero, i.size, i.bytes)) = some (some (.int .i64 0), 1, 8) by kernel_rfl)
  go_enter Tryz.func34, Tryz.ntmps34
  go_wp2_with (at_make; refine wpList_make_full _ rfl _ _ 42 rfl w.heap.size 3 i0 (.int .i64 0) 1 Tryz.underlying42 hi hz0 hz1 .i64 .i64 _ _ xs.length rfl rfl rfl rfl ?_ ?_ ?_ ?_; (rw [hz2]; omega); (unfold maxLen; omega); omega; intro w1 hown hg)
  obtain ⟨G0, hG0, hO0, hb0⟩ := RL.made (α := Int) (by decide) hown rfl
  have hc0 : Chg [] w w1 := (Chg.refl [] w).grown hg (by simp)
  have hG1 : ∀ g ∈ G0, w.heap.size ≤ g := fun g h => by rw [hb0 g h]; exact Nat.le_refl _
  have hsz0 : w.heap.size < w1.heap.size ∨ xs.length = 0 := by
    rcases Nat.eq_zero_or_pos xs.length with h | h
    · exact Or.inr h
    · left
      have h3 := hown.2
      rcases h3 with ⟨h3, _⟩ | ⟨g', cap, cur, hv, _, hb, _⟩
      · simp at h3
      · simp only [Value.slice.injEq, Option.some.injEq, Addr.mk.injEq, and_true, true_and] at hv
        obtain ⟨rfl, _⟩ := hv
        rcases Nat.lt_or_ge w.heap.size w1.heap.size with h4 | h4
        · exact h4
        · rw [Array.getElem?_eq_none h4] at hb; cases hb
  clear hown hg hb0 hi hz0 hz1 hz2
  have HS0 := Lib.hid hsz0
  clear hsz0
  go_loopw [4] (fun i wr => ∃ (k : Nat) (G : List Nat), k ≤ xs.length ∧ i = .int .i64 k ∧ Chg [] w wr ∧ RL wr (fillL xs k) (.slice (some ⟨w.heap.size, 0, none⟩) xs.length xs.length) G ∧ Own wr G ∧ (∀ g ∈ G, w.heap.size ≤ g) ∧ w1.heap.size ≤ wr.heap.size) (fun i _ => xs.length - (intOf i).toNat)
  case atStart => exact ⟨0, G0, Nat.zero_le _, rfl, hc0, by rw [fillL_zero]; exact hG0, hO0, hG1, Nat.le_refl _⟩
  case round =>
    clear hc0 hG0 hO0 hG1
    obtain ⟨k, G, hk, rfl, hc, hr, hO, hG, hsr⟩ := hrel
    by_cases hlt : k < xs.length
    · have hws : w.heap.size < wr.heap.size := by rcases HS0.out with h | h <;> omega
      obtain ⟨b1, o1, p1, c1, f1, e1, r1, m1, -⟩ := (ha.chg0 hc).elem hlt
      obtain ⟨rfl, -, i1_0⟩ := R_int.1 r1
      injection e1 with e1 _ e1c
      subst e1 e1c
      have ya0 := m1 0 (by decide)
      obtain ⟨b, off, cap, cs, Fi, e2, r2, m2, hFi, hbF, hbn, E0, shut⟩ := hr.put hO (i := k) (by simpa using hlt)
      rw [fillL_at xs hlt] at r2
      rw [fillL_length] at e2
      have hlen := Rp.len r2
      have hq : ∀ j, j < 1 → ∃ u, wr.cell? ⟨b, off + k * 1 + j, none⟩ = some u := fun j hj => by
        have h1 := m2 j hj
        rw [List.getElem?_eq_getElem (by rw [hlen]; exact hj)] at h1
        exact ⟨_, h1⟩
      obtain ⟨z0, yb0⟩ := hq 0 (by decide)
      injection e2 with e2 _ e2c
      injection e2 with e2
      injection e2 with e2 e2o
      subst e2 e2o
      simp only [sz_int, Nat.mul_one, Nat.add_zero, List.getElem?_cons_zero, Nat.zero_add] at shut E0 ya0 yb0
      have hcl : cs.length = 1 := hlen
      have S := Lib.hid shut
      have HE := Lib.hid E0
      have HC := Lib.hid hc
      have HO := Lib.hid hO
      have HG := Lib.hid hG
      have HLt := Lib.hid hr.lt
      have HCL := Lib.hid hcl
      have HI0 := Lib.hid i1_0
      clear shut E0 hc hO hG hr m1 m2 r1 r2 ha e2c hq hlen hcl hFi i1_0
      have yf0 := HO.out.frozen hbF (o := k)
      go_wp2
      go_roundw
      case rel =>
        have hW := HE.out.store0 (by rw [HCL.out]; decide) (.int .i64 xs[k])
        have hcs : (cs.set 0 (.int .i64 xs[k])) = [.int .i64 xs[k]] := by
          have := HCL.out
          match cs, this with
          | [c0], _ => rfl
        rw [hcs] at hW
        obtain ⟨F', h1, h2, h3⟩ := S.out _ xs[k] _ ([]) (R_int.2 ⟨rfl, rfl, HI0.out⟩) hW (HO.out.setCell _ _) (Own.nil_ _) (by simp)
        exact ⟨k + 1, F', by omega, by go_num, (HC.out.setCell (Or.inr (Nat.le_refl _)) _), by rw [fillL_succ xs hlt]; exact h1, h2, fun g hg => (h3 g hg).elim (HG.out g) (fun h => by simp at h), (by simpa using hsr)⟩
      case measure => simp [intOf]; omega
    · rw [fillL_all xs (by omega)] at hr
      have HC := Lib.hid hc
      have HO := Lib.hid hO
      have HG := Lib.hid hG
      have HR := Lib.hid hr
      clear hc hO hG hr ha
      go_wp2
      go_ret
      exact ⟨_, _, rfl, HC.out, HR.out, HO.out, HG.out⟩

set_option maxRecDepth 100000 in
set_option maxHeartbeats 2000000 in
theorem toRunFrame_c (x : RunFrame) (vVars : Value) (FVars : List Nat) (vCells : Value) (FCells : List Nat) (w : World) (hVars : RL w x.Vars vVars FVars) (hCells : RL w x.Cells vCells FCells) (hl : Sz.size x ≤ 1048576) : Calls Tryz.prog 142 #[.agg #[.int .i64 x.Proc, .int .i64 x.Pc, vVars, vCells]] w fun e w' => ∃ uVars GVars uCells GCells, e = .returned (.agg #[.int .i64 x.Proc, .int .i64 x.Pc, uVars, uCells]) ∧ Chg [] w w' ∧ RL w' x.Vars uVars GVars ∧ RL w' x.Cells uCells GCells ∧ Own w' (GVars ++ (GCells)) ∧ ∀ g ∈ GVars ++ (GCells), w.heap.size ≤ g := by
  rw [size_RunFrame] at hl
  have hl1 : szL x.Vars ≤ 1048576 := by first | omega | (simp only [size_VrdVerdict, size_CrtCert, size_EngEng, size_CrdCoord, size_AbsState] at hl ⊢; omega) | (simp only [size_VrdVerdict, size_CrtCert, size_EngEng, size_CrdCoord, size_AbsState] at hl; omega) | (simp only [size_VrdVerdict, size_CrtCert, size_EngEng, size_CrdCoord, size_AbsState]; omega)
  have hl2 : szL x.Cells ≤ 1048576 := by first | omega | (simp only [size_VrdVerdict, size_CrtCert, size_EngEng, size_CrdCoord, size_AbsState] at hl ⊢; omega) | (simp only [size_VrdVerdict, size_CrtCert, size_EngEng, size_CrdCoord, size_AbsState] at hl; omega) | (simp only [size_VrdVerdict, size_CrtCert, size_EngEng, size_CrdCoord, size_AbsState]; omega)
  have HL1 := Lib.hid hl1; clear hl1; have HL2 := Lib.hid hl2; clear hl2; clear hl
  go_enter Tryz.func142, Tryz.ntmps142
  go_wp2_with fail
  refine (toIntS_c x.Vars _ _ _ (hVars.chg0 (Chg.f)) HL1.out).mono ?_
  rintro e w1 ⟨uVars, GVars, rfl, hc1, qVars, O1, L1⟩
  obtain ⟨AVars, cVars, rfl, -, -⟩ := qVars.form
  obtain ⟨hcl1, hfz1⟩ := hc1.cells
  have hz1 := hc1.size
  repeat (first | rw [World.size_alloc] at hz1 | rw [World.size_setCell] at hz1 | rw [World.size_drew] at hz1 | rw [World.heap_drewN] at hz1)
  have hza1 : w.heap.size < w1.heap.size := by omega
  have hzb1 : w.heap.size + 1 < w1.heap.size := by omega
  have hzc1 : w.heap.size + 2 < w1.heap.size := by omega
  have B1 : Hid (∀ g ∈ GVars, w.heap.size + 3 ≤ g ∧ g < w1.heap.size) := Lib.hid (fun g hg => ⟨by have := L1 g hg; (repeat (first | rw [World.size_alloc] at this | rw [World.size_setCell] at this | rw [World.size_drew] at this | rw [World.heap_drewN] at this)); omega, O1.lt g hg⟩)
  clear L1
  go_wp2_with fail
  refine (toIntS_c x.Cells _ _ _ (hCells.chg0 (by repeat (with_reducible first | exact Chg.refl _ _ | refine Chg.r ?_ _ | refine Chg.alloc ?_ _ | refine Chg.drewN ?_ _ | refine Chg.drew ?_ | refine Chg.trans0 ?_ hc1))) HL2.out).mono ?_
  rintro e w2 ⟨uCells, GCells, rfl, hc2, qCells, O2, L2⟩
  obtain ⟨ACells, cCells, rfl, -, -⟩ := qCells.form
  obtain ⟨hcl2, hfz2⟩ := hc2.cells
  have hz2 := hc2.size
  repeat (first | rw [World.size_alloc] at hz2 | rw [World.size_setCell] at hz2 | rw [World.size_drew] at hz2 | rw [World.heap_drewN] at hz2)
  have hza2 : w.heap.size < w2.heap.size := by omega
  have hzb2 : w.heap.size + 1 < w2.heap.size := by omega
  have hzc2 : w.heap.size + 2 < w2.heap.size := by omega
  have B2 : Hid (∀ g ∈ GCells, w1.heap.size ≤ g ∧ g < w2.heap.size) := Lib.hid (fun g hg => ⟨by have := L2 g hg; (repeat (first | rw [World.size_alloc] at this | rw [World.size_setCell] at this | rw [World.size_drew] at this | rw [World.heap_drewN] at this)); omega, O2.lt g hg⟩)
  clear L2
  go_wp2
  refine bodyPost_ret (v := .agg #[.int .i64 x.Proc, .int .i64 x.Pc, .slice AVars x.Vars.length cVars, .slice ACells x.Cells.length cCells]) (by simp [results, Tryz.results142, go_sem, hcl1, hza1, hzb1, hzc1, hcl2, hza2, hzb2, hzc2]) rfl ⟨_, GVars, _, GCells, rfl, by repeat (with_reducible first | exact Chg.refl _ _ | refine Chg.r ?_ _ | refine Chg.alloc ?_ _ | refine Chg.drewN ?_ _ | refine Chg.drew ?_ | refine Chg.trans0 ?_ hc1 | refine Chg.trans0 ?_ hc2), ?_⟩
  clear hcl1 hfz1 hcl2 hfz2
  have PB : ∀ g ∈ GVars ++ (GCells), w.heap.size ≤ g := fun g hg => by rcases List.mem_append.1 hg with hg | hg; (have h2 := (B1.out g hg).1; omega); (have h2 := (B2.out g hg).1; omega)
  exact ⟨RL.chg (G := [w.heap.size, w.heap.size + 1, w.heap.size + 2]) qVars (by repeat (with_reducible first | exact Chg.refl _ _ | refine Chg.l ?_ _ | refine Chg.alloc ?_ _ | refine Chg.drewN ?_ _ | refine Chg.drew ?_ | refine Chg.trans0 ?_ hc2)) (fun g hg h => by have := (B1.out g (hg)).1; simp at h; omega),
    RL.chg (G := [w.heap.size, w.heap.size + 1, w.heap.size + 2]) qCells (by repeat (with_reducible first | exact Chg.refl _ _ | refine Chg.l ?_ _ | refine Chg.alloc ?_ _ | refine Chg.drewN ?_ _ | refine Chg.drew ?_)) (fun g hg h => by have := (B2.out g (hg)).1; simp at h; omega), (Own.append (Own.chg (G := [w.heap.size, w.heap.size + 1, w.heap.size + 2]) O1 (by repeat (with_reducible first | exact Chg.refl _ _ | refine Chg.l ?_ _ | refine Chg.alloc ?_ _ | refine Chg.drewN ?_ _ | refine Chg.drew ?_ | refine Chg.trans0 ?_ hc2)) (fun g hg h => by have := (B1.out g hg).1; simp at h; omega)) (Own.chg (G := [w.heap.size, w.heap.size + 1, w.heap.size + 2]) O2 (by repeat (with_reducible first | exact Chg.refl _ _ | refine Chg.l ?_ _ | refine Chg.alloc ?_ _ | refine Chg.drewN ?_ _ | refine Chg.drew ?_)) (fun g hg h => by have := (B2.out g hg).1; simp at h; omega)) (fun g hg h => by have h1 := (B1.out g hg).2; have h2 := (B2.out g h).1; omega)), PB⟩

set_option maxRecDepth 100000 in
set_option maxHeartbeats 1000000 in
theorem toRunFrameS_c (xs : List RunFrame) (a : Value) (F : List Nat) (w : World) (ha : RL w xs a F) (hl : szL xs ≤ 1048576) :
    Calls Tryz.prog 90 #[a] w fun e w' => ∃ v G, e = .returned v ∧ Chg [] w w' ∧ RL w' xs v G ∧ Own w' G ∧ ∀ g ∈ G, w.heap.size ≤ g := by
  obtain ⟨A, ca, rfl, hla, hma⟩ := ha.form
  have hn : (xs.length : Int) ≤ 1048576 := by unfold szL at hl; omega
  have HLZ := Lib.hid hl
  clear hl
  obtain ⟨i0, hi, hz0, hz1, hz2⟩ := info_parts (show (Tryz.prog.info? 58).map (fun i => (i.zero, i.size, i.bytes)) = some (some (.agg #[.int .i64 0, .int .i64 0, .slice none 0 0, .slice none 0 0]), 4, 64) by kernel_rfl)
  go_enter Tryz.func90, Tryz.ntmps90
  go_wp2_with (at_make; refine wpList_make_full _ rfl _ _ 43 rfl w.heap.size 58 i0 (.agg #[.int .i64 0, .int .i64 0, .slice none 0 0, .slice none 0 0]) 4 Tryz.underlying43 hi hz0 hz1 .i64 .i64 _ _ xs.length rfl rfl rfl rfl ?_ ?_ ?_ ?_; (rw [hz2]; omega); (unfold maxLen; omega); omega; intro w1 hown hg)
  obtain ⟨G0, hG0, hO0, hb0⟩ := RL.made (α := RunFrame) (by decide) hown rfl
  have hc0 : Chg [] w w1 := (Chg.refl [] w).grown hg (by simp)
  have hG1 : ∀ g ∈ G0, w.heap.size ≤ g := fun g h => by rw [hb0 g h]; exact Nat.le_refl _
  have hsz0 : w.heap.size < w1.heap.size ∨ xs.length = 0 := by
    rcases Nat.eq_zero_or_pos xs.length with h | h
    · exact Or.inr h
    · left
      have h3 := hown.2
      rcases h3 with ⟨h3, _⟩ | ⟨g', cap, cur, hv, _, hb, _⟩
      · simp at h3
      · simp only [Value.slice.injEq, Option.some.injEq, Addr.mk.injEq, and_true, true_and] at hv
        obtain ⟨rfl, _⟩ := hv
        rcases Nat.lt_or_ge w.heap.size w1.heap.size with h4 | h4
        · exact h4
        · rw [Array.getElem?_eq_none h4] at hb; cases hb
  clear hown hg hb0 hi hz0 hz1 hz2
  have HS0 := Lib.hid hsz0
  clear hsz0
  go_loopw [4] (fun i wr => ∃ (k : Nat) (G : List Nat), k ≤ xs.length ∧ i = .int .i64 k ∧ Chg [] w wr ∧ RL wr (fillL xs k) (.slice (some ⟨w.heap.size, 0, none⟩) xs.length xs.length) G ∧ Own wr G ∧ (∀ g ∈ G, w.heap.size ≤ g) ∧ w1.heap.size ≤ wr.heap.size) (fun i _ => xs.length - (intOf i).toNat)
  case atStart => exact ⟨0, G0, Nat.zero_le _, rfl, hc0, by rw [fillL_zero]; exact hG0, hO0, hG1, Nat.le_refl _⟩
  case round =>
    clear hc0 hG0 hO0 hG1
    obtain ⟨k, G, hk, rfl, hc, hr, hO, hG, hsr⟩ := hrel
    by_cases hlt : k < xs.length
    · have hws : w.heap.size < wr.heap.size := by rcases HS0.out with h | h <;> omega
      obtain ⟨b1, o1, p1, c1, f1, e1, r1, m1, -⟩ := (ha.chg0 hc).elem hlt
      obtain ⟨v1_0, F1_0, v1_1, F1_1, rfl, hF1, i1_0, i1_1, g1_0, g1_1⟩ := R_RunFrame.1 r1
      injection e1 with e1 _ e1c
      subst e1 e1c
      have ya0 := m1 0 (by decide)
      have ya1 := m1 1 (by decide)
      have ya2 := m1 2 (by decide)
      have ya3 := m1 3 (by decide)
      obtain ⟨b, off, cap, cs, Fi, e2, r2, m2, hFi, hbF, hbn, E0, shut⟩ := hr.put hO (i := k) (by simpa using hlt)
      rw [fillL_at xs hlt] at r2
      rw [fillL_length] at e2
      have hlen := Rp.len r2
      have hq : ∀ j, j < 4 → ∃ u, wr.cell? ⟨b, off + k * 4 + j, none⟩ = some u := fun j hj => by
        have h1 := m2 j hj
        rw [List.getElem?_eq_getElem (by rw [hlen]; exact hj)] at h1
        exact ⟨_, h1⟩
      obtain ⟨z0, yb0⟩ := hq 0 (by decide)
      obtain ⟨z1, yb1⟩ := hq 1 (by decide)
      obtain ⟨z2, yb2⟩ := hq 2 (by decide)
      obtain ⟨z3, yb3⟩ := hq 3 (by decide)
      injection e2 with e2 _ e2c
      injection e2 with e2
      injection e2 with e2 e2o
      subst e2 e2o
      simp only [sz_RunFrame, Nat.add_zero, List.getElem?_cons_zero, List.getElem?_cons_succ, Nat.zero_add] at shut E0 ya0 yb0 ya1 yb1 ya2 yb2 ya3 yb3
      have hcl : cs.length = 4 := hlen
      have S := Lib.hid shut
      have HE := Lib.hid E0
      have HC := Lib.hid hc
      have HO := Lib.hid hO
      have HG := Lib.hid hG
      have HLt := Lib.hid hr.lt
      have HCL := Lib.hid hcl
      have HI0 := Lib.hid i1_0
      have HI1 := Lib.hid i1_1
      clear shut E0 hc hO hG hr m1 m2 r1 r2 ha e2c hq hlen hcl hFi i1_0 i1_1
      go_wp2_with fail
      refine (toRunFrame_c xs[k] _ _ _ _ _ (by exact RL.same g1_0 rfl) (by exact RL.same g1_1 rfl) (by have h1 := HLZ.out; have h2 := szI_take_le xs (k + 1); rw [szI_succ xs hlt] at h2; unfold szL at h1; first | omega | (change szL xs[k] ≤ 1048576; change _ + szL xs[k] ≤ _ at h2; omega))).mono ?_
      rintro e w2 ⟨u0, G0, u1, G1, rfl, hc2, q0, q1, O2, L2⟩
      obtain ⟨A0, d0, rfl, -, -⟩ := q0.form
      obtain ⟨A1, d1, rfl, -, -⟩ := q1.form
      have z0' := hc2.cell0 yb0
      have yf0 := (HO.out.chg0 hc2).frozen hbF (o := k * 4)
      have z1' := hc2.cell0 yb1
      have yf1 := (HO.out.chg0 hc2).frozen hbF (o := k * 4 + 1)
      have z2' := hc2.cell0 yb2
      have yf2 := (HO.out.chg0 hc2).frozen hbF (o := k * 4 + 2)
      have z3' := hc2.cell0 yb3
      have yf3 := (HO.out.chg0 hc2).frozen hbF (o := k * 4 + 3)
      have HC2 := Lib.hid hc2
      have HO2 := Lib.hid O2
      have HL2 := Lib.hid L2
      clear O2 L2
      have hs2 := hc2.size
      clear hc2
      go_wp2
      go_roundw
      case rel =>
        have hW := ((((HE.out.call HLt.out hbF hbn HC2.out (by simp)).store0 (by rw [HCL.out]; decide) (.int .i64 xs[k].Proc)).store 1 (by simp only [List.length_set]; rw [HCL.out]; decide) (.int .i64 xs[k].Pc)).store 2 (by simp only [List.length_set]; rw [HCL.out]; decide) (.slice A0 xs[k].Vars.length d0)).store 3 (by simp only [List.length_set]; rw [HCL.out]; decide) (.slice A1 xs[k].Cells.length d1)
        have hcs : ((((cs.set 0 (.int .i64 xs[k].Proc)).set 1 (.int .i64 xs[k].Pc)).set 2 (.slice A0 xs[k].Vars.length d0)).set 3 (.slice A1 xs[k].Cells.length d1)) = [.int .i64 xs[k].Proc, .int .i64 xs[k].Pc, .slice A0 xs[k].Vars.length d0, .slice A1 xs[k].Cells.length d1] := by
          have := HCL.out
          match cs, this with
          | [c0, c1, c2, c3], _ => rfl
        rw [hcs] at hW
        obtain ⟨F', h1, h2, h3⟩ := S.out _ xs[k] _ (G0 ++ (G1)) (R_RunFrame.2 ⟨_, _, _, _, rfl, rfl, HI0.out, HI1.out, (RL.chg (G := [w.heap.size]) q0 (by repeat (with_reducible first | exact Chg.refl _ _ | refine Chg.l ?_ _)) (fun g hg h => by have := HL2.out g (List.mem_append_left _ hg); simp at h; omega)), (RL.chg (G := [w.heap.size]) q1 (by repeat (with_reducible first | exact Chg.refl _ _ | refine Chg.l ?_ _)) (fun g hg h => by have := HL2.out g (List.mem_append_right _ (hg)); simp at h; omega))⟩) hW (((((HO.out.chg0 HC2.out).setCell _ _).setCell _ _).setCell _ _).setCell _ _) (Own.chg (G := [w.heap.size]) HO2.out (by repeat (with_reducible first | exact Chg.refl _ _ | refine Chg.l ?_ _)) (fun g hg h => by have := HL2.out g hg; simp at h; omega)) (fun g hg h => by have := HL2.out g hg; have := HLt.out g h; omega)
        exact ⟨k + 1, F', by omega, by go_num, (((((HC.out.trans0 HC2.out).setCell (Or.inr (Nat.le_refl _)) _).setCell (Or.inr (Nat.le_refl _)) _).setCell (Or.inr (Nat.le_refl _)) _).setCell (Or.inr (Nat.le_refl _)) _), by rw [fillL_succ xs hlt]; exact h1, h2, fun g hg => (h3 g hg).elim (HG.out g) (fun h => by have := HL2.out g h; omega), (by simp only [World.size_setCell]; omega)⟩
      case measure => simp [intOf]; omega
    · rw [fillL_all xs (by omega)] at hr
      have HC := Lib.hid hc
      have HO := Lib.hid hO
      have HG := Lib.hid hG
      have HR := Lib.hid hr
      clear hc hO hG hr ha
      go_wp2
      go_ret
      exact ⟨_, _, rfl, HC.out, HR.out, HO.out, HG.out⟩

set_option maxRecDepth 100000 in
set_option maxHeartbeats 2000000 in
theorem toRunRun_c (x : RunRun) (vFrames : Value) (FFrames : List Nat) (w : World) (hFrames : RL w x.Frames vFrames FFrames) (hl : Sz.size x ≤ 1048576) : Calls Tryz.prog 27 #[.agg #[.int .i64 x.State, vFrames, .int .i64 x.Out, .int .i64 x.Proc, .int .i64 x.Pc]] w fun e w' => ∃ uFrames GFrames, e = .returned (.agg #[.int .i64 x.State, uFrames, .int .i64 x.Out, .int .i64 x.Proc, .int .i64 x.Pc]) ∧ Chg [] w w' ∧ RL w' x.Frames uFrames GFrames ∧ Own w' (GFrames) ∧ ∀ g ∈ GFrames, w.heap.size ≤ g := by
  rw [size_RunRun] at hl
  have hl1 : szL x.Frames ≤ 1048576 := by first | omega | (simp only [size_VrdVerdict, size_CrtCert, size_EngEng, size_CrdCoord, size_AbsState] at hl ⊢; omega) | (simp only [size_VrdVerdict, size_CrtCert, size_EngEng, size_CrdCoord, size_AbsState] at hl; omega) | (simp only [size_VrdVerdict, size_CrtCert, size_EngEng, size_CrdCoord, size_AbsState]; omega)
  have HL1 := Lib.hid hl1; clear hl1; clear hl
  go_enter Tryz.func27, Tryz.ntmps27
  go_wp2_with fail
  refine (toRunFrameS_c x.Frames _ _ _ (hFrames.chg0 (Chg.f)) HL1.out).mono ?_
  rintro e w1 ⟨uFrames, GFrames, rfl, hc1, qFrames, O1, L1⟩
  obtain ⟨AFrames, cFrames, rfl, -, -⟩ := qFrames.form
  obtain ⟨hcl1, hfz1⟩ := hc1.cells
  have hz1 := hc1.size
  repeat (first | rw [World.size_alloc] at hz1 | rw [World.size_setCell] at hz1 | rw [World.size_drew] at hz1 | rw [World.heap_drewN] at hz1)
  have hza1 : w.heap.size < w1.heap.size := by omega
  have hzb1 : w.heap.size + 1 < w1.heap.size := by omega
  have hzc1 : w.heap.size + 2 < w1.heap.size := by omega
  have B1 : Hid (∀ g ∈ GFrames, w.heap.size + 3 ≤ g ∧ g < w1.heap.size) := Lib.hid (fun g hg => ⟨by have := L1 g hg; (repeat (first | rw [World.size_alloc] at this | rw [World.size_setCell] at this | rw [World.size_drew] at this | rw [World.heap_drewN] at this)); omega, O1.lt g hg⟩)
  clear L1
  go_wp2
  refine bodyPost_ret (v := .agg #[.int .i64 x.State, .slice AFrames x.Frames.length cFrames, .int .i64 x.Out, .int .i64 x.Proc, .int .i64 x.Pc]) (by simp [results, Tryz.results27, go_sem, hcl1, hza1, hzb1, hzc1]) rfl ⟨_, GFrames, rfl, by repeat (with_reducible first | exact Chg.refl _ _ | refine Chg.r ?_ _ | refine Chg.alloc ?_ _ | refine Chg.drewN ?_ _ | refine Chg.drew ?_ | refine Chg.trans0 ?_ hc1), ?_⟩
  clear hcl1 hfz1
  have PB : ∀ g ∈ GFrames, w.heap.size ≤ g := fun g hg => by have h2 := (B1.out g hg).1; omega
  exact ⟨RL.chg (G := [w.heap.size, w.heap.size + 1, w.heap.size + 2]) qFrames (by repeat (with_reducible first | exact Chg.refl _ _ | refine Chg.l ?_ _ | refine Chg.alloc ?_ _ | refine Chg.drewN ?_ _ | refine Chg.drew ?_)) (fun g hg h => by have := (B1.out g (hg)).1; simp at h; omega), (Own.chg (G := [w.heap.size, w.heap.size + 1, w.heap.size + 2]) O1 (by repeat (with_reducible first | exact Chg.refl _ _ | refine Chg.l ?_ _ | refine Chg.alloc ?_ _ | refine Chg.drewN ?_ _ | refine Chg.drew ?_)) (fun g hg h => by have := (B1.out g hg).1; simp at h; omega)), PB⟩

end Go.Proofs.YtjakhnhnjhafgaaGreat.Wk
