/- The reference's RunOk. -/
import Derived.Test.YtjakhnhnjhafgaaGreatZImplRun
import Derived.Deep.RegionHeld3
set_option linter.unusedVariables false
set_option linter.unusedSimpArgs false
namespace Go.Proofs.YtjakhnhnjhafgaaGreat.Wk
open Go Go.RowKit Go.Deep Ow
open Rp (R sz)
theorem cell8 {w : World} {n : Nat} {u0 u1 u2 u3 u4 u5 u6 u7 : Value} {a : Addr} (ha : a.block ≠ n) :
    ((((((((w.setCell ⟨n, 0, none⟩ u0).setCell ⟨n, 1, none⟩ u1).setCell ⟨n, 2, none⟩ u2).setCell ⟨n, 3, none⟩ u3).setCell ⟨n, 4, none⟩ u4).setCell ⟨n, 5, none⟩ u5).setCell ⟨n, 6, none⟩ u6).setCell ⟨n, 7, none⟩ u7).cell? a = w.cell? a := by
  have h : ∀ (w : World) (j : Nat) (u : Value), (w.setCell ⟨n, j, none⟩ u).cell? a = w.cell? a := fun w j u => World.cell?_setCell_other _ _ _ _ (by intro e; apply ha; rw [← e])
  simp only [h]

set_option maxRecDepth 100000 in
set_option maxHeartbeats 8000000 in
theorem refRunGoes_c (p : PrgProg) (r : RunRun) (vP vF : Value) (FP FF : List Nat) (w : World) (hP : RL w p.Procs vP FP) (h : RL w r.Frames vF FF)
    (h1 : prgOk p = true) (hd : (decide (1 ≤ r.State) && decide (r.State ≤ 4)) = true) (hout : numOk r.Out = true) (h5 : ¬ 5 < r.Frames.length) (hso : r.State = 2 ∨ r.Out = 0) (hs : r.State = 1) :
    Calls Tryz.prog 18 #[.agg #[vP], .agg #[.int .i64 r.State, vF, .int .i64 r.Out, .int .i64 r.Proc, .int .i64 r.Pc]] w fun e w' => e = .returned (.bool (runOk p r)) ∧ Chg [] w w' := by
  obtain ⟨AP, cP, rfl, -, -⟩ := hP.form
  obtain ⟨A, ca, rfl, hl, hm⟩ := h.form
  have hn : r.Frames.length ≤ maxLen := by omega
  unfold maxLen at hn
  have hprg := fun (wx : World) (hx : Chg [] w wx) => refPrgOk_c p _ _ wx (hP.chg0 hx)
  rw [h1] at hprg
  have hzz : (r.State == 2 || r.Out == 0) = true := by simpa using hso
  have hs3 : ¬ r.State = 3 := by omega
  have m3 : (r.State == 3) = false := by simpa using hs3
  have m1 : (r.State != 2) = true := by rw [hs]; rfl
  have m2 : (r.Out != 0) = false := by simp; omega
  have m4 : (r.State != 1) = false := by rw [hs]; rfl
  have hz0 : r.Out = 0 := by omega
  have hrunF : runOk p r = (framesB p r.Frames && (r.Proc == 0) && (r.Pc == 0)) := by
    unfold runOk framesB
    rw [h1, hout, hzz, if_neg hs3, if_pos hs, ← nestOk_eq, Bool.true_and, hd]
    simp only [Bool.true_and]
    generalize (r.Proc == 0) = b
    generalize (r.Pc == 0) = c
    generalize (decide (1 ≤ r.Frames.length) && decide (r.Frames.length ≤ 5) && nestOk p r.Frames) = a
    cases a <;> cases b <;> cases c <;> rfl
  have hbadF : framesB p r.Frames = false → runOk p r = false := by intro hh; rw [hrunF, hh]; rfl
  have hyes := Lib.hid (show nestTo p r.Frames r.Frames.length = true → runOk p r = (decide (1 ≤ r.Frames.length) && (r.Proc == 0) && (r.Pc == 0)) by
    intro hh
    rw [hrunF]
    unfold framesB
    rw [hh, decide_eq_true (show r.Frames.length ≤ 5 by omega)]
    simp)
  have hb5 : (r.Frames.length : Int) ≤ 5 := by omega
  have hbad' := Lib.hid hbadF
  clear hbadF hrunF h1 hzz hs3 hs hz0 hso
  go_enter Tryz.func18, Tryz.ntmps18
  go_wp2_with (first | (go_at_call 70; refine (hprg _ (Chg.c)).mono ?_; rintro e w1 ⟨rfl, hc1⟩; have p0w1 : w1.cell? ⟨w.heap.size, 0, none⟩ = some (.slice AP p.Procs.length cP) := hc1.cell0 (by simp); have r0w1 : w1.cell? ⟨w.heap.size + 1, 0, none⟩ = some (.int .i64 r.State) := hc1.cell0 (by simp); have r1w1 : w1.cell? ⟨w.heap.size + 1, 1, none⟩ = some (.slice A r.Frames.length ca) := hc1.cell0 (by simp); have r2w1 : w1.cell? ⟨w.heap.size + 1, 2, none⟩ = some (.int .i64 r.Out) := hc1.cell0 (by simp); have r3w1 : w1.cell? ⟨w.heap.size + 1, 3, none⟩ = some (.int .i64 r.Proc) := hc1.cell0 (by simp); have r4w1 : w1.cell? ⟨w.heap.size + 1, 4, none⟩ = some (.int .i64 r.Pc) := hc1.cell0 (by simp); have hA : Chg [] w w1 := Chg.trans0 (show Chg [] w _ from Chg.c) hc1; have hzA := hc1.size; rw [World.size_alloc, World.size_alloc] at hzA; have hzA2 : w.heap.size + 1 < w1.heap.size := (by omega); clear hc1 hzA) | (go_at_call 71; refine (specL1In_c _ _ _ _).mono ?_; rintro e w7 ⟨rfl, rfl⟩; rw [hd]) | (go_at_call 72; refine (specNumOk_c _ _).mono ?_; rintro e w8 ⟨rfl, rfl⟩; rw [hout]))
  clear hprg hd hout h5
  go_loopw [7] (fun i wr => ∃ k : Nat, k ≤ r.Frames.length ∧ i = .int .i64 k ∧ Chg [] w wr ∧ (wr.cell? ⟨w.heap.size, 0, none⟩ = some (.slice AP p.Procs.length cP) ∧ wr.cell? ⟨w.heap.size + 1, 0, none⟩ = some (.int .i64 r.State) ∧ wr.cell? ⟨w.heap.size + 1, 1, none⟩ = some (.slice A r.Frames.length ca) ∧ wr.cell? ⟨w.heap.size + 1, 2, none⟩ = some (.int .i64 r.Out) ∧ wr.cell? ⟨w.heap.size + 1, 3, none⟩ = some (.int .i64 r.Proc) ∧ wr.cell? ⟨w.heap.size + 1, 4, none⟩ = some (.int .i64 r.Pc)) ∧ w.heap.size + 1 < wr.heap.size ∧ nestTo p r.Frames k = true) (fun i _ => r.Frames.length - (intOf i).toNat)
  case atStart => exact ⟨0, Nat.zero_le _, rfl, hA, ⟨p0w1, r0w1, r1w1, r2w1, r3w1, r4w1⟩, hzA2, rfl⟩
  case round =>
    obtain ⟨k, hk, rfl, hc, ⟨p0r, r0r, r1r, r2r, r3r, r4r⟩, hsz, hall⟩ := hrel
    by_cases hlt : k < r.Frames.length
    · obtain ⟨b1, o1, p1, c1, f1, e1, r1, m1, -⟩ := (h.chg0 hc).elem hlt
      obtain ⟨vV, FV, vC, FC, rfl, hF1, -, -, gV, gC⟩ := R_RunFrame.1 r1
      injection e1 with e1 _ e1c
      subst e1 e1c
      have ya0 := m1 0 (by decide)
      have ya1 := m1 1 (by decide)
      have ya2 := m1 2 (by decide)
      have ya3 := m1 3 (by decide)
      simp only [sz_RunFrame, Nat.add_zero, List.getElem?_cons_zero, List.getElem?_cons_succ] at ya0 ya1 ya2 ya3
      obtain ⟨AV, cV, rfl, -, -⟩ := gV.form
      obtain ⟨AC, cC, rfl, -, -⟩ := gC.form
      have hall' := Lib.hid hall
      have hbadF := hbad'.out
      have hat2 := fun (wx : World) (hx : Chg [] wr wx) => refPrgAt_c p r.Frames[k].Proc r.Frames[k].Pc _ _ wx (hP.chg0 (hc.trans0 hx))
      have hfr := fun (wx : World) (hx : Chg [] wr wx) => refFrame_c p r.Frames[k] _ _ _ _ _ _ wx (hP.chg0 (hc.trans0 hx)) (gV.chg0 hx) (gC.chg0 hx)
      clear hP hall
      by_cases hfo : frameOk p r.Frames[k] = true
      case neg =>
        rw [Bool.not_eq_true] at hfo
        have hno := Lib.hid (hbadF (framesB_no (p := p) hlt (place_frame hlt hfo)))
        rw [hfo] at hfr
        clear hfo h hat2 gV gC m1 r1
        go_wp2_with fail
        go_region_held3 (fun w' => w'.cell? ⟨w.heap.size, 0, none⟩ = some (.slice AP p.Procs.length cP) ∧ w'.cell? ⟨w.heap.size + 1, 0, none⟩ = some (.int .i64 r.State) ∧ w'.cell? ⟨w.heap.size + 1, 1, none⟩ = some (.slice (some ⟨b1, o1, none⟩) r.Frames.length ca) ∧ w'.cell? ⟨w.heap.size + 1, 2, none⟩ = some (.int .i64 r.Out) ∧ w'.cell? ⟨w.heap.size + 1, 3, none⟩ = some (.int .i64 r.Proc) ∧ w'.cell? ⟨w.heap.size + 1, 4, none⟩ = some (.int .i64 r.Pc) ∧ w'.cell? ⟨b1, o1 + k * 4, none⟩ = some (.int .i64 r.Frames[k].Proc) ∧ w'.cell? ⟨b1, o1 + k * 4 + 1, none⟩ = some (.int .i64 r.Frames[k].Pc) ∧ w'.cell? ⟨b1, o1 + k * 4 + 2, none⟩ = some (.slice AV r.Frames[k].Vars.length cV) ∧ w'.cell? ⟨b1, o1 + k * 4 + 3, none⟩ = some (.slice AC r.Frames[k].Cells.length cC) ∧ w.heap.size + 1 < w'.heap.size ∧ Chg [] wr w') (((try dsimp only); (repeat' apply And.intro) <;> (first | with_reducible assumption | ((simp only [World.size_alloc, World.size_setCell, World.size_drew]); omega) | (with_reducible refine (cell8 ?_).trans ?_ <;> (first | with_reducible assumption | exact n4a | exact n4b | exact n4c | exact n5a | exact n5b | exact n5c | (go_keep; done))) | (go_keep; done) | (repeat (with_reducible first | refine Chg.r ?_ _ | refine Chg.alloc ?_ _ | refine Chg.drewN ?_ _ | refine Chg.drew ?_ | exact Chg.refl _ _ | assumption)))))
          (first | (go_at_call 74; refine (hfr _ (Chg.c)).mono ?_; rintro e w4 ⟨rfl, hc4⟩; have h41 := Chg.trans0 (show Chg [] wr _ from Chg.c) hc4; have p0s := h41.cell0 p0r; have r0s := h41.cell0 r0r; have r1s := h41.cell0 r1r; have r2s := h41.cell0 r2r; have r3s := h41.cell0 r3r; have r4s := h41.cell0 r4r; have y0s := h41.cell0 ya0; have y1s := h41.cell0 ya1; have y2s := h41.cell0 ya2; have y3s := h41.cell0 ya3; have hwl : w.heap.size + 1 < w4.heap.size := Nat.lt_of_lt_of_le hsz h41.size))
        all_goals
          clear hc4
          go_wp2
          go_ret
          exact ⟨by first | rfl | (rw [hno.out]; rfl), Chg.k⟩
      rw [hfo] at hfr
      obtain ⟨i, hx⟩ : ∃ i, prgAt p r.Frames[k].Proc r.Frames[k].Pc = some i := by
        rcases hx : prgAt p r.Frames[k].Proc r.Frames[k].Pc with _ | i
        · exfalso
          unfold frameOk at hfo
          rw [hx] at hfo
          cases hfo
        · exact ⟨i, rfl⟩
      rw [hx] at hat2
      simp only [atV, Option.getD_some, Option.isSome_some] at hat2
      by_cases hl : k + 1 < r.Frames.length
      case neg =>
        clear hbadF
        have hkI : decide ((k : Int) < (r.Frames.length : Int) - 1) = false := decide_eq_false (by omega)
        have hkJ : (r.Frames.length : Int) - 1 ≤ (k : Int) := by omega
        have hno := Lib.hid (place_last hlt hl hfo)
        clear hl
        clear hx hfo
        clear h gV gC m1 r1
        go_wp2_with fail
        go_region_held3 (fun w' => w'.cell? ⟨w.heap.size, 0, none⟩ = some (.slice AP p.Procs.length cP) ∧ w'.cell? ⟨w.heap.size + 1, 0, none⟩ = some (.int .i64 r.State) ∧ w'.cell? ⟨w.heap.size + 1, 1, none⟩ = some (.slice (some ⟨b1, o1, none⟩) r.Frames.length ca) ∧ w'.cell? ⟨w.heap.size + 1, 2, none⟩ = some (.int .i64 r.Out) ∧ w'.cell? ⟨w.heap.size + 1, 3, none⟩ = some (.int .i64 r.Proc) ∧ w'.cell? ⟨w.heap.size + 1, 4, none⟩ = some (.int .i64 r.Pc) ∧ w'.cell? ⟨b1, o1 + k * 4, none⟩ = some (.int .i64 r.Frames[k].Proc) ∧ w'.cell? ⟨b1, o1 + k * 4 + 1, none⟩ = some (.int .i64 r.Frames[k].Pc) ∧ w'.cell? ⟨b1, o1 + k * 4 + 2, none⟩ = some (.slice AV r.Frames[k].Vars.length cV) ∧ w'.cell? ⟨b1, o1 + k * 4 + 3, none⟩ = some (.slice AC r.Frames[k].Cells.length cC) ∧ w.heap.size + 1 < w'.heap.size ∧ Chg [] wr w') (((try dsimp only); (repeat' apply And.intro) <;> (first | with_reducible assumption | ((simp only [World.size_alloc, World.size_setCell, World.size_drew]); omega) | (with_reducible refine (cell8 ?_).trans ?_ <;> (first | with_reducible assumption | exact n4a | exact n4b | exact n4c | exact n5a | exact n5b | exact n5c | (go_keep; done))) | (go_keep; done) | (repeat (with_reducible first | refine Chg.r ?_ _ | refine Chg.alloc ?_ _ | refine Chg.drewN ?_ _ | refine Chg.drew ?_ | exact Chg.refl _ _ | assumption)))))
          (first | (go_at_call 74; refine (hfr _ (Chg.c)).mono ?_; rintro e w4 ⟨rfl, hc4⟩; have h41 := Chg.trans0 (show Chg [] wr _ from Chg.c) hc4; have p0s := h41.cell0 p0r; have r0s := h41.cell0 r0r; have r1s := h41.cell0 r1r; have r2s := h41.cell0 r2r; have r3s := h41.cell0 r3r; have r4s := h41.cell0 r4r; have y0s := h41.cell0 ya0; have y1s := h41.cell0 ya1; have y2s := h41.cell0 ya2; have y3s := h41.cell0 ya3; have hwl : w.heap.size + 1 < w4.heap.size := Nat.lt_of_lt_of_le hsz h41.size))
        all_goals
          have hbl : b1 < w4.heap.size := World.block_lt_of_cell? _ _ y0s
          have hwl0 : w.heap.size < w4.heap.size := Nat.lt_of_succ_lt hwl
          have n4a : ¬ w.heap.size = w4.heap.size := Nat.ne_of_lt hwl0
          have n4b : ¬ w.heap.size + 1 = w4.heap.size := Nat.ne_of_lt hwl
          have n4c : ¬ b1 = w4.heap.size := Nat.ne_of_lt hbl
          clear hc4
          go_wp2_with fail
          go_region_held3 (fun w' => w'.cell? ⟨w.heap.size, 0, none⟩ = some (.slice AP p.Procs.length cP) ∧ w'.cell? ⟨w.heap.size + 1, 0, none⟩ = some (.int .i64 r.State) ∧ w'.cell? ⟨w.heap.size + 1, 1, none⟩ = some (.slice (some ⟨b1, o1, none⟩) r.Frames.length ca) ∧ w'.cell? ⟨w.heap.size + 1, 2, none⟩ = some (.int .i64 r.Out) ∧ w'.cell? ⟨w.heap.size + 1, 3, none⟩ = some (.int .i64 r.Proc) ∧ w'.cell? ⟨w.heap.size + 1, 4, none⟩ = some (.int .i64 r.Pc) ∧ w'.cell? ⟨b1, o1 + k * 4, none⟩ = some (.int .i64 r.Frames[k].Proc) ∧ w'.cell? ⟨b1, o1 + k * 4 + 1, none⟩ = some (.int .i64 r.Frames[k].Pc) ∧ w.heap.size + 1 < w'.heap.size ∧ Chg [] w4 w') (((try dsimp only); (repeat' apply And.intro) <;> (first | with_reducible assumption | ((simp only [World.size_alloc, World.size_setCell, World.size_drew]); omega) | (with_reducible refine (cell8 ?_).trans ?_ <;> (first | with_reducible assumption | exact n4a | exact n4b | exact n4c | exact n5a | exact n5b | exact n5c | (go_keep; done))) | (go_keep; done) | (repeat (with_reducible first | refine Chg.r ?_ _ | refine Chg.alloc ?_ _ | refine Chg.drewN ?_ _ | refine Chg.drew ?_ | exact Chg.refl _ _ | assumption)))))
            (first | (go_at_call 22; refine (hat2 _ (Chg.k)).mono ?_; rintro e w5 ⟨rfl, hc5⟩; have h51 := Chg.trans0 (show Chg [] w4 _ from Chg.c) hc5; have p0t := h51.cell0 p0s; have r0t := h51.cell0 r0s; have r1t := h51.cell0 r1s; have r2t := h51.cell0 r2s; have r3t := h51.cell0 r3s; have r4t := h51.cell0 r4s; have y0t := h51.cell0 y0s; have y1t := h51.cell0 y1s; have zc0 := hc5.cells.1 w4.heap.size 0; have zc1 := hc5.cells.1 w4.heap.size 1; have zc2 := hc5.cells.1 w4.heap.size 2; have zc3 := hc5.cells.1 w4.heap.size 3; have zc4 := hc5.cells.1 w4.heap.size 4; have zc5 := hc5.cells.1 w4.heap.size 5; have zc6 := hc5.cells.1 w4.heap.size 6; have zc7 := hc5.cells.1 w4.heap.size 7; have zf0 := hc5.cells.2 w4.heap.size 0; have zf1 := hc5.cells.2 w4.heap.size 1; have zf2 := hc5.cells.2 w4.heap.size 2; have zf3 := hc5.cells.2 w4.heap.size 3; have zf4 := hc5.cells.2 w4.heap.size 4; have zf5 := hc5.cells.2 w4.heap.size 5; have zf6 := hc5.cells.2 w4.heap.size 6; have zf7 := hc5.cells.2 w4.heap.size 7; have hzt : w.heap.size + 1 < w5.heap.size := Nat.lt_of_lt_of_le hwl h51.size; have n5a : ¬ w.heap.size = w5.heap.size := Nat.ne_of_lt (Nat.lt_of_succ_lt hzt); have n5b : ¬ w.heap.size + 1 = w5.heap.size := Nat.ne_of_lt hzt; have n5c : ¬ b1 = w5.heap.size := Nat.ne_of_lt (Nat.lt_of_lt_of_le hbl h51.size)))
          all_goals
            have hb5 : b1 < w5.heap.size := Nat.lt_of_lt_of_le hbl h51.size
            have hq5 : w.heap.size < w5.heap.size := Nat.lt_of_succ_lt hzt
            have hz5 := h51.size
            have hzn : ¬ w.heap.size + 1 = w4.heap.size := Nat.ne_of_lt hwl
            have hzm : ¬ w.heap.size = w4.heap.size := Nat.ne_of_lt hwl0
            clear hc5
            go_wp2_with fail
            first
            | go_quiet (fail)
            | go_region
            all_goals
              go_wp2
              go_roundw
              case rel => exact ⟨k + 1, by omega, by go_num, Chg.k, by simp [go_sem, p0t, r0t, r1t, r2t, r3t, r4t, hzt, hq5, n4a, n4b], by simp; omega, by rw [nestTo_succ, hall'.out, hno.out]; rfl⟩
              case measure => simp [intOf]; omega
      by_cases h10 : (i.Op == 10) = true
      case neg =>
        rw [Bool.not_eq_true] at h10
        obtain ⟨z1, z2, z3, zc, zf, ze, zr, zm, -⟩ := (h.chg0 hc).elem hl
        obtain ⟨zV, zFV, zC, zFC, rfl, -, -, -, -, -⟩ := R_RunFrame.1 zr
        injection ze with ze _ zec
        injection ze with ze
        injection ze with ze1 ze2
        subst ze1 ze2 zec
        have yn := zm 0 (by decide)
        simp only [sz_RunFrame, Nat.add_zero, List.getElem?_cons_zero] at yn
        clear zm zr
        have hkI : (k : Int) < (r.Frames.length : Int) - 1 := by omega
        have hkA : (k : Int) + 1 < r.Frames.length := by omega
        have hkN : ((k : Int) + 1).toNat = k + 1 := by omega
        have hk0 : (0 : Int) ≤ (k : Int) + 1 := by omega
        have hno := Lib.hid (hbadF (framesB_no (p := p) hlt (place_op hlt hl hx h10)))
        have h10b : (i.Op != 10) = true := by simpa [bne] using h10
        clear hx hfo
        clear h10
        clear h gV gC m1 r1
        go_wp2_with fail
        go_region_held3 (fun w' => w'.cell? ⟨w.heap.size, 0, none⟩ = some (.slice AP p.Procs.length cP) ∧ w'.cell? ⟨w.heap.size + 1, 0, none⟩ = some (.int .i64 r.State) ∧ w'.cell? ⟨w.heap.size + 1, 1, none⟩ = some (.slice (some ⟨b1, o1, none⟩) r.Frames.length ca) ∧ w'.cell? ⟨w.heap.size + 1, 2, none⟩ = some (.int .i64 r.Out) ∧ w'.cell? ⟨w.heap.size + 1, 3, none⟩ = some (.int .i64 r.Proc) ∧ w'.cell? ⟨w.heap.size + 1, 4, none⟩ = some (.int .i64 r.Pc) ∧ w'.cell? ⟨b1, o1 + k * 4, none⟩ = some (.int .i64 r.Frames[k].Proc) ∧ w'.cell? ⟨b1, o1 + k * 4 + 1, none⟩ = some (.int .i64 r.Frames[k].Pc) ∧ w'.cell? ⟨b1, o1 + k * 4 + 2, none⟩ = some (.slice AV r.Frames[k].Vars.length cV) ∧ w'.cell? ⟨b1, o1 + k * 4 + 3, none⟩ = some (.slice AC r.Frames[k].Cells.length cC) ∧ w.heap.size + 1 < w'.heap.size ∧ Chg [] wr w') (((try dsimp only); (repeat' apply And.intro) <;> (first | with_reducible assumption | ((simp only [World.size_alloc, World.size_setCell, World.size_drew]); omega) | (with_reducible refine (cell8 ?_).trans ?_ <;> (first | with_reducible assumption | exact n4a | exact n4b | exact n4c | exact n5a | exact n5b | exact n5c | (go_keep; done))) | (go_keep; done) | (repeat (with_reducible first | refine Chg.r ?_ _ | refine Chg.alloc ?_ _ | refine Chg.drewN ?_ _ | refine Chg.drew ?_ | exact Chg.refl _ _ | assumption)))))
          (first | (go_at_call 74; refine (hfr _ (Chg.c)).mono ?_; rintro e w4 ⟨rfl, hc4⟩; have h41 := Chg.trans0 (show Chg [] wr _ from Chg.c) hc4; have p0s := h41.cell0 p0r; have r0s := h41.cell0 r0r; have r1s := h41.cell0 r1r; have r2s := h41.cell0 r2r; have r3s := h41.cell0 r3r; have r4s := h41.cell0 r4r; have y0s := h41.cell0 ya0; have y1s := h41.cell0 ya1; have y2s := h41.cell0 ya2; have y3s := h41.cell0 ya3; have hwl : w.heap.size + 1 < w4.heap.size := Nat.lt_of_lt_of_le hsz h41.size))
        all_goals
          have hbl : b1 < w4.heap.size := World.block_lt_of_cell? _ _ y0s
          have hwl0 : w.heap.size < w4.heap.size := Nat.lt_of_succ_lt hwl
          have n4a : ¬ w.heap.size = w4.heap.size := Nat.ne_of_lt hwl0
          have n4b : ¬ w.heap.size + 1 = w4.heap.size := Nat.ne_of_lt hwl
          have n4c : ¬ b1 = w4.heap.size := Nat.ne_of_lt hbl
          have yns := h41.cell0 yn
          clear hc4
          go_wp2_with fail
          go_region_held3 (fun w' => w'.cell? ⟨w.heap.size, 0, none⟩ = some (.slice AP p.Procs.length cP) ∧ w'.cell? ⟨w.heap.size + 1, 0, none⟩ = some (.int .i64 r.State) ∧ w'.cell? ⟨w.heap.size + 1, 1, none⟩ = some (.slice (some ⟨b1, o1, none⟩) r.Frames.length ca) ∧ w'.cell? ⟨w.heap.size + 1, 2, none⟩ = some (.int .i64 r.Out) ∧ w'.cell? ⟨w.heap.size + 1, 3, none⟩ = some (.int .i64 r.Proc) ∧ w'.cell? ⟨w.heap.size + 1, 4, none⟩ = some (.int .i64 r.Pc) ∧ w'.cell? ⟨b1, o1 + k * 4, none⟩ = some (.int .i64 r.Frames[k].Proc) ∧ w'.cell? ⟨b1, o1 + k * 4 + 1, none⟩ = some (.int .i64 r.Frames[k].Pc) ∧ w.heap.size + 1 < w'.heap.size ∧ Chg [] w4 w') (((try dsimp only); (repeat' apply And.intro) <;> (first | with_reducible assumption | ((simp only [World.size_alloc, World.size_setCell, World.size_drew]); omega) | (with_reducible refine (cell8 ?_).trans ?_ <;> (first | with_reducible assumption | exact n4a | exact n4b | exact n4c | exact n5a | exact n5b | exact n5c | (go_keep; done))) | (go_keep; done) | (repeat (with_reducible first | refine Chg.r ?_ _ | refine Chg.alloc ?_ _ | refine Chg.drewN ?_ _ | refine Chg.drew ?_ | exact Chg.refl _ _ | assumption)))))
            (first | (go_at_call 22; refine (hat2 _ (Chg.k)).mono ?_; rintro e w5 ⟨rfl, hc5⟩; have h51 := Chg.trans0 (show Chg [] w4 _ from Chg.c) hc5; have p0t := h51.cell0 p0s; have r0t := h51.cell0 r0s; have r1t := h51.cell0 r1s; have r2t := h51.cell0 r2s; have r3t := h51.cell0 r3s; have r4t := h51.cell0 r4s; have y0t := h51.cell0 y0s; have y1t := h51.cell0 y1s; have zc0 := hc5.cells.1 w4.heap.size 0; have zc1 := hc5.cells.1 w4.heap.size 1; have zc2 := hc5.cells.1 w4.heap.size 2; have zc3 := hc5.cells.1 w4.heap.size 3; have zc4 := hc5.cells.1 w4.heap.size 4; have zc5 := hc5.cells.1 w4.heap.size 5; have zc6 := hc5.cells.1 w4.heap.size 6; have zc7 := hc5.cells.1 w4.heap.size 7; have zf0 := hc5.cells.2 w4.heap.size 0; have zf1 := hc5.cells.2 w4.heap.size 1; have zf2 := hc5.cells.2 w4.heap.size 2; have zf3 := hc5.cells.2 w4.heap.size 3; have zf4 := hc5.cells.2 w4.heap.size 4; have zf5 := hc5.cells.2 w4.heap.size 5; have zf6 := hc5.cells.2 w4.heap.size 6; have zf7 := hc5.cells.2 w4.heap.size 7; have hzt : w.heap.size + 1 < w5.heap.size := Nat.lt_of_lt_of_le hwl h51.size; have n5a : ¬ w.heap.size = w5.heap.size := Nat.ne_of_lt (Nat.lt_of_succ_lt hzt); have n5b : ¬ w.heap.size + 1 = w5.heap.size := Nat.ne_of_lt hzt; have n5c : ¬ b1 = w5.heap.size := Nat.ne_of_lt (Nat.lt_of_lt_of_le hbl h51.size)))
          all_goals
            have hb5 : b1 < w5.heap.size := Nat.lt_of_lt_of_le hbl h51.size
            have hq5 : w.heap.size < w5.heap.size := Nat.lt_of_succ_lt hzt
            have hz5 := h51.size
            have hzn : ¬ w.heap.size + 1 = w4.heap.size := Nat.ne_of_lt hwl
            have hzm : ¬ w.heap.size = w4.heap.size := Nat.ne_of_lt hwl0
            have ynt := h51.cell0 yns
            clear hc5
            go_wp2_with fail
            first
            | go_quiet (fail)
            | go_region
            all_goals
              go_wp2
              go_ret
              exact ⟨by first | rfl | (rw [hno.out]; rfl), Chg.k⟩
      by_cases hto : (i.To == r.Frames[k + 1].Proc) = true
      case neg =>
        rw [Bool.not_eq_true] at hto
        obtain ⟨z1, z2, z3, zc, zf, ze, zr, zm, -⟩ := (h.chg0 hc).elem hl
        obtain ⟨zV, zFV, zC, zFC, rfl, -, -, -, -, -⟩ := R_RunFrame.1 zr
        injection ze with ze _ zec
        injection ze with ze
        injection ze with ze1 ze2
        subst ze1 ze2 zec
        have yn := zm 0 (by decide)
        simp only [sz_RunFrame, Nat.add_zero, List.getElem?_cons_zero] at yn
        clear zm zr
        have hkI : (k : Int) < (r.Frames.length : Int) - 1 := by omega
        have hkA : (k : Int) + 1 < r.Frames.length := by omega
        have hkN : ((k : Int) + 1).toNat = k + 1 := by omega
        have hk0 : (0 : Int) ≤ (k : Int) + 1 := by omega
        have hno := Lib.hid (hbadF (framesB_no (p := p) hlt (place_to hlt hl hx hto)))
        have h10b : (i.Op != 10) = false := by simpa [bne] using h10
        have htob : (i.To != r.Frames[k + 1].Proc) = true := by simpa [bne] using hto
        clear hx hfo
        clear h10 hto
        clear h gV gC m1 r1
        go_wp2_with fail
        go_region_held3 (fun w' => w'.cell? ⟨w.heap.size, 0, none⟩ = some (.slice AP p.Procs.length cP) ∧ w'.cell? ⟨w.heap.size + 1, 0, none⟩ = some (.int .i64 r.State) ∧ w'.cell? ⟨w.heap.size + 1, 1, none⟩ = some (.slice (some ⟨b1, o1, none⟩) r.Frames.length ca) ∧ w'.cell? ⟨w.heap.size + 1, 2, none⟩ = some (.int .i64 r.Out) ∧ w'.cell? ⟨w.heap.size + 1, 3, none⟩ = some (.int .i64 r.Proc) ∧ w'.cell? ⟨w.heap.size + 1, 4, none⟩ = some (.int .i64 r.Pc) ∧ w'.cell? ⟨b1, o1 + k * 4, none⟩ = some (.int .i64 r.Frames[k].Proc) ∧ w'.cell? ⟨b1, o1 + k * 4 + 1, none⟩ = some (.int .i64 r.Frames[k].Pc) ∧ w'.cell? ⟨b1, o1 + k * 4 + 2, none⟩ = some (.slice AV r.Frames[k].Vars.length cV) ∧ w'.cell? ⟨b1, o1 + k * 4 + 3, none⟩ = some (.slice AC r.Frames[k].Cells.length cC) ∧ w.heap.size + 1 < w'.heap.size ∧ Chg [] wr w') (((try dsimp only); (repeat' apply And.intro) <;> (first | with_reducible assumption | ((simp only [World.size_alloc, World.size_setCell, World.size_drew]); omega) | (with_reducible refine (cell8 ?_).trans ?_ <;> (first | with_reducible assumption | exact n4a | exact n4b | exact n4c | exact n5a | exact n5b | exact n5c | (go_keep; done))) | (go_keep; done) | (repeat (with_reducible first | refine Chg.r ?_ _ | refine Chg.alloc ?_ _ | refine Chg.drewN ?_ _ | refine Chg.drew ?_ | exact Chg.refl _ _ | assumption)))))
          (first | (go_at_call 74; refine (hfr _ (Chg.c)).mono ?_; rintro e w4 ⟨rfl, hc4⟩; have h41 := Chg.trans0 (show Chg [] wr _ from Chg.c) hc4; have p0s := h41.cell0 p0r; have r0s := h41.cell0 r0r; have r1s := h41.cell0 r1r; have r2s := h41.cell0 r2r; have r3s := h41.cell0 r3r; have r4s := h41.cell0 r4r; have y0s := h41.cell0 ya0; have y1s := h41.cell0 ya1; have y2s := h41.cell0 ya2; have y3s := h41.cell0 ya3; have hwl : w.heap.size + 1 < w4.heap.size := Nat.lt_of_lt_of_le hsz h41.size))
        all_goals
          have hbl : b1 < w4.heap.size := World.block_lt_of_cell? _ _ y0s
          have hwl0 : w.heap.size < w4.heap.size := Nat.lt_of_succ_lt hwl
          have n4a : ¬ w.heap.size = w4.heap.size := Nat.ne_of_lt hwl0
          have n4b : ¬ w.heap.size + 1 = w4.heap.size := Nat.ne_of_lt hwl
          have n4c : ¬ b1 = w4.heap.size := Nat.ne_of_lt hbl
          have yns := h41.cell0 yn
          clear hc4
          go_wp2_with fail
          go_region_held3 (fun w' => w'.cell? ⟨w.heap.size, 0, none⟩ = some (.slice AP p.Procs.length cP) ∧ w'.cell? ⟨w.heap.size + 1, 0, none⟩ = some (.int .i64 r.State) ∧ w'.cell? ⟨w.heap.size + 1, 1, none⟩ = some (.slice (some ⟨b1, o1, none⟩) r.Frames.length ca) ∧ w'.cell? ⟨w.heap.size + 1, 2, none⟩ = some (.int .i64 r.Out) ∧ w'.cell? ⟨w.heap.size + 1, 3, none⟩ = some (.int .i64 r.Proc) ∧ w'.cell? ⟨w.heap.size + 1, 4, none⟩ = some (.int .i64 r.Pc) ∧ w'.cell? ⟨b1, o1 + k * 4, none⟩ = some (.int .i64 r.Frames[k].Proc) ∧ w'.cell? ⟨b1, o1 + k * 4 + 1, none⟩ = some (.int .i64 r.Frames[k].Pc) ∧ w.heap.size + 1 < w'.heap.size ∧ Chg [] w4 w') (((try dsimp only); (repeat' apply And.intro) <;> (first | with_reducible assumption | ((simp only [World.size_alloc, World.size_setCell, World.size_drew]); omega) | (with_reducible refine (cell8 ?_).trans ?_ <;> (first | with_reducible assumption | exact n4a | exact n4b | exact n4c | exact n5a | exact n5b | exact n5c | (go_keep; done))) | (go_keep; done) | (repeat (with_reducible first | refine Chg.r ?_ _ | refine Chg.alloc ?_ _ | refine Chg.drewN ?_ _ | refine Chg.drew ?_ | exact Chg.refl _ _ | assumption)))))
            (first | (go_at_call 22; refine (hat2 _ (Chg.k)).mono ?_; rintro e w5 ⟨rfl, hc5⟩; have h51 := Chg.trans0 (show Chg [] w4 _ from Chg.c) hc5; have p0t := h51.cell0 p0s; have r0t := h51.cell0 r0s; have r1t := h51.cell0 r1s; have r2t := h51.cell0 r2s; have r3t := h51.cell0 r3s; have r4t := h51.cell0 r4s; have y0t := h51.cell0 y0s; have y1t := h51.cell0 y1s; have zc0 := hc5.cells.1 w4.heap.size 0; have zc1 := hc5.cells.1 w4.heap.size 1; have zc2 := hc5.cells.1 w4.heap.size 2; have zc3 := hc5.cells.1 w4.heap.size 3; have zc4 := hc5.cells.1 w4.heap.size 4; have zc5 := hc5.cells.1 w4.heap.size 5; have zc6 := hc5.cells.1 w4.heap.size 6; have zc7 := hc5.cells.1 w4.heap.size 7; have zf0 := hc5.cells.2 w4.heap.size 0; have zf1 := hc5.cells.2 w4.heap.size 1; have zf2 := hc5.cells.2 w4.heap.size 2; have zf3 := hc5.cells.2 w4.heap.size 3; have zf4 := hc5.cells.2 w4.heap.size 4; have zf5 := hc5.cells.2 w4.heap.size 5; have zf6 := hc5.cells.2 w4.heap.size 6; have zf7 := hc5.cells.2 w4.heap.size 7; have hzt : w.heap.size + 1 < w5.heap.size := Nat.lt_of_lt_of_le hwl h51.size; have n5a : ¬ w.heap.size = w5.heap.size := Nat.ne_of_lt (Nat.lt_of_succ_lt hzt); have n5b : ¬ w.heap.size + 1 = w5.heap.size := Nat.ne_of_lt hzt; have n5c : ¬ b1 = w5.heap.size := Nat.ne_of_lt (Nat.lt_of_lt_of_le hbl h51.size)))
          all_goals
            have hb5 : b1 < w5.heap.size := Nat.lt_of_lt_of_le hbl h51.size
            have hq5 : w.heap.size < w5.heap.size := Nat.lt_of_succ_lt hzt
            have hz5 := h51.size
            have hzn : ¬ w.heap.size + 1 = w4.heap.size := Nat.ne_of_lt hwl
            have hzm : ¬ w.heap.size = w4.heap.size := Nat.ne_of_lt hwl0
            have ynt := h51.cell0 yns
            clear hc5
            go_wp2_with fail
            first
            | go_quiet (fail)
            | go_region
            all_goals
              go_wp2
              go_ret
              exact ⟨by first | rfl | (rw [hno.out]; rfl), Chg.k⟩
      clear hbadF
      obtain ⟨z1, z2, z3, zc, zf, ze, zr, zm, -⟩ := (h.chg0 hc).elem hl
      obtain ⟨zV, zFV, zC, zFC, rfl, -, -, -, -, -⟩ := R_RunFrame.1 zr
      injection ze with ze _ zec
      injection ze with ze
      injection ze with ze1 ze2
      subst ze1 ze2 zec
      have yn := zm 0 (by decide)
      simp only [sz_RunFrame, Nat.add_zero, List.getElem?_cons_zero] at yn
      clear zm zr
      have hkI : (k : Int) < (r.Frames.length : Int) - 1 := by omega
      have hkA : (k : Int) + 1 < r.Frames.length := by omega
      have hkN : ((k : Int) + 1).toNat = k + 1 := by omega
      have hk0 : (0 : Int) ≤ (k : Int) + 1 := by omega
      have hno := Lib.hid (place_in hlt hl hx hfo h10 hto)
      have h10b : (i.Op != 10) = false := by simpa [bne] using h10
      have htob : (i.To != r.Frames[k + 1].Proc) = false := by simpa [bne] using hto
      clear hx hfo
      clear h10 hto
      clear h gV gC m1 r1
      go_wp2_with fail
      go_region_held3 (fun w' => w'.cell? ⟨w.heap.size, 0, none⟩ = some (.slice AP p.Procs.length cP) ∧ w'.cell? ⟨w.heap.size + 1, 0, none⟩ = some (.int .i64 r.State) ∧ w'.cell? ⟨w.heap.size + 1, 1, none⟩ = some (.slice (some ⟨b1, o1, none⟩) r.Frames.length ca) ∧ w'.cell? ⟨w.heap.size + 1, 2, none⟩ = some (.int .i64 r.Out) ∧ w'.cell? ⟨w.heap.size + 1, 3, none⟩ = some (.int .i64 r.Proc) ∧ w'.cell? ⟨w.heap.size + 1, 4, none⟩ = some (.int .i64 r.Pc) ∧ w'.cell? ⟨b1, o1 + k * 4, none⟩ = some (.int .i64 r.Frames[k].Proc) ∧ w'.cell? ⟨b1, o1 + k * 4 + 1, none⟩ = some (.int .i64 r.Frames[k].Pc) ∧ w'.cell? ⟨b1, o1 + k * 4 + 2, none⟩ = some (.slice AV r.Frames[k].Vars.length cV) ∧ w'.cell? ⟨b1, o1 + k * 4 + 3, none⟩ = some (.slice AC r.Frames[k].Cells.length cC) ∧ w.heap.size + 1 < w'.heap.size ∧ Chg [] wr w') (((try dsimp only); (repeat' apply And.intro) <;> (first | with_reducible assumption | ((simp only [World.size_alloc, World.size_setCell, World.size_drew]); omega) | (with_reducible refine (cell8 ?_).trans ?_ <;> (first | with_reducible assumption | exact n4a | exact n4b | exact n4c | exact n5a | exact n5b | exact n5c | (go_keep; done))) | (go_keep; done) | (repeat (with_reducible first | refine Chg.r ?_ _ | refine Chg.alloc ?_ _ | refine Chg.drewN ?_ _ | refine Chg.drew ?_ | exact Chg.refl _ _ | assumption)))))
        (first | (go_at_call 74; refine (hfr _ (Chg.c)).mono ?_; rintro e w4 ⟨rfl, hc4⟩; have h41 := Chg.trans0 (show Chg [] wr _ from Chg.c) hc4; have p0s := h41.cell0 p0r; have r0s := h41.cell0 r0r; have r1s := h41.cell0 r1r; have r2s := h41.cell0 r2r; have r3s := h41.cell0 r3r; have r4s := h41.cell0 r4r; have y0s := h41.cell0 ya0; have y1s := h41.cell0 ya1; have y2s := h41.cell0 ya2; have y3s := h41.cell0 ya3; have hwl : w.heap.size + 1 < w4.heap.size := Nat.lt_of_lt_of_le hsz h41.size))
      all_goals
        have hbl : b1 < w4.heap.size := World.block_lt_of_cell? _ _ y0s
        have hwl0 : w.heap.size < w4.heap.size := Nat.lt_of_succ_lt hwl
        have n4a : ¬ w.heap.size = w4.heap.size := Nat.ne_of_lt hwl0
        have n4b : ¬ w.heap.size + 1 = w4.heap.size := Nat.ne_of_lt hwl
        have n4c : ¬ b1 = w4.heap.size := Nat.ne_of_lt hbl
        have yns := h41.cell0 yn
        clear hc4
        go_wp2_with fail
        go_region_held3 (fun w' => w'.cell? ⟨w.heap.size, 0, none⟩ = some (.slice AP p.Procs.length cP) ∧ w'.cell? ⟨w.heap.size + 1, 0, none⟩ = some (.int .i64 r.State) ∧ w'.cell? ⟨w.heap.size + 1, 1, none⟩ = some (.slice (some ⟨b1, o1, none⟩) r.Frames.length ca) ∧ w'.cell? ⟨w.heap.size + 1, 2, none⟩ = some (.int .i64 r.Out) ∧ w'.cell? ⟨w.heap.size + 1, 3, none⟩ = some (.int .i64 r.Proc) ∧ w'.cell? ⟨w.heap.size + 1, 4, none⟩ = some (.int .i64 r.Pc) ∧ w'.cell? ⟨b1, o1 + k * 4, none⟩ = some (.int .i64 r.Frames[k].Proc) ∧ w'.cell? ⟨b1, o1 + k * 4 + 1, none⟩ = some (.int .i64 r.Frames[k].Pc) ∧ w.heap.size + 1 < w'.heap.size ∧ Chg [] w4 w') (((try dsimp only); (repeat' apply And.intro) <;> (first | with_reducible assumption | ((simp only [World.size_alloc, World.size_setCell, World.size_drew]); omega) | (with_reducible refine (cell8 ?_).trans ?_ <;> (first | with_reducible assumption | exact n4a | exact n4b | exact n4c | exact n5a | exact n5b | exact n5c | (go_keep; done))) | (go_keep; done) | (repeat (with_reducible first | refine Chg.r ?_ _ | refine Chg.alloc ?_ _ | refine Chg.drewN ?_ _ | refine Chg.drew ?_ | exact Chg.refl _ _ | assumption)))))
          (first | (go_at_call 22; refine (hat2 _ (Chg.k)).mono ?_; rintro e w5 ⟨rfl, hc5⟩; have h51 := Chg.trans0 (show Chg [] w4 _ from Chg.c) hc5; have p0t := h51.cell0 p0s; have r0t := h51.cell0 r0s; have r1t := h51.cell0 r1s; have r2t := h51.cell0 r2s; have r3t := h51.cell0 r3s; have r4t := h51.cell0 r4s; have y0t := h51.cell0 y0s; have y1t := h51.cell0 y1s; have zc0 := hc5.cells.1 w4.heap.size 0; have zc1 := hc5.cells.1 w4.heap.size 1; have zc2 := hc5.cells.1 w4.heap.size 2; have zc3 := hc5.cells.1 w4.heap.size 3; have zc4 := hc5.cells.1 w4.heap.size 4; have zc5 := hc5.cells.1 w4.heap.size 5; have zc6 := hc5.cells.1 w4.heap.size 6; have zc7 := hc5.cells.1 w4.heap.size 7; have zf0 := hc5.cells.2 w4.heap.size 0; have zf1 := hc5.cells.2 w4.heap.size 1; have zf2 := hc5.cells.2 w4.heap.size 2; have zf3 := hc5.cells.2 w4.heap.size 3; have zf4 := hc5.cells.2 w4.heap.size 4; have zf5 := hc5.cells.2 w4.heap.size 5; have zf6 := hc5.cells.2 w4.heap.size 6; have zf7 := hc5.cells.2 w4.heap.size 7; have hzt : w.heap.size + 1 < w5.heap.size := Nat.lt_of_lt_of_le hwl h51.size; have n5a : ¬ w.heap.size = w5.heap.size := Nat.ne_of_lt (Nat.lt_of_succ_lt hzt); have n5b : ¬ w.heap.size + 1 = w5.heap.size := Nat.ne_of_lt hzt; have n5c : ¬ b1 = w5.heap.size := Nat.ne_of_lt (Nat.lt_of_lt_of_le hbl h51.size)))
        all_goals
          have hb5 : b1 < w5.heap.size := Nat.lt_of_lt_of_le hbl h51.size
          have hq5 : w.heap.size < w5.heap.size := Nat.lt_of_succ_lt hzt
          have hz5 := h51.size
          have hzn : ¬ w.heap.size + 1 = w4.heap.size := Nat.ne_of_lt hwl
          have hzm : ¬ w.heap.size = w4.heap.size := Nat.ne_of_lt hwl0
          have ynt := h51.cell0 yns
          clear hc5
          go_wp2_with fail
          first
          | go_quiet (fail)
          | go_region
          all_goals
            go_wp2
            go_roundw
            case rel => exact ⟨k + 1, by omega, by go_num, Chg.k, by simp [go_sem, p0t, r0t, r1t, r2t, r3t, r4t, hzt, hq5, n4a, n4b], by simp; omega, by rw [nestTo_succ, hall'.out, hno.out]; rfl⟩
            case measure => simp [intOf]; omega
    · obtain rfl : k = r.Frames.length := by omega
      have hno := Lib.hid (hyes.out hall)
      clear h hP hyes hall hbad'
      by_cases t0 : 0 < r.Frames.length
      case neg =>
        have t0' : r.Frames.length = 0 := by omega
        have hno2 := Lib.hid (show (decide (1 ≤ r.Frames.length) && (r.Proc == 0) && (r.Pc == 0)) = false by rw [decide_eq_false (by omega)]; rfl)
        go_wp2
        go_ret
        exact ⟨by rw [hno.out, hno2.out]; rfl, hc⟩
      have t0I : (0 : Int) < r.Frames.length := by omega
      have hno2 := Lib.hid (show (decide (1 ≤ r.Frames.length) && (r.Proc == 0) && (r.Pc == 0)) = ((r.Proc == 0) && (r.Pc == 0)) by rw [decide_eq_true (by omega)]; rfl)
      by_cases t1 : (r.Proc == 0) = true
      case neg =>
        rw [Bool.not_eq_true] at t1
        go_wp2
        go_ret
        exact ⟨by rw [hno.out, hno2.out, t1]; rfl, hc⟩
      by_cases t2 : (r.Pc == 0) = true
      all_goals
        (try rw [Bool.not_eq_true] at t2)
        go_wp2
        go_ret
        exact ⟨by rw [hno.out, hno2.out, t1, t2]; rfl, hc⟩

set_option maxRecDepth 100000 in
set_option maxHeartbeats 8000000 in
theorem refRunOk_c (p : PrgProg) (r : RunRun) (vP vF : Value) (FP FF : List Nat) (w : World) (hP : RL w p.Procs vP FP) (h : RL w r.Frames vF FF) :
    Calls Tryz.prog 18 #[.agg #[vP], .agg #[.int .i64 r.State, vF, .int .i64 r.Out, .int .i64 r.Proc, .int .i64 r.Pc]] w fun e w' => e = .returned (.bool (runOk p r)) ∧ Chg [] w w' := by
  obtain ⟨AP, cP, rfl, -, -⟩ := hP.form
  obtain ⟨A, ca, rfl, hl, hm⟩ := h.form
  have hn : r.Frames.length ≤ maxLen := by omega
  unfold maxLen at hn
  have hprg := fun (wx : World) (hx : Chg [] w wx) => refPrgOk_c p _ _ wx (hP.chg0 hx)
  have hat := fun (wx : World) (hx : Chg [] w wx) => refPrgAt_c p r.Proc r.Pc _ _ wx (hP.chg0 hx)
  by_cases h1 : prgOk p = true
  case neg =>
    rw [Bool.not_eq_true] at h1
    rw [h1] at hprg
    have hno := Lib.hid (show runOk p r = false by simp [runOk, h1])
    clear h1 hat hP h
    go_enter Tryz.func18, Tryz.ntmps18
    go_wp2_with (go_at_call 70; refine (hprg _ (Chg.c)).mono ?_; rintro e w1 ⟨rfl, hc1⟩; have p0w1 : w1.cell? ⟨w.heap.size, 0, none⟩ = some (.slice AP p.Procs.length cP) := hc1.cell0 (by simp); have r0w1 : w1.cell? ⟨w.heap.size + 1, 0, none⟩ = some (.int .i64 r.State) := hc1.cell0 (by simp); have r1w1 : w1.cell? ⟨w.heap.size + 1, 1, none⟩ = some (.slice A r.Frames.length ca) := hc1.cell0 (by simp); have r2w1 : w1.cell? ⟨w.heap.size + 1, 2, none⟩ = some (.int .i64 r.Out) := hc1.cell0 (by simp); have r3w1 : w1.cell? ⟨w.heap.size + 1, 3, none⟩ = some (.int .i64 r.Proc) := hc1.cell0 (by simp); have r4w1 : w1.cell? ⟨w.heap.size + 1, 4, none⟩ = some (.int .i64 r.Pc) := hc1.cell0 (by simp); have hA : Chg [] w w1 := Chg.trans0 (show Chg [] w _ from Chg.c) hc1; have hzA := hc1.size; rw [World.size_alloc, World.size_alloc] at hzA; have hzA2 : w.heap.size + 1 < w1.heap.size := (by omega); clear hc1 hzA)
    go_ret
    exact ⟨by first | rfl | (rw [hno.out]; rfl) | (rw [hno.out]; simp; done), Chg.k⟩
  rw [h1] at hprg
  by_cases hd : (decide (1 ≤ r.State) && decide (r.State ≤ 4)) = true
  case neg =>
    rw [Bool.not_eq_true] at hd
    have hno := Lib.hid (show runOk p r = false by unfold runOk; rw [h1, Bool.true_and, hd]; simp)
    clear h1 hat hP h
    go_enter Tryz.func18, Tryz.ntmps18
    go_wp2_with (first | (go_at_call 70; refine (hprg _ (Chg.c)).mono ?_; rintro e w1 ⟨rfl, hc1⟩; have p0w1 : w1.cell? ⟨w.heap.size, 0, none⟩ = some (.slice AP p.Procs.length cP) := hc1.cell0 (by simp); have r0w1 : w1.cell? ⟨w.heap.size + 1, 0, none⟩ = some (.int .i64 r.State) := hc1.cell0 (by simp); have r1w1 : w1.cell? ⟨w.heap.size + 1, 1, none⟩ = some (.slice A r.Frames.length ca) := hc1.cell0 (by simp); have r2w1 : w1.cell? ⟨w.heap.size + 1, 2, none⟩ = some (.int .i64 r.Out) := hc1.cell0 (by simp); have r3w1 : w1.cell? ⟨w.heap.size + 1, 3, none⟩ = some (.int .i64 r.Proc) := hc1.cell0 (by simp); have r4w1 : w1.cell? ⟨w.heap.size + 1, 4, none⟩ = some (.int .i64 r.Pc) := hc1.cell0 (by simp); have hA : Chg [] w w1 := Chg.trans0 (show Chg [] w _ from Chg.c) hc1; have hzA := hc1.size; rw [World.size_alloc, World.size_alloc] at hzA; have hzA2 : w.heap.size + 1 < w1.heap.size := (by omega); clear hc1 hzA) | (go_at_call 71; refine (specL1In_c _ _ _ _).mono ?_; rintro e w7 ⟨rfl, rfl⟩; rw [hd]))
    go_ret
    exact ⟨by first | rfl | (rw [hno.out]; rfl) | (rw [hno.out]; simp; done), Chg.k⟩
  by_cases hout : numOk r.Out = true
  case neg =>
    rw [Bool.not_eq_true] at hout
    have hno := Lib.hid (show runOk p r = false by simp [runOk, hout])
    clear h1 hat hP h
    go_enter Tryz.func18, Tryz.ntmps18
    go_wp2_with (first | (go_at_call 70; refine (hprg _ (Chg.c)).mono ?_; rintro e w1 ⟨rfl, hc1⟩; have p0w1 : w1.cell? ⟨w.heap.size, 0, none⟩ = some (.slice AP p.Procs.length cP) := hc1.cell0 (by simp); have r0w1 : w1.cell? ⟨w.heap.size + 1, 0, none⟩ = some (.int .i64 r.State) := hc1.cell0 (by simp); have r1w1 : w1.cell? ⟨w.heap.size + 1, 1, none⟩ = some (.slice A r.Frames.length ca) := hc1.cell0 (by simp); have r2w1 : w1.cell? ⟨w.heap.size + 1, 2, none⟩ = some (.int .i64 r.Out) := hc1.cell0 (by simp); have r3w1 : w1.cell? ⟨w.heap.size + 1, 3, none⟩ = some (.int .i64 r.Proc) := hc1.cell0 (by simp); have r4w1 : w1.cell? ⟨w.heap.size + 1, 4, none⟩ = some (.int .i64 r.Pc) := hc1.cell0 (by simp); have hA : Chg [] w w1 := Chg.trans0 (show Chg [] w _ from Chg.c) hc1; have hzA := hc1.size; rw [World.size_alloc, World.size_alloc] at hzA; have hzA2 : w.heap.size + 1 < w1.heap.size := (by omega); clear hc1 hzA) | (go_at_call 71; refine (specL1In_c _ _ _ _).mono ?_; rintro e w7 ⟨rfl, rfl⟩; rw [hd]) | (go_at_call 72; refine (specNumOk_c _ _).mono ?_; rintro e w8 ⟨rfl, rfl⟩; rw [hout]))
    go_ret
    exact ⟨by first | rfl | (rw [hno.out]; rfl) | (rw [hno.out]; simp; done), Chg.k⟩
  by_cases h5 : 5 < r.Frames.length
  case pos =>
    have hno := Lib.hid (show runOk p r = false by
      unfold runOk
      by_cases hs : r.State = 1
      · rw [if_pos hs, decide_eq_false (show ¬ r.Frames.length ≤ 5 by omega)]; simp
      · rw [if_neg hs]
        have : r.Frames.isEmpty = false := by
          cases hh : r.Frames with
          | nil => rw [hh] at h5; simp at h5
          | cons a b => rfl
        rw [this]; simp)
    clear h1 hat hP h
    go_enter Tryz.func18, Tryz.ntmps18
    go_wp2_with (first | (go_at_call 70; refine (hprg _ (Chg.c)).mono ?_; rintro e w1 ⟨rfl, hc1⟩; have p0w1 : w1.cell? ⟨w.heap.size, 0, none⟩ = some (.slice AP p.Procs.length cP) := hc1.cell0 (by simp); have r0w1 : w1.cell? ⟨w.heap.size + 1, 0, none⟩ = some (.int .i64 r.State) := hc1.cell0 (by simp); have r1w1 : w1.cell? ⟨w.heap.size + 1, 1, none⟩ = some (.slice A r.Frames.length ca) := hc1.cell0 (by simp); have r2w1 : w1.cell? ⟨w.heap.size + 1, 2, none⟩ = some (.int .i64 r.Out) := hc1.cell0 (by simp); have r3w1 : w1.cell? ⟨w.heap.size + 1, 3, none⟩ = some (.int .i64 r.Proc) := hc1.cell0 (by simp); have r4w1 : w1.cell? ⟨w.heap.size + 1, 4, none⟩ = some (.int .i64 r.Pc) := hc1.cell0 (by simp); have hA : Chg [] w w1 := Chg.trans0 (show Chg [] w _ from Chg.c) hc1; have hzA := hc1.size; rw [World.size_alloc, World.size_alloc] at hzA; have hzA2 : w.heap.size + 1 < w1.heap.size := (by omega); clear hc1 hzA) | (go_at_call 71; refine (specL1In_c _ _ _ _).mono ?_; rintro e w7 ⟨rfl, rfl⟩; rw [hd]) | (go_at_call 72; refine (specNumOk_c _ _).mono ?_; rintro e w8 ⟨rfl, rfl⟩; rw [hout]))
    go_ret
    exact ⟨by first | rfl | (rw [hno.out]; rfl) | (rw [hno.out]; simp; done), Chg.k⟩
  by_cases hso : r.State = 2 ∨ r.Out = 0
  case neg =>
    have n1 : (r.State != 2) = true := by simp; omega
    have n2 : (r.Out != 0) = true := by simp; omega
    have n3 : (r.State == 2) = false := by simp; omega
    have n4 : (r.Out == 0) = false := by simp; omega
    have hno := Lib.hid (show runOk p r = false by unfold runOk; rw [n3, n4]; simp)
    clear h1 hat hso hP h
    go_enter Tryz.func18, Tryz.ntmps18
    go_wp2_with (first | (go_at_call 70; refine (hprg _ (Chg.c)).mono ?_; rintro e w1 ⟨rfl, hc1⟩; have p0w1 : w1.cell? ⟨w.heap.size, 0, none⟩ = some (.slice AP p.Procs.length cP) := hc1.cell0 (by simp); have r0w1 : w1.cell? ⟨w.heap.size + 1, 0, none⟩ = some (.int .i64 r.State) := hc1.cell0 (by simp); have r1w1 : w1.cell? ⟨w.heap.size + 1, 1, none⟩ = some (.slice A r.Frames.length ca) := hc1.cell0 (by simp); have r2w1 : w1.cell? ⟨w.heap.size + 1, 2, none⟩ = some (.int .i64 r.Out) := hc1.cell0 (by simp); have r3w1 : w1.cell? ⟨w.heap.size + 1, 3, none⟩ = some (.int .i64 r.Proc) := hc1.cell0 (by simp); have r4w1 : w1.cell? ⟨w.heap.size + 1, 4, none⟩ = some (.int .i64 r.Pc) := hc1.cell0 (by simp); have hA : Chg [] w w1 := Chg.trans0 (show Chg [] w _ from Chg.c) hc1; have hzA := hc1.size; rw [World.size_alloc, World.size_alloc] at hzA; have hzA2 : w.heap.size + 1 < w1.heap.size := (by omega); clear hc1 hzA) | (go_at_call 71; refine (specL1In_c _ _ _ _).mono ?_; rintro e w7 ⟨rfl, rfl⟩; rw [hd]) | (go_at_call 72; refine (specNumOk_c _ _).mono ?_; rintro e w8 ⟨rfl, rfl⟩; rw [hout]))
    go_ret
    exact ⟨by first | rfl | (rw [hno.out]; rfl) | (rw [hno.out]; simp; done), Chg.k⟩
  have hzz : (r.State == 2 || r.Out == 0) = true := by simpa using hso
  have hd0 : 1 ≤ r.State ∧ r.State ≤ 4 := by simpa using hd
  by_cases hs3 : r.State = 3
  · have m1 : (r.State != 2) = true := by rw [hs3]; rfl
    have m2 : (r.Out != 0) = false := by simp; omega
    have m3 : (r.State == 3) = true := by rw [hs3]; rfl
    have m4 : (r.State != 1) = true := by rw [hs3]; rfl
    have hrun : ∀ x, prgAt p r.Proc r.Pc = x → runOk p r = (x.elim false (fun i => insRisks i.Op) && r.Frames.isEmpty) := by
      intro x hx
      unfold runOk
      rw [h1, hout, hzz, hx, if_pos hs3, if_neg (show ¬ r.State = 1 by omega), Bool.true_and, hd]
      simp only [Bool.true_and, Bool.and_true]
    clear hso hs3 hP h hd0
    by_cases h0 : ((r.Frames.length : Int) == 0) = true
    case neg =>
      rw [Bool.not_eq_true] at h0
      have hno := Lib.hid (show runOk p r = false by rw [hrun _ rfl, isEmpty_len, h0]; simp)
      rcases hx : prgAt p r.Proc r.Pc with _ | i
      · rw [hx] at hat
        simp only [atV, Option.getD_none, Option.isSome_none] at hat
        clear hx hrun h1 hzz
        go_enter Tryz.func18, Tryz.ntmps18
        go_wp2_with (first | (go_at_call 70; refine (hprg _ (Chg.c)).mono ?_; rintro e w1 ⟨rfl, hc1⟩; have p0w1 : w1.cell? ⟨w.heap.size, 0, none⟩ = some (.slice AP p.Procs.length cP) := hc1.cell0 (by simp); have r0w1 : w1.cell? ⟨w.heap.size + 1, 0, none⟩ = some (.int .i64 r.State) := hc1.cell0 (by simp); have r1w1 : w1.cell? ⟨w.heap.size + 1, 1, none⟩ = some (.slice A r.Frames.length ca) := hc1.cell0 (by simp); have r2w1 : w1.cell? ⟨w.heap.size + 1, 2, none⟩ = some (.int .i64 r.Out) := hc1.cell0 (by simp); have r3w1 : w1.cell? ⟨w.heap.size + 1, 3, none⟩ = some (.int .i64 r.Proc) := hc1.cell0 (by simp); have r4w1 : w1.cell? ⟨w.heap.size + 1, 4, none⟩ = some (.int .i64 r.Pc) := hc1.cell0 (by simp); have hA : Chg [] w w1 := Chg.trans0 (show Chg [] w _ from Chg.c) hc1; have hzA := hc1.size; rw [World.size_alloc, World.size_alloc] at hzA; have hzA2 : w.heap.size + 1 < w1.heap.size := (by omega); clear hc1 hzA) | (go_at_call 71; refine (specL1In_c _ _ _ _).mono ?_; rintro e w7 ⟨rfl, rfl⟩; rw [hd]) | (go_at_call 72; refine (specNumOk_c _ _).mono ?_; rintro e w8 ⟨rfl, rfl⟩; rw [hout]) | (go_at_call 22; refine (hat _ (Chg.k)).mono ?_; rintro e w2 ⟨rfl, hc2⟩; have p0w2 : w2.cell? ⟨w.heap.size, 0, none⟩ = some (.slice AP p.Procs.length cP) := hc2.cell0 p0w1; have r0w2 : w2.cell? ⟨w.heap.size + 1, 0, none⟩ = some (.int .i64 r.State) := hc2.cell0 r0w1; have r1w2 : w2.cell? ⟨w.heap.size + 1, 1, none⟩ = some (.slice A r.Frames.length ca) := hc2.cell0 r1w1; have r2w2 : w2.cell? ⟨w.heap.size + 1, 2, none⟩ = some (.int .i64 r.Out) := hc2.cell0 r2w1; have r3w2 : w2.cell? ⟨w.heap.size + 1, 3, none⟩ = some (.int .i64 r.Proc) := hc2.cell0 r3w1; have r4w2 : w2.cell? ⟨w.heap.size + 1, 4, none⟩ = some (.int .i64 r.Pc) := hc2.cell0 r4w1; have hB : Chg [] w w2 := Chg.trans0 (show Chg [] w _ from Chg.k) hc2; have hzB := hc2.size; have hzB2 : w.heap.size + 1 < w2.heap.size := (by omega); clear hc2))
        go_ret
        exact ⟨by first | rfl | (rw [hno.out]; rfl) | (rw [hno.out]; simp; done), Chg.k⟩
      · rw [hx] at hat
        simp only [atV, Option.getD_some, Option.isSome_some] at hat
        clear hx hrun h1 hzz
        go_enter Tryz.func18, Tryz.ntmps18
        go_wp2_with (first | (go_at_call 70; refine (hprg _ (Chg.c)).mono ?_; rintro e w1 ⟨rfl, hc1⟩; have p0w1 : w1.cell? ⟨w.heap.size, 0, none⟩ = some (.slice AP p.Procs.length cP) := hc1.cell0 (by simp); have r0w1 : w1.cell? ⟨w.heap.size + 1, 0, none⟩ = some (.int .i64 r.State) := hc1.cell0 (by simp); have r1w1 : w1.cell? ⟨w.heap.size + 1, 1, none⟩ = some (.slice A r.Frames.length ca) := hc1.cell0 (by simp); have r2w1 : w1.cell? ⟨w.heap.size + 1, 2, none⟩ = some (.int .i64 r.Out) := hc1.cell0 (by simp); have r3w1 : w1.cell? ⟨w.heap.size + 1, 3, none⟩ = some (.int .i64 r.Proc) := hc1.cell0 (by simp); have r4w1 : w1.cell? ⟨w.heap.size + 1, 4, none⟩ = some (.int .i64 r.Pc) := hc1.cell0 (by simp); have hA : Chg [] w w1 := Chg.trans0 (show Chg [] w _ from Chg.c) hc1; have hzA := hc1.size; rw [World.size_alloc, World.size_alloc] at hzA; have hzA2 : w.heap.size + 1 < w1.heap.size := (by omega); clear hc1 hzA) | (go_at_call 71; refine (specL1In_c _ _ _ _).mono ?_; rintro e w7 ⟨rfl, rfl⟩; rw [hd]) | (go_at_call 72; refine (specNumOk_c _ _).mono ?_; rintro e w8 ⟨rfl, rfl⟩; rw [hout]) | (go_at_call 22; refine (hat _ (Chg.k)).mono ?_; rintro e w2 ⟨rfl, hc2⟩; have p0w2 : w2.cell? ⟨w.heap.size, 0, none⟩ = some (.slice AP p.Procs.length cP) := hc2.cell0 p0w1; have r0w2 : w2.cell? ⟨w.heap.size + 1, 0, none⟩ = some (.int .i64 r.State) := hc2.cell0 r0w1; have r1w2 : w2.cell? ⟨w.heap.size + 1, 1, none⟩ = some (.slice A r.Frames.length ca) := hc2.cell0 r1w1; have r2w2 : w2.cell? ⟨w.heap.size + 1, 2, none⟩ = some (.int .i64 r.Out) := hc2.cell0 r2w1; have r3w2 : w2.cell? ⟨w.heap.size + 1, 3, none⟩ = some (.int .i64 r.Proc) := hc2.cell0 r3w1; have r4w2 : w2.cell? ⟨w.heap.size + 1, 4, none⟩ = some (.int .i64 r.Pc) := hc2.cell0 r4w1; have hB : Chg [] w w2 := Chg.trans0 (show Chg [] w _ from Chg.k) hc2; have hzB := hc2.size; have hzB2 : w.heap.size + 1 < w2.heap.size := (by omega); clear hc2))
        go_ret
        exact ⟨by first | rfl | (rw [hno.out]; rfl) | (rw [hno.out]; simp; done), Chg.k⟩
    rcases hx : prgAt p r.Proc r.Pc with _ | i
    · rw [hx] at hat
      simp only [atV, Option.getD_none, Option.isSome_none] at hat
      have hno := Lib.hid (show runOk p r = false by rw [hrun none hx]; rfl)
      clear hx hrun h1 hzz
      go_enter Tryz.func18, Tryz.ntmps18
      go_wp2_with (first | (go_at_call 70; refine (hprg _ (Chg.c)).mono ?_; rintro e w1 ⟨rfl, hc1⟩; have p0w1 : w1.cell? ⟨w.heap.size, 0, none⟩ = some (.slice AP p.Procs.length cP) := hc1.cell0 (by simp); have r0w1 : w1.cell? ⟨w.heap.size + 1, 0, none⟩ = some (.int .i64 r.State) := hc1.cell0 (by simp); have r1w1 : w1.cell? ⟨w.heap.size + 1, 1, none⟩ = some (.slice A r.Frames.length ca) := hc1.cell0 (by simp); have r2w1 : w1.cell? ⟨w.heap.size + 1, 2, none⟩ = some (.int .i64 r.Out) := hc1.cell0 (by simp); have r3w1 : w1.cell? ⟨w.heap.size + 1, 3, none⟩ = some (.int .i64 r.Proc) := hc1.cell0 (by simp); have r4w1 : w1.cell? ⟨w.heap.size + 1, 4, none⟩ = some (.int .i64 r.Pc) := hc1.cell0 (by simp); have hA : Chg [] w w1 := Chg.trans0 (show Chg [] w _ from Chg.c) hc1; have hzA := hc1.size; rw [World.size_alloc, World.size_alloc] at hzA; have hzA2 : w.heap.size + 1 < w1.heap.size := (by omega); clear hc1 hzA) | (go_at_call 71; refine (specL1In_c _ _ _ _).mono ?_; rintro e w7 ⟨rfl, rfl⟩; rw [hd]) | (go_at_call 72; refine (specNumOk_c _ _).mono ?_; rintro e w8 ⟨rfl, rfl⟩; rw [hout]) | (go_at_call 22; refine (hat _ (Chg.k)).mono ?_; rintro e w2 ⟨rfl, hc2⟩; have p0w2 : w2.cell? ⟨w.heap.size, 0, none⟩ = some (.slice AP p.Procs.length cP) := hc2.cell0 p0w1; have r0w2 : w2.cell? ⟨w.heap.size + 1, 0, none⟩ = some (.int .i64 r.State) := hc2.cell0 r0w1; have r1w2 : w2.cell? ⟨w.heap.size + 1, 1, none⟩ = some (.slice A r.Frames.length ca) := hc2.cell0 r1w1; have r2w2 : w2.cell? ⟨w.heap.size + 1, 2, none⟩ = some (.int .i64 r.Out) := hc2.cell0 r2w1; have r3w2 : w2.cell? ⟨w.heap.size + 1, 3, none⟩ = some (.int .i64 r.Proc) := hc2.cell0 r3w1; have r4w2 : w2.cell? ⟨w.heap.size + 1, 4, none⟩ = some (.int .i64 r.Pc) := hc2.cell0 r4w1; have hB : Chg [] w w2 := Chg.trans0 (show Chg [] w _ from Chg.k) hc2; have hzB := hc2.size; have hzB2 : w.heap.size + 1 < w2.heap.size := (by omega); clear hc2))
      go_ret
      exact ⟨by first | rfl | (rw [hno.out]; rfl) | (rw [hno.out]; simp; done), Chg.k⟩
    rw [hx] at hat
    simp only [atV, Option.getD_some, Option.isSome_some] at hat
    have hno := Lib.hid (show runOk p r = insRisks i.Op by rw [hrun _ hx, isEmpty_len, h0]; simp)
    clear hx hrun h1 hzz
    generalize hrisk : insRisks i.Op = bR at *
    go_enter Tryz.func18, Tryz.ntmps18
    go_wp2_with (first | (go_at_call 70; refine (hprg _ (Chg.c)).mono ?_; rintro e w1 ⟨rfl, hc1⟩; have p0w1 : w1.cell? ⟨w.heap.size, 0, none⟩ = some (.slice AP p.Procs.length cP) := hc1.cell0 (by simp); have r0w1 : w1.cell? ⟨w.heap.size + 1, 0, none⟩ = some (.int .i64 r.State) := hc1.cell0 (by simp); have r1w1 : w1.cell? ⟨w.heap.size + 1, 1, none⟩ = some (.slice A r.Frames.length ca) := hc1.cell0 (by simp); have r2w1 : w1.cell? ⟨w.heap.size + 1, 2, none⟩ = some (.int .i64 r.Out) := hc1.cell0 (by simp); have r3w1 : w1.cell? ⟨w.heap.size + 1, 3, none⟩ = some (.int .i64 r.Proc) := hc1.cell0 (by simp); have r4w1 : w1.cell? ⟨w.heap.size + 1, 4, none⟩ = some (.int .i64 r.Pc) := hc1.cell0 (by simp); have hA : Chg [] w w1 := Chg.trans0 (show Chg [] w _ from Chg.c) hc1; have hzA := hc1.size; rw [World.size_alloc, World.size_alloc] at hzA; have hzA2 : w.heap.size + 1 < w1.heap.size := (by omega); clear hc1 hzA) | (go_at_call 71; refine (specL1In_c _ _ _ _).mono ?_; rintro e w7 ⟨rfl, rfl⟩; rw [hd]) | (go_at_call 72; refine (specNumOk_c _ _).mono ?_; rintro e w8 ⟨rfl, rfl⟩; rw [hout]) | (go_at_call 22; refine (hat _ (Chg.k)).mono ?_; rintro e w2 ⟨rfl, hc2⟩; have p0w2 : w2.cell? ⟨w.heap.size, 0, none⟩ = some (.slice AP p.Procs.length cP) := hc2.cell0 p0w1; have r0w2 : w2.cell? ⟨w.heap.size + 1, 0, none⟩ = some (.int .i64 r.State) := hc2.cell0 r0w1; have r1w2 : w2.cell? ⟨w.heap.size + 1, 1, none⟩ = some (.slice A r.Frames.length ca) := hc2.cell0 r1w1; have r2w2 : w2.cell? ⟨w.heap.size + 1, 2, none⟩ = some (.int .i64 r.Out) := hc2.cell0 r2w1; have r3w2 : w2.cell? ⟨w.heap.size + 1, 3, none⟩ = some (.int .i64 r.Proc) := hc2.cell0 r3w1; have r4w2 : w2.cell? ⟨w.heap.size + 1, 4, none⟩ = some (.int .i64 r.Pc) := hc2.cell0 r4w1; have hB : Chg [] w w2 := Chg.trans0 (show Chg [] w _ from Chg.k) hc2; have hzB := hc2.size; have hzB2 : w.heap.size + 1 < w2.heap.size := (by omega); clear hc2) | (go_at_call 73; refine (specInsRisks_c _ _).mono ?_; rintro e w9 ⟨rfl, rfl⟩; rw [hrisk]))
    go_ret
    exact ⟨by first | rfl | (rw [hno.out]; rfl) | (rw [hno.out]; simp; done), Chg.k⟩
  have m3 : (r.State == 3) = false := by simpa using hs3
  by_cases hs : r.State = 1
  case neg =>
    have m4 : (r.State != 1) = true := by simpa [bne] using hs
    have hno := Lib.hid (show runOk p r = (((r.Frames.length : Int) == 0) && (r.Proc == 0) && (r.Pc == 0)) by
      unfold runOk
      rw [h1, hout, hzz, if_neg hs3, if_neg hs, isEmpty_len, Bool.true_and, hd]
      simp only [Bool.true_and, Bool.and_true]
      generalize ((r.Frames.length : Int) == 0) = a
      generalize (r.Proc == 0) = b
      generalize (r.Pc == 0) = c
      cases a <;> cases b <;> cases c <;> rfl)
    have hatx : ∃ a b, ∀ (wx : World), Chg [] w wx → Calls Tryz.prog 22 #[.agg #[.slice AP p.Procs.length cP], .int .i64 r.Proc, .int .i64 r.Pc] wx fun e w' => e = .returned (.tuple #[insV a, .bool b]) ∧ Chg [] wx w' := ⟨_, _, hat⟩
    obtain ⟨ia, ib, hat'⟩ := hatx
    clear hat
    have hat := hat'
    clear hat' h1 hzz hs3 hs hP h hd0
    by_cases t0 : ((r.Frames.length : Int) == 0) = true
    case neg =>
      rw [Bool.not_eq_true] at t0
      by_cases hS2 : r.State = 2
      · have m1 : (r.State != 2) = false := by rw [hS2]; rfl
        clear hso hS2
        go_enter Tryz.func18, Tryz.ntmps18
        go_wp2_with (first | (go_at_call 70; refine (hprg _ (Chg.c)).mono ?_; rintro e w1 ⟨rfl, hc1⟩; have p0w1 : w1.cell? ⟨w.heap.size, 0, none⟩ = some (.slice AP p.Procs.length cP) := hc1.cell0 (by simp); have r0w1 : w1.cell? ⟨w.heap.size + 1, 0, none⟩ = some (.int .i64 r.State) := hc1.cell0 (by simp); have r1w1 : w1.cell? ⟨w.heap.size + 1, 1, none⟩ = some (.slice A r.Frames.length ca) := hc1.cell0 (by simp); have r2w1 : w1.cell? ⟨w.heap.size + 1, 2, none⟩ = some (.int .i64 r.Out) := hc1.cell0 (by simp); have r3w1 : w1.cell? ⟨w.heap.size + 1, 3, none⟩ = some (.int .i64 r.Proc) := hc1.cell0 (by simp); have r4w1 : w1.cell? ⟨w.heap.size + 1, 4, none⟩ = some (.int .i64 r.Pc) := hc1.cell0 (by simp); have hA : Chg [] w w1 := Chg.trans0 (show Chg [] w _ from Chg.c) hc1; have hzA := hc1.size; rw [World.size_alloc, World.size_alloc] at hzA; have hzA2 : w.heap.size + 1 < w1.heap.size := (by omega); clear hc1 hzA) | (go_at_call 71; refine (specL1In_c _ _ _ _).mono ?_; rintro e w7 ⟨rfl, rfl⟩; rw [hd]) | (go_at_call 72; refine (specNumOk_c _ _).mono ?_; rintro e w8 ⟨rfl, rfl⟩; rw [hout]) | (go_at_call 22; refine (hat _ (Chg.k)).mono ?_; rintro e w2 ⟨rfl, hc2⟩; have p0w2 : w2.cell? ⟨w.heap.size, 0, none⟩ = some (.slice AP p.Procs.length cP) := hc2.cell0 p0w1; have r0w2 : w2.cell? ⟨w.heap.size + 1, 0, none⟩ = some (.int .i64 r.State) := hc2.cell0 r0w1; have r1w2 : w2.cell? ⟨w.heap.size + 1, 1, none⟩ = some (.slice A r.Frames.length ca) := hc2.cell0 r1w1; have r2w2 : w2.cell? ⟨w.heap.size + 1, 2, none⟩ = some (.int .i64 r.Out) := hc2.cell0 r2w1; have r3w2 : w2.cell? ⟨w.heap.size + 1, 3, none⟩ = some (.int .i64 r.Proc) := hc2.cell0 r3w1; have r4w2 : w2.cell? ⟨w.heap.size + 1, 4, none⟩ = some (.int .i64 r.Pc) := hc2.cell0 r4w1; have hB : Chg [] w w2 := Chg.trans0 (show Chg [] w _ from Chg.k) hc2; have hzB := hc2.size; have hzB2 : w.heap.size + 1 < w2.heap.size := (by omega); clear hc2))
        go_ret
        exact ⟨by first | (rw [hno.out]; simp [t0, t1, t2]; done) | (rw [hno.out]; simp [t0, t1]; done) | (rw [hno.out]; simp [t0]; done) | rfl | (rw [hno.out]; rfl) | (rw [hno.out]; simp; done), Chg.k⟩
      · have m1 : (r.State != 2) = true := by simpa [bne] using hS2
        have m2 : (r.Out != 0) = false := by simp; omega
        clear hso hS2
        go_enter Tryz.func18, Tryz.ntmps18
        go_wp2_with (first | (go_at_call 70; refine (hprg _ (Chg.c)).mono ?_; rintro e w1 ⟨rfl, hc1⟩; have p0w1 : w1.cell? ⟨w.heap.size, 0, none⟩ = some (.slice AP p.Procs.length cP) := hc1.cell0 (by simp); have r0w1 : w1.cell? ⟨w.heap.size + 1, 0, none⟩ = some (.int .i64 r.State) := hc1.cell0 (by simp); have r1w1 : w1.cell? ⟨w.heap.size + 1, 1, none⟩ = some (.slice A r.Frames.length ca) := hc1.cell0 (by simp); have r2w1 : w1.cell? ⟨w.heap.size + 1, 2, none⟩ = some (.int .i64 r.Out) := hc1.cell0 (by simp); have r3w1 : w1.cell? ⟨w.heap.size + 1, 3, none⟩ = some (.int .i64 r.Proc) := hc1.cell0 (by simp); have r4w1 : w1.cell? ⟨w.heap.size + 1, 4, none⟩ = some (.int .i64 r.Pc) := hc1.cell0 (by simp); have hA : Chg [] w w1 := Chg.trans0 (show Chg [] w _ from Chg.c) hc1; have hzA := hc1.size; rw [World.size_alloc, World.size_alloc] at hzA; have hzA2 : w.heap.size + 1 < w1.heap.size := (by omega); clear hc1 hzA) | (go_at_call 71; refine (specL1In_c _ _ _ _).mono ?_; rintro e w7 ⟨rfl, rfl⟩; rw [hd]) | (go_at_call 72; refine (specNumOk_c _ _).mono ?_; rintro e w8 ⟨rfl, rfl⟩; rw [hout]) | (go_at_call 22; refine (hat _ (Chg.k)).mono ?_; rintro e w2 ⟨rfl, hc2⟩; have p0w2 : w2.cell? ⟨w.heap.size, 0, none⟩ = some (.slice AP p.Procs.length cP) := hc2.cell0 p0w1; have r0w2 : w2.cell? ⟨w.heap.size + 1, 0, none⟩ = some (.int .i64 r.State) := hc2.cell0 r0w1; have r1w2 : w2.cell? ⟨w.heap.size + 1, 1, none⟩ = some (.slice A r.Frames.length ca) := hc2.cell0 r1w1; have r2w2 : w2.cell? ⟨w.heap.size + 1, 2, none⟩ = some (.int .i64 r.Out) := hc2.cell0 r2w1; have r3w2 : w2.cell? ⟨w.heap.size + 1, 3, none⟩ = some (.int .i64 r.Proc) := hc2.cell0 r3w1; have r4w2 : w2.cell? ⟨w.heap.size + 1, 4, none⟩ = some (.int .i64 r.Pc) := hc2.cell0 r4w1; have hB : Chg [] w w2 := Chg.trans0 (show Chg [] w _ from Chg.k) hc2; have hzB := hc2.size; have hzB2 : w.heap.size + 1 < w2.heap.size := (by omega); clear hc2))
        go_ret
        exact ⟨by first | (rw [hno.out]; simp [t0, t1, t2]; done) | (rw [hno.out]; simp [t0, t1]; done) | (rw [hno.out]; simp [t0]; done) | rfl | (rw [hno.out]; rfl) | (rw [hno.out]; simp; done), Chg.k⟩
    by_cases t1 : (r.Proc == 0) = true
    case neg =>
      rw [Bool.not_eq_true] at t1
      by_cases hS2 : r.State = 2
      · have m1 : (r.State != 2) = false := by rw [hS2]; rfl
        clear hso hS2
        go_enter Tryz.func18, Tryz.ntmps18
        go_wp2_with (first | (go_at_call 70; refine (hprg _ (Chg.c)).mono ?_; rintro e w1 ⟨rfl, hc1⟩; have p0w1 : w1.cell? ⟨w.heap.size, 0, none⟩ = some (.slice AP p.Procs.length cP) := hc1.cell0 (by simp); have r0w1 : w1.cell? ⟨w.heap.size + 1, 0, none⟩ = some (.int .i64 r.State) := hc1.cell0 (by simp); have r1w1 : w1.cell? ⟨w.heap.size + 1, 1, none⟩ = some (.slice A r.Frames.length ca) := hc1.cell0 (by simp); have r2w1 : w1.cell? ⟨w.heap.size + 1, 2, none⟩ = some (.int .i64 r.Out) := hc1.cell0 (by simp); have r3w1 : w1.cell? ⟨w.heap.size + 1, 3, none⟩ = some (.int .i64 r.Proc) := hc1.cell0 (by simp); have r4w1 : w1.cell? ⟨w.heap.size + 1, 4, none⟩ = some (.int .i64 r.Pc) := hc1.cell0 (by simp); have hA : Chg [] w w1 := Chg.trans0 (show Chg [] w _ from Chg.c) hc1; have hzA := hc1.size; rw [World.size_alloc, World.size_alloc] at hzA; have hzA2 : w.heap.size + 1 < w1.heap.size := (by omega); clear hc1 hzA) | (go_at_call 71; refine (specL1In_c _ _ _ _).mono ?_; rintro e w7 ⟨rfl, rfl⟩; rw [hd]) | (go_at_call 72; refine (specNumOk_c _ _).mono ?_; rintro e w8 ⟨rfl, rfl⟩; rw [hout]) | (go_at_call 22; refine (hat _ (Chg.k)).mono ?_; rintro e w2 ⟨rfl, hc2⟩; have p0w2 : w2.cell? ⟨w.heap.size, 0, none⟩ = some (.slice AP p.Procs.length cP) := hc2.cell0 p0w1; have r0w2 : w2.cell? ⟨w.heap.size + 1, 0, none⟩ = some (.int .i64 r.State) := hc2.cell0 r0w1; have r1w2 : w2.cell? ⟨w.heap.size + 1, 1, none⟩ = some (.slice A r.Frames.length ca) := hc2.cell0 r1w1; have r2w2 : w2.cell? ⟨w.heap.size + 1, 2, none⟩ = some (.int .i64 r.Out) := hc2.cell0 r2w1; have r3w2 : w2.cell? ⟨w.heap.size + 1, 3, none⟩ = some (.int .i64 r.Proc) := hc2.cell0 r3w1; have r4w2 : w2.cell? ⟨w.heap.size + 1, 4, none⟩ = some (.int .i64 r.Pc) := hc2.cell0 r4w1; have hB : Chg [] w w2 := Chg.trans0 (show Chg [] w _ from Chg.k) hc2; have hzB := hc2.size; have hzB2 : w.heap.size + 1 < w2.heap.size := (by omega); clear hc2))
        go_ret
        exact ⟨by first | (rw [hno.out]; simp [t0, t1, t2]; done) | (rw [hno.out]; simp [t0, t1]; done) | (rw [hno.out]; simp [t0]; done) | rfl | (rw [hno.out]; rfl) | (rw [hno.out]; simp; done), Chg.k⟩
      · have m1 : (r.State != 2) = true := by simpa [bne] using hS2
        have m2 : (r.Out != 0) = false := by simp; omega
        clear hso hS2
        go_enter Tryz.func18, Tryz.ntmps18
        go_wp2_with (first | (go_at_call 70; refine (hprg _ (Chg.c)).mono ?_; rintro e w1 ⟨rfl, hc1⟩; have p0w1 : w1.cell? ⟨w.heap.size, 0, none⟩ = some (.slice AP p.Procs.length cP) := hc1.cell0 (by simp); have r0w1 : w1.cell? ⟨w.heap.size + 1, 0, none⟩ = some (.int .i64 r.State) := hc1.cell0 (by simp); have r1w1 : w1.cell? ⟨w.heap.size + 1, 1, none⟩ = some (.slice A r.Frames.length ca) := hc1.cell0 (by simp); have r2w1 : w1.cell? ⟨w.heap.size + 1, 2, none⟩ = some (.int .i64 r.Out) := hc1.cell0 (by simp); have r3w1 : w1.cell? ⟨w.heap.size + 1, 3, none⟩ = some (.int .i64 r.Proc) := hc1.cell0 (by simp); have r4w1 : w1.cell? ⟨w.heap.size + 1, 4, none⟩ = some (.int .i64 r.Pc) := hc1.cell0 (by simp); have hA : Chg [] w w1 := Chg.trans0 (show Chg [] w _ from Chg.c) hc1; have hzA := hc1.size; rw [World.size_alloc, World.size_alloc] at hzA; have hzA2 : w.heap.size + 1 < w1.heap.size := (by omega); clear hc1 hzA) | (go_at_call 71; refine (specL1In_c _ _ _ _).mono ?_; rintro e w7 ⟨rfl, rfl⟩; rw [hd]) | (go_at_call 72; refine (specNumOk_c _ _).mono ?_; rintro e w8 ⟨rfl, rfl⟩; rw [hout]) | (go_at_call 22; refine (hat _ (Chg.k)).mono ?_; rintro e w2 ⟨rfl, hc2⟩; have p0w2 : w2.cell? ⟨w.heap.size, 0, none⟩ = some (.slice AP p.Procs.length cP) := hc2.cell0 p0w1; have r0w2 : w2.cell? ⟨w.heap.size + 1, 0, none⟩ = some (.int .i64 r.State) := hc2.cell0 r0w1; have r1w2 : w2.cell? ⟨w.heap.size + 1, 1, none⟩ = some (.slice A r.Frames.length ca) := hc2.cell0 r1w1; have r2w2 : w2.cell? ⟨w.heap.size + 1, 2, none⟩ = some (.int .i64 r.Out) := hc2.cell0 r2w1; have r3w2 : w2.cell? ⟨w.heap.size + 1, 3, none⟩ = some (.int .i64 r.Proc) := hc2.cell0 r3w1; have r4w2 : w2.cell? ⟨w.heap.size + 1, 4, none⟩ = some (.int .i64 r.Pc) := hc2.cell0 r4w1; have hB : Chg [] w w2 := Chg.trans0 (show Chg [] w _ from Chg.k) hc2; have hzB := hc2.size; have hzB2 : w.heap.size + 1 < w2.heap.size := (by omega); clear hc2))
        go_ret
        exact ⟨by first | (rw [hno.out]; simp [t0, t1, t2]; done) | (rw [hno.out]; simp [t0, t1]; done) | (rw [hno.out]; simp [t0]; done) | rfl | (rw [hno.out]; rfl) | (rw [hno.out]; simp; done), Chg.k⟩
    by_cases t2 : (r.Pc == 0) = true
    all_goals
      (try rw [Bool.not_eq_true] at t2)
      by_cases hS2 : r.State = 2
      · have m1 : (r.State != 2) = false := by rw [hS2]; rfl
        clear hso hS2
        go_enter Tryz.func18, Tryz.ntmps18
        go_wp2_with (first | (go_at_call 70; refine (hprg _ (Chg.c)).mono ?_; rintro e w1 ⟨rfl, hc1⟩; have p0w1 : w1.cell? ⟨w.heap.size, 0, none⟩ = some (.slice AP p.Procs.length cP) := hc1.cell0 (by simp); have r0w1 : w1.cell? ⟨w.heap.size + 1, 0, none⟩ = some (.int .i64 r.State) := hc1.cell0 (by simp); have r1w1 : w1.cell? ⟨w.heap.size + 1, 1, none⟩ = some (.slice A r.Frames.length ca) := hc1.cell0 (by simp); have r2w1 : w1.cell? ⟨w.heap.size + 1, 2, none⟩ = some (.int .i64 r.Out) := hc1.cell0 (by simp); have r3w1 : w1.cell? ⟨w.heap.size + 1, 3, none⟩ = some (.int .i64 r.Proc) := hc1.cell0 (by simp); have r4w1 : w1.cell? ⟨w.heap.size + 1, 4, none⟩ = some (.int .i64 r.Pc) := hc1.cell0 (by simp); have hA : Chg [] w w1 := Chg.trans0 (show Chg [] w _ from Chg.c) hc1; have hzA := hc1.size; rw [World.size_alloc, World.size_alloc] at hzA; have hzA2 : w.heap.size + 1 < w1.heap.size := (by omega); clear hc1 hzA) | (go_at_call 71; refine (specL1In_c _ _ _ _).mono ?_; rintro e w7 ⟨rfl, rfl⟩; rw [hd]) | (go_at_call 72; refine (specNumOk_c _ _).mono ?_; rintro e w8 ⟨rfl, rfl⟩; rw [hout]) | (go_at_call 22; refine (hat _ (Chg.k)).mono ?_; rintro e w2 ⟨rfl, hc2⟩; have p0w2 : w2.cell? ⟨w.heap.size, 0, none⟩ = some (.slice AP p.Procs.length cP) := hc2.cell0 p0w1; have r0w2 : w2.cell? ⟨w.heap.size + 1, 0, none⟩ = some (.int .i64 r.State) := hc2.cell0 r0w1; have r1w2 : w2.cell? ⟨w.heap.size + 1, 1, none⟩ = some (.slice A r.Frames.length ca) := hc2.cell0 r1w1; have r2w2 : w2.cell? ⟨w.heap.size + 1, 2, none⟩ = some (.int .i64 r.Out) := hc2.cell0 r2w1; have r3w2 : w2.cell? ⟨w.heap.size + 1, 3, none⟩ = some (.int .i64 r.Proc) := hc2.cell0 r3w1; have r4w2 : w2.cell? ⟨w.heap.size + 1, 4, none⟩ = some (.int .i64 r.Pc) := hc2.cell0 r4w1; have hB : Chg [] w w2 := Chg.trans0 (show Chg [] w _ from Chg.k) hc2; have hzB := hc2.size; have hzB2 : w.heap.size + 1 < w2.heap.size := (by omega); clear hc2))
        go_ret
        exact ⟨by first | (rw [hno.out]; simp [t0, t1, t2]; done) | (rw [hno.out]; simp [t0, t1]; done) | (rw [hno.out]; simp [t0]; done) | rfl | (rw [hno.out]; rfl) | (rw [hno.out]; simp; done), Chg.k⟩
      · have m1 : (r.State != 2) = true := by simpa [bne] using hS2
        have m2 : (r.Out != 0) = false := by simp; omega
        clear hso hS2
        go_enter Tryz.func18, Tryz.ntmps18
        go_wp2_with (first | (go_at_call 70; refine (hprg _ (Chg.c)).mono ?_; rintro e w1 ⟨rfl, hc1⟩; have p0w1 : w1.cell? ⟨w.heap.size, 0, none⟩ = some (.slice AP p.Procs.length cP) := hc1.cell0 (by simp); have r0w1 : w1.cell? ⟨w.heap.size + 1, 0, none⟩ = some (.int .i64 r.State) := hc1.cell0 (by simp); have r1w1 : w1.cell? ⟨w.heap.size + 1, 1, none⟩ = some (.slice A r.Frames.length ca) := hc1.cell0 (by simp); have r2w1 : w1.cell? ⟨w.heap.size + 1, 2, none⟩ = some (.int .i64 r.Out) := hc1.cell0 (by simp); have r3w1 : w1.cell? ⟨w.heap.size + 1, 3, none⟩ = some (.int .i64 r.Proc) := hc1.cell0 (by simp); have r4w1 : w1.cell? ⟨w.heap.size + 1, 4, none⟩ = some (.int .i64 r.Pc) := hc1.cell0 (by simp); have hA : Chg [] w w1 := Chg.trans0 (show Chg [] w _ from Chg.c) hc1; have hzA := hc1.size; rw [World.size_alloc, World.size_alloc] at hzA; have hzA2 : w.heap.size + 1 < w1.heap.size := (by omega); clear hc1 hzA) | (go_at_call 71; refine (specL1In_c _ _ _ _).mono ?_; rintro e w7 ⟨rfl, rfl⟩; rw [hd]) | (go_at_call 72; refine (specNumOk_c _ _).mono ?_; rintro e w8 ⟨rfl, rfl⟩; rw [hout]) | (go_at_call 22; refine (hat _ (Chg.k)).mono ?_; rintro e w2 ⟨rfl, hc2⟩; have p0w2 : w2.cell? ⟨w.heap.size, 0, none⟩ = some (.slice AP p.Procs.length cP) := hc2.cell0 p0w1; have r0w2 : w2.cell? ⟨w.heap.size + 1, 0, none⟩ = some (.int .i64 r.State) := hc2.cell0 r0w1; have r1w2 : w2.cell? ⟨w.heap.size + 1, 1, none⟩ = some (.slice A r.Frames.length ca) := hc2.cell0 r1w1; have r2w2 : w2.cell? ⟨w.heap.size + 1, 2, none⟩ = some (.int .i64 r.Out) := hc2.cell0 r2w1; have r3w2 : w2.cell? ⟨w.heap.size + 1, 3, none⟩ = some (.int .i64 r.Proc) := hc2.cell0 r3w1; have r4w2 : w2.cell? ⟨w.heap.size + 1, 4, none⟩ = some (.int .i64 r.Pc) := hc2.cell0 r4w1; have hB : Chg [] w w2 := Chg.trans0 (show Chg [] w _ from Chg.k) hc2; have hzB := hc2.size; have hzB2 : w.heap.size + 1 < w2.heap.size := (by omega); clear hc2))
        go_ret
        exact ⟨by first | (rw [hno.out]; simp [t0, t1, t2]; done) | (rw [hno.out]; simp [t0, t1]; done) | (rw [hno.out]; simp [t0]; done) | rfl | (rw [hno.out]; rfl) | (rw [hno.out]; simp; done), Chg.k⟩
  clear hat hprg
  exact refRunGoes_c p r _ _ FP FF w hP h h1 hd hout h5 hso hs
end Go.Proofs.YtjakhnhnjhafgaaGreat.Wk
