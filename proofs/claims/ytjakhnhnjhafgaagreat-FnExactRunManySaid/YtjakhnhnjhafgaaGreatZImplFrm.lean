/- The program's framesOk. -/
import Derived.Test.YtjakhnhnjhafgaaGreatZImplAt
set_option linter.unusedVariables false
set_option linter.unusedSimpArgs false
namespace Go.Proofs.YtjakhnhnjhafgaaGreat.Wk
open Go Go.RowKit Go.Deep Ow
open Rp (R sz)
/-- what framesOk says -/
def framesB (p : PrgProg) (fs : List RunFrame) : Bool := decide (1 ≤ fs.length) && decide (fs.length ≤ 5) && nestTo p fs fs.length
theorem framesB_no {p : PrgProg} {fs : List RunFrame} {k : Nat} (hlt : k < fs.length) (h : placeOk p fs k = false) : framesB p fs = false := by
  unfold framesB
  rw [nestTo_false h hlt, Bool.and_false]
theorem place_none {p : PrgProg} {fs : List RunFrame} {k : Nat} (hlt : k < fs.length) (h : prgAt p fs[k].Proc fs[k].Pc = none) : placeOk p fs k = false := by
  rw [placeOk_at hlt]
  unfold frameOk
  rw [h]
  rfl
theorem place_frame {p : PrgProg} {fs : List RunFrame} {k : Nat} (hlt : k < fs.length) (h : frameOk p fs[k] = false) : placeOk p fs k = false := by
  rw [placeOk_at hlt, h]
  rfl
theorem frame_V {p : PrgProg} {f : RunFrame} (h : numsOk f.Vars 4 = false) : frameOk p f = false := by simp [frameOk, h]
theorem frame_C {p : PrgProg} {f : RunFrame} (h : numsOk f.Cells 4 = false) : frameOk p f = false := by simp [frameOk, h]
theorem frame_yes {p : PrgProg} {f : RunFrame} {i : InsIns} (hx : prgAt p f.Proc f.Pc = some i) (h1 : numsOk f.Vars 4 = true) (h2 : numsOk f.Cells 4 = true) : frameOk p f = true := by simp [frameOk, hx, h1, h2]
theorem place_op {p : PrgProg} {fs : List RunFrame} {k : Nat} {i : InsIns} (hlt : k < fs.length) (hl : k + 1 < fs.length) (hx : prgAt p fs[k].Proc fs[k].Pc = some i) (h : (i.Op == 10) = false) : placeOk p fs k = false := by
  rw [placeOk_at hlt, linkOk_in hl hx, h]
  simp
theorem place_to {p : PrgProg} {fs : List RunFrame} {k : Nat} {i : InsIns} (hlt : k < fs.length) (hl : k + 1 < fs.length) (hx : prgAt p fs[k].Proc fs[k].Pc = some i) (h : (i.To == fs[k + 1].Proc) = false) : placeOk p fs k = false := by
  rw [placeOk_at hlt, linkOk_in hl hx, h]
  simp
theorem place_in {p : PrgProg} {fs : List RunFrame} {k : Nat} {i : InsIns} (hlt : k < fs.length) (hl : k + 1 < fs.length) (hx : prgAt p fs[k].Proc fs[k].Pc = some i) (hf : frameOk p fs[k] = true) (h1 : (i.Op == 10) = true) (h2 : (i.To == fs[k + 1].Proc) = true) : placeOk p fs k = true := by
  rw [placeOk_at hlt, linkOk_in hl hx, hf, h1, h2]
  rfl
theorem place_last {p : PrgProg} {fs : List RunFrame} {k : Nat} (hlt : k < fs.length) (hl : ¬ k + 1 < fs.length) (hf : frameOk p fs[k] = true) : placeOk p fs k = true := by
  rw [placeOk_at hlt, linkOk_last hl, hf]
  rfl

set_option maxRecDepth 100000 in
set_option maxHeartbeats 4000000 in
theorem implFrames_c (p : PrgProg) (fs : List RunFrame) (vP vF : Value) (FP FF : List Nat) (w : World) (hP : RL w p.Procs vP FP) (h : RL w fs vF FF) :
    Calls Tryz.prog 127 #[.agg #[vP], vF] w fun e w' => e = .returned (.bool (framesB p fs)) ∧ Chg [] w w' := by
  obtain ⟨AP, cP, rfl, -, -⟩ := hP.form
  obtain ⟨A, ca, rfl, hl, hm⟩ := h.form
  have hn : fs.length ≤ maxLen := by omega
  unfold maxLen at hn
  by_cases h1 : fs.length < 1
  case pos =>
    have hno := Lib.hid (show framesB p fs = false by unfold framesB; rw [decide_eq_false (show ¬ 1 ≤ fs.length by omega)]; rfl)
    clear h hP
    go_enter Tryz.func127, Tryz.ntmps127
    go_wp2
    go_ret
    exact ⟨by rw [hno.out]; rfl, Chg.c⟩
  by_cases h2 : 5 < fs.length
  case pos =>
    have hno := Lib.hid (show framesB p fs = false by unfold framesB; rw [decide_eq_false (show ¬ fs.length ≤ 5 by omega), Bool.and_false]; rfl)
    clear h hP
    go_enter Tryz.func127, Tryz.ntmps127
    go_wp2
    go_ret
    exact ⟨by rw [hno.out]; rfl, Chg.c⟩
  have hb5 : (fs.length : Int) ≤ 5 := by omega
  have hb1 : (1 : Int) ≤ fs.length := by omega
  have hyes := Lib.hid (show nestTo p fs fs.length = true → framesB p fs = true by intro hh; unfold framesB; rw [hh]; simp; omega)
  go_enter Tryz.func127, Tryz.ntmps127
  go_wp2
  clear h1 h2
  go_loopw [19] (fun i wr => ∃ k : Nat, k ≤ fs.length ∧ i = .int .i64 k ∧ Chg [] w wr ∧ wr.cell? ⟨w.heap.size, 0, none⟩ = some (.slice AP p.Procs.length cP) ∧ w.heap.size < wr.heap.size ∧ nestTo p fs k = true) (fun i _ => fs.length - (intOf i).toNat)
  case atStart => exact ⟨0, Nat.zero_le _, rfl, Chg.c, by simp, by simp, rfl⟩
  case round =>
    obtain ⟨k, hk, rfl, hc, hcell, hsz, hall⟩ := hrel
    by_cases hlt : k < fs.length
    · obtain ⟨b1, o1, p1, c1, f1, e1, r1, m1, -⟩ := (h.chg0 hc).elem hlt
      obtain ⟨vV, FV, vC, FC, rfl, hF1, -, -, gV, gC⟩ := R_RunFrame.1 r1
      injection e1 with e1 _ e1c
      subst e1 e1c
      have ya0 := m1 0 (by decide)
      have ya1 := m1 1 (by decide)
      have ya2 := m1 2 (by decide)
      have ya3 := m1 3 (by decide)
      simp only [sz_RunFrame, Nat.add_zero, List.getElem?_cons_zero, List.getElem?_cons_succ] at ya0 ya1 ya2 ya3
      obtain ⟨AV, cV, rfl, -, -⟩ := gV.form
      obtain ⟨AC, cC, rfl, -, -⟩ := gC.form
      have hall' := Lib.hid hall
      have hat := fun (wx : World) (hx : Chg [] w wx) => implPrgAt_c p fs[k].Proc fs[k].Pc _ _ wx (hP.chg0 hx)
      have hnV := fun (wx : World) (hx : Chg [] wr wx) => implNums_c fs[k].Vars _ _ wx (gV.chg0 hx)
      have hnC := fun (wx : World) (hx : Chg [] wr wx) => implNums_c fs[k].Cells _ _ wx (gC.chg0 hx)
      clear hP hall
      rcases hx : prgAt p fs[k].Proc fs[k].Pc with _ | i
      · clear h gV gC m1 r1
        have hno := Lib.hid (framesB_no (p := p) hlt (place_none hlt hx))
        rw [hx] at hat
        simp only [atV, Option.getD_none, Option.isSome_none] at hat
        clear hx hnV hnC
        go_wp2_with (go_at_call 75; refine (hat _ (Chg.c)).mono ?_; rintro e w1 ⟨rfl, hc1⟩; have a2 : w1.cell? ⟨wr.heap.size, 2, none⟩ = some (.slice AV fs[k].Vars.length cV) := hc1.cell0 (by simp); have a3 : w1.cell? ⟨wr.heap.size, 3, none⟩ = some (.slice AC fs[k].Cells.length cC) := hc1.cell0 (by simp); have hA : Chg [] wr w1 := Chg.trans0 (show Chg [] wr _ from Chg.c) hc1; have hzA := hc1.size; rw [World.size_alloc] at hzA; have hzA2 : wr.heap.size < w1.heap.size := (by omega); clear hc1 hzA)
        go_ret
        exact ⟨by first | rfl | (rw [hno.out]; rfl), Chg.k⟩
      rw [hx] at hat
      simp only [atV, Option.getD_some, Option.isSome_some] at hat
      by_cases hV : numsOk fs[k].Vars 4 = true
      case neg =>
        rw [Bool.not_eq_true] at hV
        clear h gV gC m1 r1
        have hno := Lib.hid (framesB_no (p := p) hlt (place_frame hlt (frame_V hV)))
        rw [hV] at hnV
        clear hx hnC hV
        go_wp2_with (first | (go_at_call 75; refine (hat _ (Chg.c)).mono ?_; rintro e w1 ⟨rfl, hc1⟩; have a2 : w1.cell? ⟨wr.heap.size, 2, none⟩ = some (.slice AV fs[k].Vars.length cV) := hc1.cell0 (by simp); have a3 : w1.cell? ⟨wr.heap.size, 3, none⟩ = some (.slice AC fs[k].Cells.length cC) := hc1.cell0 (by simp); have hA : Chg [] wr w1 := Chg.trans0 (show Chg [] wr _ from Chg.c) hc1; have hzA := hc1.size; rw [World.size_alloc] at hzA; have hzA2 : wr.heap.size < w1.heap.size := (by omega); clear hc1 hzA) | (go_at_call_of 173 AV; refine (hnV _ (Chg.k)).mono ?_; rintro e w2 ⟨rfl, hc2⟩; have b3 := (Chg.trans0 (show Chg [] w1 _ from Chg.c) hc2).cell0 a3; have i0 : w2.cell? ⟨w1.heap.size, 0, none⟩ = some (.int .i64 i.Op) := hc2.cell0 (by simp); have i7 : w2.cell? ⟨w1.heap.size, 7, none⟩ = some (.int .i64 i.To) := hc2.cell0 (by simp); have hB : Chg [] wr w2 := Chg.trans0 (show Chg [] wr _ from Chg.k) hc2; clear hc2 a2 a3))
        go_ret
        exact ⟨by first | rfl | (rw [hno.out]; rfl), Chg.k⟩
      rw [hV] at hnV
      by_cases hC0 : numsOk fs[k].Cells 4 = true
      case neg =>
        rw [Bool.not_eq_true] at hC0
        clear h gV gC m1 r1
        have hno := Lib.hid (framesB_no (p := p) hlt (place_frame hlt (frame_C hC0)))
        rw [hC0] at hnC
        clear hx hV hC0
        go_wp2_with (first | (go_at_call 75; refine (hat _ (Chg.c)).mono ?_; rintro e w1 ⟨rfl, hc1⟩; have a2 : w1.cell? ⟨wr.heap.size, 2, none⟩ = some (.slice AV fs[k].Vars.length cV) := hc1.cell0 (by simp); have a3 : w1.cell? ⟨wr.heap.size, 3, none⟩ = some (.slice AC fs[k].Cells.length cC) := hc1.cell0 (by simp); have hA : Chg [] wr w1 := Chg.trans0 (show Chg [] wr _ from Chg.c) hc1; have hzA := hc1.size; rw [World.size_alloc] at hzA; have hzA2 : wr.heap.size < w1.heap.size := (by omega); clear hc1 hzA) | (go_at_call_of 173 AV; refine (hnV _ (Chg.k)).mono ?_; rintro e w2 ⟨rfl, hc2⟩; have b3 := (Chg.trans0 (show Chg [] w1 _ from Chg.c) hc2).cell0 a3; have i0 : w2.cell? ⟨w1.heap.size, 0, none⟩ = some (.int .i64 i.Op) := hc2.cell0 (by simp); have i7 : w2.cell? ⟨w1.heap.size, 7, none⟩ = some (.int .i64 i.To) := hc2.cell0 (by simp); have hB : Chg [] wr w2 := Chg.trans0 (show Chg [] wr _ from Chg.k) hc2; clear hc2 a2 a3) | (go_at_call_of 173 AC; refine (hnC _ (Chg.k)).mono ?_; rintro e w3 ⟨rfl, hc3⟩; have j0 := hc3.cell0 i0; have j7 := hc3.cell0 i7; have hC := hB.trans0 hc3; clear hc3 i0 i7 b3))
        go_ret
        exact ⟨by first | rfl | (rw [hno.out]; rfl), Chg.k⟩
      rw [hC0] at hnC
      by_cases hl : k + 1 < fs.length
      case neg =>
        have hkI : decide ((k : Int) + 1 < fs.length) = false := decide_eq_false (by omega)
        have hkJ : (fs.length : Int) ≤ (k : Int) + 1 := by omega
        have hno := Lib.hid (place_last hlt hl (frame_yes hx hV hC0))
        clear hx hV hC0
        clear h gV gC m1 r1
        go_wp2_with (first | (go_at_call 75; refine (hat _ (Chg.c)).mono ?_; rintro e w1 ⟨rfl, hc1⟩; have a2 : w1.cell? ⟨wr.heap.size, 2, none⟩ = some (.slice AV fs[k].Vars.length cV) := hc1.cell0 (by simp); have a3 : w1.cell? ⟨wr.heap.size, 3, none⟩ = some (.slice AC fs[k].Cells.length cC) := hc1.cell0 (by simp); have hA : Chg [] wr w1 := Chg.trans0 (show Chg [] wr _ from Chg.c) hc1; have hzA := hc1.size; rw [World.size_alloc] at hzA; have hzA2 : wr.heap.size < w1.heap.size := (by omega); clear hc1 hzA) | (go_at_call_of 173 AV; refine (hnV _ (Chg.k)).mono ?_; rintro e w2 ⟨rfl, hc2⟩; have b3 := (Chg.trans0 (show Chg [] w1 _ from Chg.c) hc2).cell0 a3; have i0 : w2.cell? ⟨w1.heap.size, 0, none⟩ = some (.int .i64 i.Op) := hc2.cell0 (by simp); have i7 : w2.cell? ⟨w1.heap.size, 7, none⟩ = some (.int .i64 i.To) := hc2.cell0 (by simp); have hB : Chg [] wr w2 := Chg.trans0 (show Chg [] wr _ from Chg.k) hc2; clear hc2 a2 a3) | (go_at_call_of 173 AC; refine (hnC _ (Chg.k)).mono ?_; rintro e w3 ⟨rfl, hc3⟩; have j0 := hc3.cell0 i0; have j7 := hc3.cell0 i7; have hC := hB.trans0 hc3; clear hc3 i0 i7 b3))
        first
        | go_quiet (fail)
        | go_region
        all_goals
          have v9 := hC.cell0 hcell
          have hzC := hC.size
          go_wp2
          go_roundw
          case rel => exact ⟨k + 1, by omega, by go_num, Chg.k, by first | exact v9 | simpa using v9, by simp; omega, by rw [nestTo_succ, hall'.out, hno.out]; rfl⟩
          case measure => simp [intOf]; omega
      by_cases h10 : (i.Op == 10) = true
      case neg =>
        rw [Bool.not_eq_true] at h10
        obtain ⟨z1, z2, z3, zc, zf, ze, zr, zm, -⟩ := (h.chg0 hc).elem hl
        obtain ⟨zV, zFV, zC, zFC, rfl, -, -, -, -, -⟩ := R_RunFrame.1 zr
        injection ze with ze _ zec
        injection ze with ze
        injection ze with ze1 ze2
        subst ze1 ze2 zec
        have ya := zm 0 (by decide)
        simp only [sz_RunFrame, Nat.add_zero, List.getElem?_cons_zero] at ya
        clear zm zr
        have hkI : (k : Int) + 1 < fs.length := by omega
        have hkN : ((k : Int) + 1).toNat = k + 1 := by omega
        have hk0 : (0 : Int) ≤ (k : Int) + 1 := by omega
        have hno := Lib.hid (framesB_no (p := p) hlt (place_op hlt hl hx h10))
        have h10b : (i.Op != 10) = true := by simpa [bne] using h10
        clear hx hV hC0
        clear h10
        clear h gV gC m1 r1
        go_wp2_with (first | (go_at_call 75; refine (hat _ (Chg.c)).mono ?_; rintro e w1 ⟨rfl, hc1⟩; have a2 : w1.cell? ⟨wr.heap.size, 2, none⟩ = some (.slice AV fs[k].Vars.length cV) := hc1.cell0 (by simp); have a3 : w1.cell? ⟨wr.heap.size, 3, none⟩ = some (.slice AC fs[k].Cells.length cC) := hc1.cell0 (by simp); have hA : Chg [] wr w1 := Chg.trans0 (show Chg [] wr _ from Chg.c) hc1; have hzA := hc1.size; rw [World.size_alloc] at hzA; have hzA2 : wr.heap.size < w1.heap.size := (by omega); clear hc1 hzA) | (go_at_call_of 173 AV; refine (hnV _ (Chg.k)).mono ?_; rintro e w2 ⟨rfl, hc2⟩; have b3 := (Chg.trans0 (show Chg [] w1 _ from Chg.c) hc2).cell0 a3; have i0 : w2.cell? ⟨w1.heap.size, 0, none⟩ = some (.int .i64 i.Op) := hc2.cell0 (by simp); have i7 : w2.cell? ⟨w1.heap.size, 7, none⟩ = some (.int .i64 i.To) := hc2.cell0 (by simp); have hB : Chg [] wr w2 := Chg.trans0 (show Chg [] wr _ from Chg.k) hc2; clear hc2 a2 a3) | (go_at_call_of 173 AC; refine (hnC _ (Chg.k)).mono ?_; rintro e w3 ⟨rfl, hc3⟩; have j0 := hc3.cell0 i0; have j7 := hc3.cell0 i7; have hC := hB.trans0 hc3; clear hc3 i0 i7 b3; have yb := hC.cell0 ya; clear ya))
        first
        | go_quiet (fail)
        | go_region
        all_goals
          go_wp2
          go_ret
          exact ⟨by first | rfl | (rw [hno.out]; rfl), Chg.k⟩
      by_cases hto : (i.To == fs[k + 1].Proc) = true
      case neg =>
        rw [Bool.not_eq_true] at hto
        obtain ⟨z1, z2, z3, zc, zf, ze, zr, zm, -⟩ := (h.chg0 hc).elem hl
        obtain ⟨zV, zFV, zC, zFC, rfl, -, -, -, -, -⟩ := R_RunFrame.1 zr
        injection ze with ze _ zec
        injection ze with ze
        injection ze with ze1 ze2
        subst ze1 ze2 zec
        have ya := zm 0 (by decide)
        simp only [sz_RunFrame, Nat.add_zero, List.getElem?_cons_zero] at ya
        clear zm zr
        have hkI : (k : Int) + 1 < fs.length := by omega
        have hkN : ((k : Int) + 1).toNat = k + 1 := by omega
        have hk0 : (0 : Int) ≤ (k : Int) + 1 := by omega
        have hno := Lib.hid (framesB_no (p := p) hlt (place_to hlt hl hx hto))
        have h10b : (i.Op != 10) = false := by simpa [bne] using h10
        have htob : (i.To != fs[k + 1].Proc) = true := by simpa [bne] using hto
        clear hx hV hC0
        clear h10 hto
        clear h gV gC m1 r1
        go_wp2_with (first | (go_at_call 75; refine (hat _ (Chg.c)).mono ?_; rintro e w1 ⟨rfl, hc1⟩; have a2 : w1.cell? ⟨wr.heap.size, 2, none⟩ = some (.slice AV fs[k].Vars.length cV) := hc1.cell0 (by simp); have a3 : w1.cell? ⟨wr.heap.size, 3, none⟩ = some (.slice AC fs[k].Cells.length cC) := hc1.cell0 (by simp); have hA : Chg [] wr w1 := Chg.trans0 (show Chg [] wr _ from Chg.c) hc1; have hzA := hc1.size; rw [World.size_alloc] at hzA; have hzA2 : wr.heap.size < w1.heap.size := (by omega); clear hc1 hzA) | (go_at_call_of 173 AV; refine (hnV _ (Chg.k)).mono ?_; rintro e w2 ⟨rfl, hc2⟩; have b3 := (Chg.trans0 (show Chg [] w1 _ from Chg.c) hc2).cell0 a3; have i0 : w2.cell? ⟨w1.heap.size, 0, none⟩ = some (.int .i64 i.Op) := hc2.cell0 (by simp); have i7 : w2.cell? ⟨w1.heap.size, 7, none⟩ = some (.int .i64 i.To) := hc2.cell0 (by simp); have hB : Chg [] wr w2 := Chg.trans0 (show Chg [] wr _ from Chg.k) hc2; clear hc2 a2 a3) | (go_at_call_of 173 AC; refine (hnC _ (Chg.k)).mono ?_; rintro e w3 ⟨rfl, hc3⟩; have j0 := hc3.cell0 i0; have j7 := hc3.cell0 i7; have hC := hB.trans0 hc3; clear hc3 i0 i7 b3; have yb := hC.cell0 ya; clear ya))
        first
        | go_quiet (fail)
        | go_region
        all_goals
          go_wp2
          go_ret
          exact ⟨by first | rfl | (rw [hno.out]; rfl), Chg.k⟩
      obtain ⟨z1, z2, z3, zc, zf, ze, zr, zm, -⟩ := (h.chg0 hc).elem hl
      obtain ⟨zV, zFV, zC, zFC, rfl, -, -, -, -, -⟩ := R_RunFrame.1 zr
      injection ze with ze _ zec
      injection ze with ze
      injection ze with ze1 ze2
      subst ze1 ze2 zec
      have ya := zm 0 (by decide)
      simp only [sz_RunFrame, Nat.add_zero, List.getElem?_cons_zero] at ya
      clear zm zr
      have hkI : (k : Int) + 1 < fs.length := by omega
      have hkN : ((k : Int) + 1).toNat = k + 1 := by omega
      have hk0 : (0 : Int) ≤ (k : Int) + 1 := by omega
      have hno := Lib.hid (place_in hlt hl hx (frame_yes hx hV hC0) h10 hto)
      have h10b : (i.Op != 10) = false := by simpa [bne] using h10
      have htob : (i.To != fs[k + 1].Proc) = false := by simpa [bne] using hto
      clear hx hV hC0
      clear h10 hto
      clear h gV gC m1 r1
      go_wp2_with (first | (go_at_call 75; refine (hat _ (Chg.c)).mono ?_; rintro e w1 ⟨rfl, hc1⟩; have a2 : w1.cell? ⟨wr.heap.size, 2, none⟩ = some (.slice AV fs[k].Vars.length cV) := hc1.cell0 (by simp); have a3 : w1.cell? ⟨wr.heap.size, 3, none⟩ = some (.slice AC fs[k].Cells.length cC) := hc1.cell0 (by simp); have hA : Chg [] wr w1 := Chg.trans0 (show Chg [] wr _ from Chg.c) hc1; have hzA := hc1.size; rw [World.size_alloc] at hzA; have hzA2 : wr.heap.size < w1.heap.size := (by omega); clear hc1 hzA) | (go_at_call_of 173 AV; refine (hnV _ (Chg.k)).mono ?_; rintro e w2 ⟨rfl, hc2⟩; have b3 := (Chg.trans0 (show Chg [] w1 _ from Chg.c) hc2).cell0 a3; have i0 : w2.cell? ⟨w1.heap.size, 0, none⟩ = some (.int .i64 i.Op) := hc2.cell0 (by simp); have i7 : w2.cell? ⟨w1.heap.size, 7, none⟩ = some (.int .i64 i.To) := hc2.cell0 (by simp); have hB : Chg [] wr w2 := Chg.trans0 (show Chg [] wr _ from Chg.k) hc2; clear hc2 a2 a3) | (go_at_call_of 173 AC; refine (hnC _ (Chg.k)).mono ?_; rintro e w3 ⟨rfl, hc3⟩; have j0 := hc3.cell0 i0; have j7 := hc3.cell0 i7; have hC := hB.trans0 hc3; clear hc3 i0 i7 b3; have yb := hC.cell0 ya; clear ya))
      first
      | go_quiet (fail)
      | go_region
      all_goals
        have v9 := hC.cell0 hcell
        have hzC := hC.size
        go_wp2
        go_roundw
        case rel => exact ⟨k + 1, by omega, by go_num, Chg.k, by first | exact v9 | simpa using v9, by simp; omega, by rw [nestTo_succ, hall'.out, hno.out]; rfl⟩
        case measure => simp [intOf]; omega
    · obtain rfl : k = fs.length := by omega
      have hno := Lib.hid (hyes.out hall)
      clear h hP hyes hall
      go_wp2
      go_ret
      exact ⟨by first | rfl | (rw [hno.out]; rfl), hc⟩
end Go.Proofs.YtjakhnhnjhafgaaGreat.Wk
