/- The program's step: written by a program of mine (wip/gen/gen_impstep.py). -/
import Derived.Test.YtjakhnhnjhafgaaGreatZImpStep1
import Derived.Test.YtjakhnhnjhafgaaGreatZRunMem
import Derived.Test.YtjakhnhnjhafgaaGreatZRunner5
import Derived.Test.YtjakhnhnjhafgaaGreatZRefStep0
import Derived.Test.YtjakhnhnjhafgaaGreatZImplAt
import Derived.Deep.RegionHeld3
set_option linter.unusedVariables false
set_option linter.unusedSimpArgs false
namespace Go.Proofs.YtjakhnhnjhafgaaGreat.Wk
open Go Go.RowKit Go.Deep Ow
open Rp (R sz)
set_option maxRecDepth 100000 in
set_option maxHeartbeats 8000000 in
theorem impStep10_c (p : PrgProg) (fs : List RunFrame) (inp : Int) (X : Nat) (vP : Value) (FP : List Nat) (v : Value) (G : List Nat) (w : World) (hP : RL w p.Procs vP FP) (hXP : X ∉ FP) (hX : RunX w X vP (goes fs) v) (h : RL w fs v G) (ho : Own w G) (hXG : X ∉ G) (hroom : Room w 58 v fs.length) (hin : I64 inp) (hok : runOk p (goes fs) = true)
    (hsel : ∀ (m : Nat) (hml : m < fs.length) (i : InsIns), fs.length = m + 1 → prgAt p fs[m].Proc fs[m].Pc = some i → i.Op = 10) :
    Calls Tryz.prog 130 #[.pointer (some ⟨X, 0, none⟩), .int .i64 inp] w (StepRes X vP G (stepped p (goes fs) inp) w) := by
  have F := goes_facts hok rfl
  have hp := F.prg
  obtain ⟨m, hm'⟩ : ∃ m, Hid (fs.length = m + 1) := ⟨fs.length - 1, Lib.hid (by have := F.n1; simp only [goes] at this; omega)⟩
  have hml : m < fs.length := by have := hm'.out; omega
  have n5 : fs.length ≤ 5 := F.n5
  have hN : nestOk p fs = true := F.nest
  obtain ⟨i, hi, hV, hC, nV, nC⟩ := frame_facts ((nest_iff p _).1 hN m hml).1
  obtain ⟨kp, jp, At⟩ := prgAt_facts hp hi
  have I := ins_facts At.ok
  have hop := hsel m hml i hm'.out hi
  have hPc : I64 (fs[m].Pc + 1) := by have h1 := At.epc; have h2 := At.j10; unfold I64; omega
  obtain ⟨dA, hA⟩ := Int.eq_ofNat_of_zero_le I.a0
  obtain ⟨dB, hB⟩ := Int.eq_ofNat_of_zero_le I.b0
  obtain ⟨dD, hD⟩ := Int.eq_ofNat_of_zero_le I.d0
  have lA : dA < fs[m].Vars.length := by have := I.a4; omega
  have lB : dB < fs[m].Vars.length := by have := I.b4; omega
  have lD : dD < fs[m].Vars.length := by have := I.d4; omega
  have nA := nV _ (List.getElem_mem lA)
  have nB := nV _ (List.getElem_mem lB)
  have hsub : ((m : Int) + 1 - 1) = m := by omega
  have hm4 : (m : Int) ≤ 4 := by have := hm'.out; omega
  have hmB : (m : Int) + 1 ≤ 9223372036854775807 := by omega
  have hdA : (dA : Int) < fs[m].Vars.length := by omega
  have hdB : (dB : Int) < fs[m].Vars.length := by omega
  have hdD : (dD : Int) < fs[m].Vars.length := by omega
  obtain ⟨AP, cP, rfl, -, -⟩ := hP.form
  obtain ⟨b, off, cap, vV, vC, FV, FC, Fm⟩ := frame_in h ho (i := m) hml
  have ev := Fm.eq
  rw [hm'.out] at ev
  subst ev
  obtain ⟨bV, oV, cV, EA⟩ := int_at Fm.rV Fm.oV lA
  have eV := EA.eq
  subst eV
  obtain ⟨bB, oB, cB, EB⟩ := int_at Fm.rV Fm.oV lB
  have eB := EB.eq
  injection eB with eB1 _ eB2
  injection eB1 with eB1
  injection eB1 with eB1 eB3
  subst eB1 eB2 eB3
  obtain ⟨bE, oE, cE, ED⟩ := int_at Fm.rV Fm.oV lD
  have eD := ED.eq
  injection eD with eD1 _ eD2
  injection eD1 with eD1
  injection eD1 with eD1 eD3
  subst eD1 eD2 eD3
  obtain ⟨AC, kC, rfl, -, -⟩ := Fm.rC.form
  obtain ⟨iOp, iD, iA, iB, iRel, iLo, iHi, iTo⟩ := i
  simp only at hA hB hD
  subst hA hB hD
  have hat : ∀ wx, Chg [] w wx → Calls Tryz.prog 75 #[.agg #[.slice AP p.Procs.length cP], .int .i64 fs[m].Proc, .int .i64 fs[m].Pc] wx (fun e w' => e = .returned (atV (some ⟨iOp, dD, dA, dB, iRel, iLo, iHi, iTo⟩)) ∧ Chg [] wx w') := fun wx hx => by
    have := implPrgAt_c p fs[m].Proc fs[m].Pc _ _ wx (hP.chg0 hx)
    rw [hi] at this
    exact this
  have X0 := hX.c0
  have X2 := hX.c2
  have y0 := Fm.c0
  have y1 := Fm.c1
  have y2 := Fm.c2
  have y3 := Fm.c3
  have vA := EA.cell
  have vB := EB.cell
  have vD := ED.cell
  have lX := hX.lt
  have lb : b < w.heap.size := World.block_lt_of_cell? _ _ y0
  have lV : bV < w.heap.size := World.block_lt_of_cell? _ _ vA
  have hXb : ¬ X = b := fun e => hXG (e ▸ Fm.mem)
  have hnb : ¬ bV = b := fun e => Fm.bV (e ▸ EA.mem)
  have hnb' : ¬ b = bV := fun e => hnb e.symm
  have zP := Fm.fz (off + m * 4 + 1)
  have zD := ED.fz (oV + dD)
  have hP_ := Lib.hid hP
  have hX_ := Lib.hid hX
  have h_ := Lib.hid h
  have ho_ := Lib.hid ho
  have hXG_ := Lib.hid hXG
  have hXP_ := Lib.hid hXP
  have hroom_ := Lib.hid hroom
  have hp_ := Lib.hid hp
  have hN_ := Lib.hid hN
  have hi_ := Lib.hid hi
  have hV_ := Lib.hid hV
  have hC_ := Lib.hid hC
  have nV_ := Lib.hid nV
  have nC_ := Lib.hid nC
  have hop_ := Lib.hid hop
  have nA_ := Lib.hid nA
  have nB_ := Lib.hid nB
  have I_ := Lib.hid I
  have n5_ := Lib.hid n5
  have Fm_ := Lib.hid Fm
  have EA_ := Lib.hid EA
  have EB_ := Lib.hid EB
  have ED_ := Lib.hid ED
  have hPc_ := Lib.hid hPc
  clear hP hX h ho hXG hXP hroom hN hi hV hC nV nC hop nA nB I n5 Fm EA EB ED hPc hok F hsel hp
  have taarith := ta_call_arith (dD : Int) (dA : Int) iTo
  have taany := ta_call_any (dD : Int) (dA : Int) iTo
  have taload := ta_call_load (dD : Int) (dA : Int) iTo
  have tastore := ta_call_store (dD : Int) (dA : Int) iTo
  have taif := ta_call_if (dD : Int) (dA : Int) iTo
  have tajump := ta_call_jump (dD : Int) (dA : Int) iTo
  have tacall := ta_call_call (dD : Int) (dA : Int) iTo
  go_enter Tryz.func130, Tryz.ntmps130
  go_wp2_with (go_at_call 174; refine (top_c X b off m cap _ X2 hmB).mono ?_; rintro e w1 ⟨rfl, hc1⟩; have hK1 := hc1; have sw1 := hc1.size; have X01 := hc1.cell0 X0; have y01 := hc1.cell0 y0; have y11 := hc1.cell0 y1; have lX1 := Nat.lt_of_lt_of_le lX hc1.size; have lb1 := Nat.lt_of_lt_of_le lb hc1.size; have n1X : ¬ X = w1.heap.size := Nat.ne_of_lt lX1; have n1b : ¬ b = w1.heap.size := Nat.ne_of_lt lb1; clear hc1)
  clear hmB
  go_region_held3 (fun w' => w'.cell? ⟨X, 0, none⟩ = some (.slice AP p.Procs.length cP) ∧ w'.cell? ⟨b, off + m * 4, none⟩ = some (.int .i64 fs[m].Proc) ∧ w'.cell? ⟨b, off + m * 4 + 1, none⟩ = some (.int .i64 fs[m].Pc)) (((try dsimp only); (repeat' apply And.intro) <;> (first | with_reducible assumption | (with_reducible refine (cell8 ?_).trans ?_ <;> (first | with_reducible assumption | exact n1X | exact n1b | exact n2X | exact n2b)) | (go_keep; done))))
    (first | (go_at_call 75; refine (hat _ (Chg.k)).mono ?_; rintro e w2 ⟨rfl, hq2⟩; have hK12 : Chg [] w1 w2 := Chg.trans0 (show Chg [] w1 _ from Chg.c) hq2; have hK2 := hK1.trans0 hK12; have X02 := hK12.cell0 X01; have y02 := hK12.cell0 y01; have y12 := hK12.cell0 y11; have lX2 := Nat.lt_of_lt_of_le lX1 hK12.size; have lb2 := Nat.lt_of_lt_of_le lb1 hK12.size; have n2X : ¬ X = w2.heap.size := Nat.ne_of_lt lX2; have n2b : ¬ b = w2.heap.size := Nat.ne_of_lt lb2; have zc0 := hq2.cells.1 w1.heap.size 0; have zc1 := hq2.cells.1 w1.heap.size 1; have zc2 := hq2.cells.1 w1.heap.size 2; have zc3 := hq2.cells.1 w1.heap.size 3; have zc4 := hq2.cells.1 w1.heap.size 4; have zc5 := hq2.cells.1 w1.heap.size 5; have zc6 := hq2.cells.1 w1.heap.size 6; have zc7 := hq2.cells.1 w1.heap.size 7; have zf0 := hq2.cells.2 w1.heap.size 0; have zf1 := hq2.cells.2 w1.heap.size 1; have zf2 := hq2.cells.2 w1.heap.size 2; have zf3 := hq2.cells.2 w1.heap.size 3; have zf4 := hq2.cells.2 w1.heap.size 4; have zf5 := hq2.cells.2 w1.heap.size 5; have zf6 := hq2.cells.2 w1.heap.size 6; have zf7 := hq2.cells.2 w1.heap.size 7; have sz2 := hq2.size; (try simp only [World.size_alloc, World.size_setCell, World.size_drew] at sz2); (try have lt12 := Nat.lt_of_succ_le sz2)))
  all_goals
    obtain ⟨hq1, hq2b⟩ := hPc_.out
    go_wp2_with fail
    clear hq1 hq2b
    refine (codeOf10_c ⟨iOp, dD, dA, dB, iRel, iLo, iHi, iTo⟩ _ hop_.out).mono ?_
    rintro e w4 ⟨rfl, hc4⟩
    have hK4 : Chg [] w w4 := Chg.trans0 (show Chg [] w _ from Chg.k) hc4
    replace X0 := hK4.cell0 X0
    replace X2 := hK4.cell0 X2
    replace y0 := hK4.cell0 y0
    replace y1 := hK4.cell0 y1
    replace y2 := hK4.cell0 y2
    replace y3 := hK4.cell0 y3
    replace vA := hK4.cell0 vA
    replace vB := hK4.cell0 vB
    replace vD := hK4.cell0 vD
    replace zP := (hK4.cells.2 b (off + m * 4 + 1) lb).trans zP
    replace zD := (hK4.cells.2 bV (oV + dD) lV).trans zD
    replace lX := Nat.lt_of_lt_of_le lX hK4.size
    replace lb := Nat.lt_of_lt_of_le lb hK4.size
    replace lV := Nat.lt_of_lt_of_le lV hK4.size
    clear hat hc4 hK2 hK1 hK12 hq2 X01 X02 y01 y02 y11 y12 lX1 lX2 lb1 lb2 n1X n1b n2X n2b sz2 sw1 zc0 zf0 zc1 zf1 zc2 zf2 zc3 zf3 zc4 zf4 zc5 zf5 zc6 zf6 zc7 zf7
    try clear lt12
    obtain rfl : iOp = 10 := hop_.out
    obtain ⟨kc, hkc, lk⟩ := to_proc hp_.out hi_.out rfl
    simp only at hkc
    subst hkc
    go_wp2_with fail
    generalize hWi : World.alloc _ _ = wi
    have hKi : Chg [] w4 wi := hWi ▸ Chg.c
    have hKw := hK4.trans0 hKi
    have bx0 : wi.cell? ⟨w4.heap.size, 0, none⟩ = some (.int .i64 (dD : Int)) := by rw [← hWi]; simp [go_sem]
    have bx1 : wi.cell? ⟨w4.heap.size, 1, none⟩ = some (.int .i64 (dA : Int)) := by rw [← hWi]; simp [go_sem]
    have bx2 : wi.cell? ⟨w4.heap.size, 2, none⟩ = some (.int .i64 (kc : Int)) := by rw [← hWi]; simp [go_sem]
    have lbx : w4.heap.size < wi.heap.size := by rw [← hWi]; simp [go_sem]
    have nbV : ¬ bV = w4.heap.size := Nat.ne_of_lt lV
    have nbV2 : ¬ w4.heap.size = bV := fun e => nbV e.symm
    have nbb : ¬ b = w4.heap.size := Nat.ne_of_lt lb
    have nbb2 : ¬ w4.heap.size = b := fun e => nbb e.symm
    replace X0 := hKi.cell0 X0
    replace X2 := hKi.cell0 X2
    replace y0 := hKi.cell0 y0
    replace y1 := hKi.cell0 y1
    replace y2 := hKi.cell0 y2
    replace y3 := hKi.cell0 y3
    replace vA := hKi.cell0 vA
    replace vB := hKi.cell0 vB
    replace vD := hKi.cell0 vD
    replace zP := (hKi.cells.2 b (off + m * 4 + 1) lb).trans zP
    replace zD := (hKi.cells.2 bV (oV + dD) lV).trans zD
    replace lX := Nat.lt_of_lt_of_le lX hKi.size
    replace lb := Nat.lt_of_lt_of_le lb hKi.size
    replace lV := Nat.lt_of_lt_of_le lV hKi.size
    clear hWi hKi taarith taany taload tastore taif tajump tacall
    have hitv : itvOk ⟨p.Procs[kc].Lo, p.Procs[kc].Hi⟩ = true := (proc_facts ((prg_facts hp_.out).2.2 kc lk)).1
    have hkk : I64 kc := by unfold I64; have := (prg_facts hp_.out).2.1; omega
    have hlt9 := Lib.hid (show ∀ g ∈ X :: G, g < w4.heap.size from fun g hg => by
      rcases List.mem_cons.1 hg with h1 | h1
      · exact h1 ▸ Nat.lt_of_lt_of_le hX_.out.lt hK4.size
      · exact Nat.lt_of_lt_of_le (ho_.out.lt g h1) hK4.size)
    have hst0 := Lib.hid (st_call (inp := inp) hm'.out hi_.out rfl rfl lA rfl lk)
    by_cases hcb : p.Procs[kc].Lo ≤ fs[m].Vars[dA] ∧ fs[m].Vars[dA] ≤ p.Procs[kc].Hi
    case neg =>
      have hst := Lib.hid (hst0.out.trans (if_neg hcb))
      have hcb9 := Lib.hid hcb
      clear hcb
      refine wp_region_held_drew (S := (fun w' => w'.cell? ⟨w4.heap.size, 0, none⟩ = some (.int .i64 (dD : Int)) ∧ w'.cell? ⟨w4.heap.size, 1, none⟩ = some (.int .i64 (dA : Int)) ∧ w'.cell? ⟨w4.heap.size, 2, none⟩ = some (.int .i64 (kc : Int)))) (by kernel_rfl) ?_ (fun hHeld => ?_)
      focus (((try dsimp only); (repeat' apply And.intro) <;> (first | with_reducible assumption | (go_keep; done))))
      refine wpAnyH_take (i := 0) (v := ?_) rfl (by kernel_rfl) (by kernel_rfl) (by kernel_rfl) (fun _ _ _ h => h) (Or.inl ⟨by rfl, ?_⟩) hHeld ?_
      rotate_left
      focus (intro w hSw; (try dsimp only at hSw); go_simp <;> with_reducible rfl)
      rotate_right
      try simp only [pS, pN, pA, pZ, pC]
      refine wpAnyH_take (i := 1) (v := ?_) rfl (by kernel_rfl) (by kernel_rfl) (by kernel_rfl) (fun _ _ _ h => h) (Or.inl ⟨by rfl, ?_⟩) hHeld ?_
      rotate_left
      focus (intro w hSw; (try dsimp only at hSw); go_simp <;> with_reducible rfl)
      rotate_right
      try simp only [pS, pN, pA, pZ, pC]
      refine wpAnyH_take (i := 2) (v := ?_) rfl (by kernel_rfl) (by kernel_rfl) (by kernel_rfl) (fun _ _ _ h => h) (Or.inl ⟨by rfl, ?_⟩) hHeld ?_
      rotate_left
      focus (intro w hSw; (try dsimp only at hSw); go_simp <;> with_reducible rfl)
      rotate_right
      try simp only [pS, pN, pA, pZ, pC]
      refine wpAnyH_take (i := 3) (v := ?_) rfl (by kernel_rfl) (by kernel_rfl) (by kernel_rfl) (fun _ _ _ h => h) (Or.inl ⟨by rfl, ?_⟩) hHeld ?_
      rotate_left
      focus (intro w hSw; (try dsimp only at hSw); go_simp <;> with_reducible rfl)
      rotate_right
      try simp only [pS, pN, pA, pZ, pC]
      refine wpAnyH_take (i := 4) (v := ?_) rfl (by kernel_rfl) (by kernel_rfl) (by kernel_rfl) (fun _ _ _ h => h) (Or.inl ⟨by rfl, ?_⟩) hHeld ?_
      rotate_left
      focus (intro w hSw; (try dsimp only at hSw); go_simp <;> with_reducible rfl)
      rotate_right
      try simp only [pS, pN, pA, pZ, pC]
      refine wpAnyH_take (i := 5) (v := ?_) rfl (by kernel_rfl) (by kernel_rfl) (by kernel_rfl) (fun _ _ _ h => h) (Or.inl ⟨by rfl, ?_⟩) hHeld ?_
      rotate_left
      focus (intro w hSw; (try dsimp only at hSw); go_simp <;> with_reducible rfl)
      rotate_right
      try simp only [pS, pN, pA, pZ, pC]
      refine wpAnyH_take (i := 7) (v := ?_) rfl (by kernel_rfl) (by kernel_rfl) (by kernel_rfl) (fun _ _ _ h => h) (Or.inl ⟨by rfl, ?_⟩) hHeld ?_
      rotate_left
      focus (intro w hSw; (try dsimp only at hSw); go_simp <;> with_reducible rfl)
      rotate_right
      try simp only [pS, pN, pA, pZ, pC]
      refine wpAnyH_take (i := 8) (v := ?_) rfl (by kernel_rfl) (by kernel_rfl) (by kernel_rfl) (fun _ _ _ h => h) (Or.inl ⟨by rfl, ?_⟩) hHeld ?_
      rotate_left
      focus (intro w hSw; (try dsimp only at hSw); go_simp <;> with_reducible rfl)
      rotate_right
      try simp only [pS, pN, pA, pZ, pC]
      refine wpAnyH_ready (rs := [6]) (by kernel_rfl) (by simp) ?_
      refine AllReadyH.cons rfl (fun K hK => ?_) AllReadyH.nil
      go_simp
      refine hK.out _ _ ?_ (fun hHeld => ?_)
      focus (((try dsimp only); (repeat' apply And.intro) <;> (first | with_reducible assumption | (go_keep; done))))
      clear hK K
      try simp only [pS, pN, pA, pZ, pC]
      refine wpAnyH_take (i := 9) (v := ?_) rfl (by kernel_rfl) (by kernel_rfl) (by kernel_rfl) (fun _ _ _ h => h) (Or.inl ⟨by rfl, ?_⟩) hHeld ?_
      rotate_left
      focus (intro w hSw; (try dsimp only at hSw); go_simp <;> with_reducible rfl)
      rotate_right
      try simp only [pS, pN, pA, pZ, pC]
      refine wpAnyH_ready (rs := [10]) (by kernel_rfl) (by simp) ?_
      refine AllReadyH.cons rfl (fun K hK => ?_) AllReadyH.nil
      go_simp
      refine hK.out _ _ ?_ (fun hHeld => ?_)
      focus (((try dsimp only); (repeat' apply And.intro) <;> (first | with_reducible assumption | (go_keep; done))))
      clear hK K
      try simp only [pS, pN, pA, pZ, pC]
      refine wpAnyH_ready (rs := [11]) (by kernel_rfl) (by simp) ?_
      refine AllReadyH.cons rfl (fun K hK => ?_) AllReadyH.nil
      go_simp
      go_wp2_with (go_at_call 179; refine (callBad_c (fq := fs[m]) p fs X _ _ b off m cap G _ (hP_.out.chg0 (hKw.trans0 (Chg.c))) (hX_.out.chg0 (hKw.trans0 (Chg.c))) (by omega) kc lk hitv fs[m].Vars[dA] ((show Chg [] wi _ from Chg.c).cell0 y0) ((show Chg [] wi _ from Chg.c).cell0 y1) hcb9.out).mono ?_; rintro e w9 ⟨rfl, hc9⟩; have hK9 : Chg (X :: G) wi w9 := Chg.trans (show Chg (X :: G) wi _ from (show Chg [] wi _ from Chg.c).of0) hc9 (fun g hg => Or.inl hg))
      refine ⟨rfl, ?_⟩
      show StepRes X _ G (stepped p (goes fs) inp) w _ _
      rw [hst.out]
      exact Or.inr ⟨⟨rfl, (Chg.trans (show Chg (X :: G) w wi from hKw.of0) hK9 (fun g hg => Or.inl hg))⟩, rfl⟩
    have hcb9 := Lib.hid hcb
    by_cases hm5 : m = 4
    · have hst := Lib.hid ((hst0.out.trans (if_pos hcb)).trans (if_pos (by have := hm'.out; omega)))
      have hm5_ := Lib.hid hm5
      clear hcb hm5
      refine wp_region_held_drew (S := (fun w' => w'.cell? ⟨w4.heap.size, 0, none⟩ = some (.int .i64 (dD : Int)) ∧ w'.cell? ⟨w4.heap.size, 1, none⟩ = some (.int .i64 (dA : Int)) ∧ w'.cell? ⟨w4.heap.size, 2, none⟩ = some (.int .i64 (kc : Int)))) (by kernel_rfl) ?_ (fun hHeld => ?_)
      focus (((try dsimp only); (repeat' apply And.intro) <;> (first | with_reducible assumption | (go_keep; done))))
      refine wpAnyH_take (i := 0) (v := ?_) rfl (by kernel_rfl) (by kernel_rfl) (by kernel_rfl) (fun _ _ _ h => h) (Or.inl ⟨by rfl, ?_⟩) hHeld ?_
      rotate_left
      focus (intro w hSw; (try dsimp only at hSw); go_simp <;> with_reducible rfl)
      rotate_right
      try simp only [pS, pN, pA, pZ, pC]
      refine wpAnyH_take (i := 1) (v := ?_) rfl (by kernel_rfl) (by kernel_rfl) (by kernel_rfl) (fun _ _ _ h => h) (Or.inl ⟨by rfl, ?_⟩) hHeld ?_
      rotate_left
      focus (intro w hSw; (try dsimp only at hSw); go_simp <;> with_reducible rfl)
      rotate_right
      try simp only [pS, pN, pA, pZ, pC]
      refine wpAnyH_take (i := 2) (v := ?_) rfl (by kernel_rfl) (by kernel_rfl) (by kernel_rfl) (fun _ _ _ h => h) (Or.inl ⟨by rfl, ?_⟩) hHeld ?_
      rotate_left
      focus (intro w hSw; (try dsimp only at hSw); go_simp <;> with_reducible rfl)
      rotate_right
      try simp only [pS, pN, pA, pZ, pC]
      refine wpAnyH_take (i := 3) (v := ?_) rfl (by kernel_rfl) (by kernel_rfl) (by kernel_rfl) (fun _ _ _ h => h) (Or.inl ⟨by rfl, ?_⟩) hHeld ?_
      rotate_left
      focus (intro w hSw; (try dsimp only at hSw); go_simp <;> with_reducible rfl)
      rotate_right
      try simp only [pS, pN, pA, pZ, pC]
      refine wpAnyH_take (i := 4) (v := ?_) rfl (by kernel_rfl) (by kernel_rfl) (by kernel_rfl) (fun _ _ _ h => h) (Or.inl ⟨by rfl, ?_⟩) hHeld ?_
      rotate_left
      focus (intro w hSw; (try dsimp only at hSw); go_simp <;> with_reducible rfl)
      rotate_right
      try simp only [pS, pN, pA, pZ, pC]
      refine wpAnyH_take (i := 5) (v := ?_) rfl (by kernel_rfl) (by kernel_rfl) (by kernel_rfl) (fun _ _ _ h => h) (Or.inl ⟨by rfl, ?_⟩) hHeld ?_
      rotate_left
      focus (intro w hSw; (try dsimp only at hSw); go_simp <;> with_reducible rfl)
      rotate_right
      try simp only [pS, pN, pA, pZ, pC]
      refine wpAnyH_take (i := 7) (v := ?_) rfl (by kernel_rfl) (by kernel_rfl) (by kernel_rfl) (fun _ _ _ h => h) (Or.inl ⟨by rfl, ?_⟩) hHeld ?_
      rotate_left
      focus (intro w hSw; (try dsimp only at hSw); go_simp <;> with_reducible rfl)
      rotate_right
      try simp only [pS, pN, pA, pZ, pC]
      refine wpAnyH_take (i := 8) (v := ?_) rfl (by kernel_rfl) (by kernel_rfl) (by kernel_rfl) (fun _ _ _ h => h) (Or.inl ⟨by rfl, ?_⟩) hHeld ?_
      rotate_left
      focus (intro w hSw; (try dsimp only at hSw); go_simp <;> with_reducible rfl)
      rotate_right
      try simp only [pS, pN, pA, pZ, pC]
      refine wpAnyH_ready (rs := [6]) (by kernel_rfl) (by simp) ?_
      refine AllReadyH.cons rfl (fun K hK => ?_) AllReadyH.nil
      go_simp
      refine hK.out _ _ ?_ (fun hHeld => ?_)
      focus (((try dsimp only); (repeat' apply And.intro) <;> (first | with_reducible assumption | (go_keep; done))))
      clear hK K
      try simp only [pS, pN, pA, pZ, pC]
      refine wpAnyH_take (i := 9) (v := ?_) rfl (by kernel_rfl) (by kernel_rfl) (by kernel_rfl) (fun _ _ _ h => h) (Or.inl ⟨by rfl, ?_⟩) hHeld ?_
      rotate_left
      focus (intro w hSw; (try dsimp only at hSw); go_simp <;> with_reducible rfl)
      rotate_right
      try simp only [pS, pN, pA, pZ, pC]
      refine wpAnyH_ready (rs := [10]) (by kernel_rfl) (by simp) ?_
      refine AllReadyH.cons rfl (fun K hK => ?_) AllReadyH.nil
      go_simp
      refine hK.out _ _ ?_ (fun hHeld => ?_)
      focus (((try dsimp only); (repeat' apply And.intro) <;> (first | with_reducible assumption | (go_keep; done))))
      clear hK K
      try simp only [pS, pN, pA, pZ, pC]
      refine wpAnyH_ready (rs := [11]) (by kernel_rfl) (by simp) ?_
      refine AllReadyH.cons rfl (fun K hK => ?_) AllReadyH.nil
      go_simp
      go_wp2_with (go_at_call 179; refine (callDeep_c p fs X _ _ b off m cap G _ (hP_.out.chg0 (hKw.trans0 (Chg.c))) (hX_.out.chg0 (hKw.trans0 (Chg.c))) (by omega) kc lk hitv fs[m].Vars[dA] hcb9.out hm5_.out).mono ?_; rintro e w9 ⟨rfl, hc9⟩; have hK9 : Chg (X :: G) wi w9 := Chg.trans (show Chg (X :: G) wi _ from (show Chg [] wi _ from Chg.c).of0) hc9 (fun g hg => Or.inl hg))
      refine ⟨rfl, ?_⟩
      show StepRes X _ G (stepped p (goes fs) inp) w _ _
      rw [hst.out]
      exact Or.inr ⟨⟨rfl, (Chg.trans (show Chg (X :: G) w wi from hKw.of0) hK9 (fun g hg => Or.inl hg))⟩, rfl⟩
    · have hst := Lib.hid ((hst0.out.trans (if_pos hcb)).trans (if_neg (by have := hm'.out; omega)))
      clear hcb
      replace hm5 : m < 4 := by omega
      refine wp_region_held_drew (S := (fun w' => w'.cell? ⟨w4.heap.size, 0, none⟩ = some (.int .i64 (dD : Int)) ∧ w'.cell? ⟨w4.heap.size, 1, none⟩ = some (.int .i64 (dA : Int)) ∧ w'.cell? ⟨w4.heap.size, 2, none⟩ = some (.int .i64 (kc : Int)))) (by kernel_rfl) ?_ (fun hHeld => ?_)
      focus (((try dsimp only); (repeat' apply And.intro) <;> (first | with_reducible assumption | (go_keep; done))))
      refine wpAnyH_take (i := 0) (v := ?_) rfl (by kernel_rfl) (by kernel_rfl) (by kernel_rfl) (fun _ _ _ h => h) (Or.inl ⟨by rfl, ?_⟩) hHeld ?_
      rotate_left
      focus (intro w hSw; (try dsimp only at hSw); go_simp <;> with_reducible rfl)
      rotate_right
      try simp only [pS, pN, pA, pZ, pC]
      refine wpAnyH_take (i := 1) (v := ?_) rfl (by kernel_rfl) (by kernel_rfl) (by kernel_rfl) (fun _ _ _ h => h) (Or.inl ⟨by rfl, ?_⟩) hHeld ?_
      rotate_left
      focus (intro w hSw; (try dsimp only at hSw); go_simp <;> with_reducible rfl)
      rotate_right
      try simp only [pS, pN, pA, pZ, pC]
      refine wpAnyH_take (i := 2) (v := ?_) rfl (by kernel_rfl) (by kernel_rfl) (by kernel_rfl) (fun _ _ _ h => h) (Or.inl ⟨by rfl, ?_⟩) hHeld ?_
      rotate_left
      focus (intro w hSw; (try dsimp only at hSw); go_simp <;> with_reducible rfl)
      rotate_right
      try simp only [pS, pN, pA, pZ, pC]
      refine wpAnyH_take (i := 3) (v := ?_) rfl (by kernel_rfl) (by kernel_rfl) (by kernel_rfl) (fun _ _ _ h => h) (Or.inl ⟨by rfl, ?_⟩) hHeld ?_
      rotate_left
      focus (intro w hSw; (try dsimp only at hSw); go_simp <;> with_reducible rfl)
      rotate_right
      try simp only [pS, pN, pA, pZ, pC]
      refine wpAnyH_take (i := 4) (v := ?_) rfl (by kernel_rfl) (by kernel_rfl) (by kernel_rfl) (fun _ _ _ h => h) (Or.inl ⟨by rfl, ?_⟩) hHeld ?_
      rotate_left
      focus (intro w hSw; (try dsimp only at hSw); go_simp <;> with_reducible rfl)
      rotate_right
      try simp only [pS, pN, pA, pZ, pC]
      refine wpAnyH_take (i := 5) (v := ?_) rfl (by kernel_rfl) (by kernel_rfl) (by kernel_rfl) (fun _ _ _ h => h) (Or.inl ⟨by rfl, ?_⟩) hHeld ?_
      rotate_left
      focus (intro w hSw; (try dsimp only at hSw); go_simp <;> with_reducible rfl)
      rotate_right
      try simp only [pS, pN, pA, pZ, pC]
      refine wpAnyH_take (i := 7) (v := ?_) rfl (by kernel_rfl) (by kernel_rfl) (by kernel_rfl) (fun _ _ _ h => h) (Or.inl ⟨by rfl, ?_⟩) hHeld ?_
      rotate_left
      focus (intro w hSw; (try dsimp only at hSw); go_simp <;> with_reducible rfl)
      rotate_right
      try simp only [pS, pN, pA, pZ, pC]
      refine wpAnyH_take (i := 8) (v := ?_) rfl (by kernel_rfl) (by kernel_rfl) (by kernel_rfl) (fun _ _ _ h => h) (Or.inl ⟨by rfl, ?_⟩) hHeld ?_
      rotate_left
      focus (intro w hSw; (try dsimp only at hSw); go_simp <;> with_reducible rfl)
      rotate_right
      try simp only [pS, pN, pA, pZ, pC]
      refine wpAnyH_ready (rs := [6]) (by kernel_rfl) (by simp) ?_
      refine AllReadyH.cons rfl (fun K hK => ?_) AllReadyH.nil
      go_simp
      refine hK.out _ _ ?_ (fun hHeld => ?_)
      focus (((try dsimp only); (repeat' apply And.intro) <;> (first | with_reducible assumption | (go_keep; done))))
      clear hK K
      try simp only [pS, pN, pA, pZ, pC]
      refine wpAnyH_take (i := 9) (v := ?_) rfl (by kernel_rfl) (by kernel_rfl) (by kernel_rfl) (fun _ _ _ h => h) (Or.inl ⟨by rfl, ?_⟩) hHeld ?_
      rotate_left
      focus (intro w hSw; (try dsimp only at hSw); go_simp <;> with_reducible rfl)
      rotate_right
      try simp only [pS, pN, pA, pZ, pC]
      refine wpAnyH_ready (rs := [10]) (by kernel_rfl) (by simp) ?_
      refine AllReadyH.cons rfl (fun K hK => ?_) AllReadyH.nil
      go_simp
      refine hK.out _ _ ?_ (fun hHeld => ?_)
      focus (((try dsimp only); (repeat' apply And.intro) <;> (first | with_reducible assumption | (go_keep; done))))
      clear hK K
      try simp only [pS, pN, pA, pZ, pC]
      refine wpAnyH_ready (rs := [11]) (by kernel_rfl) (by simp) ?_
      refine AllReadyH.cons rfl (fun K hK => ?_) AllReadyH.nil
      go_simp
      go_wp2_with (go_at_call 179; refine (callGo_c p fs X _ _ b off m cap G _ (hP_.out.chg0 (hKw.trans0 (Chg.c))) (hX_.out.chg0 (hKw.trans0 (Chg.c))) (by omega) kc lk hitv fs[m].Vars[dA] (h_.out.chg0 (hKw.trans0 (Chg.c))) (ho_.out.chg0 (hKw.trans0 (Chg.c))) (hroom_.out.chg (hKw.trans0 (Chg.c)) (by simp)) hm' hXG_.out hcb9.out hm5 (i64_of nA_.out) hkk).mono ?_; rintro e w9 ⟨rfl, v9, G9, RX9, hc9, r9, o9, g9⟩; have hK9 : Chg (X :: G) wi w9 := Chg.trans (show Chg (X :: G) wi _ from (show Chg [] wi _ from Chg.c).of0) hc9 (fun g hg => Or.inl hg); have sz9 := (show Chg [] wi _ from Chg.c).size; have nin9 : w4.heap.size ∉ X :: G := fun hg => absurd (hlt9.out _ hg) (Nat.lt_irrefl _); have bx0q := (hK9.cell (p := ⟨w4.heap.size, 0, none⟩) lbx nin9).trans bx0; have bx1q := (hK9.cell (p := ⟨w4.heap.size, 1, none⟩) lbx nin9).trans bx1; have bx2q := (hK9.cell (p := ⟨w4.heap.size, 2, none⟩) lbx nin9).trans bx2)
      refine hK.out _ _ ?_ (fun hHeld => ?_)
      focus (((try dsimp only); (repeat' apply And.intro) <;> (first | with_reducible assumption | (go_keep; done))))
      clear hK K
      try simp only [pS, pN, pA, pZ, pC]
      refine wpAnyH_done (by kernel_rfl) ?_ _
      go_wp2
      go_end0
      show StepRes X _ G (stepped p (goes fs) inp) w _ _
      rw [hst.out]
      refine Or.inl ⟨rfl, v9, G9, RX9.chg0 (by repeat (with_reducible first | exact Chg.refl _ _ | refine Chg.alloc ?_ _ | refine Chg.drew ?_)), ?_, r9.chg0 (by repeat (with_reducible first | exact Chg.refl _ _ | refine Chg.alloc ?_ _ | refine Chg.drew ?_)), o9.chg0 (by repeat (with_reducible first | exact Chg.refl _ _ | refine Chg.alloc ?_ _ | refine Chg.drew ?_)), fun g hg => (g9 g hg).imp id (fun h1 => Nat.le_trans hKw.size (Nat.le_trans sz9 h1))⟩
      have hcx : Chg (X :: G) w w9 := Chg.trans (show Chg (X :: G) w wi from hKw.of0) hK9 (fun g hg => Or.inl hg)
      repeat (with_reducible first | exact hcx | refine Chg.alloc ?_ _ | refine Chg.drew ?_)
end Go.Proofs.YtjakhnhnjhafgaaGreat.Wk
