/- The reference's RunStep: written by a program of mine (wip/gen/gen_refstep.py). -/
import Derived.Test.YtjakhnhnjhafgaaGreatZRefRet2
import Derived.Test.YtjakhnhnjhafgaaGreatZRefRet
import Derived.Test.YtjakhnhnjhafgaaGreatZRefStore
import Derived.Test.YtjakhnhnjhafgaaGreatZRefMut3
import Derived.Test.YtjakhnhnjhafgaaGreatZRefCall
import Derived.Test.YtjakhnhnjhafgaaGreatZPlain
import Derived.Test.YtjakhnhnjhafgaaGreatZRefStep0
set_option linter.unusedVariables false
set_option linter.unusedSimpArgs false
namespace Go.Proofs.YtjakhnhnjhafgaaGreat.Wk
open Go Go.RowKit Go.Deep Ow
open Rp (R sz)
set_option maxRecDepth 100000 in
set_option maxHeartbeats 8000000 in
theorem refStep4_c (p : PrgProg) (fs : List RunFrame) (inp : Int) (vP vF : Value) (FP FF : List Nat) (w : World) (hP : RL w p.Procs vP FP) (h : RL w fs vF FF) (hin : I64 inp) (hok : runOk p (goes fs) = true)
    (hsel : ∀ (m : Nat) (hml : m < fs.length) (i : InsIns), fs.length = m + 1 → prgAt p fs[m].Proc fs[m].Pc = some i → i.Op ≤ 4) :
    Calls Tryz.prog 25 #[.agg #[vP], .agg #[.int .i64 1, vF, .int .i64 0, .int .i64 0, .int .i64 0], .int .i64 inp] w (RetRun [] (stepped p (goes fs) inp) w) := by
  have F := goes_facts hok rfl
  have hp := F.prg
  obtain ⟨m, hm'⟩ : ∃ m, Hid (fs.length = m + 1) := ⟨fs.length - 1, Lib.hid (by have := F.n1; simp only [goes] at this; omega)⟩
  have hml : m < fs.length := by have := hm'.out; omega
  have n5 : fs.length ≤ 5 := F.n5
  have hN : nestOk p fs = true := F.nest
  have h44 : ∀ f ∈ fs, f.Vars.length = 4 ∧ f.Cells.length = 4 := fun f hf => by
    obtain ⟨k, hk, rfl⟩ := List.mem_iff_getElem.1 hf
    obtain ⟨-, -, h1, h2, -⟩ := frame_facts ((nest_iff p _).1 hN k hk).1
    exact ⟨h1, h2⟩
  obtain ⟨i, hi, hV, hC, nV, nC⟩ := frame_facts ((nest_iff p _).1 hN m hml).1
  obtain ⟨kp, jp, At⟩ := prgAt_facts hp hi
  have I := ins_facts At.ok
  have hop := hsel m hml i hm'.out hi
  have hPc : I64 (fs[m].Pc + 1) := by have h1 := At.epc; have h2 := At.j10; unfold I64; omega
  obtain ⟨dA, hA⟩ := Int.eq_ofNat_of_zero_le I.a0
  obtain ⟨dB, hB⟩ := Int.eq_ofNat_of_zero_le I.b0
  obtain ⟨dD, hD⟩ := Int.eq_ofNat_of_zero_le I.d0
  have lA : dA < fs[m].Vars.length := by have := I.a4; omega
  have lB : dB < fs[m].Vars.length := by have := I.b4; omega
  have lD : dD < fs[m].Vars.length := by have := I.d4; omega
  have nA := nV _ (List.getElem_mem lA)
  have nB := nV _ (List.getElem_mem lB)
  have hrk : ∀ wx, Chg [] w wx → Calls Tryz.prog 18 #[.agg #[vP], .agg #[.int .i64 1, vF, .int .i64 0, .int .i64 0, .int .i64 0]] wx (fun e w' => e = .returned (.bool true) ∧ Chg [] wx w') := fun wx hx => by
    have := refRunOk_c p (goes fs) _ _ _ _ wx (hP.chg0 hx) (h.chg0 hx)
    rw [hok] at this
    exact this
  have hcp : ∀ wx, Chg [] w wx → Calls Tryz.prog 79 #[.agg #[.int .i64 1, vF, .int .i64 0, .int .i64 0, .int .i64 0]] wx (RetCopy (goes fs) wx) := fun wx hx => refRun_c (goes fs) _ _ wx (h.chg0 hx) n5 h44
  have hat : ∀ wx, Chg [] w wx → Calls Tryz.prog 22 #[.agg #[vP], .int .i64 fs[m].Proc, .int .i64 fs[m].Pc] wx (fun e w' => e = .returned (atV (some i)) ∧ Chg [] wx w') := fun wx hx => by
    have := refPrgAt_c p fs[m].Proc fs[m].Pc _ _ wx (hP.chg0 hx)
    rw [hi] at this
    exact this
  have hsub : ((m : Int) + 1 - 1) = m := by omega
  have hm4 : (m : Int) ≤ 4 := by have := hm'.out; omega
  have hdA : (dA : Int) < fs[m].Vars.length := by omega
  have hdB : (dB : Int) < fs[m].Vars.length := by omega
  have hdD : (dD : Int) < fs[m].Vars.length := by omega
  have hP' := Lib.hid hP
  skip
  obtain ⟨AP, cP, rfl, -, -⟩ := hP.form
  obtain ⟨AF, cF, rfl, -, -⟩ := h.form
  obtain ⟨iOp, iD, iA, iB, iRel, iLo, iHi, iTo⟩ := i
  simp only at hA hB hD
  subst hA hB hD
  have I' := Lib.hid I
  have At' := At
  have n5' := Lib.hid n5
  have nV' := Lib.hid nV
  have nC' := Lib.hid nC
  have hN' := Lib.hid hN
  have hp' := Lib.hid hp
  have hi' := Lib.hid hi
  have hV4 := Lib.hid hV
  have hC4 := Lib.hid hC
  have hop' := Lib.hid hop
  have nA' := Lib.hid nA
  have nB' := Lib.hid nB
  clear F n5 hok h44 I nV nC hN hp hi hV hC hP h hsel hop nA nB
  go_enter Tryz.func25, Tryz.ntmps25
  go_wp2_with (first
    | (go_at_call 18; refine (hrk _ (Chg.c)).mono ?_; rintro e w1 ⟨rfl, hc1⟩; have hK1 : Chg [] w w1 := Chg.trans0 (show Chg [] w _ from Chg.c) hc1; have r0 := hc1.cell0 (p := ⟨w.heap.size + 1, 0, none⟩) (v := .int .i64 1) (by simp [go_sem]); have r1 := hc1.cell0 (p := ⟨w.heap.size + 1, 1, none⟩) (v := .slice AF fs.length cF) (by simp [go_sem]); have r2 := hc1.cell0 (p := ⟨w.heap.size + 1, 2, none⟩) (v := .int .i64 0) (by simp [go_sem]); have r3 := hc1.cell0 (p := ⟨w.heap.size + 1, 3, none⟩) (v := .int .i64 0) (by simp [go_sem]); have r4 := hc1.cell0 (p := ⟨w.heap.size + 1, 4, none⟩) (v := .int .i64 0) (by simp [go_sem]); have pb1 := hc1.cell0 (p := ⟨w.heap.size, 0, none⟩) (v := .slice AP p.Procs.length cP) (by simp [go_sem]); have q0 : w1.cell? ⟨w.heap.size + 2, 0, none⟩ = some (.int .i64 0) := hc1.cell0 (by simp [go_sem]); have q1 : w1.cell? ⟨w.heap.size + 2, 1, none⟩ = some (.slice none 0 0) := hc1.cell0 (by simp [go_sem]); have q2 : w1.cell? ⟨w.heap.size + 2, 2, none⟩ = some (.int .i64 0) := hc1.cell0 (by simp [go_sem]); have q3 : w1.cell? ⟨w.heap.size + 2, 3, none⟩ = some (.int .i64 0) := hc1.cell0 (by simp [go_sem]); have q4 : w1.cell? ⟨w.heap.size + 2, 4, none⟩ = some (.int .i64 0) := hc1.cell0 (by simp [go_sem]); have z0 : w1.frozen? ⟨w.heap.size + 2, 0, none⟩ = false := (hc1.cells.2 (w.heap.size + 2) 0 (by simp [go_sem])).trans (by simp [go_sem]); have z1 : w1.frozen? ⟨w.heap.size + 2, 1, none⟩ = false := (hc1.cells.2 (w.heap.size + 2) 1 (by simp [go_sem])).trans (by simp [go_sem]); have z2 : w1.frozen? ⟨w.heap.size + 2, 2, none⟩ = false := (hc1.cells.2 (w.heap.size + 2) 2 (by simp [go_sem])).trans (by simp [go_sem]); have z3 : w1.frozen? ⟨w.heap.size + 2, 3, none⟩ = false := (hc1.cells.2 (w.heap.size + 2) 3 (by simp [go_sem])).trans (by simp [go_sem]); have z4 : w1.frozen? ⟨w.heap.size + 2, 4, none⟩ = false := (hc1.cells.2 (w.heap.size + 2) 4 (by simp [go_sem])).trans (by simp [go_sem]); have lz : w.heap.size + 2 < w1.heap.size := Nat.lt_of_lt_of_le (by simp [go_sem]) hc1.size; clear hc1 hrk)
    | (go_at_call 79; refine (hcp _ (Chg.k)).mono ?_; rintro e w2 ⟨v, base, rfl, hc2, hG2, hb2⟩; have hY : Chg [] w1 w2 := Chg.trans0 (show Chg [] w1 _ from Chg.c) hc2; have hbase : w1.heap.size ≤ base := Nat.le_trans (show Chg [] w1 _ from Chg.c).size hb2; have hK2 := hK1.trans0 hY; have x0 := hY.cell0 q0; have x1 := hY.cell0 q1; have x2 := hY.cell0 q2; have x3 := hY.cell0 q3; have x4 := hY.cell0 q4; have fx0 : w2.frozen? ⟨w.heap.size + 2, 0, none⟩ = false := (hY.cells.2 (w.heap.size + 2) 0 lz).trans z0; have fx1 : w2.frozen? ⟨w.heap.size + 2, 1, none⟩ = false := (hY.cells.2 (w.heap.size + 2) 1 lz).trans z1; have fx2 : w2.frozen? ⟨w.heap.size + 2, 2, none⟩ = false := (hY.cells.2 (w.heap.size + 2) 2 lz).trans z2; have fx3 : w2.frozen? ⟨w.heap.size + 2, 3, none⟩ = false := (hY.cells.2 (w.heap.size + 2) 3 lz).trans z3; have fx4 : w2.frozen? ⟨w.heap.size + 2, 4, none⟩ = false := (hY.cells.2 (w.heap.size + 2) 4 lz).trans z4; have s0 := hY.cell0 r0; have s1 := hY.cell0 r1; have s2 := hY.cell0 r2; have s3 := hY.cell0 r3; have s4 := hY.cell0 r4; have pb2 := hY.cell0 pb1; have l2c := Nat.lt_of_lt_of_le lz hY.size; have l2b : w.heap.size + 1 < w2.heap.size := Nat.lt_of_succ_lt l2c; have l2a : w.heap.size < w2.heap.size := Nat.lt_of_succ_lt l2b; obtain ⟨G, hR, hO, hge, hRoom⟩ := hG2.out; simp only [goes] at hR hRoom; obtain ⟨b, off, cap, vV, vC, FV, FC, Fm⟩ := frame_in hR hO (i := m) hml; have ev := Fm.eq; rw [hm'.out] at ev; subst ev; obtain ⟨bA, oA, cA, EA⟩ := int_at Fm.rV Fm.oV lA; have eV := EA.eq; subst eV; obtain ⟨bB, oB, cB, EB⟩ := int_at Fm.rV Fm.oV lB; have eB := EB.eq; injection eB with eB1 _ eB2; injection eB1 with eB1; injection eB1 with eB1 eB3; subst eB1 eB2 eB3; obtain ⟨AC, kC, rfl, -, -⟩ := Fm.rC.form; have c0 := Fm.c0; have c1 := Fm.c1; have c2 := Fm.c2; have c3 := Fm.c3; have cvA := EA.cell; have cvB := EB.cell; have hb : b < w2.heap.size := World.block_lt_of_cell? _ _ c1; have hbA : bA < w2.heap.size := World.block_lt_of_cell? _ _ cvA; have hR' := Lib.hid hR; have hO' := Lib.hid hO; have hge' := Lib.hid hge; have hRoom' := Lib.hid hRoom; clear hc2 hG2 Fm EA EB hR hO hge hRoom hcp))
  generalize hWr : World.alloc _ _ = wr
  have hw2r : Chg [] w2 wr := hWr ▸ Chg.c
  have k0 : wr.cell? ⟨w2.heap.size, 0, none⟩ = some (.int .i64 1) := by rw [← hWr]; simp [go_sem, goes]
  have k1 : wr.cell? ⟨w2.heap.size, 1, none⟩ = some (.slice (some ⟨b, off, none⟩) (m + 1) cap) := by rw [← hWr]; simp [go_sem, goes]
  have k2 : wr.cell? ⟨w2.heap.size, 2, none⟩ = some (.int .i64 0) := by rw [← hWr]; simp [go_sem, goes]
  have k3 : wr.cell? ⟨w2.heap.size, 3, none⟩ = some (.int .i64 0) := by rw [← hWr]; simp [go_sem, goes]
  have k4 : wr.cell? ⟨w2.heap.size, 4, none⟩ = some (.int .i64 0) := by rw [← hWr]; simp [go_sem, goes]
  have f0 : wr.cell? ⟨w2.heap.size + 1, 0, none⟩ = some (.int .i64 fs[m].Proc) := by rw [← hWr]; simp [go_sem]
  have f1 : wr.cell? ⟨w2.heap.size + 1, 1, none⟩ = some (.int .i64 fs[m].Pc) := by rw [← hWr]; simp [go_sem]
  have f2 : wr.cell? ⟨w2.heap.size + 1, 2, none⟩ = some (.slice (some ⟨bA, oA, none⟩) fs[m].Vars.length cA) := by rw [← hWr]; simp [go_sem]
  have f3 : wr.cell? ⟨w2.heap.size + 1, 3, none⟩ = some (.slice AC fs[m].Cells.length kC) := by rw [← hWr]; simp [go_sem]
  have lFr : w2.heap.size + 1 < wr.heap.size := by rw [← hWr]; simp [go_sem]
  refine (hat _ (hK2.trans0 hw2r)).mono ?_
  rintro e w3 ⟨rfl, hc3⟩
  have h23 := hw2r.trans0 hc3
  have hw3 := hK2.trans0 h23
  replace k0 := hc3.cell0 k0
  replace k1 := hc3.cell0 k1
  replace k2 := hc3.cell0 k2
  replace k3 := hc3.cell0 k3
  replace k4 := hc3.cell0 k4
  replace f0 := hc3.cell0 f0
  replace f1 := hc3.cell0 f1
  replace f2 := hc3.cell0 f2
  replace f3 := hc3.cell0 f3
  replace x0 := h23.cell0 x0
  replace x1 := h23.cell0 x1
  replace x2 := h23.cell0 x2
  replace x3 := h23.cell0 x3
  replace x4 := h23.cell0 x4
  replace fx0 : w3.frozen? ⟨w.heap.size + 2, 0, none⟩ = false := (h23.cells.2 (w.heap.size + 2) 0 l2c).trans fx0
  replace fx1 : w3.frozen? ⟨w.heap.size + 2, 1, none⟩ = false := (h23.cells.2 (w.heap.size + 2) 1 l2c).trans fx1
  replace fx2 : w3.frozen? ⟨w.heap.size + 2, 2, none⟩ = false := (h23.cells.2 (w.heap.size + 2) 2 l2c).trans fx2
  replace fx3 : w3.frozen? ⟨w.heap.size + 2, 3, none⟩ = false := (h23.cells.2 (w.heap.size + 2) 3 l2c).trans fx3
  replace fx4 : w3.frozen? ⟨w.heap.size + 2, 4, none⟩ = false := (h23.cells.2 (w.heap.size + 2) 4 l2c).trans fx4
  replace pb2 := h23.cell0 pb2
  replace cvA := h23.cell0 cvA
  replace cvB := h23.cell0 cvB
  have l3F := Nat.lt_of_lt_of_le lFr hc3.size
  have l3X : w2.heap.size < w3.heap.size := Nat.lt_of_succ_lt l3F
  have l3c := Nat.lt_trans l2c l3X
  have l3b := Nat.lt_trans l2b l3X
  have l3a := Nat.lt_trans l2a l3X
  have l3A := Nat.lt_trans hbA l3X
  have hGl := Lib.hid (show ∀ g ∈ G, g < w2.heap.size from hO'.out.lt)
  have hR3 := Lib.hid (hR'.out.chg0 h23)
  have hO3 := Lib.hid (hO'.out.chg0 h23)
  have hPx := Lib.hid (hP'.out.chg0 hw3)
  have hRoom3 := Lib.hid (hRoom'.out.chg h23 (by simp))
  have hlz := Lib.hid (show ∀ g ∈ G, w.heap.size + 2 < g from fun g hg => Nat.lt_of_lt_of_le lz (Nat.le_trans hbase (hge'.out g hg)))
  clear hWr lFr hw2r hc3 h23 c0 c1 c2 c3 l2a l2b hb hbA hR' hO' hRoom' hat hK2 hY hK1 hbase hb2 hge' s0 s1 s2 s3 s4 q0 q1 q2 q3 q4 z0 z1 z2 z3 z4 r0 r1 r2 r3 r4 pb1 lz
  have h4 := hop'.out
  have hset : ∀ wx, Chg [] w3 wx → ∀ n, I64 n → Calls Tryz.prog 80 #[.agg #[.int .i64 1, .slice (some ⟨b, off, none⟩) (m + 1) cap, .int .i64 0, .int .i64 0, .int .i64 0], .int .i64 (dD : Int), .int .i64 n] wx (RetRun G (goes (fs.set m { fs[m] with Vars := fs[m].Vars.set dD n, Pc := fs[m].Pc + 1 })) wx) := fun wx hx n hn => refSet_c (goes fs) _ G wx (hR3.out.chg0 hx) (hO3.out.chg0 hx) m hm'.out dD lD n hn hPc
  have e5 : (iOp == 5) = false := beq_eq_false_iff_ne.2 (by omega)
  have e6 : (iOp == 6) = false := beq_eq_false_iff_ne.2 (by omega)
  have e7 : (iOp == 7) = false := beq_eq_false_iff_ne.2 (by omega)
  have e8 : (iOp == 8) = false := beq_eq_false_iff_ne.2 (by omega)
  have e9 : (iOp == 9) = false := beq_eq_false_iff_ne.2 (by omega)
  have e10 : (iOp == 10) = false := beq_eq_false_iff_ne.2 (by omega)
  have e11 : (iOp == 11) = false := beq_eq_false_iff_ne.2 (by omega)
  have e12 : (iOp == 12) = false := beq_eq_false_iff_ne.2 (by omega)
  have i1 := I'.out.op1
  generalize hnd0 : numDo iOp fs[m].Vars[dA] fs[m].Vars[dB] = nd
  obtain ⟨n, ok⟩ := nd
  have hnn : I64 n := by have h1 := (numDo_ok nA'.out nB'.out i1 h4).1; rw [hnd0] at h1; exact i64_of h1
  cases ok
  · have hst := Lib.hid (st_arith_bad (inp := inp) hm'.out hi'.out h4 rfl rfl lA lB (by simp only [hnd0]))
    have hnd := Lib.hid hnd0
    clear hnd0 h4 i1
    go_wp2_with (first
      | (go_at_call 88; go_loud (refine (specNumDo_c _ _ _ _).mono ?_; rintro e w7 ⟨rfl, rfl⟩; rw [hnd.out]))
      | (go_at_call 86; go_loud (refine (refFail_c fs[m] _ _ _).mono ?_; rintro e w9 ⟨rfl, hc9⟩; have hX : Chg [] w3 w9 := Chg.trans0 (show Chg [] w3 _ from Chg.k) hc9; have q0 := hX.cell0 x0; have q1 := hX.cell0 x1; have q2 := hX.cell0 x2; have q3 := hX.cell0 x3; have q4 := hX.cell0 x4; have z0 : w9.frozen? ⟨w.heap.size + 2, 0, none⟩ = false := (hX.cells.2 (w.heap.size + 2) 0 l3c).trans fx0; have z1 : w9.frozen? ⟨w.heap.size + 2, 1, none⟩ = false := (hX.cells.2 (w.heap.size + 2) 1 l3c).trans fx1; have z2 : w9.frozen? ⟨w.heap.size + 2, 2, none⟩ = false := (hX.cells.2 (w.heap.size + 2) 2 l3c).trans fx2; have z3 : w9.frozen? ⟨w.heap.size + 2, 3, none⟩ = false := (hX.cells.2 (w.heap.size + 2) 3 l3c).trans fx3; have z4 : w9.frozen? ⟨w.heap.size + 2, 4, none⟩ = false := (hX.cells.2 (w.heap.size + 2) 4 l3c).trans fx4; have l9 := Nat.lt_of_lt_of_le l3c hX.size; have hcW : Chg [] w w9 := hw3.trans0 hX; clear hc9 hX)))
    refine bodyPost_ret (v := runV (runFail fs[m]) (.slice none 0 0)) ?_ rfl ?_
    · simp [results, Tryz.results25, go_sem, runFail, q0, q1, q2, q3, q4, l9]
    · show RetRun [] (stepped p (goes fs) inp) w _ _
      rw [hst.out]
      exact RetRun.nil_ rfl (Chg.k)
  · have hst := Lib.hid (st_arith (inp := inp) hm'.out hi'.out h4 rfl rfl rfl lA lB n hnd0)
    have hnd := Lib.hid hnd0
    clear hnd0 h4 i1
    go_wp2_with (first
      | (go_at_call 88; go_loud (refine (specNumDo_c _ _ _ _).mono ?_; rintro e w7 ⟨rfl, rfl⟩; rw [hnd.out]))
      | (go_at_call 80; go_loud (refine (hset _ (Chg.c) _ hnn).mono ?_; rintro e w9 ⟨v9, G9, rfl, hc9, r9, o9, g9⟩; have hX : Chg G w3 w9 := Chg.trans (show Chg G w3 _ from (show Chg [] w3 _ from Chg.k).of0) hc9 (fun g hg => Or.inl hg); have g9q : ∀ g ∈ G9, w.heap.size + 2 < g := fun g hg => (g9 g hg).elim (hlz.out g) (fun h1 => Nat.lt_of_lt_of_le l3c (Nat.le_trans (show Chg [] w3 _ from Chg.k).size h1)); have hnin : w.heap.size + 2 ∉ G := fun hg => absurd (hlz.out _ hg) (Nat.lt_irrefl _); have q0 := (hX.cell (p := ⟨w.heap.size + 2, 0, none⟩) l3c hnin).trans x0; have q1 := (hX.cell (p := ⟨w.heap.size + 2, 1, none⟩) l3c hnin).trans x1; have q2 := (hX.cell (p := ⟨w.heap.size + 2, 2, none⟩) l3c hnin).trans x2; have q3 := (hX.cell (p := ⟨w.heap.size + 2, 3, none⟩) l3c hnin).trans x3; have q4 := (hX.cell (p := ⟨w.heap.size + 2, 4, none⟩) l3c hnin).trans x4; have z0 := (show w9.frozen? ⟨w.heap.size + 2, 0, none⟩ = w3.frozen? ⟨w.heap.size + 2, 0, none⟩ from World.frozen?_of_block (hX.block (w.heap.size + 2) l3c hnin)).trans fx0; have z1 := (show w9.frozen? ⟨w.heap.size + 2, 1, none⟩ = w3.frozen? ⟨w.heap.size + 2, 1, none⟩ from World.frozen?_of_block (hX.block (w.heap.size + 2) l3c hnin)).trans fx1; have z2 := (show w9.frozen? ⟨w.heap.size + 2, 2, none⟩ = w3.frozen? ⟨w.heap.size + 2, 2, none⟩ from World.frozen?_of_block (hX.block (w.heap.size + 2) l3c hnin)).trans fx2; have z3 := (show w9.frozen? ⟨w.heap.size + 2, 3, none⟩ = w3.frozen? ⟨w.heap.size + 2, 3, none⟩ from World.frozen?_of_block (hX.block (w.heap.size + 2) l3c hnin)).trans fx3; have z4 := (show w9.frozen? ⟨w.heap.size + 2, 4, none⟩ = w3.frozen? ⟨w.heap.size + 2, 4, none⟩ from World.frozen?_of_block (hX.block (w.heap.size + 2) l3c hnin)).trans fx4; have l9 := Nat.lt_of_lt_of_le l3c hX.size; obtain ⟨A9, k9, c9, rfl⟩ := form3 r9; have hcW : Chg [] w w9 := hw3.trans hX (fun g hg => Or.inr (Nat.le_of_lt (Nat.lt_trans (by omega) (hlz.out g hg)))); have n9 : ∀ g ∈ G9, g ∉ [w.heap.size + 2] := fun g hg hb => (by have h1 := g9q g hg; have h2 := List.mem_singleton.1 hb; omega); clear hc9 hX hnin g9)))
    refine bodyPost_ret (v := runV (goes (fs.set m { fs[m] with Vars := fs[m].Vars.set dD n, Pc := fs[m].Pc + 1 })) (.slice A9 k9 c9)) ?_ rfl ?_
    · simp [results, Tryz.results25, go_sem, goes, q0, q1, q2, q3, q4, l9]
    · show RetRun [] (stepped p (goes fs) inp) w _ _
      rw [hst.out]
      exact ⟨_, G9, rfl, Chg.k, r9.chg (G := [w.heap.size + 2]) (Chg.g) n9, o9.chg (G := [w.heap.size + 2]) (Chg.g) n9, fun g hg => Or.inr (Nat.le_of_lt (Nat.lt_trans (by omega) (g9q g hg)))⟩
end Go.Proofs.YtjakhnhnjhafgaaGreat.Wk
