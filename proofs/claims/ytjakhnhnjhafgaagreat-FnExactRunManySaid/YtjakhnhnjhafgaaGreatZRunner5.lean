/- The program's runner: ret. Written by a program of mine (wip/gen/gen_runner5.py). -/
import Derived.Test.YtjakhnhnjhafgaaGreatZRunner
import Derived.Test.YtjakhnhnjhafgaaGreatZRunMem
import Derived.Test.YtjakhnhnjhafgaaGreatZImplAt
import Derived.Test.YtjakhnhnjhafgaaGreatZRefRunOk
import Derived.Test.YtjakhnhnjhafgaaGreatZRefRet2
set_option linter.unusedVariables false
set_option linter.unusedSimpArgs false
namespace Go.Proofs.YtjakhnhnjhafgaaGreat.Wk
open Go Go.RowKit Go.Deep Ow
open Rp (R sz)

set_option maxHeartbeats 1000000 in
theorem ret1_c (X : Nat) (vP : Value) (fs : List RunFrame) (b off cap : Nat) (G : List Nat) (n : Int) (w : World) (hX : RunX w X vP (goes fs) (.slice (some ⟨b, off, none⟩) 1 cap)) :
    Calls Tryz.prog 180 #[.pointer (some ⟨X, 0, none⟩), .int .i64 n] w (StepOut X vP G (runDone n) w) := by
  have X0 := hX.c0
  have X1 := hX.c1
  have X2 := hX.c2
  have X3 := hX.c3
  have X4 := hX.c4
  have X5 := hX.c5
  have fX := hX.fz
  have hX' := Lib.hid hX
  clear hX
  go_enter Tryz.func180, Tryz.ntmps180
  go_wp2_with fail
  go_region
  all_goals
    go_wp2
    go_end0
    refine ⟨rfl, .slice none 0 0, [], ⟨?_, ?_, ?_, ?_, ?_, ?_, ?_⟩, by repeat (with_reducible first | exact Chg.refl _ _ | refine Chg.setCell ?_ (Or.inl (by simp)) _ | refine Chg.alloc ?_ _ | refine Chg.drew ?_), RL.nil_, Own.nil_ _, by simp⟩
    all_goals first | (simp [go_sem, X0, X1, X2, X3, X4, X5, runDone]; done) | (intro j; simp [go_sem, fX])
end Go.Proofs.YtjakhnhnjhafgaaGreat.Wk
namespace Go.Proofs.YtjakhnhnjhafgaaGreat.Wk
open Go Go.RowKit Go.Deep Ow
open Rp (R sz)

theorem _root_.Ow.RunX.fr {w : World} {X : Nat} {vP v : Value} {x : RunRun} (h : RunX w X vP x v) (fs : List RunFrame) : RunX w X vP { x with Frames := fs } v := ⟨h.c0, h.c1, h.c2, h.c3, h.c4, h.c5, h.fz⟩
set_option maxRecDepth 100000 in
set_option maxHeartbeats 8000000 in
theorem ret2_c (p : PrgProg) (fs : List RunFrame) (X : Nat) (vP : Value) (FP : List Nat) (v : Value) (m : Nat) (G : List Nat) (w : World) (hP : RL w p.Procs vP FP) (hXP : X ∉ FP) (hX : RunX w X vP (goes fs) v) (h : RL w fs v G) (ho : Own w G) (hXG : X ∉ G) (hm : (m : Int) ≤ 3) (hlen : Hid (fs.length = m + 2)) (n : Int) (hn : I64 n) (hml : m < fs.length) (i : InsIns) (hi : prgAt p fs[m].Proc fs[m].Pc = some i) (dD : Nat) (hD : i.D = dD) (hdD : dD < fs[m].Vars.length) (hq : I64 (fs[m].Pc + 1)) :
    Calls Tryz.prog 180 #[.pointer (some ⟨X, 0, none⟩), .int .i64 n] w (StepOut X vP G (goes ((fs.take (m + 1)).set m { fs[m] with Vars := fs[m].Vars.set dD n, Pc := fs[m].Pc + 1 })) w) := by
  obtain ⟨AP, cP, rfl, -, -⟩ := hP.form
  obtain ⟨A0, cap, rfl, hcap, hcm⟩ := h.form
  obtain ⟨G2, h2, o2, s2⟩ := h.less ho (m := m + 1) (by have := hlen.out; omega)
  have hl2 := Lib.hid (show (fs.take (m + 1)).length = m + 1 by have := hlen.out; rw [List.length_take]; omega)
  have hl1 := Lib.hid (show m < (fs.take (m + 1)).length by have := hl2.out; omega)
  have eg : (fs.take (m + 1))[m]'hl1.out = fs[m] := by simp
  have hcx : (m : Int) + 1 ≤ cap := by have := hlen.out; omega
  have hXG2 := Lib.hid (show X ∉ G2 from fun hg => hXG (s2 X hg))
  have hs2 := Lib.hid s2
  have hlt2 := Lib.hid (fun g (hg : g ∈ G2) => h2.lt g hg)
  obtain ⟨b, off, capx, vV0, vC0, FV0, FC0, F0⟩ := frame_in h2 o2 (i := m) hl1.out
  have ev := F0.eq
  rw [hl2.out] at ev
  injection ev with ev1 _ ev2
  subst ev1 ev2
  have y0 := F0.c0
  have y1 := F0.c1
  rw [eg] at y0 y1
  have hb2 : b ∈ G2 := F0.mem
  have hXb : ¬ X = b := fun e => hXG2.out (e ▸ hb2)
  have X0 := hX.c0
  have X2 := hX.c2
  have fX := hX.fz 2
  have lX := hX.lt
  have lb : b < w.heap.size := World.block_lt_of_cell? _ _ y0
  have hx2 : (0 : Int) ≤ (m : Int) + 1 ∧ (m : Int) + 1 ≤ cap := by omega
  have hs1 : ((m : Int) + 2 - 1) = (m : Int) + 1 := by omega
  have hk0 : ((m : Int) + 1 == 0) = false := by simp; omega
  have hmt : ((m : Int) + 1).toNat = m + 1 := by omega
  have hX' := Lib.hid hX
  have h2' := Lib.hid h2
  have o2' := Lib.hid o2
  have hP' := Lib.hid hP
  have hdD' := Lib.hid (show dD < ((fs.take (m + 1))[m]'hl1.out).Vars.length by rw [eg]; exact hdD)
  have eg' := Lib.hid eg
  have hn' := Lib.hid hn
  have hq' := Lib.hid hq
  have hi' := Lib.hid hi
  have hXP' := Lib.hid hXP
  rw [hlen.out] at X2
  obtain ⟨iOp, iD, iA, iB, iRel, iLo, iHi, iTo⟩ := i
  simp only at hD
  subst hD
  clear F0 h2 o2 hP hX h ho hdD hq hi hn hXP hXG s2 eg hcap hcm hcx hb2
  go_enter Tryz.func180, Tryz.ntmps180
  go_wp2_with fail
  go_region
  all_goals
    generalize hW1 : World.drew _ = w1
    have hXw : Chg [X] w w1 := hW1 ▸ ((Chg.refl [X] w).setCell (Or.inl (by simp)) _).drew
    have hX1 := Lib.hid (show RunX w1 X _ (goes (fs.take (m + 1))) _ from hW1 ▸ (hX'.out.setF (.slice (some ⟨b, off, none⟩) (m + 1) cap) (fs.take (m + 1))).chg0 (Chg.refl _ _).drew)
    have hR1 := Lib.hid (h2'.out.chg hXw (fun c hc hc' => hXG2.out (List.mem_singleton.1 hc' ▸ hc)))
    have hO1 := Lib.hid (o2'.out.chg hXw (fun c hc hc' => hXG2.out (List.mem_singleton.1 hc' ▸ hc)))
    have hP1 := Lib.hid (hP'.out.chg hXw (fun c hc hc' => hXP'.out (List.mem_singleton.1 hc' ▸ hc)))
    have X01 := hX1.out.c0
    have X21 := hX1.out.c2
    have y01 := (hXw.cell (p := ⟨b, off + m * 4, none⟩) lb (fun hc => hXb (List.mem_singleton.1 hc).symm)).trans y0
    have y11 := (hXw.cell (p := ⟨b, off + m * 4 + 1, none⟩) lb (fun hc => hXb (List.mem_singleton.1 hc).symm)).trans y1
    have lX1 := Nat.lt_of_lt_of_le lX hXw.size
    have lb1 := Nat.lt_of_lt_of_le lb hXw.size
    have n1X : ¬ X = w1.heap.size := Nat.ne_of_lt lX1
    have n1b : ¬ b = w1.heap.size := Nat.ne_of_lt lb1
    have htop := fun (wx : World) (hx : Chg [] w1 wx) => top_c X b off m cap wx (hx.cell0 hX1.out.c2) (by omega)
    have hat : ∀ wx, Chg [] w1 wx → Calls Tryz.prog 75 #[.agg #[.slice AP p.Procs.length cP], .int .i64 fs[m].Proc, .int .i64 fs[m].Pc] wx (fun e w' => e = .returned (atV (some ⟨iOp, dD, iA, iB, iRel, iLo, iHi, iTo⟩)) ∧ Chg [] wx w') := fun wx hx => by
      have := implPrgAt_c p fs[m].Proc fs[m].Pc _ _ wx (hP1.out.chg0 hx)
      rw [hi'.out] at this
      exact this
    have hfst : True := trivial
    clear hW1 X0 X2 y0 y1 fX lX lb hs1 hx2
    go_wp2_with fail
    go_region_held3 (fun w' => w'.cell? ⟨X, 0, none⟩ = some (.slice AP p.Procs.length cP) ∧ w'.cell? ⟨b, off + m * 4, none⟩ = some (.int .i64 fs[m].Proc) ∧ w'.cell? ⟨b, off + m * 4 + 1, none⟩ = some (.int .i64 fs[m].Pc)) (((try dsimp only); (repeat' apply And.intro) <;> (first | with_reducible assumption | (with_reducible refine (cell8 ?_).trans ?_ <;> (first | with_reducible assumption | exact n1X | exact n1b | exact naX | exact nab | exact nbX | exact nbb | exact ncX | exact ncb)) | (go_keep; done))))
      (first | (go_at_call 174; (first | (clear hfst; refine (htop _ (Chg.c)).mono ?_; rintro e wa ⟨rfl, hqwa⟩; have hKwa : Chg [] w1 wa := Chg.trans0 (show Chg [] w1 _ from Chg.c) hqwa; have X0wa := hKwa.cell0 X01; have y0wa := hKwa.cell0 y01; have y1wa := hKwa.cell0 y11; have swa := hKwa.size; have naX : ¬ X = wa.heap.size := Nat.ne_of_lt (Nat.lt_of_lt_of_le lX1 swa); have nab : ¬ b = wa.heap.size := Nat.ne_of_lt (Nat.lt_of_lt_of_le lb1 swa); have zw1c0 := hqwa.cells.1 w1.heap.size 0; have zw1c1 := hqwa.cells.1 w1.heap.size 1; have zw1c2 := hqwa.cells.1 w1.heap.size 2; have zw1c3 := hqwa.cells.1 w1.heap.size 3; have zw1c4 := hqwa.cells.1 w1.heap.size 4; have zw1c5 := hqwa.cells.1 w1.heap.size 5; have zw1c6 := hqwa.cells.1 w1.heap.size 6; have zw1c7 := hqwa.cells.1 w1.heap.size 7; have zw1f0 := hqwa.cells.2 w1.heap.size 0; have zw1f1 := hqwa.cells.2 w1.heap.size 1; have zw1f2 := hqwa.cells.2 w1.heap.size 2; have zw1f3 := hqwa.cells.2 w1.heap.size 3; have zw1f4 := hqwa.cells.2 w1.heap.size 4; have zw1f5 := hqwa.cells.2 w1.heap.size 5; have zw1f6 := hqwa.cells.2 w1.heap.size 6; have zw1f7 := hqwa.cells.2 w1.heap.size 7; have szwa := hqwa.size; (try simp only [World.size_alloc, World.size_setCell, World.size_drew] at szwa); (try have lt_w1_wa := Nat.lt_of_succ_le szwa)) | (refine (htop _ (Chg.k)).mono ?_; rintro e wb ⟨rfl, hqwb⟩; have hKwb : Chg [] w1 wb := Chg.trans0 (show Chg [] w1 _ from Chg.k) hqwb; have X0wb := hKwb.cell0 X01; have y0wb := hKwb.cell0 y01; have y1wb := hKwb.cell0 y11; have swb := hKwb.size; have nbX : ¬ X = wb.heap.size := Nat.ne_of_lt (Nat.lt_of_lt_of_le lX1 swb); have nbb : ¬ b = wb.heap.size := Nat.ne_of_lt (Nat.lt_of_lt_of_le lb1 swb); have zw1c0 := hqwb.cells.1 w1.heap.size 0; have zw1c1 := hqwb.cells.1 w1.heap.size 1; have zw1c2 := hqwb.cells.1 w1.heap.size 2; have zw1c3 := hqwb.cells.1 w1.heap.size 3; have zw1c4 := hqwb.cells.1 w1.heap.size 4; have zw1c5 := hqwb.cells.1 w1.heap.size 5; have zw1c6 := hqwb.cells.1 w1.heap.size 6; have zw1c7 := hqwb.cells.1 w1.heap.size 7; have zwac0 := hqwb.cells.1 wa.heap.size 0; have zwac1 := hqwb.cells.1 wa.heap.size 1; have zwac2 := hqwb.cells.1 wa.heap.size 2; have zwac3 := hqwb.cells.1 wa.heap.size 3; have zwac4 := hqwb.cells.1 wa.heap.size 4; have zwac5 := hqwb.cells.1 wa.heap.size 5; have zwac6 := hqwb.cells.1 wa.heap.size 6; have zwac7 := hqwb.cells.1 wa.heap.size 7; have zw1f0 := hqwb.cells.2 w1.heap.size 0; have zw1f1 := hqwb.cells.2 w1.heap.size 1; have zw1f2 := hqwb.cells.2 w1.heap.size 2; have zw1f3 := hqwb.cells.2 w1.heap.size 3; have zw1f4 := hqwb.cells.2 w1.heap.size 4; have zw1f5 := hqwb.cells.2 w1.heap.size 5; have zw1f6 := hqwb.cells.2 w1.heap.size 6; have zw1f7 := hqwb.cells.2 w1.heap.size 7; have zwaf0 := hqwb.cells.2 wa.heap.size 0; have zwaf1 := hqwb.cells.2 wa.heap.size 1; have zwaf2 := hqwb.cells.2 wa.heap.size 2; have zwaf3 := hqwb.cells.2 wa.heap.size 3; have zwaf4 := hqwb.cells.2 wa.heap.size 4; have zwaf5 := hqwb.cells.2 wa.heap.size 5; have zwaf6 := hqwb.cells.2 wa.heap.size 6; have zwaf7 := hqwb.cells.2 wa.heap.size 7; have szwb := hqwb.size; (try simp only [World.size_alloc, World.size_setCell, World.size_drew] at szwb); (try have lt_wa_wb := Nat.lt_of_succ_le szwb); (try have lt_w1_wb := Nat.lt_of_lt_of_le lt_w1_wa (Nat.le_of_lt_succ (Nat.lt_succ_of_le szwb)))))) | (go_at_call 75; refine (hat _ (Chg.k)).mono ?_; rintro e wc ⟨rfl, hqwc⟩; have hKwc : Chg [] w1 wc := Chg.trans0 (show Chg [] w1 _ from Chg.k) hqwc; have X0wc := hKwc.cell0 X01; have y0wc := hKwc.cell0 y01; have y1wc := hKwc.cell0 y11; have swc := hKwc.size; have ncX : ¬ X = wc.heap.size := Nat.ne_of_lt (Nat.lt_of_lt_of_le lX1 swc); have ncb : ¬ b = wc.heap.size := Nat.ne_of_lt (Nat.lt_of_lt_of_le lb1 swc); have zw1c0 := hqwc.cells.1 w1.heap.size 0; have zw1c1 := hqwc.cells.1 w1.heap.size 1; have zw1c2 := hqwc.cells.1 w1.heap.size 2; have zw1c3 := hqwc.cells.1 w1.heap.size 3; have zw1c4 := hqwc.cells.1 w1.heap.size 4; have zw1c5 := hqwc.cells.1 w1.heap.size 5; have zw1c6 := hqwc.cells.1 w1.heap.size 6; have zw1c7 := hqwc.cells.1 w1.heap.size 7; have zwac0 := hqwc.cells.1 wa.heap.size 0; have zwac1 := hqwc.cells.1 wa.heap.size 1; have zwac2 := hqwc.cells.1 wa.heap.size 2; have zwac3 := hqwc.cells.1 wa.heap.size 3; have zwac4 := hqwc.cells.1 wa.heap.size 4; have zwac5 := hqwc.cells.1 wa.heap.size 5; have zwac6 := hqwc.cells.1 wa.heap.size 6; have zwac7 := hqwc.cells.1 wa.heap.size 7; have zwbc0 := hqwc.cells.1 wb.heap.size 0; have zwbc1 := hqwc.cells.1 wb.heap.size 1; have zwbc2 := hqwc.cells.1 wb.heap.size 2; have zwbc3 := hqwc.cells.1 wb.heap.size 3; have zwbc4 := hqwc.cells.1 wb.heap.size 4; have zwbc5 := hqwc.cells.1 wb.heap.size 5; have zwbc6 := hqwc.cells.1 wb.heap.size 6; have zwbc7 := hqwc.cells.1 wb.heap.size 7; have zw1f0 := hqwc.cells.2 w1.heap.size 0; have zw1f1 := hqwc.cells.2 w1.heap.size 1; have zw1f2 := hqwc.cells.2 w1.heap.size 2; have zw1f3 := hqwc.cells.2 w1.heap.size 3; have zw1f4 := hqwc.cells.2 w1.heap.size 4; have zw1f5 := hqwc.cells.2 w1.heap.size 5; have zw1f6 := hqwc.cells.2 w1.heap.size 6; have zw1f7 := hqwc.cells.2 w1.heap.size 7; have zwaf0 := hqwc.cells.2 wa.heap.size 0; have zwaf1 := hqwc.cells.2 wa.heap.size 1; have zwaf2 := hqwc.cells.2 wa.heap.size 2; have zwaf3 := hqwc.cells.2 wa.heap.size 3; have zwaf4 := hqwc.cells.2 wa.heap.size 4; have zwaf5 := hqwc.cells.2 wa.heap.size 5; have zwaf6 := hqwc.cells.2 wa.heap.size 6; have zwaf7 := hqwc.cells.2 wa.heap.size 7; have zwbf0 := hqwc.cells.2 wb.heap.size 0; have zwbf1 := hqwc.cells.2 wb.heap.size 1; have zwbf2 := hqwc.cells.2 wb.heap.size 2; have zwbf3 := hqwc.cells.2 wb.heap.size 3; have zwbf4 := hqwc.cells.2 wb.heap.size 4; have zwbf5 := hqwc.cells.2 wb.heap.size 5; have zwbf6 := hqwc.cells.2 wb.heap.size 6; have zwbf7 := hqwc.cells.2 wb.heap.size 7; have szwc := hqwc.size; (try simp only [World.size_alloc, World.size_setCell, World.size_drew] at szwc); (try have lt_wb_wc := Nat.lt_of_succ_le szwc); (try have lt_w1_wc := Nat.lt_of_lt_of_le lt_w1_wb (Nat.le_of_lt_succ (Nat.lt_succ_of_le szwc))); (try have lt_wa_wc := Nat.lt_of_lt_of_le lt_wa_wb (Nat.le_of_lt_succ (Nat.lt_succ_of_le szwc)))))
    · generalize hW6 : World.alloc wc _ = w6
      have D6 : w6.cell? ⟨wc.heap.size, 1, none⟩ = some (.int .i64 (dD : Int)) := by have e := hW6; clear hW6; rw [← e]; clear e; simp [go_sem]
      have hK6 : Chg [] w1 w6 := hW6 ▸ Chg.k
      clear hW6
      have hR6 := Lib.hid (hR1.out.chg0 hK6)
      have hO6 := Lib.hid (hO1.out.chg0 hK6)
      have hX6 := Lib.hid (hX1.out.chg0 hK6)
      obtain ⟨b6, off6, cap6, vV, vC, FV, FC, F6⟩ := frame_in hR6.out hO6.out (i := m) hl1.out
      obtain ⟨bV, oV, cV, E6⟩ := int_at F6.rV F6.oV hdD'.out
      have ev := F6.eq
      rw [hl2.out] at ev
      injection ev with ev1 _ ev2
      injection ev1 with ev1
      injection ev1 with ev1 ev3
      subst ev1 ev2 ev3
      have eV := E6.eq
      subst eV
      have c16 := F6.c1
      have c26 := F6.c2
      have cD6 := E6.cell
      have fz6 := F6.fz (off + m * 4 + 1)
      have fzV := E6.fz (oV + dD)
      have lb6 : b < w6.heap.size := World.block_lt_of_cell? _ _ c16
      have lV6 : bV < w6.heap.size := World.block_lt_of_cell? _ _ cD6
      have hnb : ¬ bV = b := fun e => F6.bV (e ▸ E6.mem)
      have hnb' : ¬ b = bV := fun e => hnb e.symm
      simp only [List.getElem_take] at c16 c26 cD6
      have hdI : (dD : Int) < fs[m].Vars.length := by have := hdD'.out; rw [eg'.out] at this; omega
      have htop6 := fun (wx : World) (hx : Chg [] w6 wx) => top_c X b off m cap wx (hx.cell0 hX6.out.c2) (by omega)
      have F6' := Lib.hid F6
      have E6' := Lib.hid E6
      clear F6 E6 
      go_wp2_with fail
      go_region_with (first | (go_at_call 174; refine (htop6 _ (Chg.c)).mono ?_; rintro e w7 ⟨rfl, hc7⟩; have hK7 : Chg [] w6 w7 := Chg.trans0 (show Chg [] w6 _ from Chg.c) hc7; have D7 := hK7.cell0 D6; have c17 := hK7.cell0 c16; have c27 := hK7.cell0 c26; have cD7 := hK7.cell0 cD6; have fz7 := (hK7.cells.2 b (off + m * 4 + 1) lb6).trans fz6; have fzV7 := (hK7.cells.2 bV (oV + dD) lV6).trans fzV))
      all_goals
        generalize hW8 : World.setCell _ _ _ = w8
        have e8 : RL w8 _ _ FV ∧ Own w8 FV ∧ Chg FV w6 w8 := hW8 ▸ (E6'.out.set w7 n hK7 hn'.out)
        have hX8 := hX6.out.chg e8.2.2 (fun hx => hXG2.out (F6'.out.subV _ hx))
        have X28 := hX8.c2
        have c18 := (e8.2.2.cell (p := ⟨b, off + m * 4 + 1, none⟩) lb6 F6'.out.bV).trans c16
        have fz8 := (show w8.frozen? ⟨b, off + m * 4 + 1, none⟩ = w6.frozen? ⟨b, off + m * 4 + 1, none⟩ from World.frozen?_of_block (e8.2.2.block b lb6 F6'.out.bV)).trans fz6
        have lb8 := Nat.lt_of_lt_of_le lb6 e8.2.2.size
        have hX8' := Lib.hid hX8
        have e8' := Lib.hid e8
        obtain ⟨hq1, hq2⟩ := hq'.out
        clear hW8 e8 hX8
        go_wp2_with (go_at_call 174; refine (top_c X b off m cap w8 X28 (by clear hq1 hq2; omega)).mono ?_; rintro e w9 ⟨rfl, hc9⟩; have c19 := hc9.cell0 c18; have fz9 := (hc9.cells.2 b (off + m * 4 + 1) lb8).trans fz8)
        go_end0
        have hs := F6'.out.setVP w9 _ (fs[m].Pc + 1) (e8'.out.1.chg0 hc9) (e8'.out.2.1.chg0 hc9) (e8'.out.2.2.trans0 hc9) hq'.out
        have hA : Chg (X :: G) w w6 := (hXw.mono (fun g hg => List.mem_cons.2 (Or.inl (List.mem_singleton.1 hg)))).trans0 hK6
        have hB : Chg (X :: G) w w8 := hA.trans e8'.out.2.2 (fun g hg => Or.inl (List.mem_cons_of_mem _ (hs2.out g (F6'.out.subV g hg))))
        have hC := hB.trans0 hc9
        refine ⟨rfl, _, G2, ((hX8'.out.chg0 hc9).chg (G := [b]) ((Chg.refl [b] w9).setCell (Or.inl (by simp)) _) (fun hx => hXb (List.mem_singleton.1 hx))).fr _, hC.setCell (Or.inl (List.mem_cons_of_mem _ (hs2.out b F6'.out.mem))) _, ?_, hs.2, fun g hg => Or.inl (hs2.out g hg)⟩
        have hs1 := hs.1
        rw [eg'.out] at hs1
        exact hs1
    · generalize hW6 : World.setCell _ _ _ = w6
      have D6 : w6.cell? ⟨wb.heap.size, 1, none⟩ = some (.int .i64 (dD : Int)) := by have e := hW6; clear hW6; rw [← e]; clear e; simp [go_sem, lt_wb_wc, zwbc1]
      have hK6 : Chg [] w1 w6 := hW6 ▸ Chg.k
      clear hW6
      have hR6 := Lib.hid (hR1.out.chg0 hK6)
      have hO6 := Lib.hid (hO1.out.chg0 hK6)
      have hX6 := Lib.hid (hX1.out.chg0 hK6)
      obtain ⟨b6, off6, cap6, vV, vC, FV, FC, F6⟩ := frame_in hR6.out hO6.out (i := m) hl1.out
      obtain ⟨bV, oV, cV, E6⟩ := int_at F6.rV F6.oV hdD'.out
      have ev := F6.eq
      rw [hl2.out] at ev
      injection ev with ev1 _ ev2
      injection ev1 with ev1
      injection ev1 with ev1 ev3
      subst ev1 ev2 ev3
      have eV := E6.eq
      subst eV
      have c16 := F6.c1
      have c26 := F6.c2
      have cD6 := E6.cell
      have fz6 := F6.fz (off + m * 4 + 1)
      have fzV := E6.fz (oV + dD)
      have lb6 : b < w6.heap.size := World.block_lt_of_cell? _ _ c16
      have lV6 : bV < w6.heap.size := World.block_lt_of_cell? _ _ cD6
      have hnb : ¬ bV = b := fun e => F6.bV (e ▸ E6.mem)
      have hnb' : ¬ b = bV := fun e => hnb e.symm
      simp only [List.getElem_take] at c16 c26 cD6
      have hdI : (dD : Int) < fs[m].Vars.length := by have := hdD'.out; rw [eg'.out] at this; omega
      have htop6 := fun (wx : World) (hx : Chg [] w6 wx) => top_c X b off m cap wx (hx.cell0 hX6.out.c2) (by omega)
      have F6' := Lib.hid F6
      have E6' := Lib.hid E6
      clear F6 E6 
      go_wp2_with fail
      go_region_with (first | (go_at_call 174; refine (htop6 _ (Chg.c)).mono ?_; rintro e w7 ⟨rfl, hc7⟩; have hK7 : Chg [] w6 w7 := Chg.trans0 (show Chg [] w6 _ from Chg.c) hc7; have D7 := hK7.cell0 D6; have c17 := hK7.cell0 c16; have c27 := hK7.cell0 c26; have cD7 := hK7.cell0 cD6; have fz7 := (hK7.cells.2 b (off + m * 4 + 1) lb6).trans fz6; have fzV7 := (hK7.cells.2 bV (oV + dD) lV6).trans fzV))
      all_goals
        generalize hW8 : World.setCell _ _ _ = w8
        have e8 : RL w8 _ _ FV ∧ Own w8 FV ∧ Chg FV w6 w8 := hW8 ▸ (E6'.out.set w7 n hK7 hn'.out)
        have hX8 := hX6.out.chg e8.2.2 (fun hx => hXG2.out (F6'.out.subV _ hx))
        have X28 := hX8.c2
        have c18 := (e8.2.2.cell (p := ⟨b, off + m * 4 + 1, none⟩) lb6 F6'.out.bV).trans c16
        have fz8 := (show w8.frozen? ⟨b, off + m * 4 + 1, none⟩ = w6.frozen? ⟨b, off + m * 4 + 1, none⟩ from World.frozen?_of_block (e8.2.2.block b lb6 F6'.out.bV)).trans fz6
        have lb8 := Nat.lt_of_lt_of_le lb6 e8.2.2.size
        have hX8' := Lib.hid hX8
        have e8' := Lib.hid e8
        obtain ⟨hq1, hq2⟩ := hq'.out
        clear hW8 e8 hX8
        go_wp2_with (go_at_call 174; refine (top_c X b off m cap w8 X28 (by clear hq1 hq2; omega)).mono ?_; rintro e w9 ⟨rfl, hc9⟩; have c19 := hc9.cell0 c18; have fz9 := (hc9.cells.2 b (off + m * 4 + 1) lb8).trans fz8)
        go_end0
        have hs := F6'.out.setVP w9 _ (fs[m].Pc + 1) (e8'.out.1.chg0 hc9) (e8'.out.2.1.chg0 hc9) (e8'.out.2.2.trans0 hc9) hq'.out
        have hA : Chg (X :: G) w w6 := (hXw.mono (fun g hg => List.mem_cons.2 (Or.inl (List.mem_singleton.1 hg)))).trans0 hK6
        have hB : Chg (X :: G) w w8 := hA.trans e8'.out.2.2 (fun g hg => Or.inl (List.mem_cons_of_mem _ (hs2.out g (F6'.out.subV g hg))))
        have hC := hB.trans0 hc9
        refine ⟨rfl, _, G2, ((hX8'.out.chg0 hc9).chg (G := [b]) ((Chg.refl [b] w9).setCell (Or.inl (by simp)) _) (fun hx => hXb (List.mem_singleton.1 hx))).fr _, hC.setCell (Or.inl (List.mem_cons_of_mem _ (hs2.out b F6'.out.mem))) _, ?_, hs.2, fun g hg => Or.inl (hs2.out g hg)⟩
        have hs1 := hs.1
        rw [eg'.out] at hs1
        exact hs1
    · generalize hW6 : World.setCell _ _ _ = w6
      have D6 : w6.cell? ⟨wa.heap.size, 1, none⟩ = some (.int .i64 (dD : Int)) := by have e := hW6; clear hW6; rw [← e]; clear e; go_simp
      have hK6 : Chg [] w1 w6 := hW6 ▸ Chg.k
      clear hW6
      have hR6 := Lib.hid (hR1.out.chg0 hK6)
      have hO6 := Lib.hid (hO1.out.chg0 hK6)
      have hX6 := Lib.hid (hX1.out.chg0 hK6)
      obtain ⟨b6, off6, cap6, vV, vC, FV, FC, F6⟩ := frame_in hR6.out hO6.out (i := m) hl1.out
      obtain ⟨bV, oV, cV, E6⟩ := int_at F6.rV F6.oV hdD'.out
      have ev := F6.eq
      rw [hl2.out] at ev
      injection ev with ev1 _ ev2
      injection ev1 with ev1
      injection ev1 with ev1 ev3
      subst ev1 ev2 ev3
      have eV := E6.eq
      subst eV
      have c16 := F6.c1
      have c26 := F6.c2
      have cD6 := E6.cell
      have fz6 := F6.fz (off + m * 4 + 1)
      have fzV := E6.fz (oV + dD)
      have lb6 : b < w6.heap.size := World.block_lt_of_cell? _ _ c16
      have lV6 : bV < w6.heap.size := World.block_lt_of_cell? _ _ cD6
      have hnb : ¬ bV = b := fun e => F6.bV (e ▸ E6.mem)
      have hnb' : ¬ b = bV := fun e => hnb e.symm
      simp only [List.getElem_take] at c16 c26 cD6
      have hdI : (dD : Int) < fs[m].Vars.length := by have := hdD'.out; rw [eg'.out] at this; omega
      have htop6 := fun (wx : World) (hx : Chg [] w6 wx) => top_c X b off m cap wx (hx.cell0 hX6.out.c2) (by omega)
      have F6' := Lib.hid F6
      have E6' := Lib.hid E6
      clear F6 E6 
      go_wp2_with fail
      go_region_with (first | (go_at_call 174; refine (htop6 _ (Chg.c)).mono ?_; rintro e w7 ⟨rfl, hc7⟩; have hK7 : Chg [] w6 w7 := Chg.trans0 (show Chg [] w6 _ from Chg.c) hc7; have D7 := hK7.cell0 D6; have c17 := hK7.cell0 c16; have c27 := hK7.cell0 c26; have cD7 := hK7.cell0 cD6; have fz7 := (hK7.cells.2 b (off + m * 4 + 1) lb6).trans fz6; have fzV7 := (hK7.cells.2 bV (oV + dD) lV6).trans fzV))
      all_goals
        generalize hW8 : World.setCell _ _ _ = w8
        have e8 : RL w8 _ _ FV ∧ Own w8 FV ∧ Chg FV w6 w8 := hW8 ▸ (E6'.out.set w7 n hK7 hn'.out)
        have hX8 := hX6.out.chg e8.2.2 (fun hx => hXG2.out (F6'.out.subV _ hx))
        have X28 := hX8.c2
        have c18 := (e8.2.2.cell (p := ⟨b, off + m * 4 + 1, none⟩) lb6 F6'.out.bV).trans c16
        have fz8 := (show w8.frozen? ⟨b, off + m * 4 + 1, none⟩ = w6.frozen? ⟨b, off + m * 4 + 1, none⟩ from World.frozen?_of_block (e8.2.2.block b lb6 F6'.out.bV)).trans fz6
        have lb8 := Nat.lt_of_lt_of_le lb6 e8.2.2.size
        have hX8' := Lib.hid hX8
        have e8' := Lib.hid e8
        obtain ⟨hq1, hq2⟩ := hq'.out
        clear hW8 e8 hX8
        go_wp2_with (go_at_call 174; refine (top_c X b off m cap w8 X28 (by clear hq1 hq2; omega)).mono ?_; rintro e w9 ⟨rfl, hc9⟩; have c19 := hc9.cell0 c18; have fz9 := (hc9.cells.2 b (off + m * 4 + 1) lb8).trans fz8)
        go_end0
        have hs := F6'.out.setVP w9 _ (fs[m].Pc + 1) (e8'.out.1.chg0 hc9) (e8'.out.2.1.chg0 hc9) (e8'.out.2.2.trans0 hc9) hq'.out
        have hA : Chg (X :: G) w w6 := (hXw.mono (fun g hg => List.mem_cons.2 (Or.inl (List.mem_singleton.1 hg)))).trans0 hK6
        have hB : Chg (X :: G) w w8 := hA.trans e8'.out.2.2 (fun g hg => Or.inl (List.mem_cons_of_mem _ (hs2.out g (F6'.out.subV g hg))))
        have hC := hB.trans0 hc9
        refine ⟨rfl, _, G2, ((hX8'.out.chg0 hc9).chg (G := [b]) ((Chg.refl [b] w9).setCell (Or.inl (by simp)) _) (fun hx => hXb (List.mem_singleton.1 hx))).fr _, hC.setCell (Or.inl (List.mem_cons_of_mem _ (hs2.out b F6'.out.mem))) _, ?_, hs.2, fun g hg => Or.inl (hs2.out g hg)⟩
        have hs1 := hs.1
        rw [eg'.out] at hs1
        exact hs1
    · generalize hW6 : World.setCell _ _ _ = w6
      have D6 : w6.cell? ⟨w1.heap.size, 1, none⟩ = some (.int .i64 (dD : Int)) := by have e := hW6; clear hW6; rw [← e]; clear e; go_simp
      have hK6 : Chg [] w1 w6 := hW6 ▸ Chg.k
      clear hW6
      have hR6 := Lib.hid (hR1.out.chg0 hK6)
      have hO6 := Lib.hid (hO1.out.chg0 hK6)
      have hX6 := Lib.hid (hX1.out.chg0 hK6)
      obtain ⟨b6, off6, cap6, vV, vC, FV, FC, F6⟩ := frame_in hR6.out hO6.out (i := m) hl1.out
      obtain ⟨bV, oV, cV, E6⟩ := int_at F6.rV F6.oV hdD'.out
      have ev := F6.eq
      rw [hl2.out] at ev
      injection ev with ev1 _ ev2
      injection ev1 with ev1
      injection ev1 with ev1 ev3
      subst ev1 ev2 ev3
      have eV := E6.eq
      subst eV
      have c16 := F6.c1
      have c26 := F6.c2
      have cD6 := E6.cell
      have fz6 := F6.fz (off + m * 4 + 1)
      have fzV := E6.fz (oV + dD)
      have lb6 : b < w6.heap.size := World.block_lt_of_cell? _ _ c16
      have lV6 : bV < w6.heap.size := World.block_lt_of_cell? _ _ cD6
      have hnb : ¬ bV = b := fun e => F6.bV (e ▸ E6.mem)
      have hnb' : ¬ b = bV := fun e => hnb e.symm
      simp only [List.getElem_take] at c16 c26 cD6
      have hdI : (dD : Int) < fs[m].Vars.length := by have := hdD'.out; rw [eg'.out] at this; omega
      have htop6 := fun (wx : World) (hx : Chg [] w6 wx) => top_c X b off m cap wx (hx.cell0 hX6.out.c2) (by omega)
      have F6' := Lib.hid F6
      have E6' := Lib.hid E6
      clear F6 E6 
      go_wp2_with fail
      go_region_with (first | (go_at_call 174; refine (htop6 _ (Chg.c)).mono ?_; rintro e w7 ⟨rfl, hc7⟩; have hK7 : Chg [] w6 w7 := Chg.trans0 (show Chg [] w6 _ from Chg.c) hc7; have D7 := hK7.cell0 D6; have c17 := hK7.cell0 c16; have c27 := hK7.cell0 c26; have cD7 := hK7.cell0 cD6; have fz7 := (hK7.cells.2 b (off + m * 4 + 1) lb6).trans fz6; have fzV7 := (hK7.cells.2 bV (oV + dD) lV6).trans fzV))
      all_goals
        generalize hW8 : World.setCell _ _ _ = w8
        have e8 : RL w8 _ _ FV ∧ Own w8 FV ∧ Chg FV w6 w8 := hW8 ▸ (E6'.out.set w7 n hK7 hn'.out)
        have hX8 := hX6.out.chg e8.2.2 (fun hx => hXG2.out (F6'.out.subV _ hx))
        have X28 := hX8.c2
        have c18 := (e8.2.2.cell (p := ⟨b, off + m * 4 + 1, none⟩) lb6 F6'.out.bV).trans c16
        have fz8 := (show w8.frozen? ⟨b, off + m * 4 + 1, none⟩ = w6.frozen? ⟨b, off + m * 4 + 1, none⟩ from World.frozen?_of_block (e8.2.2.block b lb6 F6'.out.bV)).trans fz6
        have lb8 := Nat.lt_of_lt_of_le lb6 e8.2.2.size
        have hX8' := Lib.hid hX8
        have e8' := Lib.hid e8
        obtain ⟨hq1, hq2⟩ := hq'.out
        clear hW8 e8 hX8
        go_wp2_with (go_at_call 174; refine (top_c X b off m cap w8 X28 (by clear hq1 hq2; omega)).mono ?_; rintro e w9 ⟨rfl, hc9⟩; have c19 := hc9.cell0 c18; have fz9 := (hc9.cells.2 b (off + m * 4 + 1) lb8).trans fz8)
        go_end0
        have hs := F6'.out.setVP w9 _ (fs[m].Pc + 1) (e8'.out.1.chg0 hc9) (e8'.out.2.1.chg0 hc9) (e8'.out.2.2.trans0 hc9) hq'.out
        have hA : Chg (X :: G) w w6 := (hXw.mono (fun g hg => List.mem_cons.2 (Or.inl (List.mem_singleton.1 hg)))).trans0 hK6
        have hB : Chg (X :: G) w w8 := hA.trans e8'.out.2.2 (fun g hg => Or.inl (List.mem_cons_of_mem _ (hs2.out g (F6'.out.subV g hg))))
        have hC := hB.trans0 hc9
        refine ⟨rfl, _, G2, ((hX8'.out.chg0 hc9).chg (G := [b]) ((Chg.refl [b] w9).setCell (Or.inl (by simp)) _) (fun hx => hXb (List.mem_singleton.1 hx))).fr _, hC.setCell (Or.inl (List.mem_cons_of_mem _ (hs2.out b F6'.out.mem))) _, ?_, hs.2, fun g hg => Or.inl (hs2.out g hg)⟩
        have hs1 := hs.1
        rw [eg'.out] at hs1
        exact hs1
end Go.Proofs.YtjakhnhnjhafgaaGreat.Wk
