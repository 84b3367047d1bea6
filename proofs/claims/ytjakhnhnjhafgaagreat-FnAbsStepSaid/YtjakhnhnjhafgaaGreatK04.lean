/- A part of the proof. -/
import Derived.Test.YtjakhnhnjhafgaaGreatK03
import Derived.Test.YtjakhnhnjhafgaaGreatK02
import Derived.Deep.RegionHeld3
set_option linter.unusedVariables false
set_option linter.unusedSimpArgs false
namespace Go.Proofs.YtjakhnhnjhafgaaGreat.Wk
open Go Go.RowKit Go.Deep Ow
open Rp (R sz)
def StepRes(X:Nat)(vP:Value)(G:List Nat)(x:RunRun)(w:World)(e:Ending)(w':World):Prop:=
 StepOut X vP G x w e w'∨(StepBad 182 X G x w e w'∧x.Frames=[])
theorem codeOfA_c(i:InsIns)(w:World)(h:1≤i.Op∧i.Op≤4):Calls Tryz.prog 120 #[insV i] w fun e w'=>e=.returned (.iface 175 (.agg #[.int .i64 i.Op,.int .i64 i.D,.int .i64 i.A,.int .i64 i.B]))∧Chg [] w w':=by
 rcases (by omega:i.Op=1∨i.Op=2∨i.Op=3∨i.Op=4) with h|h|h|h
 · exact codeOf1_c i w h
 · exact codeOf2_c i w h
 · exact codeOf3_c i w h
 · exact codeOf4_c i w h
set_option maxRecDepth 100000 in
set_option maxHeartbeats 8000000 in
theorem impStep9_c(p:PrgProg)(fs:List RunFrame)(inp:Int)(X:Nat)(vP:Value)(FP:List Nat)(v:Value)(G:List Nat)(w:World)(hP:RL w p.Procs vP FP)(hXP:X∉FP)(hX:RunX w X vP (goes fs) v)(h:RL w fs v G)(ho:Own w G)(hXG:X∉G)(hroom:Room w 58 v fs.length)(hin:I64 inp)(hok:runOk p (goes fs)=true)
 (hsel:∀(m:Nat) (hml:m<fs.length) (i:InsIns),fs.length=m+1→prgAt p fs[m].Proc fs[m].Pc=some i→i.Op=9) :
 Calls Tryz.prog 130 #[.pointer (some ⟨X,0,none⟩),.int .i64 inp] w (StepRes X vP G (stepped p (goes fs) inp) w):=by
 have F:=goes_facts hok rfl
 have hp:=F.prg
 obtain ⟨m,hm'⟩:∃m,Hid (fs.length=m+1):=⟨fs.length-1,Lib.hid (by have:=F.n1;simp only [goes] at this;omega)⟩
 have hml:m<fs.length:=by have:=hm'.out;omega
 have n5:fs.length≤5:=F.n5
 have hN:nestOk p fs=true:=F.nest
 obtain ⟨i,hi,hV,hC,nV,nC⟩:=frame_facts ((nest_iff p _).1 hN m hml).1
 obtain ⟨kp,jp,At⟩:=prgAt_facts hp hi
 have I:=ins_facts At.ok
 have hop:=hsel m hml i hm'.out hi
 have hPc:I64 (fs[m].Pc+1):=by have h1:=At.epc;have h2:=At.j10;unfold I64;omega
 obtain ⟨dA,hA⟩:=Int.eq_ofNat_of_zero_le I.a0
 obtain ⟨dB,hB⟩:=Int.eq_ofNat_of_zero_le I.b0
 obtain ⟨dD,hD⟩:=Int.eq_ofNat_of_zero_le I.d0
 have lA:dA<fs[m].Vars.length:=by have:=I.a4;omega
 have lB:dB<fs[m].Vars.length:=by have:=I.b4;omega
 have lD:dD<fs[m].Vars.length:=by have:=I.d4;omega
 have nA:=nV _ (List.getElem_mem lA)
 have nB:=nV _ (List.getElem_mem lB)
 have hsub:((m:Int)+1-1)=m:=by omega
 have hm4:(m:Int)≤4:=by have:=hm'.out;omega
 have hmB:(m:Int)+1≤9223372036854775807:=by omega
 have hdA:(dA:Int)<fs[m].Vars.length:=by omega
 have hdB:(dB:Int)<fs[m].Vars.length:=by omega
 have hdD:(dD:Int)<fs[m].Vars.length:=by omega
 obtain ⟨AP,cP,rfl,-,-⟩:=hP.form
 obtain ⟨b,off,cap,vV,vC,FV,FC,Fm⟩:=frame_in h ho (i:=m) hml
 have ev:=Fm.eq
 rw [hm'.out] at ev
 subst ev
 obtain ⟨bV,oV,cV,EA⟩:=int_at Fm.rV Fm.oV lA
 have eV:=EA.eq
 subst eV
 obtain ⟨bB,oB,cB,EB⟩:=int_at Fm.rV Fm.oV lB
 have eB:=EB.eq
 injection eB with eB1 _ eB2
 injection eB1 with eB1
 injection eB1 with eB1 eB3
 subst eB1 eB2 eB3
 obtain ⟨bE,oE,cE,ED⟩:=int_at Fm.rV Fm.oV lD
 have eD:=ED.eq
 injection eD with eD1 _ eD2
 injection eD1 with eD1
 injection eD1 with eD1 eD3
 subst eD1 eD2 eD3
 obtain ⟨AC,kC,rfl,-,-⟩:=Fm.rC.form
 obtain ⟨iOp,iD,iA,iB,iRel,iLo,iHi,iTo⟩:=i
 simp only at hA hB hD
 subst hA hB hD
 have hat:∀wx,Chg [] w wx→Calls Tryz.prog 75 #[.agg #[.slice AP p.Procs.length cP],.int .i64 fs[m].Proc,.int .i64 fs[m].Pc] wx (fun e w'=>e=.returned (atV (some ⟨iOp,dD,dA,dB,iRel,iLo,iHi,iTo⟩))∧Chg [] wx w'):=fun wx hx=>by
  have:=implPrgAt_c p fs[m].Proc fs[m].Pc _ _ wx (hP.chg0 hx)
  rw [hi] at this
  exact this
 have X0:=hX.c0
 have X2:=hX.c2
 have y0:=Fm.c0
 have y1:=Fm.c1
 have y2:=Fm.c2
 have y3:=Fm.c3
 have vA:=EA.cell
 have vB:=EB.cell
 have vD:=ED.cell
 have lX:=hX.lt
 have lb:b<w.heap.size:=World.block_lt_of_cell? _ _ y0
 have lV:bV<w.heap.size:=World.block_lt_of_cell? _ _ vA
 have hXb:¬X=b:=fun e=>hXG (e▸Fm.mem)
 have hnb:¬bV=b:=fun e=>Fm.bV (e▸EA.mem)
 have hnb':¬b=bV:=fun e=>hnb e.symm
 have zP:=Fm.fz (off+m*4+1)
 have zD:=ED.fz (oV+dD)
 have hP_:=Lib.hid hP
 have hX_:=Lib.hid hX
 have h_:=Lib.hid h
 have ho_:=Lib.hid ho
 have hXG_:=Lib.hid hXG
 have hXP_:=Lib.hid hXP
 have hroom_:=Lib.hid hroom
 have hp_:=Lib.hid hp
 have hN_:=Lib.hid hN
 have hi_:=Lib.hid hi
 have hV_:=Lib.hid hV
 have hC_:=Lib.hid hC
 have nV_:=Lib.hid nV
 have nC_:=Lib.hid nC
 have hop_:=Lib.hid hop
 have nA_:=Lib.hid nA
 have nB_:=Lib.hid nB
 have I_:=Lib.hid I
 have n5_:=Lib.hid n5
 have Fm_:=Lib.hid Fm
 have EA_:=Lib.hid EA
 have EB_:=Lib.hid EB
 have ED_:=Lib.hid ED
 have hPc_:=Lib.hid hPc
 clear hP hX h ho hXG hXP hroom hN hi hV hC nV nC hop nA nB I n5 Fm EA EB ED hPc hok F hsel hp
 have taarith:=ta_jump_arith iTo
 have taany:=ta_jump_any iTo
 have taload:=ta_jump_load iTo
 have tastore:=ta_jump_store iTo
 have taif:=ta_jump_if iTo
 have tajump:=ta_jump_jump iTo
 go_enter Tryz.func130,Tryz.ntmps130
 go_wp2_with (go_at_call 174;refine (top_c X b off m cap _ X2 hmB).mono ?_;rintro e w1 ⟨rfl,hc1⟩;have hK1:=hc1;have sw1:=hc1.size;have X01:=hc1.cell0 X0;have y01:=hc1.cell0 y0;have y11:=hc1.cell0 y1;have lX1:=Nat.lt_of_lt_of_le lX hc1.size;have lb1:=Nat.lt_of_lt_of_le lb hc1.size;have n1X:¬X=w1.heap.size:=Nat.ne_of_lt lX1;have n1b:¬b=w1.heap.size:=Nat.ne_of_lt lb1;clear hc1)
 clear hmB
 go_region_held3 (fun w'=>w'.cell? ⟨X,0,none⟩=some (.slice AP p.Procs.length cP)∧w'.cell? ⟨b,off+m*4,none⟩=some (.int .i64 fs[m].Proc)∧w'.cell? ⟨b,off+m*4+1,none⟩=some (.int .i64 fs[m].Pc)) (((try dsimp only);(repeat' apply And.intro)<;>(first|with_reducible assumption|(with_reducible refine (cell8 ?_).trans ?_<;>(first|with_reducible assumption|exact n1X|exact n1b|exact n2X|exact n2b))|(go_keep;done))))
  (first|(go_at_call 75;refine (hat _ (Chg.k)).mono ?_;rintro e w2 ⟨rfl,hq2⟩;have hK12:Chg [] w1 w2:=Chg.trans0 (show Chg [] w1 _ from Chg.c) hq2;have hK2:=hK1.trans0 hK12;have X02:=hK12.cell0 X01;have y02:=hK12.cell0 y01;have y12:=hK12.cell0 y11;have lX2:=Nat.lt_of_lt_of_le lX1 hK12.size;have lb2:=Nat.lt_of_lt_of_le lb1 hK12.size;have n2X:¬X=w2.heap.size:=Nat.ne_of_lt lX2;have n2b:¬b=w2.heap.size:=Nat.ne_of_lt lb2;have zc0:=hq2.cells.1 w1.heap.size 0;have zc1:=hq2.cells.1 w1.heap.size 1;have zc2:=hq2.cells.1 w1.heap.size 2;have zc3:=hq2.cells.1 w1.heap.size 3;have zc4:=hq2.cells.1 w1.heap.size 4;have zc5:=hq2.cells.1 w1.heap.size 5;have zc6:=hq2.cells.1 w1.heap.size 6;have zc7:=hq2.cells.1 w1.heap.size 7;have zf0:=hq2.cells.2 w1.heap.size 0;have zf1:=hq2.cells.2 w1.heap.size 1;have zf2:=hq2.cells.2 w1.heap.size 2;have zf3:=hq2.cells.2 w1.heap.size 3;have zf4:=hq2.cells.2 w1.heap.size 4;have zf5:=hq2.cells.2 w1.heap.size 5;have zf6:=hq2.cells.2 w1.heap.size 6;have zf7:=hq2.cells.2 w1.heap.size 7;have sz2:=hq2.size;(try simp only [World.size_alloc,World.size_setCell,World.size_drew] at sz2);(try have lt12:=Nat.lt_of_succ_le sz2)))
 all_goals
  obtain ⟨hq1,hq2b⟩:=hPc_.out
  go_wp2_with fail
  clear hq1 hq2b
  refine (codeOf9_c ⟨iOp,dD,dA,dB,iRel,iLo,iHi,iTo⟩ _ hop_.out).mono ?_
  rintro e w4 ⟨rfl,hc4⟩
  have hK4:Chg [] w w4:=Chg.trans0 (show Chg [] w _ from Chg.k) hc4
  replace X0:=hK4.cell0 X0
  replace X2:=hK4.cell0 X2
  replace y0:=hK4.cell0 y0
  replace y1:=hK4.cell0 y1
  replace y2:=hK4.cell0 y2
  replace y3:=hK4.cell0 y3
  replace vA:=hK4.cell0 vA
  replace vB:=hK4.cell0 vB
  replace vD:=hK4.cell0 vD
  replace zP:=(hK4.cells.2 b (off+m*4+1) lb).trans zP
  replace zD:=(hK4.cells.2 bV (oV+dD) lV).trans zD
  replace lX:=Nat.lt_of_lt_of_le lX hK4.size
  replace lb:=Nat.lt_of_lt_of_le lb hK4.size
  replace lV:=Nat.lt_of_lt_of_le lV hK4.size
  clear hat hc4 hK2 hK1 hK12 hq2 X01 X02 y01 y02 y11 y12 lX1 lX2 lb1 lb2 n1X n1b n2X n2b sz2 sw1 zc0 zf0 zc1 zf1 zc2 zf2 zc3 zf3 zc4 zf4 zc5 zf5 zc6 zf6 zc7 zf7
  try clear lt12
  obtain rfl:iOp=9:=hop_.out
  have hst:=Lib.hid (st_jump (inp:=inp) hm'.out hi_.out rfl)
  have hT:I64 iTo:=to_i64 hp_.out hi_.out (by simp)
  go_wp2
  go_end0
  have hs:=Fm_.out.setP w4 (iTo) hK4 hT
  have hcb:Chg [b] w4 (w4.setCell ⟨b,off+m*4+1,none⟩ (.int .i64 (iTo))):=(Chg.refl [b] w4).setCell (Or.inl (by simp)) _
  have hcx:Chg (X::G) w (w4.setCell ⟨b,off+m*4+1,none⟩ (.int .i64 (iTo))):=(hK4.of0).setCell (Or.inl (List.mem_cons_of_mem _ Fm_.out.mem)) _
  have hXf:=(hX_.out.chg0 hK4).chg hcb (fun hx=>hXb (List.mem_singleton.1 hx))
  show StepRes X _ G (stepped p (goes fs) inp) w _ _
  rw [hst.out]
  refine Or.inl ⟨rfl,_,G,(hXf.fr _).chg0 (by repeat (with_reducible first|exact Chg.refl _ _|refine Chg.alloc ?_ _|refine Chg.drew ?_)),?_,hs.1.chg0 (by repeat (with_reducible first|exact Chg.refl _ _|refine Chg.alloc ?_ _|refine Chg.drew ?_)),hs.2.chg0 (by repeat (with_reducible first|exact Chg.refl _ _|refine Chg.alloc ?_ _|refine Chg.drew ?_)),fun g hg=>Or.inl hg⟩
  repeat (with_reducible first|exact hcx|refine Chg.alloc ?_ _|refine Chg.drew ?_)
end Go.Proofs.YtjakhnhnjhafgaaGreat.Wk
namespace Go.Proofs.YtjakhnhnjhafgaaGreat.Wk
open Go Go.RowKit Go.Deep Ow
open Rp (R sz)
set_option maxRecDepth 100000 in
set_option maxHeartbeats 8000000 in
theorem impStep8_c(p:PrgProg)(fs:List RunFrame)(inp:Int)(X:Nat)(vP:Value)(FP:List Nat)(v:Value)(G:List Nat)(w:World)(hP:RL w p.Procs vP FP)(hXP:X∉FP)(hX:RunX w X vP (goes fs) v)(h:RL w fs v G)(ho:Own w G)(hXG:X∉G)(hroom:Room w 58 v fs.length)(hin:I64 inp)(hok:runOk p (goes fs)=true)
 (hsel:∀(m:Nat) (hml:m<fs.length) (i:InsIns),fs.length=m+1→prgAt p fs[m].Proc fs[m].Pc=some i→i.Op=8) :
 Calls Tryz.prog 130 #[.pointer (some ⟨X,0,none⟩),.int .i64 inp] w (StepRes X vP G (stepped p (goes fs) inp) w):=by
 have F:=goes_facts hok rfl
 have hp:=F.prg
 obtain ⟨m,hm'⟩:∃m,Hid (fs.length=m+1):=⟨fs.length-1,Lib.hid (by have:=F.n1;simp only [goes] at this;omega)⟩
 have hml:m<fs.length:=by have:=hm'.out;omega
 have n5:fs.length≤5:=F.n5
 have hN:nestOk p fs=true:=F.nest
 obtain ⟨i,hi,hV,hC,nV,nC⟩:=frame_facts ((nest_iff p _).1 hN m hml).1
 obtain ⟨kp,jp,At⟩:=prgAt_facts hp hi
 have I:=ins_facts At.ok
 have hop:=hsel m hml i hm'.out hi
 have hPc:I64 (fs[m].Pc+1):=by have h1:=At.epc;have h2:=At.j10;unfold I64;omega
 obtain ⟨dA,hA⟩:=Int.eq_ofNat_of_zero_le I.a0
 obtain ⟨dB,hB⟩:=Int.eq_ofNat_of_zero_le I.b0
 obtain ⟨dD,hD⟩:=Int.eq_ofNat_of_zero_le I.d0
 have lA:dA<fs[m].Vars.length:=by have:=I.a4;omega
 have lB:dB<fs[m].Vars.length:=by have:=I.b4;omega
 have lD:dD<fs[m].Vars.length:=by have:=I.d4;omega
 have nA:=nV _ (List.getElem_mem lA)
 have nB:=nV _ (List.getElem_mem lB)
 have hsub:((m:Int)+1-1)=m:=by omega
 have hm4:(m:Int)≤4:=by have:=hm'.out;omega
 have hmB:(m:Int)+1≤9223372036854775807:=by omega
 have hdA:(dA:Int)<fs[m].Vars.length:=by omega
 have hdB:(dB:Int)<fs[m].Vars.length:=by omega
 have hdD:(dD:Int)<fs[m].Vars.length:=by omega
 obtain ⟨AP,cP,rfl,-,-⟩:=hP.form
 obtain ⟨b,off,cap,vV,vC,FV,FC,Fm⟩:=frame_in h ho (i:=m) hml
 have ev:=Fm.eq
 rw [hm'.out] at ev
 subst ev
 obtain ⟨bV,oV,cV,EA⟩:=int_at Fm.rV Fm.oV lA
 have eV:=EA.eq
 subst eV
 obtain ⟨bB,oB,cB,EB⟩:=int_at Fm.rV Fm.oV lB
 have eB:=EB.eq
 injection eB with eB1 _ eB2
 injection eB1 with eB1
 injection eB1 with eB1 eB3
 subst eB1 eB2 eB3
 obtain ⟨bE,oE,cE,ED⟩:=int_at Fm.rV Fm.oV lD
 have eD:=ED.eq
 injection eD with eD1 _ eD2
 injection eD1 with eD1
 injection eD1 with eD1 eD3
 subst eD1 eD2 eD3
 obtain ⟨AC,kC,rfl,-,-⟩:=Fm.rC.form
 obtain ⟨iOp,iD,iA,iB,iRel,iLo,iHi,iTo⟩:=i
 simp only at hA hB hD
 subst hA hB hD
 have hat:∀wx,Chg [] w wx→Calls Tryz.prog 75 #[.agg #[.slice AP p.Procs.length cP],.int .i64 fs[m].Proc,.int .i64 fs[m].Pc] wx (fun e w'=>e=.returned (atV (some ⟨iOp,dD,dA,dB,iRel,iLo,iHi,iTo⟩))∧Chg [] wx w'):=fun wx hx=>by
  have:=implPrgAt_c p fs[m].Proc fs[m].Pc _ _ wx (hP.chg0 hx)
  rw [hi] at this
  exact this
 have X0:=hX.c0
 have X2:=hX.c2
 have y0:=Fm.c0
 have y1:=Fm.c1
 have y2:=Fm.c2
 have y3:=Fm.c3
 have vA:=EA.cell
 have vB:=EB.cell
 have vD:=ED.cell
 have lX:=hX.lt
 have lb:b<w.heap.size:=World.block_lt_of_cell? _ _ y0
 have lV:bV<w.heap.size:=World.block_lt_of_cell? _ _ vA
 have hXb:¬X=b:=fun e=>hXG (e▸Fm.mem)
 have hnb:¬bV=b:=fun e=>Fm.bV (e▸EA.mem)
 have hnb':¬b=bV:=fun e=>hnb e.symm
 have zP:=Fm.fz (off+m*4+1)
 have zD:=ED.fz (oV+dD)
 have hP_:=Lib.hid hP
 have hX_:=Lib.hid hX
 have h_:=Lib.hid h
 have ho_:=Lib.hid ho
 have hXG_:=Lib.hid hXG
 have hXP_:=Lib.hid hXP
 have hroom_:=Lib.hid hroom
 have hp_:=Lib.hid hp
 have hN_:=Lib.hid hN
 have hi_:=Lib.hid hi
 have hV_:=Lib.hid hV
 have hC_:=Lib.hid hC
 have nV_:=Lib.hid nV
 have nC_:=Lib.hid nC
 have hop_:=Lib.hid hop
 have nA_:=Lib.hid nA
 have nB_:=Lib.hid nB
 have I_:=Lib.hid I
 have n5_:=Lib.hid n5
 have Fm_:=Lib.hid Fm
 have EA_:=Lib.hid EA
 have EB_:=Lib.hid EB
 have ED_:=Lib.hid ED
 have hPc_:=Lib.hid hPc
 clear hP hX h ho hXG hXP hroom hN hi hV hC nV nC hop nA nB I n5 Fm EA EB ED hPc hok F hsel hp
 have taarith:=ta_if_arith iRel (dA:Int) (dB:Int) iTo
 have taany:=ta_if_any iRel (dA:Int) (dB:Int) iTo
 have taload:=ta_if_load iRel (dA:Int) (dB:Int) iTo
 have tastore:=ta_if_store iRel (dA:Int) (dB:Int) iTo
 have taif:=ta_if_if iRel (dA:Int) (dB:Int) iTo
 go_enter Tryz.func130,Tryz.ntmps130
 go_wp2_with (go_at_call 174;refine (top_c X b off m cap _ X2 hmB).mono ?_;rintro e w1 ⟨rfl,hc1⟩;have hK1:=hc1;have sw1:=hc1.size;have X01:=hc1.cell0 X0;have y01:=hc1.cell0 y0;have y11:=hc1.cell0 y1;have lX1:=Nat.lt_of_lt_of_le lX hc1.size;have lb1:=Nat.lt_of_lt_of_le lb hc1.size;have n1X:¬X=w1.heap.size:=Nat.ne_of_lt lX1;have n1b:¬b=w1.heap.size:=Nat.ne_of_lt lb1;clear hc1)
 clear hmB
 go_region_held3 (fun w'=>w'.cell? ⟨X,0,none⟩=some (.slice AP p.Procs.length cP)∧w'.cell? ⟨b,off+m*4,none⟩=some (.int .i64 fs[m].Proc)∧w'.cell? ⟨b,off+m*4+1,none⟩=some (.int .i64 fs[m].Pc)) (((try dsimp only);(repeat' apply And.intro)<;>(first|with_reducible assumption|(with_reducible refine (cell8 ?_).trans ?_<;>(first|with_reducible assumption|exact n1X|exact n1b|exact n2X|exact n2b))|(go_keep;done))))
  (first|(go_at_call 75;refine (hat _ (Chg.k)).mono ?_;rintro e w2 ⟨rfl,hq2⟩;have hK12:Chg [] w1 w2:=Chg.trans0 (show Chg [] w1 _ from Chg.c) hq2;have hK2:=hK1.trans0 hK12;have X02:=hK12.cell0 X01;have y02:=hK12.cell0 y01;have y12:=hK12.cell0 y11;have lX2:=Nat.lt_of_lt_of_le lX1 hK12.size;have lb2:=Nat.lt_of_lt_of_le lb1 hK12.size;have n2X:¬X=w2.heap.size:=Nat.ne_of_lt lX2;have n2b:¬b=w2.heap.size:=Nat.ne_of_lt lb2;have zc0:=hq2.cells.1 w1.heap.size 0;have zc1:=hq2.cells.1 w1.heap.size 1;have zc2:=hq2.cells.1 w1.heap.size 2;have zc3:=hq2.cells.1 w1.heap.size 3;have zc4:=hq2.cells.1 w1.heap.size 4;have zc5:=hq2.cells.1 w1.heap.size 5;have zc6:=hq2.cells.1 w1.heap.size 6;have zc7:=hq2.cells.1 w1.heap.size 7;have zf0:=hq2.cells.2 w1.heap.size 0;have zf1:=hq2.cells.2 w1.heap.size 1;have zf2:=hq2.cells.2 w1.heap.size 2;have zf3:=hq2.cells.2 w1.heap.size 3;have zf4:=hq2.cells.2 w1.heap.size 4;have zf5:=hq2.cells.2 w1.heap.size 5;have zf6:=hq2.cells.2 w1.heap.size 6;have zf7:=hq2.cells.2 w1.heap.size 7;have sz2:=hq2.size;(try simp only [World.size_alloc,World.size_setCell,World.size_drew] at sz2);(try have lt12:=Nat.lt_of_succ_le sz2)))
 all_goals
  obtain ⟨hq1,hq2b⟩:=hPc_.out
  go_wp2_with fail
  clear hq1 hq2b
  refine (codeOf8_c ⟨iOp,dD,dA,dB,iRel,iLo,iHi,iTo⟩ _ hop_.out).mono ?_
  rintro e w4 ⟨rfl,hc4⟩
  have hK4:Chg [] w w4:=Chg.trans0 (show Chg [] w _ from Chg.k) hc4
  replace X0:=hK4.cell0 X0
  replace X2:=hK4.cell0 X2
  replace y0:=hK4.cell0 y0
  replace y1:=hK4.cell0 y1
  replace y2:=hK4.cell0 y2
  replace y3:=hK4.cell0 y3
  replace vA:=hK4.cell0 vA
  replace vB:=hK4.cell0 vB
  replace vD:=hK4.cell0 vD
  replace zP:=(hK4.cells.2 b (off+m*4+1) lb).trans zP
  replace zD:=(hK4.cells.2 bV (oV+dD) lV).trans zD
  replace lX:=Nat.lt_of_lt_of_le lX hK4.size
  replace lb:=Nat.lt_of_lt_of_le lb hK4.size
  replace lV:=Nat.lt_of_lt_of_le lV hK4.size
  clear hat hc4 hK2 hK1 hK12 hq2 X01 X02 y01 y02 y11 y12 lX1 lX2 lb1 lb2 n1X n1b n2X n2b sz2 sw1 zc0 zf0 zc1 zf1 zc2 zf2 zc3 zf3 zc4 zf4 zc5 zf5 zc6 zf6 zc7 zf7
  try clear lt12
  obtain rfl:iOp=8:=hop_.out
  have hT:I64 iTo:=to_i64 hp_.out hi_.out (by simp)
  go_wp2_with fail
  generalize hWi:World.alloc _ _=wi
  have hKi:Chg [] w4 wi:=hWi▸Chg.c
  have hKw:=hK4.trans0 hKi
  have bx0:wi.cell? ⟨w4.heap.size,0,none⟩=some (.int .i64 iRel):=by rw [←hWi];simp [go_sem]
  have bx1:wi.cell? ⟨w4.heap.size,1,none⟩=some (.int .i64 (dA:Int)):=by rw [←hWi];simp [go_sem]
  have bx2:wi.cell? ⟨w4.heap.size,2,none⟩=some (.int .i64 (dB:Int)):=by rw [←hWi];simp [go_sem]
  have bx3:wi.cell? ⟨w4.heap.size,3,none⟩=some (.int .i64 iTo):=by rw [←hWi];simp [go_sem]
  have lbx:w4.heap.size<wi.heap.size:=by rw [←hWi];simp [go_sem]
  have nbV:¬bV=w4.heap.size:=Nat.ne_of_lt lV
  have nbV2:¬w4.heap.size=bV:=fun e=>nbV e.symm
  have nbb:¬b=w4.heap.size:=Nat.ne_of_lt lb
  have nbb2:¬w4.heap.size=b:=fun e=>nbb e.symm
  replace X0:=hKi.cell0 X0
  replace X2:=hKi.cell0 X2
  replace y0:=hKi.cell0 y0
  replace y1:=hKi.cell0 y1
  replace y2:=hKi.cell0 y2
  replace y3:=hKi.cell0 y3
  replace vA:=hKi.cell0 vA
  replace vB:=hKi.cell0 vB
  replace vD:=hKi.cell0 vD
  replace zP:=(hKi.cells.2 b (off+m*4+1) lb).trans zP
  replace zD:=(hKi.cells.2 bV (oV+dD) lV).trans zD
  replace lX:=Nat.lt_of_lt_of_le lX hKi.size
  replace lb:=Nat.lt_of_lt_of_le lb hKi.size
  replace lV:=Nat.lt_of_lt_of_le lV hKi.size
  clear hWi hKi taarith taany taload tastore taif
  cases hr8:relHolds iRel fs[m].Vars[dA] fs[m].Vars[dB]
  · have hst:=Lib.hid (show stepped p (goes fs) inp=goes (fs.set m { fs[m] with Pc:=fs[m].Pc+1 }) by rw [st_if (inp:=inp) hm'.out hi_.out rfl rfl rfl lA lB];simp only [hr8];rfl)
    have hrel:=Lib.hid hr8
    clear hr8
    go_region_held3 (fun w'=>w'.cell? ⟨w4.heap.size,0,none⟩=some (.int .i64 iRel)∧w'.cell? ⟨w4.heap.size,1,none⟩=some (.int .i64 (dA:Int))∧w'.cell? ⟨w4.heap.size,2,none⟩=some (.int .i64 (dB:Int))∧w'.cell? ⟨w4.heap.size,3,none⟩=some (.int .i64 iTo)∧w'.cell? ⟨b,off+m*4+2,none⟩=some (.slice (some ⟨bV,oV,none⟩) fs[m].Vars.length cV)∧w'.cell? ⟨bV,oV+dA,none⟩=some (.int .i64 fs[m].Vars[dA])∧w'.cell? ⟨bV,oV+dB,none⟩=some (.int .i64 fs[m].Vars[dB])) (((try dsimp only);(repeat' apply And.intro)<;>(first|with_reducible assumption|(go_keep;done))))
     (first|(go_at_call 178;refine (implRelHolds_c _ _ _ _).mono ?_;rintro e w7 ⟨rfl,rfl⟩;rw [hrel.out]))
    all_goals
     go_wp2
     go_end0
     have hs:=Fm_.out.setP wi (fs[m].Pc+1) hKw hPc_.out
     have hcb:Chg [b] wi (wi.setCell ⟨b,off+m*4+1,none⟩ (.int .i64 (fs[m].Pc+1))):=(Chg.refl [b] wi).setCell (Or.inl (by simp)) _
     have hcx:Chg (X::G) w (wi.setCell ⟨b,off+m*4+1,none⟩ (.int .i64 (fs[m].Pc+1))):=(hKw.of0).setCell (Or.inl (List.mem_cons_of_mem _ Fm_.out.mem)) _
     have hXf:=(hX_.out.chg0 hKw).chg hcb (fun hx=>hXb (List.mem_singleton.1 hx))
     show StepRes X _ G (stepped p (goes fs) inp) w _ _
     rw [hst.out]
     refine Or.inl ⟨rfl,_,G,(hXf.fr _).chg0 (by repeat (with_reducible first|exact Chg.refl _ _|refine Chg.alloc ?_ _|refine Chg.drew ?_)),?_,hs.1.chg0 (by repeat (with_reducible first|exact Chg.refl _ _|refine Chg.alloc ?_ _|refine Chg.drew ?_)),hs.2.chg0 (by repeat (with_reducible first|exact Chg.refl _ _|refine Chg.alloc ?_ _|refine Chg.drew ?_)),fun g hg=>Or.inl hg⟩
     repeat (with_reducible first|exact hcx|refine Chg.alloc ?_ _|refine Chg.drew ?_)
  · have hst:=Lib.hid (show stepped p (goes fs) inp=goes (fs.set m { fs[m] with Pc:=iTo }) by rw [st_if (inp:=inp) hm'.out hi_.out rfl rfl rfl lA lB];simp only [hr8];rfl)
    have hrel:=Lib.hid hr8
    clear hr8
    go_region_held3 (fun w'=>w'.cell? ⟨w4.heap.size,0,none⟩=some (.int .i64 iRel)∧w'.cell? ⟨w4.heap.size,1,none⟩=some (.int .i64 (dA:Int))∧w'.cell? ⟨w4.heap.size,2,none⟩=some (.int .i64 (dB:Int))∧w'.cell? ⟨w4.heap.size,3,none⟩=some (.int .i64 iTo)∧w'.cell? ⟨b,off+m*4+2,none⟩=some (.slice (some ⟨bV,oV,none⟩) fs[m].Vars.length cV)∧w'.cell? ⟨bV,oV+dA,none⟩=some (.int .i64 fs[m].Vars[dA])∧w'.cell? ⟨bV,oV+dB,none⟩=some (.int .i64 fs[m].Vars[dB])) (((try dsimp only);(repeat' apply And.intro)<;>(first|with_reducible assumption|(go_keep;done))))
     (first|(go_at_call 178;refine (implRelHolds_c _ _ _ _).mono ?_;rintro e w7 ⟨rfl,rfl⟩;rw [hrel.out]))
    all_goals
     go_wp2
     go_end0
     have hs:=Fm_.out.setP wi (iTo) hKw hT
     have hcb:Chg [b] wi (wi.setCell ⟨b,off+m*4+1,none⟩ (.int .i64 (iTo))):=(Chg.refl [b] wi).setCell (Or.inl (by simp)) _
     have hcx:Chg (X::G) w (wi.setCell ⟨b,off+m*4+1,none⟩ (.int .i64 (iTo))):=(hKw.of0).setCell (Or.inl (List.mem_cons_of_mem _ Fm_.out.mem)) _
     have hXf:=(hX_.out.chg0 hKw).chg hcb (fun hx=>hXb (List.mem_singleton.1 hx))
     show StepRes X _ G (stepped p (goes fs) inp) w _ _
     rw [hst.out]
     refine Or.inl ⟨rfl,_,G,(hXf.fr _).chg0 (by repeat (with_reducible first|exact Chg.refl _ _|refine Chg.alloc ?_ _|refine Chg.drew ?_)),?_,hs.1.chg0 (by repeat (with_reducible first|exact Chg.refl _ _|refine Chg.alloc ?_ _|refine Chg.drew ?_)),hs.2.chg0 (by repeat (with_reducible first|exact Chg.refl _ _|refine Chg.alloc ?_ _|refine Chg.drew ?_)),fun g hg=>Or.inl hg⟩
     repeat (with_reducible first|exact hcx|refine Chg.alloc ?_ _|refine Chg.drew ?_)
end Go.Proofs.YtjakhnhnjhafgaaGreat.Wk
namespace Go.Proofs.YtjakhnhnjhafgaaGreat.Wk
open Go Go.RowKit Go.Deep Ow
open Rp (R sz)
set_option maxRecDepth 100000 in
set_option maxHeartbeats 8000000 in
theorem impStep11_c(p:PrgProg)(fs:List RunFrame)(inp:Int)(X:Nat)(vP:Value)(FP:List Nat)(v:Value)(G:List Nat)(w:World)(hP:RL w p.Procs vP FP)(hXP:X∉FP)(hX:RunX w X vP (goes fs) v)(h:RL w fs v G)(ho:Own w G)(hXG:X∉G)(hroom:Room w 58 v fs.length)(hin:I64 inp)(hok:runOk p (goes fs)=true)
 (hsel:∀(m:Nat) (hml:m<fs.length) (i:InsIns),fs.length=m+1→prgAt p fs[m].Proc fs[m].Pc=some i→i.Op=11) :
 Calls Tryz.prog 130 #[.pointer (some ⟨X,0,none⟩),.int .i64 inp] w (StepRes X vP G (stepped p (goes fs) inp) w):=by
 have F:=goes_facts hok rfl
 have hp:=F.prg
 obtain ⟨m,hm'⟩:∃m,Hid (fs.length=m+1):=⟨fs.length-1,Lib.hid (by have:=F.n1;simp only [goes] at this;omega)⟩
 have hml:m<fs.length:=by have:=hm'.out;omega
 have n5:fs.length≤5:=F.n5
 have hN:nestOk p fs=true:=F.nest
 obtain ⟨i,hi,hV,hC,nV,nC⟩:=frame_facts ((nest_iff p _).1 hN m hml).1
 obtain ⟨kp,jp,At⟩:=prgAt_facts hp hi
 have I:=ins_facts At.ok
 have hop:=hsel m hml i hm'.out hi
 have hPc:I64 (fs[m].Pc+1):=by have h1:=At.epc;have h2:=At.j10;unfold I64;omega
 obtain ⟨dA,hA⟩:=Int.eq_ofNat_of_zero_le I.a0
 obtain ⟨dB,hB⟩:=Int.eq_ofNat_of_zero_le I.b0
 obtain ⟨dD,hD⟩:=Int.eq_ofNat_of_zero_le I.d0
 have lA:dA<fs[m].Vars.length:=by have:=I.a4;omega
 have lB:dB<fs[m].Vars.length:=by have:=I.b4;omega
 have lD:dD<fs[m].Vars.length:=by have:=I.d4;omega
 have nA:=nV _ (List.getElem_mem lA)
 have nB:=nV _ (List.getElem_mem lB)
 have hsub:((m:Int)+1-1)=m:=by omega
 have hm4:(m:Int)≤4:=by have:=hm'.out;omega
 have hmB:(m:Int)+1≤9223372036854775807:=by omega
 have hdA:(dA:Int)<fs[m].Vars.length:=by omega
 have hdB:(dB:Int)<fs[m].Vars.length:=by omega
 have hdD:(dD:Int)<fs[m].Vars.length:=by omega
 obtain ⟨AP,cP,rfl,-,-⟩:=hP.form
 obtain ⟨b,off,cap,vV,vC,FV,FC,Fm⟩:=frame_in h ho (i:=m) hml
 have ev:=Fm.eq
 rw [hm'.out] at ev
 subst ev
 obtain ⟨bV,oV,cV,EA⟩:=int_at Fm.rV Fm.oV lA
 have eV:=EA.eq
 subst eV
 obtain ⟨bB,oB,cB,EB⟩:=int_at Fm.rV Fm.oV lB
 have eB:=EB.eq
 injection eB with eB1 _ eB2
 injection eB1 with eB1
 injection eB1 with eB1 eB3
 subst eB1 eB2 eB3
 obtain ⟨bE,oE,cE,ED⟩:=int_at Fm.rV Fm.oV lD
 have eD:=ED.eq
 injection eD with eD1 _ eD2
 injection eD1 with eD1
 injection eD1 with eD1 eD3
 subst eD1 eD2 eD3
 obtain ⟨AC,kC,rfl,-,-⟩:=Fm.rC.form
 obtain ⟨iOp,iD,iA,iB,iRel,iLo,iHi,iTo⟩:=i
 simp only at hA hB hD
 subst hA hB hD
 have hat:∀wx,Chg [] w wx→Calls Tryz.prog 75 #[.agg #[.slice AP p.Procs.length cP],.int .i64 fs[m].Proc,.int .i64 fs[m].Pc] wx (fun e w'=>e=.returned (atV (some ⟨iOp,dD,dA,dB,iRel,iLo,iHi,iTo⟩))∧Chg [] wx w'):=fun wx hx=>by
  have:=implPrgAt_c p fs[m].Proc fs[m].Pc _ _ wx (hP.chg0 hx)
  rw [hi] at this
  exact this
 have X0:=hX.c0
 have X2:=hX.c2
 have y0:=Fm.c0
 have y1:=Fm.c1
 have y2:=Fm.c2
 have y3:=Fm.c3
 have vA:=EA.cell
 have vB:=EB.cell
 have vD:=ED.cell
 have lX:=hX.lt
 have lb:b<w.heap.size:=World.block_lt_of_cell? _ _ y0
 have lV:bV<w.heap.size:=World.block_lt_of_cell? _ _ vA
 have hXb:¬X=b:=fun e=>hXG (e▸Fm.mem)
 have hnb:¬bV=b:=fun e=>Fm.bV (e▸EA.mem)
 have hnb':¬b=bV:=fun e=>hnb e.symm
 have zP:=Fm.fz (off+m*4+1)
 have zD:=ED.fz (oV+dD)
 have hP_:=Lib.hid hP
 have hX_:=Lib.hid hX
 have h_:=Lib.hid h
 have ho_:=Lib.hid ho
 have hXG_:=Lib.hid hXG
 have hXP_:=Lib.hid hXP
 have hroom_:=Lib.hid hroom
 have hp_:=Lib.hid hp
 have hN_:=Lib.hid hN
 have hi_:=Lib.hid hi
 have hV_:=Lib.hid hV
 have hC_:=Lib.hid hC
 have nV_:=Lib.hid nV
 have nC_:=Lib.hid nC
 have hop_:=Lib.hid hop
 have nA_:=Lib.hid nA
 have nB_:=Lib.hid nB
 have I_:=Lib.hid I
 have n5_:=Lib.hid n5
 have Fm_:=Lib.hid Fm
 have EA_:=Lib.hid EA
 have EB_:=Lib.hid EB
 have ED_:=Lib.hid ED
 have hPc_:=Lib.hid hPc
 clear hP hX h ho hXG hXP hroom hN hi hV hC nV nC hop nA nB I n5 Fm EA EB ED hPc hok F hsel hp
 have taarith:=ta_assert_arith iRel (dA:Int) (dB:Int)
 have taany:=ta_assert_any iRel (dA:Int) (dB:Int)
 have taload:=ta_assert_load iRel (dA:Int) (dB:Int)
 have tastore:=ta_assert_store iRel (dA:Int) (dB:Int)
 have taif:=ta_assert_if iRel (dA:Int) (dB:Int)
 have tajump:=ta_assert_jump iRel (dA:Int) (dB:Int)
 have tacall:=ta_assert_call iRel (dA:Int) (dB:Int)
 have taassert:=ta_assert_assert iRel (dA:Int) (dB:Int)
 go_enter Tryz.func130,Tryz.ntmps130
 go_wp2_with (go_at_call 174;refine (top_c X b off m cap _ X2 hmB).mono ?_;rintro e w1 ⟨rfl,hc1⟩;have hK1:=hc1;have sw1:=hc1.size;have X01:=hc1.cell0 X0;have y01:=hc1.cell0 y0;have y11:=hc1.cell0 y1;have lX1:=Nat.lt_of_lt_of_le lX hc1.size;have lb1:=Nat.lt_of_lt_of_le lb hc1.size;have n1X:¬X=w1.heap.size:=Nat.ne_of_lt lX1;have n1b:¬b=w1.heap.size:=Nat.ne_of_lt lb1;clear hc1)
 clear hmB
 go_region_held3 (fun w'=>w'.cell? ⟨X,0,none⟩=some (.slice AP p.Procs.length cP)∧w'.cell? ⟨b,off+m*4,none⟩=some (.int .i64 fs[m].Proc)∧w'.cell? ⟨b,off+m*4+1,none⟩=some (.int .i64 fs[m].Pc)) (((try dsimp only);(repeat' apply And.intro)<;>(first|with_reducible assumption|(with_reducible refine (cell8 ?_).trans ?_<;>(first|with_reducible assumption|exact n1X|exact n1b|exact n2X|exact n2b))|(go_keep;done))))
  (first|(go_at_call 75;refine (hat _ (Chg.k)).mono ?_;rintro e w2 ⟨rfl,hq2⟩;have hK12:Chg [] w1 w2:=Chg.trans0 (show Chg [] w1 _ from Chg.c) hq2;have hK2:=hK1.trans0 hK12;have X02:=hK12.cell0 X01;have y02:=hK12.cell0 y01;have y12:=hK12.cell0 y11;have lX2:=Nat.lt_of_lt_of_le lX1 hK12.size;have lb2:=Nat.lt_of_lt_of_le lb1 hK12.size;have n2X:¬X=w2.heap.size:=Nat.ne_of_lt lX2;have n2b:¬b=w2.heap.size:=Nat.ne_of_lt lb2;have zc0:=hq2.cells.1 w1.heap.size 0;have zc1:=hq2.cells.1 w1.heap.size 1;have zc2:=hq2.cells.1 w1.heap.size 2;have zc3:=hq2.cells.1 w1.heap.size 3;have zc4:=hq2.cells.1 w1.heap.size 4;have zc5:=hq2.cells.1 w1.heap.size 5;have zc6:=hq2.cells.1 w1.heap.size 6;have zc7:=hq2.cells.1 w1.heap.size 7;have zf0:=hq2.cells.2 w1.heap.size 0;have zf1:=hq2.cells.2 w1.heap.size 1;have zf2:=hq2.cells.2 w1.heap.size 2;have zf3:=hq2.cells.2 w1.heap.size 3;have zf4:=hq2.cells.2 w1.heap.size 4;have zf5:=hq2.cells.2 w1.heap.size 5;have zf6:=hq2.cells.2 w1.heap.size 6;have zf7:=hq2.cells.2 w1.heap.size 7;have sz2:=hq2.size;(try simp only [World.size_alloc,World.size_setCell,World.size_drew] at sz2);(try have lt12:=Nat.lt_of_succ_le sz2)))
 all_goals
  obtain ⟨hq1,hq2b⟩:=hPc_.out
  go_wp2_with fail
  clear hq1 hq2b
  refine (codeOf11_c ⟨iOp,dD,dA,dB,iRel,iLo,iHi,iTo⟩ _ hop_.out).mono ?_
  rintro e w4 ⟨rfl,hc4⟩
  have hK4:Chg [] w w4:=Chg.trans0 (show Chg [] w _ from Chg.k) hc4
  replace X0:=hK4.cell0 X0
  replace X2:=hK4.cell0 X2
  replace y0:=hK4.cell0 y0
  replace y1:=hK4.cell0 y1
  replace y2:=hK4.cell0 y2
  replace y3:=hK4.cell0 y3
  replace vA:=hK4.cell0 vA
  replace vB:=hK4.cell0 vB
  replace vD:=hK4.cell0 vD
  replace zP:=(hK4.cells.2 b (off+m*4+1) lb).trans zP
  replace zD:=(hK4.cells.2 bV (oV+dD) lV).trans zD
  replace lX:=Nat.lt_of_lt_of_le lX hK4.size
  replace lb:=Nat.lt_of_lt_of_le lb hK4.size
  replace lV:=Nat.lt_of_lt_of_le lV hK4.size
  clear hat hc4 hK2 hK1 hK12 hq2 X01 X02 y01 y02 y11 y12 lX1 lX2 lb1 lb2 n1X n1b n2X n2b sz2 sw1 zc0 zf0 zc1 zf1 zc2 zf2 zc3 zf3 zc4 zf4 zc5 zf5 zc6 zf6 zc7 zf7
  try clear lt12
  obtain rfl:iOp=11:=hop_.out
  go_wp2_with fail
  generalize hWi:World.alloc _ _=wi
  have hKi:Chg [] w4 wi:=hWi▸Chg.c
  have hKw:=hK4.trans0 hKi
  have bx0:wi.cell? ⟨w4.heap.size,0,none⟩=some (.int .i64 iRel):=by rw [←hWi];simp [go_sem]
  have bx1:wi.cell? ⟨w4.heap.size,1,none⟩=some (.int .i64 (dA:Int)):=by rw [←hWi];simp [go_sem]
  have bx2:wi.cell? ⟨w4.heap.size,2,none⟩=some (.int .i64 (dB:Int)):=by rw [←hWi];simp [go_sem]
  have lbx:w4.heap.size<wi.heap.size:=by rw [←hWi];simp [go_sem]
  have nbV:¬bV=w4.heap.size:=Nat.ne_of_lt lV
  have nbV2:¬w4.heap.size=bV:=fun e=>nbV e.symm
  have nbb:¬b=w4.heap.size:=Nat.ne_of_lt lb
  have nbb2:¬w4.heap.size=b:=fun e=>nbb e.symm
  replace X0:=hKi.cell0 X0
  replace X2:=hKi.cell0 X2
  replace y0:=hKi.cell0 y0
  replace y1:=hKi.cell0 y1
  replace y2:=hKi.cell0 y2
  replace y3:=hKi.cell0 y3
  replace vA:=hKi.cell0 vA
  replace vB:=hKi.cell0 vB
  replace vD:=hKi.cell0 vD
  replace zP:=(hKi.cells.2 b (off+m*4+1) lb).trans zP
  replace zD:=(hKi.cells.2 bV (oV+dD) lV).trans zD
  replace lX:=Nat.lt_of_lt_of_le lX hKi.size
  replace lb:=Nat.lt_of_lt_of_le lb hKi.size
  replace lV:=Nat.lt_of_lt_of_le lV hKi.size
  clear hWi hKi taarith taany taload tastore taif tajump tacall taassert
  have hfl:=fun (wx:World) (hx:Chg [] wi wx)=>failYes_c X b off m cap fs[m] wx (hx.cell0 X2) (by omega) (hx.cell0 y0) (hx.cell0 y1)
  cases hr8:relHolds iRel fs[m].Vars[dA] fs[m].Vars[dB]
  · have hst:=Lib.hid (show stepped p (goes fs) inp=runFail fs[m] by rw [st_assert (inp:=inp) hm'.out hi_.out rfl rfl rfl lA lB];simp only [hr8];rfl)
    have hrel:=Lib.hid hr8
    clear hr8
    refine wp_region_held_drew (S:=(fun w'=>w'.cell? ⟨w4.heap.size,0,none⟩=some (.int .i64 iRel)∧w'.cell? ⟨w4.heap.size,1,none⟩=some (.int .i64 (dA:Int))∧w'.cell? ⟨w4.heap.size,2,none⟩=some (.int .i64 (dB:Int))∧w'.cell? ⟨b,off+m*4+2,none⟩=some (.slice (some ⟨bV,oV,none⟩) fs[m].Vars.length cV)∧w'.cell? ⟨bV,oV+dA,none⟩=some (.int .i64 fs[m].Vars[dA])∧w'.cell? ⟨bV,oV+dB,none⟩=some (.int .i64 fs[m].Vars[dB]))) (by kernel_rfl) ?_ (fun hHeld=>?_)
    focus (((try dsimp only);(repeat' apply And.intro)<;>(first|with_reducible assumption|(go_keep;done))))
    refine wpAnyH_take (i:=0) (v:=?_) rfl (by kernel_rfl) (by kernel_rfl) (by kernel_rfl) (fun _ _ _ h=>h) (Or.inl ⟨by rfl,?_⟩) hHeld ?_
    rotate_left
    focus (intro w hSw;(try dsimp only at hSw);go_simp<;>with_reducible rfl)
    rotate_right
    try simp only [pS,pN,pA,pZ,pC]
    refine wpAnyH_take (i:=1) (v:=?_) rfl (by kernel_rfl) (by kernel_rfl) (by kernel_rfl) (fun _ _ _ h=>h) (Or.inl ⟨by rfl,?_⟩) hHeld ?_
    rotate_left
    focus (intro w hSw;(try dsimp only at hSw);go_simp<;>with_reducible rfl)
    rotate_right
    try simp only [pS,pN,pA,pZ,pC]
    refine wpAnyH_take (i:=2) (v:=?_) rfl (by kernel_rfl) (by kernel_rfl) (by kernel_rfl) (fun _ _ _ h=>h) (Or.inl ⟨by rfl,?_⟩) hHeld ?_
    rotate_left
    focus (intro w hSw;(try dsimp only at hSw);go_simp<;>with_reducible rfl)
    rotate_right
    try simp only [pS,pN,pA,pZ,pC]
    refine wpAnyH_take (i:=3) (v:=?_) rfl (by kernel_rfl) (by kernel_rfl) (by kernel_rfl) (fun _ _ _ h=>h) (Or.inl ⟨by rfl,?_⟩) hHeld ?_
    rotate_left
    focus (intro w hSw;(try dsimp only at hSw);go_simp<;>with_reducible rfl)
    rotate_right
    try simp only [pS,pN,pA,pZ,pC]
    refine wpAnyH_take (i:=4) (v:=?_) rfl (by kernel_rfl) (by kernel_rfl) (by kernel_rfl) (fun _ _ _ h=>h) (Or.inl ⟨by rfl,?_⟩) hHeld ?_
    rotate_left
    focus (intro w hSw;(try dsimp only at hSw);go_simp<;>with_reducible rfl)
    rotate_right
    try simp only [pS,pN,pA,pZ,pC]
    refine wpAnyH_take (i:=5) (v:=?_) rfl (by kernel_rfl) (by kernel_rfl) (by kernel_rfl) (fun _ _ _ h=>h) (Or.inl ⟨by rfl,?_⟩) hHeld ?_
    rotate_left
    focus (intro w hSw;(try dsimp only at hSw);go_simp<;>with_reducible rfl)
    rotate_right
    try simp only [pS,pN,pA,pZ,pC]
    refine wpAnyH_take (i:=6) (v:=?_) rfl (by kernel_rfl) (by kernel_rfl) (by kernel_rfl) (fun _ _ _ h=>h) (Or.inl ⟨by rfl,?_⟩) hHeld ?_
    rotate_left
    focus (intro w hSw;(try dsimp only at hSw);go_simp<;>with_reducible rfl)
    rotate_right
    try simp only [pS,pN,pA,pZ,pC]
    refine wpAnyH_take (i:=7) (v:=?_) rfl (by kernel_rfl) (by kernel_rfl) (by kernel_rfl) (fun _ _ _ h=>h) (Or.inl ⟨by rfl,?_⟩) hHeld ?_
    rotate_left
    focus (intro w hSw;(try dsimp only at hSw);go_simp<;>with_reducible rfl)
    rotate_right
    try simp only [pS,pN,pA,pZ,pC]
    refine wpAnyH_take (i:=8) (v:=?_) rfl (by kernel_rfl) (by kernel_rfl) (by kernel_rfl) (fun _ _ _ h=>h) (Or.inl ⟨by rfl,?_⟩) hHeld ?_
    rotate_left
    focus (intro w hSw;(try dsimp only at hSw);go_simp<;>with_reducible rfl)
    rotate_right
    try simp only [pS,pN,pA,pZ,pC]
    refine wpAnyH_take (i:=9) (v:=?_) rfl (by kernel_rfl) (by kernel_rfl) (by kernel_rfl) (fun _ _ _ h=>h) (Or.inl ⟨by rfl,?_⟩) hHeld ?_
    rotate_left
    focus (intro w hSw;(try dsimp only at hSw);go_simp<;>with_reducible rfl)
    rotate_right
    try simp only [pS,pN,pA,pZ,pC]
    refine wpAnyH_take (i:=10) (v:=?_) rfl (by kernel_rfl) (by kernel_rfl) (by kernel_rfl) (fun _ _ _ h=>h) (Or.inl ⟨by rfl,?_⟩) hHeld ?_
    rotate_left
    focus (intro w hSw;(try dsimp only at hSw);go_simp<;>with_reducible rfl)
    rotate_right
    try simp only [pS,pN,pA,pZ,pC]
    refine wpAnyH_take (i:=11) (v:=?_) rfl (by kernel_rfl) (by kernel_rfl) (by kernel_rfl) (fun _ _ _ h=>h) (Or.inl ⟨by rfl,?_⟩) hHeld ?_
    rotate_left
    focus (intro w hSw;(try dsimp only at hSw);go_simp<;>with_reducible rfl)
    rotate_right
    try simp only [pS,pN,pA,pZ,pC]
    refine wpAnyH_take (i:=12) (v:=?_) rfl (by kernel_rfl) (by kernel_rfl) (by kernel_rfl) (fun _ _ _ h=>h) (Or.inl ⟨by rfl,?_⟩) hHeld ?_
    rotate_left
    focus (intro w hSw;(try dsimp only at hSw);go_simp<;>with_reducible rfl)
    rotate_right
    try simp only [pS,pN,pA,pZ,pC]
    refine wpAnyH_take (i:=13) (v:=?_) rfl (by kernel_rfl) (by kernel_rfl) (by kernel_rfl) (fun _ _ _ h=>h) (Or.inl ⟨by rfl,?_⟩) hHeld ?_
    rotate_left
    focus (intro w hSw;(try dsimp only at hSw);go_simp<;>with_reducible rfl)
    rotate_right
    try simp only [pS,pN,pA,pZ,pC]
    refine wpAnyH_take (i:=14) (v:=?_) rfl (by kernel_rfl) (by kernel_rfl) (by kernel_rfl) (fun _ _ _ h=>h) (Or.inl ⟨by rfl,?_⟩) hHeld ?_
    rotate_left
    focus (intro w hSw;(try dsimp only at hSw);go_simp<;>with_reducible rfl)
    rotate_right
    try simp only [pS,pN,pA,pZ,pC]
    refine wpAnyH_take (i:=15) (v:=?_) rfl (by kernel_rfl) (by kernel_rfl) (by kernel_rfl) (fun _ _ _ h=>h) (Or.inl ⟨by rfl,?_⟩) hHeld ?_
    rotate_left
    focus (intro w hSw;(try dsimp only at hSw);go_simp<;>with_reducible rfl)
    rotate_right
    try simp only [pS,pN,pA,pZ,pC]
    refine wpAnyH_take (i:=16) (v:=?_) rfl (by kernel_rfl) (by kernel_rfl) (by kernel_rfl) (fun _ _ _ h=>h) (Or.inl ⟨by rfl,?_⟩) hHeld ?_
    rotate_left
    focus (intro w hSw;(try dsimp only at hSw);go_simp<;>with_reducible rfl)
    rotate_right
    try simp only [pS,pN,pA,pZ,pC]
    refine wpAnyH_take (i:=17) (v:=?_) rfl (by kernel_rfl) (by kernel_rfl) (by kernel_rfl) (fun _ _ _ h=>h) (Or.inl ⟨by rfl,?_⟩) hHeld ?_
    rotate_left
    focus (intro w hSw;(try dsimp only at hSw);go_simp<;>with_reducible rfl)
    rotate_right
    try simp only [pS,pN,pA,pZ,pC]
    refine wpAnyH_take (i:=18) (v:=?_) rfl (by kernel_rfl) (by kernel_rfl) (by kernel_rfl) (fun _ _ _ h=>h) (Or.inl ⟨by rfl,?_⟩) hHeld ?_
    rotate_left
    focus (intro w hSw;(try dsimp only at hSw);go_simp<;>with_reducible rfl)
    rotate_right
    try simp only [pS,pN,pA,pZ,pC]
    refine wpAnyH_ready (rs:=[19]) (by kernel_rfl) (by simp) ?_
    refine AllReadyH.cons rfl (fun K hK=>?_) AllReadyH.nil
    go_simp
    go_wp2_with (go_at_call 178;refine (implRelHolds_c _ _ _ _).mono ?_;rintro e w7 ⟨rfl,rfl⟩;rw [hrel.out])
    refine hK.out _ _ ?_ (fun hHeld=>?_)
    focus (((try dsimp only);(repeat' apply And.intro)<;>(first|with_reducible assumption|(go_keep;done))))
    clear hK K
    try simp only [pS,pN,pA,pZ,pC]
    refine wpAnyH_take (i:=20) (v:=?_) rfl (by kernel_rfl) (by kernel_rfl) (by kernel_rfl) (fun _ _ _ h=>h) (Or.inl ⟨by rfl,?_⟩) hHeld ?_
    rotate_left
    focus (intro w hSw;(try dsimp only at hSw);go_simp<;>with_reducible rfl)
    rotate_right
    try simp only [pS,pN,pA,pZ,pC]
    refine wpAnyH_ready (rs:=[21]) (by kernel_rfl) (by simp) ?_
    refine AllReadyH.cons rfl (fun K hK=>?_) AllReadyH.nil
    go_simp
    go_wp2_with (go_at_call 176;refine (hfl _ (Chg.c)).mono ?_;rintro e w9 ⟨rfl,hc9⟩;have hK9:Chg [] wi w9:=Chg.trans0 (show Chg [] wi _ from Chg.c) hc9)
    refine ⟨rfl,?_⟩
    show StepRes X _ G (stepped p (goes fs) inp) w _ _
    rw [hst.out]
    exact Or.inr ⟨⟨rfl,(hKw.trans0 hK9).of0⟩,rfl⟩
  · have hst:=Lib.hid (show stepped p (goes fs) inp=goes (fs.set m { fs[m] with Pc:=fs[m].Pc+1 }) by rw [st_assert (inp:=inp) hm'.out hi_.out rfl rfl rfl lA lB];simp only [hr8];rfl)
    have hrel:=Lib.hid hr8
    clear hr8 hfl
    go_region_held3 (fun w'=>w'.cell? ⟨w4.heap.size,0,none⟩=some (.int .i64 iRel)∧w'.cell? ⟨w4.heap.size,1,none⟩=some (.int .i64 (dA:Int))∧w'.cell? ⟨w4.heap.size,2,none⟩=some (.int .i64 (dB:Int))∧w'.cell? ⟨b,off+m*4+2,none⟩=some (.slice (some ⟨bV,oV,none⟩) fs[m].Vars.length cV)∧w'.cell? ⟨bV,oV+dA,none⟩=some (.int .i64 fs[m].Vars[dA])∧w'.cell? ⟨bV,oV+dB,none⟩=some (.int .i64 fs[m].Vars[dB])) (((try dsimp only);(repeat' apply And.intro)<;>(first|with_reducible assumption|(go_keep;done))))
     (first|(go_at_call 178;refine (implRelHolds_c _ _ _ _).mono ?_;rintro e w7 ⟨rfl,rfl⟩;rw [hrel.out])|(go_at_call 176;refine (failNo_c X _).mono ?_;rintro e w8 ⟨rfl,hc8⟩;have hK8:Chg [] wi w8:=Chg.trans0 (show Chg [] wi _ from Chg.c) hc8;have bx0w8:=hK8.cell0 bx0;have bx1w8:=hK8.cell0 bx1;have bx2w8:=hK8.cell0 bx2;have y2w8:=hK8.cell0 y2;have vAw8:=hK8.cell0 vA;have vBw8:=hK8.cell0 vB;have y1w8:=hK8.cell0 y1;have vDw8:=hK8.cell0 vD;have lbw8:=Nat.lt_of_lt_of_le lb hK8.size;have lVw8:=Nat.lt_of_lt_of_le lV hK8.size;have zPw8:=(hK8.cells.2 b (off+m*4+1) lb).trans zP))
    all_goals
     have hKw8:=hKw.trans0 hK8
     go_wp2
     go_end0
     have hs:=Fm_.out.setP w8 (fs[m].Pc+1) hKw8 hPc_.out
     have hcb:Chg [b] w8 (w8.setCell ⟨b,off+m*4+1,none⟩ (.int .i64 (fs[m].Pc+1))):=(Chg.refl [b] w8).setCell (Or.inl (by simp)) _
     have hcx:Chg (X::G) w (w8.setCell ⟨b,off+m*4+1,none⟩ (.int .i64 (fs[m].Pc+1))):=(hKw8.of0).setCell (Or.inl (List.mem_cons_of_mem _ Fm_.out.mem)) _
     have hXf:=(hX_.out.chg0 hKw8).chg hcb (fun hx=>hXb (List.mem_singleton.1 hx))
     show StepRes X _ G (stepped p (goes fs) inp) w _ _
     rw [hst.out]
     refine Or.inl ⟨rfl,_,G,(hXf.fr _).chg0 (by repeat (with_reducible first|exact Chg.refl _ _|refine Chg.alloc ?_ _|refine Chg.drew ?_)),?_,hs.1.chg0 (by repeat (with_reducible first|exact Chg.refl _ _|refine Chg.alloc ?_ _|refine Chg.drew ?_)),hs.2.chg0 (by repeat (with_reducible first|exact Chg.refl _ _|refine Chg.alloc ?_ _|refine Chg.drew ?_)),fun g hg=>Or.inl hg⟩
     repeat (with_reducible first|exact hcx|refine Chg.alloc ?_ _|refine Chg.drew ?_)
end Go.Proofs.YtjakhnhnjhafgaaGreat.Wk
namespace Go.Proofs.YtjakhnhnjhafgaaGreat.Wk
open Go Go.RowKit Go.Deep Ow
open Rp (R sz)
set_option maxRecDepth 100000 in
set_option maxHeartbeats 8000000 in
theorem impStep1_c(p:PrgProg)(fs:List RunFrame)(inp:Int)(X:Nat)(vP:Value)(FP:List Nat)(v:Value)(G:List Nat)(w:World)(hP:RL w p.Procs vP FP)(hXP:X∉FP)(hX:RunX w X vP (goes fs) v)(h:RL w fs v G)(ho:Own w G)(hXG:X∉G)(hroom:Room w 58 v fs.length)(hin:I64 inp)(hok:runOk p (goes fs)=true)
 (hsel:∀(m:Nat) (hml:m<fs.length) (i:InsIns),fs.length=m+1→prgAt p fs[m].Proc fs[m].Pc=some i→1≤i.Op∧i.Op≤4) :
 Calls Tryz.prog 130 #[.pointer (some ⟨X,0,none⟩),.int .i64 inp] w (StepRes X vP G (stepped p (goes fs) inp) w):=by
 have F:=goes_facts hok rfl
 have hp:=F.prg
 obtain ⟨m,hm'⟩:∃m,Hid (fs.length=m+1):=⟨fs.length-1,Lib.hid (by have:=F.n1;simp only [goes] at this;omega)⟩
 have hml:m<fs.length:=by have:=hm'.out;omega
 have n5:fs.length≤5:=F.n5
 have hN:nestOk p fs=true:=F.nest
 obtain ⟨i,hi,hV,hC,nV,nC⟩:=frame_facts ((nest_iff p _).1 hN m hml).1
 obtain ⟨kp,jp,At⟩:=prgAt_facts hp hi
 have I:=ins_facts At.ok
 have hop:=hsel m hml i hm'.out hi
 have hPc:I64 (fs[m].Pc+1):=by have h1:=At.epc;have h2:=At.j10;unfold I64;omega
 obtain ⟨dA,hA⟩:=Int.eq_ofNat_of_zero_le I.a0
 obtain ⟨dB,hB⟩:=Int.eq_ofNat_of_zero_le I.b0
 obtain ⟨dD,hD⟩:=Int.eq_ofNat_of_zero_le I.d0
 have lA:dA<fs[m].Vars.length:=by have:=I.a4;omega
 have lB:dB<fs[m].Vars.length:=by have:=I.b4;omega
 have lD:dD<fs[m].Vars.length:=by have:=I.d4;omega
 have nA:=nV _ (List.getElem_mem lA)
 have nB:=nV _ (List.getElem_mem lB)
 have hsub:((m:Int)+1-1)=m:=by omega
 have hm4:(m:Int)≤4:=by have:=hm'.out;omega
 have hmB:(m:Int)+1≤9223372036854775807:=by omega
 have hdA:(dA:Int)<fs[m].Vars.length:=by omega
 have hdB:(dB:Int)<fs[m].Vars.length:=by omega
 have hdD:(dD:Int)<fs[m].Vars.length:=by omega
 obtain ⟨AP,cP,rfl,-,-⟩:=hP.form
 obtain ⟨b,off,cap,vV,vC,FV,FC,Fm⟩:=frame_in h ho (i:=m) hml
 have ev:=Fm.eq
 rw [hm'.out] at ev
 subst ev
 obtain ⟨bV,oV,cV,EA⟩:=int_at Fm.rV Fm.oV lA
 have eV:=EA.eq
 subst eV
 obtain ⟨bB,oB,cB,EB⟩:=int_at Fm.rV Fm.oV lB
 have eB:=EB.eq
 injection eB with eB1 _ eB2
 injection eB1 with eB1
 injection eB1 with eB1 eB3
 subst eB1 eB2 eB3
 obtain ⟨bE,oE,cE,ED⟩:=int_at Fm.rV Fm.oV lD
 have eD:=ED.eq
 injection eD with eD1 _ eD2
 injection eD1 with eD1
 injection eD1 with eD1 eD3
 subst eD1 eD2 eD3
 obtain ⟨AC,kC,rfl,-,-⟩:=Fm.rC.form
 obtain ⟨iOp,iD,iA,iB,iRel,iLo,iHi,iTo⟩:=i
 simp only at hA hB hD
 subst hA hB hD
 have hat:∀wx,Chg [] w wx→Calls Tryz.prog 75 #[.agg #[.slice AP p.Procs.length cP],.int .i64 fs[m].Proc,.int .i64 fs[m].Pc] wx (fun e w'=>e=.returned (atV (some ⟨iOp,dD,dA,dB,iRel,iLo,iHi,iTo⟩))∧Chg [] wx w'):=fun wx hx=>by
  have:=implPrgAt_c p fs[m].Proc fs[m].Pc _ _ wx (hP.chg0 hx)
  rw [hi] at this
  exact this
 have X0:=hX.c0
 have X2:=hX.c2
 have y0:=Fm.c0
 have y1:=Fm.c1
 have y2:=Fm.c2
 have y3:=Fm.c3
 have vA:=EA.cell
 have vB:=EB.cell
 have vD:=ED.cell
 have lX:=hX.lt
 have lb:b<w.heap.size:=World.block_lt_of_cell? _ _ y0
 have lV:bV<w.heap.size:=World.block_lt_of_cell? _ _ vA
 have hXb:¬X=b:=fun e=>hXG (e▸Fm.mem)
 have hnb:¬bV=b:=fun e=>Fm.bV (e▸EA.mem)
 have hnb':¬b=bV:=fun e=>hnb e.symm
 have zP:=Fm.fz (off+m*4+1)
 have zD:=ED.fz (oV+dD)
 have hP_:=Lib.hid hP
 have hX_:=Lib.hid hX
 have h_:=Lib.hid h
 have ho_:=Lib.hid ho
 have hXG_:=Lib.hid hXG
 have hXP_:=Lib.hid hXP
 have hroom_:=Lib.hid hroom
 have hp_:=Lib.hid hp
 have hN_:=Lib.hid hN
 have hi_:=Lib.hid hi
 have hV_:=Lib.hid hV
 have hC_:=Lib.hid hC
 have nV_:=Lib.hid nV
 have nC_:=Lib.hid nC
 have hop_:=Lib.hid hop
 have nA_:=Lib.hid nA
 have nB_:=Lib.hid nB
 have I_:=Lib.hid I
 have n5_:=Lib.hid n5
 have Fm_:=Lib.hid Fm
 have EA_:=Lib.hid EA
 have EB_:=Lib.hid EB
 have ED_:=Lib.hid ED
 have hPc_:=Lib.hid hPc
 clear hP hX h ho hXG hXP hroom hN hi hV hC nV nC hop nA nB I n5 Fm EA EB ED hPc hok F hsel hp
 have taarith:=ta_arith_arith iOp (dD:Int) (dA:Int) (dB:Int)
 go_enter Tryz.func130,Tryz.ntmps130
 go_wp2_with (go_at_call 174;refine (top_c X b off m cap _ X2 hmB).mono ?_;rintro e w1 ⟨rfl,hc1⟩;have hK1:=hc1;have sw1:=hc1.size;have X01:=hc1.cell0 X0;have y01:=hc1.cell0 y0;have y11:=hc1.cell0 y1;have lX1:=Nat.lt_of_lt_of_le lX hc1.size;have lb1:=Nat.lt_of_lt_of_le lb hc1.size;have n1X:¬X=w1.heap.size:=Nat.ne_of_lt lX1;have n1b:¬b=w1.heap.size:=Nat.ne_of_lt lb1;clear hc1)
 clear hmB
 go_region_held3 (fun w'=>w'.cell? ⟨X,0,none⟩=some (.slice AP p.Procs.length cP)∧w'.cell? ⟨b,off+m*4,none⟩=some (.int .i64 fs[m].Proc)∧w'.cell? ⟨b,off+m*4+1,none⟩=some (.int .i64 fs[m].Pc)) (((try dsimp only);(repeat' apply And.intro)<;>(first|with_reducible assumption|(with_reducible refine (cell8 ?_).trans ?_<;>(first|with_reducible assumption|exact n1X|exact n1b|exact n2X|exact n2b))|(go_keep;done))))
  (first|(go_at_call 75;refine (hat _ (Chg.k)).mono ?_;rintro e w2 ⟨rfl,hq2⟩;have hK12:Chg [] w1 w2:=Chg.trans0 (show Chg [] w1 _ from Chg.c) hq2;have hK2:=hK1.trans0 hK12;have X02:=hK12.cell0 X01;have y02:=hK12.cell0 y01;have y12:=hK12.cell0 y11;have lX2:=Nat.lt_of_lt_of_le lX1 hK12.size;have lb2:=Nat.lt_of_lt_of_le lb1 hK12.size;have n2X:¬X=w2.heap.size:=Nat.ne_of_lt lX2;have n2b:¬b=w2.heap.size:=Nat.ne_of_lt lb2;have zc0:=hq2.cells.1 w1.heap.size 0;have zc1:=hq2.cells.1 w1.heap.size 1;have zc2:=hq2.cells.1 w1.heap.size 2;have zc3:=hq2.cells.1 w1.heap.size 3;have zc4:=hq2.cells.1 w1.heap.size 4;have zc5:=hq2.cells.1 w1.heap.size 5;have zc6:=hq2.cells.1 w1.heap.size 6;have zc7:=hq2.cells.1 w1.heap.size 7;have zf0:=hq2.cells.2 w1.heap.size 0;have zf1:=hq2.cells.2 w1.heap.size 1;have zf2:=hq2.cells.2 w1.heap.size 2;have zf3:=hq2.cells.2 w1.heap.size 3;have zf4:=hq2.cells.2 w1.heap.size 4;have zf5:=hq2.cells.2 w1.heap.size 5;have zf6:=hq2.cells.2 w1.heap.size 6;have zf7:=hq2.cells.2 w1.heap.size 7;have sz2:=hq2.size;(try simp only [World.size_alloc,World.size_setCell,World.size_drew] at sz2);(try have lt12:=Nat.lt_of_succ_le sz2)))
 all_goals
  obtain ⟨hq1,hq2b⟩:=hPc_.out
  go_wp2_with fail
  clear hq1 hq2b
  refine (codeOfA_c ⟨iOp,dD,dA,dB,iRel,iLo,iHi,iTo⟩ _ hop_.out).mono ?_
  rintro e w4 ⟨rfl,hc4⟩
  have hK4:Chg [] w w4:=Chg.trans0 (show Chg [] w _ from Chg.k) hc4
  replace X0:=hK4.cell0 X0
  replace X2:=hK4.cell0 X2
  replace y0:=hK4.cell0 y0
  replace y1:=hK4.cell0 y1
  replace y2:=hK4.cell0 y2
  replace y3:=hK4.cell0 y3
  replace vA:=hK4.cell0 vA
  replace vB:=hK4.cell0 vB
  replace vD:=hK4.cell0 vD
  replace zP:=(hK4.cells.2 b (off+m*4+1) lb).trans zP
  replace zD:=(hK4.cells.2 bV (oV+dD) lV).trans zD
  replace lX:=Nat.lt_of_lt_of_le lX hK4.size
  replace lb:=Nat.lt_of_lt_of_le lb hK4.size
  replace lV:=Nat.lt_of_lt_of_le lV hK4.size
  clear hat hc4 hK2 hK1 hK12 hq2 X01 X02 y01 y02 y11 y12 lX1 lX2 lb1 lb2 n1X n1b n2X n2b sz2 sw1 zc0 zf0 zc1 zf1 zc2 zf2 zc3 zf3 zc4 zf4 zc5 zf5 zc6 zf6 zc7 zf7
  try clear lt12
  have h4:=hop_.out
  go_wp2_with fail
  generalize hWi:World.alloc _ _=wi
  have hKi:Chg [] w4 wi:=hWi▸Chg.c
  have hKw:=hK4.trans0 hKi
  have bx0:wi.cell? ⟨w4.heap.size,0,none⟩=some (.int .i64 iOp):=by rw [←hWi];simp [go_sem]
  have bx1:wi.cell? ⟨w4.heap.size,1,none⟩=some (.int .i64 (dD:Int)):=by rw [←hWi];simp [go_sem]
  have bx2:wi.cell? ⟨w4.heap.size,2,none⟩=some (.int .i64 (dA:Int)):=by rw [←hWi];simp [go_sem]
  have bx3:wi.cell? ⟨w4.heap.size,3,none⟩=some (.int .i64 (dB:Int)):=by rw [←hWi];simp [go_sem]
  have lbx:w4.heap.size<wi.heap.size:=by rw [←hWi];simp [go_sem]
  have nbV:¬bV=w4.heap.size:=Nat.ne_of_lt lV
  have nbV2:¬w4.heap.size=bV:=fun e=>nbV e.symm
  have nbb:¬b=w4.heap.size:=Nat.ne_of_lt lb
  have nbb2:¬w4.heap.size=b:=fun e=>nbb e.symm
  replace X0:=hKi.cell0 X0
  replace X2:=hKi.cell0 X2
  replace y0:=hKi.cell0 y0
  replace y1:=hKi.cell0 y1
  replace y2:=hKi.cell0 y2
  replace y3:=hKi.cell0 y3
  replace vA:=hKi.cell0 vA
  replace vB:=hKi.cell0 vB
  replace vD:=hKi.cell0 vD
  replace zP:=(hKi.cells.2 b (off+m*4+1) lb).trans zP
  replace zD:=(hKi.cells.2 bV (oV+dD) lV).trans zD
  replace lX:=Nat.lt_of_lt_of_le lX hKi.size
  replace lb:=Nat.lt_of_lt_of_le lb hKi.size
  replace lV:=Nat.lt_of_lt_of_le lV hKi.size
  clear hWi hKi taarith
  have hnA:=nA_.out
  have hnB:=nB_.out
  generalize hnd0:numDo iOp fs[m].Vars[dA] fs[m].Vars[dB]=nd
  obtain ⟨n,ok⟩:=nd
  have hnn:I64 n:=by have h1:=(numDo_ok hnA hnB h4.1 h4.2).1;rw [hnd0] at h1;exact i64_of h1
  clear hnA hnB
  have hfl:=fun (wx:World) (hx:Chg [] wi wx)=>failYes_c X b off m cap fs[m] wx (hx.cell0 X2) (by omega) (hx.cell0 y0) (hx.cell0 y1)
  cases ok
  · have hst:=Lib.hid (st_arith_bad (inp:=inp) hm'.out hi_.out h4.2 rfl rfl lA lB (by simp only [hnd0]))
    have hnd:=Lib.hid hnd0
    clear hnd0 h4
    go_region_held3 (fun w'=>w'.cell? ⟨w4.heap.size,0,none⟩=some (.int .i64 iOp)∧w'.cell? ⟨w4.heap.size,1,none⟩=some (.int .i64 (dD:Int))∧w'.cell? ⟨w4.heap.size,2,none⟩=some (.int .i64 (dA:Int))∧w'.cell? ⟨w4.heap.size,3,none⟩=some (.int .i64 (dB:Int))∧w'.cell? ⟨b,off+m*4+2,none⟩=some (.slice (some ⟨bV,oV,none⟩) fs[m].Vars.length cV)∧w'.cell? ⟨bV,oV+dA,none⟩=some (.int .i64 fs[m].Vars[dA])∧w'.cell? ⟨bV,oV+dB,none⟩=some (.int .i64 fs[m].Vars[dB])) (((try dsimp only);(repeat' apply And.intro)<;>(first|with_reducible assumption|(go_keep;done))))
     (first|(go_at_call 175;refine (implNumDo_c _ _ _ _).mono ?_;rintro e w7 ⟨rfl,hc7⟩;rw [hnd.out];have hK7:Chg [] wi w7:=Chg.trans0 (show Chg [] wi _ from Chg.c) hc7;have bx0w7:=hK7.cell0 bx0;have bx1w7:=hK7.cell0 bx1;have bx2w7:=hK7.cell0 bx2;have bx3w7:=hK7.cell0 bx3;have y2w7:=hK7.cell0 y2;have vAw7:=hK7.cell0 vA;have vBw7:=hK7.cell0 vB;have y1w7:=hK7.cell0 y1;have vDw7:=hK7.cell0 vD;have lbw7:=Nat.lt_of_lt_of_le lb hK7.size;have lVw7:=Nat.lt_of_lt_of_le lV hK7.size;have zPw7:=(hK7.cells.2 b (off+m*4+1) lb).trans zP))
    all_goals
     go_wp2_with (go_at_call 176;refine (hfl _ (Chg.k)).mono ?_;rintro e w9 ⟨rfl,hc9⟩;have hK9:Chg [] wi w9:=Chg.trans0 (show Chg [] wi _ from Chg.k) hc9)
     refine ⟨rfl,?_⟩
     show StepRes X _ G (stepped p (goes fs) inp) w _ _
     rw [hst.out]
     exact Or.inr ⟨⟨rfl,(hKw.trans0 hK9).of0⟩,rfl⟩
  · have hst:=Lib.hid (st_arith (inp:=inp) hm'.out hi_.out h4.2 rfl rfl rfl lA lB n hnd0)
    have hnd:=Lib.hid hnd0
    clear hnd0 h4 hfl
    go_region_held3 (fun w'=>w'.cell? ⟨w4.heap.size,0,none⟩=some (.int .i64 iOp)∧w'.cell? ⟨w4.heap.size,1,none⟩=some (.int .i64 (dD:Int))∧w'.cell? ⟨w4.heap.size,2,none⟩=some (.int .i64 (dA:Int))∧w'.cell? ⟨w4.heap.size,3,none⟩=some (.int .i64 (dB:Int))∧w'.cell? ⟨b,off+m*4+2,none⟩=some (.slice (some ⟨bV,oV,none⟩) fs[m].Vars.length cV)∧w'.cell? ⟨bV,oV+dA,none⟩=some (.int .i64 fs[m].Vars[dA])∧w'.cell? ⟨bV,oV+dB,none⟩=some (.int .i64 fs[m].Vars[dB])) (((try dsimp only);(repeat' apply And.intro)<;>(first|with_reducible assumption|(go_keep;done))))
     (first|(go_at_call 175;refine (implNumDo_c _ _ _ _).mono ?_;rintro e w7 ⟨rfl,hc7⟩;rw [hnd.out];have hK7:Chg [] wi w7:=Chg.trans0 (show Chg [] wi _ from Chg.c) hc7;have bx0w7:=hK7.cell0 bx0;have bx1w7:=hK7.cell0 bx1;have bx2w7:=hK7.cell0 bx2;have bx3w7:=hK7.cell0 bx3;have y2w7:=hK7.cell0 y2;have vAw7:=hK7.cell0 vA;have vBw7:=hK7.cell0 vB;have y1w7:=hK7.cell0 y1;have vDw7:=hK7.cell0 vD;have lbw7:=Nat.lt_of_lt_of_le lb hK7.size;have lVw7:=Nat.lt_of_lt_of_le lV hK7.size;have zPw7:=(hK7.cells.2 b (off+m*4+1) lb).trans zP))
    all_goals
     go_wp2_with (first|(go_at_call 176;refine (failNo_c X _).mono ?_;rintro e w8 ⟨rfl,hc8⟩;have hK8:Chg [] w7 w8:=Chg.trans0 (show Chg [] w7 _ from Chg.c) hc8;have bx0w8:=hK8.cell0 bx0w7;have bx1w8:=hK8.cell0 bx1w7;have bx2w8:=hK8.cell0 bx2w7;have bx3w8:=hK8.cell0 bx3w7;have y2w8:=hK8.cell0 y2w7;have vAw8:=hK8.cell0 vAw7;have vBw8:=hK8.cell0 vBw7;have y1w8:=hK8.cell0 y1w7;have vDw8:=hK8.cell0 vDw7;have lbw8:=Nat.lt_of_lt_of_le lbw7 hK8.size;have lVw8:=Nat.lt_of_lt_of_le lVw7 hK8.size;have zPw8:=(hK8.cells.2 b (off+m*4+1) lbw7).trans zPw7))
     have zDw8:=((hK7.trans0 hK8).cells.2 bV (oV+dD) lV).trans zD
     have hKw8:=(hKw.trans0 hK7).trans0 hK8
     go_region
     all_goals
      obtain ⟨hq1,hq2b⟩:=hPc_.out
      go_wp2
      go_end0
      have e8:=ED_.out.set w8 (n) hKw8 hnn
      have hs:=Fm_.out.setVP _ _ (fs[m].Pc+1) e8.1 e8.2.1 e8.2.2 hPc_.out
      have mV:bV∈G:=Fm_.out.subV _ ED_.out.mem
      have hcb:Chg [bV,b] w8 ((w8.setCell ⟨bV,oV+dD,none⟩ (.int .i64 (n))).setCell ⟨b,off+m*4+1,none⟩ (.int .i64 (fs[m].Pc+1))):=((Chg.refl [bV,b] w8).setCell (Or.inl (by simp)) _).setCell (Or.inl (by simp)) _
      have hcx:Chg (X::G) w ((w8.setCell ⟨bV,oV+dD,none⟩ (.int .i64 (n))).setCell ⟨b,off+m*4+1,none⟩ (.int .i64 (fs[m].Pc+1))):=((hKw8.of0).setCell (Or.inl (List.mem_cons_of_mem _ mV)) _).setCell (Or.inl (List.mem_cons_of_mem _ Fm_.out.mem)) _
      have hXf:=(hX_.out.chg0 hKw8).chg hcb (fun hx=>by
       rcases List.mem_cons.1 hx with h1|h1
       · exact hXG_.out (h1▸mV)
       · exact hXb (List.mem_singleton.1 h1))
      show StepRes X _ G (stepped p (goes fs) inp) w _ _
      rw [hst.out]
      refine Or.inl ⟨rfl,_,G,(hXf.fr _).chg0 (by repeat (with_reducible first|exact Chg.refl _ _|refine Chg.alloc ?_ _|refine Chg.drew ?_)),?_,hs.1.chg0 (by repeat (with_reducible first|exact Chg.refl _ _|refine Chg.alloc ?_ _|refine Chg.drew ?_)),hs.2.chg0 (by repeat (with_reducible first|exact Chg.refl _ _|refine Chg.alloc ?_ _|refine Chg.drew ?_)),fun g hg=>Or.inl hg⟩
      repeat (with_reducible first|exact hcx|refine Chg.alloc ?_ _|refine Chg.drew ?_)
end Go.Proofs.YtjakhnhnjhafgaaGreat.Wk
