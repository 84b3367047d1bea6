/- A part of the proof. -/
import Derived.Deep.RegionHeld3
import Derived.Test.YtjakhnhnjhafgaaGreatK04
import Derived.Test.YtjakhnhnjhafgaaGreatK03
set_option linter.unusedVariables false
set_option linter.unusedSimpArgs false
namespace Go.Proofs.YtjakhnhnjhafgaaGreat.Wk
open Go Go.RowKit Go.Deep Ow
open Rp (R sz)
theorem any_mod{n N:Int}(hN:1≤N):(n.tmod N+N).tmod N=n % N:=by
 have h1:=Int.tmod_lt_of_pos n (show 0<N by omega)
 have h2:-N<n.tmod N:=by
  have h3:=Int.neg_tmod (a:=n) (b:=N)
  have h4:=Int.tmod_lt_of_pos (-n) (show 0<N by omega)
  omega
 rw [Int.tmod_eq_emod_of_nonneg (by omega),Int.add_emod_right]
 have h5:=Int.emod_add_mul_ediv n N
 have h6:=Int.tmod_add_mul_tdiv n N
 have h7:n.tmod N=n+N*(-(n.tdiv N)):=by rw [Int.mul_neg];omega
 rw [h7,Int.add_mul_emod_self_left]
theorem any_facts{lo hi n:Int}(h:itvOk ⟨lo,hi⟩=true):∃N m0 r0:Int,hi-lo+1=N∧¬N=0∧n.tmod N=m0∧(m0+N).tmod N=r0∧lo+r0=lo+n % (hi-lo+1)∧1≤N∧N≤65536∧-65536≤m0∧m0≤65536∧0≤r0∧r0≤65536∧-32768≤lo∧lo≤hi∧hi≤32767:=by
 obtain ⟨h1,h2,h3⟩:=itv_bounds h
 have hN:1≤hi-lo+1:=by omega
 have g1:=Int.tmod_lt_of_pos n (show 0<hi-lo+1 by omega)
 have g2:-(hi-lo+1)<n.tmod (hi-lo+1):=by
  have h3:=Int.neg_tmod (a:=n) (b:=hi-lo+1)
  have h4:=Int.tmod_lt_of_pos (-n) (show 0<hi-lo+1 by omega)
  omega
 have g3:=any_mod (n:=n) hN
 have g4:=Int.emod_nonneg n (show hi-lo+1≠0 by omega)
 have g5:=Int.emod_lt_of_pos n (show 0<hi-lo+1 by omega)
 exact ⟨_,_,_,rfl,by omega,rfl,rfl,by rw [g3],by omega,by omega,by omega,by omega,by rw [g3];omega,by rw [g3];omega,h1,h2,h3⟩
theorem wsmall{n:Int}(h:-1000000≤n∧n≤1000000):wrap64 n=n:=by unfold wrap64;omega
theorem wsmall2{n:Int}(h:-1000000≤n∧n≤1000000):IntKind.i64.wrap n=n:=by rw [IntKind.wrap_i64];have:=wsmall h;unfold wrap64 at this;exact this
set_option maxRecDepth 100000 in
set_option maxHeartbeats 8000000 in
theorem impStep5_c(p:PrgProg)(fs:List RunFrame)(inp:Int)(X:Nat)(vP:Value)(FP:List Nat)(v:Value)(G:List Nat)(w:World)(hP:RL w p.Procs vP FP)(hXP:X∉FP)(hX:RunX w X vP (goes fs) v)(h:RL w fs v G)(ho:Own w G)(hXG:X∉G)(hroom:Room w 58 v fs.length)(hin:I64 inp)(hok:runOk p (goes fs)=true)
 (hsel:∀(m:Nat) (hml:m<fs.length) (i:InsIns),fs.length=m+1→prgAt p fs[m].Proc fs[m].Pc=some i→i.Op=5) :
 Calls Tryz.prog 130 #[.pointer (some ⟨X,0,none⟩),.int .i64 inp] w (StepRes X vP G (stepped p (goes fs) inp) w):=by
 have F:=goes_facts hok rfl
 have hp:=F.prg
 obtain ⟨m,hm'⟩:∃m,Hid (fs.length=m+1):=⟨fs.length-1,Lib.hid (by have:=F.n1;simp only [goes] at this;omega)⟩
 have hml:m<fs.length:=by have:=hm'.out;omega
 have n5:fs.length≤5:=F.n5
 have hN:nestOk p fs=true:=F.nest
 obtain ⟨i,hi,hV,hC,nV,nC⟩:=frame_facts ((nest_iff p _).1 hN m hml).1
 obtain ⟨kp,jp,At⟩:=prgAt_facts hp hi
 have I:=ins_facts At.ok
 have hop:=hsel m hml i hm'.out hi
 have hPc:I64 (fs[m].Pc+1):=by have h1:=At.epc;have h2:=At.j10;unfold I64;omega
 obtain ⟨dA,hA⟩:=Int.eq_ofNat_of_zero_le I.a0
 obtain ⟨dB,hB⟩:=Int.eq_ofNat_of_zero_le I.b0
 obtain ⟨dD,hD⟩:=Int.eq_ofNat_of_zero_le I.d0
 have lA:dA<fs[m].Vars.length:=by have:=I.a4;omega
 have lB:dB<fs[m].Vars.length:=by have:=I.b4;omega
 have lD:dD<fs[m].Vars.length:=by have:=I.d4;omega
 have nA:=nV _ (List.getElem_mem lA)
 have nB:=nV _ (List.getElem_mem lB)
 have hsub:((m:Int)+1-1)=m:=by omega
 have hm4:(m:Int)≤4:=by have:=hm'.out;omega
 have hmB:(m:Int)+1≤9223372036854775807:=by omega
 have hdA:(dA:Int)<fs[m].Vars.length:=by omega
 have hdB:(dB:Int)<fs[m].Vars.length:=by omega
 have hdD:(dD:Int)<fs[m].Vars.length:=by omega
 obtain ⟨AP,cP,rfl,-,-⟩:=hP.form
 obtain ⟨b,off,cap,vV,vC,FV,FC,Fm⟩:=frame_in h ho (i:=m) hml
 have ev:=Fm.eq
 rw [hm'.out] at ev
 subst ev
 obtain ⟨bV,oV,cV,EA⟩:=int_at Fm.rV Fm.oV lA
 have eV:=EA.eq
 subst eV
 obtain ⟨bB,oB,cB,EB⟩:=int_at Fm.rV Fm.oV lB
 have eB:=EB.eq
 injection eB with eB1 _ eB2
 injection eB1 with eB1
 injection eB1 with eB1 eB3
 subst eB1 eB2 eB3
 obtain ⟨bE,oE,cE,ED⟩:=int_at Fm.rV Fm.oV lD
 have eD:=ED.eq
 injection eD with eD1 _ eD2
 injection eD1 with eD1
 injection eD1 with eD1 eD3
 subst eD1 eD2 eD3
 obtain ⟨AC,kC,rfl,-,-⟩:=Fm.rC.form
 obtain ⟨iOp,iD,iA,iB,iRel,iLo,iHi,iTo⟩:=i
 simp only at hA hB hD
 subst hA hB hD
 have hat:∀wx,Chg [] w wx→Calls Tryz.prog 75 #[.agg #[.slice AP p.Procs.length cP],.int .i64 fs[m].Proc,.int .i64 fs[m].Pc] wx (fun e w'=>e=.returned (atV (some ⟨iOp,dD,dA,dB,iRel,iLo,iHi,iTo⟩))∧Chg [] wx w'):=fun wx hx=>by
  have:=implPrgAt_c p fs[m].Proc fs[m].Pc _ _ wx (hP.chg0 hx)
  rw [hi] at this
  exact this
 have X0:=hX.c0
 have X2:=hX.c2
 have y0:=Fm.c0
 have y1:=Fm.c1
 have y2:=Fm.c2
 have y3:=Fm.c3
 have vA:=EA.cell
 have vB:=EB.cell
 have vD:=ED.cell
 have lX:=hX.lt
 have lb:b<w.heap.size:=World.block_lt_of_cell? _ _ y0
 have lV:bV<w.heap.size:=World.block_lt_of_cell? _ _ vA
 have hXb:¬X=b:=fun e=>hXG (e▸Fm.mem)
 have hnb:¬bV=b:=fun e=>Fm.bV (e▸EA.mem)
 have hnb':¬b=bV:=fun e=>hnb e.symm
 have zP:=Fm.fz (off+m*4+1)
 have zD:=ED.fz (oV+dD)
 have hP_:=Lib.hid hP
 have hX_:=Lib.hid hX
 have h_:=Lib.hid h
 have ho_:=Lib.hid ho
 have hXG_:=Lib.hid hXG
 have hXP_:=Lib.hid hXP
 have hroom_:=Lib.hid hroom
 have hp_:=Lib.hid hp
 have hN_:=Lib.hid hN
 have hi_:=Lib.hid hi
 have hV_:=Lib.hid hV
 have hC_:=Lib.hid hC
 have nV_:=Lib.hid nV
 have nC_:=Lib.hid nC
 have hop_:=Lib.hid hop
 have nA_:=Lib.hid nA
 have nB_:=Lib.hid nB
 have I_:=Lib.hid I
 have n5_:=Lib.hid n5
 have Fm_:=Lib.hid Fm
 have EA_:=Lib.hid EA
 have EB_:=Lib.hid EB
 have ED_:=Lib.hid ED
 have hPc_:=Lib.hid hPc
 clear hP hX h ho hXG hXP hroom hN hi hV hC nV nC hop nA nB I n5 Fm EA EB ED hPc hok F hsel hp
 have taarith:=ta_any_arith (dD:Int) iLo iHi
 have taany:=ta_any_any (dD:Int) iLo iHi
 go_enter Tryz.func130,Tryz.ntmps130
 go_wp2_with (go_at_call 174;refine (top_c X b off m cap _ X2 hmB).mono ?_;rintro e w1 ⟨rfl,hc1⟩;have hK1:=hc1;have sw1:=hc1.size;have X01:=hc1.cell0 X0;have y01:=hc1.cell0 y0;have y11:=hc1.cell0 y1;have lX1:=Nat.lt_of_lt_of_le lX hc1.size;have lb1:=Nat.lt_of_lt_of_le lb hc1.size;have n1X:¬X=w1.heap.size:=Nat.ne_of_lt lX1;have n1b:¬b=w1.heap.size:=Nat.ne_of_lt lb1;clear hc1)
 clear hmB
 go_region_held3 (fun w'=>w'.cell? ⟨X,0,none⟩=some (.slice AP p.Procs.length cP)∧w'.cell? ⟨b,off+m*4,none⟩=some (.int .i64 fs[m].Proc)∧w'.cell? ⟨b,off+m*4+1,none⟩=some (.int .i64 fs[m].Pc)) (((try dsimp only);(repeat' apply And.intro)<;>(first|with_reducible assumption|(with_reducible refine (cell8 ?_).trans ?_<;>(first|with_reducible assumption|exact n1X|exact n1b|exact n2X|exact n2b))|(go_keep;done))))
  (first|(go_at_call 75;refine (hat _ (Chg.k)).mono ?_;rintro e w2 ⟨rfl,hq2⟩;have hK12:Chg [] w1 w2:=Chg.trans0 (show Chg [] w1 _ from Chg.c) hq2;have hK2:=hK1.trans0 hK12;have X02:=hK12.cell0 X01;have y02:=hK12.cell0 y01;have y12:=hK12.cell0 y11;have lX2:=Nat.lt_of_lt_of_le lX1 hK12.size;have lb2:=Nat.lt_of_lt_of_le lb1 hK12.size;have n2X:¬X=w2.heap.size:=Nat.ne_of_lt lX2;have n2b:¬b=w2.heap.size:=Nat.ne_of_lt lb2;have zc0:=hq2.cells.1 w1.heap.size 0;have zc1:=hq2.cells.1 w1.heap.size 1;have zc2:=hq2.cells.1 w1.heap.size 2;have zc3:=hq2.cells.1 w1.heap.size 3;have zc4:=hq2.cells.1 w1.heap.size 4;have zc5:=hq2.cells.1 w1.heap.size 5;have zc6:=hq2.cells.1 w1.heap.size 6;have zc7:=hq2.cells.1 w1.heap.size 7;have zf0:=hq2.cells.2 w1.heap.size 0;have zf1:=hq2.cells.2 w1.heap.size 1;have zf2:=hq2.cells.2 w1.heap.size 2;have zf3:=hq2.cells.2 w1.heap.size 3;have zf4:=hq2.cells.2 w1.heap.size 4;have zf5:=hq2.cells.2 w1.heap.size 5;have zf6:=hq2.cells.2 w1.heap.size 6;have zf7:=hq2.cells.2 w1.heap.size 7;have sz2:=hq2.size;(try simp only [World.size_alloc,World.size_setCell,World.size_drew] at sz2);(try have lt12:=Nat.lt_of_succ_le sz2)))
 all_goals
  obtain ⟨hq1,hq2b⟩:=hPc_.out
  go_wp2_with fail
  clear hq1 hq2b
  refine (codeOf5_c ⟨iOp,dD,dA,dB,iRel,iLo,iHi,iTo⟩ _ hop_.out).mono ?_
  rintro e w4 ⟨rfl,hc4⟩
  have hK4:Chg [] w w4:=Chg.trans0 (show Chg [] w _ from Chg.k) hc4
  replace X0:=hK4.cell0 X0
  replace X2:=hK4.cell0 X2
  replace y0:=hK4.cell0 y0
  replace y1:=hK4.cell0 y1
  replace y2:=hK4.cell0 y2
  replace y3:=hK4.cell0 y3
  replace vA:=hK4.cell0 vA
  replace vB:=hK4.cell0 vB
  replace vD:=hK4.cell0 vD
  replace zP:=(hK4.cells.2 b (off+m*4+1) lb).trans zP
  replace zD:=(hK4.cells.2 bV (oV+dD) lV).trans zD
  replace lX:=Nat.lt_of_lt_of_le lX hK4.size
  replace lb:=Nat.lt_of_lt_of_le lb hK4.size
  replace lV:=Nat.lt_of_lt_of_le lV hK4.size
  clear hat hc4 hK2 hK1 hK12 hq2 X01 X02 y01 y02 y11 y12 lX1 lX2 lb1 lb2 n1X n1b n2X n2b sz2 sw1 zc0 zf0 zc1 zf1 zc2 zf2 zc3 zf3 zc4 zf4 zc5 zf5 zc6 zf6 zc7 zf7
  try clear lt12
  obtain rfl:iOp=5:=hop_.out
  have hitv:itvOk ⟨iLo,iHi⟩=true:=by have h1:=I_.out.rest;unfold restOk at h1;simpa using h1
  obtain ⟨N,m0,r0,eN,hN0,em,er,ev9,b1,b2,b3,b4,b5,b6,b7,b8,b9⟩:=any_facts (n:=inp) hitv
  have hnn:I64 (iLo+r0):=by unfold I64;omega
  have hst:=Lib.hid ((st_any (inp:=inp) hm'.out hi_.out rfl rfl).trans (show _=goes (fs.set m { fs[m] with Vars:=fs[m].Vars.set dD (iLo+r0),Pc:=fs[m].Pc+1 }) by rw [ev9]))
  have wa0:wrap64 (iHi-iLo)=iHi-iLo:=wsmall ⟨by omega,by omega⟩
  have wb0:IntKind.i64.wrap (iHi-iLo)=iHi-iLo:=wsmall2 ⟨by omega,by omega⟩
  replace wa0:=Lib.hid wa0
  replace wb0:=Lib.hid wb0
  have wa1:wrap64 (N)=N:=wsmall ⟨by omega,by omega⟩
  have wb1:IntKind.i64.wrap (N)=N:=wsmall2 ⟨by omega,by omega⟩
  replace wa1:=Lib.hid wa1
  replace wb1:=Lib.hid wb1
  have wa2:wrap64 (m0+N)=m0+N:=wsmall ⟨by omega,by omega⟩
  have wb2:IntKind.i64.wrap (m0+N)=m0+N:=wsmall2 ⟨by omega,by omega⟩
  replace wa2:=Lib.hid wa2
  replace wb2:=Lib.hid wb2
  have wa3:wrap64 (iLo+r0)=iLo+r0:=wsmall ⟨by omega,by omega⟩
  have wb3:IntKind.i64.wrap (iLo+r0)=iLo+r0:=wsmall2 ⟨by omega,by omega⟩
  replace wa3:=Lib.hid wa3
  replace wb3:=Lib.hid wb3
  have eN_:=Lib.hid eN
  have hnn_:=Lib.hid hnn
  clear ev9 b1 b2 b3 b4 b5 b6 b7 b8 b9 hitv hnn
  replace wa0:=wa0.out
  replace wb0:=wb0.out
  replace wa1:=wa1.out
  replace wb1:=wb1.out
  replace wa2:=wa2.out
  replace wb2:=wb2.out
  replace wa3:=wa3.out
  replace wb3:=wb3.out
  go_wp2_with fail
  generalize hWi:World.alloc _ _=wi
  have hKi:Chg [] w4 wi:=hWi▸Chg.c
  have hKw:=hK4.trans0 hKi
  have bx0:wi.cell? ⟨w4.heap.size,0,none⟩=some (.int .i64 (dD:Int)):=by rw [←hWi];simp [go_sem]
  have bx1:wi.cell? ⟨w4.heap.size,1,none⟩=some (.int .i64 iLo):=by rw [←hWi];simp [go_sem]
  have bx2:wi.cell? ⟨w4.heap.size,2,none⟩=some (.int .i64 iHi):=by rw [←hWi];simp [go_sem]
  have lbx:w4.heap.size<wi.heap.size:=by rw [←hWi];simp [go_sem]
  have nbV:¬bV=w4.heap.size:=Nat.ne_of_lt lV
  have nbV2:¬w4.heap.size=bV:=fun e=>nbV e.symm
  have nbb:¬b=w4.heap.size:=Nat.ne_of_lt lb
  have nbb2:¬w4.heap.size=b:=fun e=>nbb e.symm
  replace X0:=hKi.cell0 X0
  replace X2:=hKi.cell0 X2
  replace y0:=hKi.cell0 y0
  replace y1:=hKi.cell0 y1
  replace y2:=hKi.cell0 y2
  replace y3:=hKi.cell0 y3
  replace vA:=hKi.cell0 vA
  replace vB:=hKi.cell0 vB
  replace vD:=hKi.cell0 vD
  replace zP:=(hKi.cells.2 b (off+m*4+1) lb).trans zP
  replace zD:=(hKi.cells.2 bV (oV+dD) lV).trans zD
  replace lX:=Nat.lt_of_lt_of_le lX hKi.size
  replace lb:=Nat.lt_of_lt_of_le lb hKi.size
  replace lV:=Nat.lt_of_lt_of_le lV hKi.size
  clear hWi hKi taarith taany
  go_region
  all_goals
   clear wa0 wb0 wa1 wb1 wa2 wb2 wa3 wb3
   obtain ⟨hq1,hq2b⟩:=hPc_.out
   go_wp2
   go_end0
   have e8:=ED_.out.set wi (iLo+r0) hKw hnn_.out
   have hs:=Fm_.out.setVP _ _ (fs[m].Pc+1) e8.1 e8.2.1 e8.2.2 hPc_.out
   have mV:bV∈G:=Fm_.out.subV _ ED_.out.mem
   have hcb:Chg [bV,b] wi ((wi.setCell ⟨bV,oV+dD,none⟩ (.int .i64 (iLo+r0))).setCell ⟨b,off+m*4+1,none⟩ (.int .i64 (fs[m].Pc+1))):=((Chg.refl [bV,b] wi).setCell (Or.inl (by simp)) _).setCell (Or.inl (by simp)) _
   have hcx:Chg (X::G) w ((wi.setCell ⟨bV,oV+dD,none⟩ (.int .i64 (iLo+r0))).setCell ⟨b,off+m*4+1,none⟩ (.int .i64 (fs[m].Pc+1))):=((hKw.of0).setCell (Or.inl (List.mem_cons_of_mem _ mV)) _).setCell (Or.inl (List.mem_cons_of_mem _ Fm_.out.mem)) _
   have hXf:=(hX_.out.chg0 hKw).chg hcb (fun hx=>by
    rcases List.mem_cons.1 hx with h1|h1
    · exact hXG_.out (h1▸mV)
    · exact hXb (List.mem_singleton.1 h1))
   show StepRes X _ G (stepped p (goes fs) inp) w _ _
   rw [hst.out]
   refine Or.inl ⟨rfl,_,G,(hXf.fr _).chg0 (by repeat (with_reducible first|exact Chg.refl _ _|refine Chg.alloc ?_ _|refine Chg.drew ?_)),?_,hs.1.chg0 (by repeat (with_reducible first|exact Chg.refl _ _|refine Chg.alloc ?_ _|refine Chg.drew ?_)),hs.2.chg0 (by repeat (with_reducible first|exact Chg.refl _ _|refine Chg.alloc ?_ _|refine Chg.drew ?_)),fun g hg=>Or.inl hg⟩
   repeat (with_reducible first|exact hcx|refine Chg.alloc ?_ _|refine Chg.drew ?_)
end Go.Proofs.YtjakhnhnjhafgaaGreat.Wk
namespace Go.Proofs.YtjakhnhnjhafgaaGreat.Wk
open Go Go.RowKit Go.Deep Ow
open Rp (R sz)
def Clone4(l:List Int)(w:World)(e:Ending)(w':World):Prop:=∃A c G,e=.returned (.slice A 4 c)∧Chg [] w w'∧RL w' l (.slice A 4 c) G∧Own w' G∧∀g∈G,w.heap.size≤g
theorem clone4_c(l:List Int)(v:Value)(F:List Nat)(w:World)(h:RL w l v F)(h4:l.length=4):Calls Tryz.prog 128 #[v] w (Clone4 l w):=by
 refine (cloneInt_c l v F w h h4).mono ?_
 rintro e w' ⟨v',G,rfl,hc,hr,ho,hg⟩
 obtain ⟨A,c,rfl,-,-⟩:=hr.form
 rw [h4] at hr ⊢
 exact ⟨A,c,G,rfl,hc,hr,ho,hg⟩
def CopyBox(w:World)(r:RunRun)(v:Value)(w':World):Prop:=w'.cell? ⟨w.heap.size,0,none⟩=some (.int .i64 r.State)∧w'.cell? ⟨w.heap.size,1,none⟩=some (v)∧w'.cell? ⟨w.heap.size,2,none⟩=some (.int .i64 r.Out)∧w'.cell? ⟨w.heap.size,3,none⟩=some (.int .i64 r.Proc)∧w'.cell? ⟨w.heap.size,4,none⟩=some (.int .i64 r.Pc)∧w'.frozen? ⟨w.heap.size,1,none⟩=false∧w'.cell? ⟨w.heap.size+1,0,none⟩=some (.int .i64 0)∧w'.cell? ⟨w.heap.size+1,1,none⟩=some (.slice none 0 0)∧w'.cell? ⟨w.heap.size+1,2,none⟩=some (.int .i64 0)∧w'.cell? ⟨w.heap.size+1,3,none⟩=some (.int .i64 0)∧w'.cell? ⟨w.heap.size+1,4,none⟩=some (.int .i64 0)∧w'.frozen? ⟨w.heap.size+1,0,none⟩=false∧w'.frozen? ⟨w.heap.size+1,1,none⟩=false∧w'.frozen? ⟨w.heap.size+1,2,none⟩=false∧w'.frozen? ⟨w.heap.size+1,3,none⟩=false∧w'.frozen? ⟨w.heap.size+1,4,none⟩=false∧w.heap.size+2≤w'.heap.size
theorem CopyBox.below{w w1 w2:World}{r:RunRun}{v:Value}(h:CopyBox w r v w1)(hb:Below (w.heap.size+2) w1 w2):CopyBox w r v w2:=by
 obtain ⟨x0,x1,x2,x3,x4,zx,q0,q1,q2,q3,q4,s0,s1,s2,s3,s4,lt⟩:=h
 have hm:=hb.size
 have e0:∀b o,b<w.heap.size+2→w2.cell? ⟨b,o,none⟩=w1.cell? ⟨b,o,none⟩:=fun b o h=>Below.cellB hb h
 have e1:∀b o,b<w.heap.size+2→w2.frozen? ⟨b,o,none⟩=w1.frozen? ⟨b,o,none⟩:=fun b o h=>Below.frozenB hb h
 exact ⟨(e0 _ _ (by omega)).trans x0,(e0 _ _ (by omega)).trans x1,(e0 _ _ (by omega)).trans x2,(e0 _ _ (by omega)).trans x3,(e0 _ _ (by omega)).trans x4,(e1 _ _ (by omega)).trans zx,(e0 _ _ (by omega)).trans q0,(e0 _ _ (by omega)).trans q1,(e0 _ _ (by omega)).trans q2,(e0 _ _ (by omega)).trans q3,(e0 _ _ (by omega)).trans q4,(e1 _ _ (by omega)).trans s0,(e1 _ _ (by omega)).trans s1,(e1 _ _ (by omega)).trans s2,(e1 _ _ (by omega)).trans s3,(e1 _ _ (by omega)).trans s4,by omega⟩
theorem CopyBox.chg{w w1 w2:World}{r:RunRun}{v:Value}(h:CopyBox w r v w1)(hc:Chg [] w1 w2):CopyBox w r v w2:=
 h.below ⟨hc.os,hc.tape,hc.output,hc.size,fun k hk=>hc.block k (by have:=h.2.2.2.2.2.2.2.2.2.2.2.2.2.2.2.2;omega) (by simp)⟩
theorem CopyBox.set{w w1:World}{r:RunRun}{v:Value}(h:CopyBox w r v w1)(u:Value):CopyBox w r u (w1.setCell ⟨w.heap.size,1,none⟩ u):=by
 obtain ⟨x0,x1,x2,x3,x4,zx,q0,q1,q2,q3,q4,s0,s1,s2,s3,s4,lt⟩:=h
 have e0:∀b o,(b≠w.heap.size∨o≠1)→(w1.setCell ⟨w.heap.size,1,none⟩ u).cell? ⟨b,o,none⟩=w1.cell? ⟨b,o,none⟩:=fun b o hh=>
  World.cell?_setCell_other _ _ _ _ (by intro e;injection e with e1 e2;omega)
 have e1:∀b o,(w1.setCell ⟨w.heap.size,1,none⟩ u).frozen? ⟨b,o,none⟩=w1.frozen? ⟨b,o,none⟩:=fun b o=>by simp
 exact ⟨(e0 _ _ (by omega)).trans x0,World.cell?_setCell_same _ _ _ x1,(e0 _ _ (by omega)).trans x2,(e0 _ _ (by omega)).trans x3,(e0 _ _ (by omega)).trans x4,(e1 _ _).trans zx,(e0 _ _ (by omega)).trans q0,(e0 _ _ (by omega)).trans q1,(e0 _ _ (by omega)).trans q2,(e0 _ _ (by omega)).trans q3,(e0 _ _ (by omega)).trans q4,(e1 _ _).trans s0,(e1 _ _).trans s1,(e1 _ _).trans s2,(e1 _ _).trans s3,(e1 _ _).trans s4,by simpa using lt⟩
theorem Chg.toBelow{w w':World}{G:List Nat}{n:Nat}(h:Chg G w w')(hG:∀g∈G,n≤g)(hn:n≤w.heap.size):Below n w w':=
 ⟨h.os,h.tape,h.output,h.size,fun k hk=>h.block k (by omega) (fun hh=>by have:=hG k hh;omega)⟩
set_option maxRecDepth 100000 in
set_option maxHeartbeats 4000000 in
theorem copyRun_c (r:RunRun) (vF:Value) (FF:List Nat) (w:World) (h:RL w r.Frames vF FF) (hl5:r.Frames.length≤5) (h4:∀f∈r.Frames,f.Vars.length=4∧f.Cells.length=4) :
 Calls Tryz.prog 65 #[runV r vF] w (RetCopy r w):=by
 obtain ⟨A,ca,rfl,hl,hm⟩:=h.form
 have hn:(r.Frames.length:Int)≤5:=by omega
 have H4:=Lib.hid h4
 have HL:=Lib.hid hl5
 clear h4 hl5 hm
 go_enter Tryz.func65,Tryz.ntmps65
 go_wp2
 go_loopw [11] (fun i wr=>∃(k:Nat) (A0:Option Addr) (cap0:Nat),k≤r.Frames.length∧i=.int .i64 k∧Chg [] w wr∧CopyBox w r (.slice A0 k cap0) wr∧Grow (w.heap.size+2) wr 58 (r.Frames.take k) (.slice A0 k cap0)) (fun i _=>r.Frames.length-(intOf i).toNat)
 case atStart=>
  refine ⟨0,none,0,Nat.zero_le _,rfl,Chg.c,?_,?_⟩
  · unfold CopyBox
    refine ⟨?_,?_,?_,?_,?_,?_,?_,?_,?_,?_,?_,?_,?_,?_,?_,?_,?_⟩
    all_goals first|(simp [go_sem];done)|(simp;omega)
  · rw [List.take_zero]
    exact Grow.nil_ _ _ _
 case round =>
  obtain ⟨k,A0,cap0,hk,rfl,hc,hbx,hG⟩:=hrel
  have HB:=hbx
  unfold CopyBox at hbx
  obtain ⟨x0,x1,x2,x3,x4,zx,q0,q1,q2,q3,q4,s0,s1,s2,s3,s4,lt⟩:=hbx
  by_cases hlt:k<r.Frames.length
  · obtain ⟨b1, o1, p1',c1,f1,e1,r1,m1,-⟩:=(h.chg0 hc).elem hlt
    obtain ⟨vV,FV,vC,FC,rfl,hF1,iP,iC,gV,gC⟩:=R_RunFrame.1 r1
    injection e1 with e1 _ e1c
    subst e1 e1c
    have ya0:=m1 0 (by decide)
    have ya1:=m1 1 (by decide)
    have ya2:=m1 2 (by decide)
    have ya3:=m1 3 (by decide)
    simp only [sz_RunFrame,Nat.add_zero,List.getElem?_cons_zero,List.getElem?_cons_succ] at ya0 ya1 ya2 ya3
    obtain ⟨AV,cV,rfl,-,-⟩:=gV.form
    obtain ⟨AC,cC,rfl,-,-⟩:=gC.form
    have h44:=H4.out r.Frames[k] (List.getElem_mem hlt)
    have hclV:=fun (wx:World) (hx:Chg [] wr wx)=>clone4_c r.Frames[k].Vars _ _ wx (gV.chg0 hx) h44.1
    have hclC:=fun (wx:World) (hx:Chg [] wr wx)=>clone4_c r.Frames[k].Cells _ _ wx (gC.chg0 hx) h44.2
    have HG:=Lib.hid hG
    have iP':=Lib.hid iP
    have iC':=Lib.hid iC
    have htk:=Lib.hid (show (r.Frames.take k).length=k by rw [List.length_take];omega)
    have hl9:=Lib.hid (show (r.Frames.take k).length<1000 by rw [List.length_take];have:=HL.out;omega)
    clear hG h gV gC m1 r1 h44 iP iC
    have wl1:w.heap.size+1<wr.heap.size:=lt
    have wl0:w.heap.size<wr.heap.size:=Nat.lt_of_succ_lt wl1
    go_wp2_with fail
    go_region_with (first
     | (go_at_call_of 128 AV
        refine (hclV _ (Chg.c)).mono ?_
        rintro e wV ⟨AVn,cVn,GV',rfl,hcV,hrV,hoV,hgV⟩
        have kV:Chg [] wr wV:=Chg.trans0 (show Chg [] wr _ from Chg.c) hcV
        have tV0:wV.cell? ⟨wr.heap.size,0,none⟩=some (.int .i64 r.Frames[k].Proc):=hcV.cell0 (by simp)
        have tV1:wV.cell? ⟨wr.heap.size,1,none⟩=some (.int .i64 r.Frames[k].Pc):=hcV.cell0 (by simp)
        have tV2:wV.cell? ⟨wr.heap.size,2,none⟩=some (.slice AV r.Frames[k].Vars.length cV):=hcV.cell0 (by simp)
        have tV3:wV.cell? ⟨wr.heap.size,3,none⟩=some (.slice AC r.Frames[k].Cells.length cC):=hcV.cell0 (by simp)
        have zV2:wV.frozen? ⟨wr.heap.size,2,none⟩=false:=(hcV.cells.2 wr.heap.size 2 (by simp)).trans (by simp)
        have zV3:wV.frozen? ⟨wr.heap.size,3,none⟩=false:=(hcV.cells.2 wr.heap.size 3 (by simp)).trans (by simp)
        have lV:wr.heap.size<wV.heap.size:=Nat.lt_of_lt_of_le (by simp) hcV.size)
     | (go_at_call_of 128 AC
        refine (hclC _ (Chg.k)).mono ?_
        rintro e wC ⟨ACn,cCn,GC',rfl,hcC,hrC,hoC,hgC⟩
        have kC:Chg [] wr wC:=Chg.trans0 (show Chg [] wr _ from Chg.k) hcC
        have kVC:Chg [] wV wC:=Chg.trans0 (show Chg [] wV _ from Chg.c) hcC
        have tC0:=kVC.cell0 tV0
        have tC1:=kVC.cell0 tV1
        have tC2:=kVC.cell0 tV2
        have tC3:=kVC.cell0 tV3
        have zC2:=(kVC.cells.2 wr.heap.size 2 lV).trans zV2
        have zC3:=(kVC.cells.2 wr.heap.size 3 lV).trans zV3
        have lC:wr.heap.size<wC.heap.size:=Nat.lt_of_lt_of_le lV kVC.size
        have hbx5:=HB.chg kC
        unfold CopyBox at hbx5
        obtain ⟨x05,x15,x25,x35,x45,zx5,q05,q15,q25,q35,q45,s05,s15,s25,s35,s45,lt5⟩:=hbx5))
    all_goals
     have hne0:¬w.heap.size=wr.heap.size:=Nat.ne_of_lt wl0
     have hne1:¬w.heap.size+1=wr.heap.size:=Nat.ne_of_lt wl1
     have la5:w.heap.size+1<wC.heap.size:=lt5
     have lb5:w.heap.size<wC.heap.size:=Nat.lt_of_succ_lt la5
     have dV:∀b∈GV',b∉[wr.heap.size]:=fun b hb hb'=>by have h1:=hgV b hb;have h2:=List.mem_singleton.1 hb';(try simp at h1);omega
     have dC:∀b∈GC',b∉[wr.heap.size]:=fun b hb hb'=>by have h1:=hgC b hb;have h2:=List.mem_singleton.1 hb';(try simp at h1);omega
     have hap:∀b∈GV',b∉GC':=fun b hb hb'=>by have h1:=hoV.lt b hb;have h2:=hgC b hb';(try simp at h2);omega
     have hNC:=fun (Wx:World) (hx:Chg [wr.heap.size] wC Wx)=>(NewFrame.mk ((hrV.chg0 kVC).chg hx dV) (hrC.chg hx dC) (Own.append ((hoV.chg0 kVC).chg hx dV) (hoC.chg hx dC) hap) (fun g hg=>by
      rcases List.mem_append.1 hg with h1|h1
      · have h2:=hgV g h1;(try simp at h2);omega
      · have h2:=hgC g h1;(try simp at h2);omega) iP'.out iC'.out:NewFrame Wx r.Frames[k] AVn cVn GV' ACn cCn GC' wr.heap.size)
     have hBx:=fun (Wx:World) (hx:Chg [wr.heap.size] wC Wx)=>(HB.chg kC).below (Chg.toBelow hx (n:=w.heap.size+2) (fun g hg=>by have:=List.mem_singleton.1 hg;omega) lt5)
     generalize hWf:((wC.setCell ⟨wr.heap.size,2,none⟩ (.slice AVn 4 cVn)).setCell ⟨wr.heap.size,3,none⟩ (.slice ACn 4 cCn))=Wf
     have hxF:Chg [wr.heap.size] wC Wf:=hWf▸(((Chg.refl [wr.heap.size] wC).setCell (Or.inl (by simp)) _).setCell (Or.inl (by simp)) _)
     have kF:Chg [] wr Wf:=kC.trans hxF (fun g hg=>Or.inr (Nat.le_of_eq (List.mem_singleton.1 hg).symm))
     have u0:Wf.cell? ⟨wr.heap.size,0,none⟩=some (.int .i64 r.Frames[k].Proc):=hWf▸(World.cell?_setCell_other _ _ _ _ (by intro e;injection e with e1 e2;omega)).trans ((World.cell?_setCell_other _ _ _ _ (by intro e;injection e with e1 e2;omega)).trans tC0)
     have u1:Wf.cell? ⟨wr.heap.size,1,none⟩=some (.int .i64 r.Frames[k].Pc):=hWf▸(World.cell?_setCell_other _ _ _ _ (by intro e;injection e with e1 e2;omega)).trans ((World.cell?_setCell_other _ _ _ _ (by intro e;injection e with e1 e2;omega)).trans tC1)
     have u2:Wf.cell? ⟨wr.heap.size,2,none⟩=some (.slice AVn 4 cVn):=hWf▸(World.cell?_setCell_other _ _ _ _ (by intro e;injection e with e1 e2;omega)).trans (World.cell?_setCell_same _ _ _ tC2)
     have u3:Wf.cell? ⟨wr.heap.size,3,none⟩=some (.slice ACn 4 cCn):=hWf▸World.cell?_setCell_same _ _ _ ((World.cell?_setCell_other _ _ _ _ (by intro e;injection e with e1 e2;omega)).trans tC3)
     have HBF:=hBx _ hxF
     have hNF:=hNC _ hxF
     have hbxF:=HBF
     unfold CopyBox at hbxF
     obtain ⟨x0F,x1F,x2F,x3F,x4F,zxF,q0F,q1F,q2F,q3F,q4F,s0F,s1F,s2F,s3F,s4F,ltF⟩:=hbxF
     have lF:wr.heap.size<Wf.heap.size:=Nat.lt_of_lt_of_le lC hxF.size
     have laF:w.heap.size+1<Wf.heap.size:=ltF
     have lbF:w.heap.size<Wf.heap.size:=Nat.lt_of_succ_lt laF
     have HNF:=Lib.hid hNF
     clear hWf hNC hBx hNF hclV hclC tV0 tC0 tV1 tC1 tV2 tC2 tV3 tC3 zV2 zV3 zC2 zC3 x05 x15 x25 x35 x45 zx5 q05 q15 q25 q35 q45 s05 s15 s25 s35 s45
     go_wp2_with (at_builtin
                  go_loud (refine wpList_push _ rfl _ _ rfl wr (w.heap.size+2) (r.Frames.take k) _ HG.out ?_ lt hl9.out k htk.out rfl _ _ r.Frames[k] AVn cVn GV' ACn cCn GC' rfl (frame_alloc _ _ _ _ _ _ _) ?_ ?_)
                  · exact kF.alloc _
                  · exact HNF.out.chg ((Chg.refl _ _).alloc _)
                  intro g cap w6 hG6 hB6
                  have hbx6:=(HBF.chg ((Chg.refl _ _).alloc _)).below hB6
                  have HB6:=hbx6
                  unfold CopyBox at hbx6
                  obtain ⟨x06,x16,x26,x36,x46,zx6,q06,q16,q26,q36,q46,s06,s16,s26,s36,s46,lt6⟩:=hbx6
                  have hK6:=Chg.andBelow (hc.trans0 (kF.alloc _)) hB6 (by omega))
     go_roundw
     case rel=>
      refine ⟨k+1,some ⟨g,0,none⟩,cap,by omega,by go_num,?_,HB6.set _,?_⟩
      · exact hK6.setCell (Or.inr (by simp)) _
      · rw [List.take_succ_eq_append_getElem hlt]
        exact hG6.chg (G:=[w.heap.size]) ((Chg.refl _ _).setCell (Or.inl (by simp)) _) (by simp)
     case measure=>simp [intOf];omega
  · obtain rfl:k=r.Frames.length:=by omega
    rw [List.take_length] at hG
    have HG:=Lib.hid hG
    clear h hG
    go_wp2
    refine bodyPost_ret (v:=runV r (.slice A0 r.Frames.length cap0)) ?_ rfl ?_
    · simp [results,Tryz.results65,go_sem,q0,q1,q2,q3,q4,x0,x1,x2,x3,x4]
    · exact ⟨_,w.heap.size+2,rfl,Chg.c,HG.out.chg (G:=[w.heap.size+1]) (Chg.g) (by simp),by omega⟩
end Go.Proofs.YtjakhnhnjhafgaaGreat.Wk
