/- A part of the proof. -/
import Derived.Deep.RegionHeld3
import Derived.Test.YtjakhnhnjhafgaaGreatK04
import Derived.Test.YtjakhnhnjhafgaaGreatK02
import Derived.Test.YtjakhnhnjhafgaaGreatK03
set_option linter.unusedVariables false
set_option linter.unusedSimpArgs false
namespace Go.Proofs.YtjakhnhnjhafgaaGreat.Wk
open Go Go.RowKit Go.Deep Ow
open Rp (R sz)
set_option maxRecDepth 100000 in
set_option maxHeartbeats 8000000 in
theorem impStep6_c(p:PrgProg)(fs:List RunFrame)(inp:Int)(X:Nat)(vP:Value)(FP:List Nat)(v:Value)(G:List Nat)(w:World)(hP:RL w p.Procs vP FP)(hXP:X∉FP)(hX:RunX w X vP (goes fs) v)(h:RL w fs v G)(ho:Own w G)(hXG:X∉G)(hroom:Room w 58 v fs.length)(hin:I64 inp)(hok:runOk p (goes fs)=true)
 (hsel:∀(m:Nat) (hml:m<fs.length) (i:InsIns),fs.length=m+1→prgAt p fs[m].Proc fs[m].Pc=some i→i.Op=6) :
 Calls Tryz.prog 130 #[.pointer (some ⟨X,0,none⟩),.int .i64 inp] w (StepRes X vP G (stepped p (goes fs) inp) w):=by
 have F:=goes_facts hok rfl
 have hp:=F.prg
 obtain ⟨m,hm'⟩:∃m,Hid (fs.length=m+1):=⟨fs.length-1,Lib.hid (by have:=F.n1;simp only [goes] at this;omega)⟩
 have hml:m<fs.length:=by have:=hm'.out;omega
 have n5:fs.length≤5:=F.n5
 have hN:nestOk p fs=true:=F.nest
 obtain ⟨i,hi,hV,hC,nV,nC⟩:=frame_facts ((nest_iff p _).1 hN m hml).1
 obtain ⟨kp,jp,At⟩:=prgAt_facts hp hi
 have I:=ins_facts At.ok
 have hop:=hsel m hml i hm'.out hi
 have hPc:I64 (fs[m].Pc+1):=by have h1:=At.epc;have h2:=At.j10;unfold I64;omega
 obtain ⟨dA,hA⟩:=Int.eq_ofNat_of_zero_le I.a0
 obtain ⟨dB,hB⟩:=Int.eq_ofNat_of_zero_le I.b0
 obtain ⟨dD,hD⟩:=Int.eq_ofNat_of_zero_le I.d0
 have lA:dA<fs[m].Vars.length:=by have:=I.a4;omega
 have lB:dB<fs[m].Vars.length:=by have:=I.b4;omega
 have lD:dD<fs[m].Vars.length:=by have:=I.d4;omega
 have nA:=nV _ (List.getElem_mem lA)
 have nB:=nV _ (List.getElem_mem lB)
 have hsub:((m:Int)+1-1)=m:=by omega
 have hm4:(m:Int)≤4:=by have:=hm'.out;omega
 have hmB:(m:Int)+1≤9223372036854775807:=by omega
 have hdA:(dA:Int)<fs[m].Vars.length:=by omega
 have hdB:(dB:Int)<fs[m].Vars.length:=by omega
 have hdD:(dD:Int)<fs[m].Vars.length:=by omega
 obtain ⟨AP,cP,rfl,-,-⟩:=hP.form
 obtain ⟨b,off,cap,vV,vC,FV,FC,Fm,hap⟩:=frame_in_ap h ho (i:=m) hml
 have hap_:=Lib.hid hap
 clear hap
 have ev:=Fm.eq
 rw [hm'.out] at ev
 subst ev
 obtain ⟨bV,oV,cV,EA⟩:=int_at Fm.rV Fm.oV lA
 have eV:=EA.eq
 subst eV
 obtain ⟨bB,oB,cB,EB⟩:=int_at Fm.rV Fm.oV lB
 have eB:=EB.eq
 injection eB with eB1 _ eB2
 injection eB1 with eB1
 injection eB1 with eB1 eB3
 subst eB1 eB2 eB3
 obtain ⟨bE,oE,cE,ED⟩:=int_at Fm.rV Fm.oV lD
 have eD:=ED.eq
 injection eD with eD1 _ eD2
 injection eD1 with eD1
 injection eD1 with eD1 eD3
 subst eD1 eD2 eD3
 obtain ⟨AC,kC,rfl,-,-⟩:=Fm.rC.form
 obtain ⟨iOp,iD,iA,iB,iRel,iLo,iHi,iTo⟩:=i
 simp only at hA hB hD
 subst hA hB hD
 have hat:∀wx,Chg [] w wx→Calls Tryz.prog 75 #[.agg #[.slice AP p.Procs.length cP],.int .i64 fs[m].Proc,.int .i64 fs[m].Pc] wx (fun e w'=>e=.returned (atV (some ⟨iOp,dD,dA,dB,iRel,iLo,iHi,iTo⟩))∧Chg [] wx w'):=fun wx hx=>by
  have:=implPrgAt_c p fs[m].Proc fs[m].Pc _ _ wx (hP.chg0 hx)
  rw [hi] at this
  exact this
 have X0:=hX.c0
 have X2:=hX.c2
 have y0:=Fm.c0
 have y1:=Fm.c1
 have y2:=Fm.c2
 have y3:=Fm.c3
 have vA:=EA.cell
 have vB:=EB.cell
 have vD:=ED.cell
 have lX:=hX.lt
 have lb:b<w.heap.size:=World.block_lt_of_cell? _ _ y0
 have lV:bV<w.heap.size:=World.block_lt_of_cell? _ _ vA
 have hXb:¬X=b:=fun e=>hXG (e▸Fm.mem)
 have hnb:¬bV=b:=fun e=>Fm.bV (e▸EA.mem)
 have hnb':¬b=bV:=fun e=>hnb e.symm
 have zP:=Fm.fz (off+m*4+1)
 have zD:=ED.fz (oV+dD)
 have hP_:=Lib.hid hP
 have hX_:=Lib.hid hX
 have h_:=Lib.hid h
 have ho_:=Lib.hid ho
 have hXG_:=Lib.hid hXG
 have hXP_:=Lib.hid hXP
 have hroom_:=Lib.hid hroom
 have hp_:=Lib.hid hp
 have hN_:=Lib.hid hN
 have hi_:=Lib.hid hi
 have hV_:=Lib.hid hV
 have hC_:=Lib.hid hC
 have nV_:=Lib.hid nV
 have nC_:=Lib.hid nC
 have hop_:=Lib.hid hop
 have nA_:=Lib.hid nA
 have nB_:=Lib.hid nB
 have I_:=Lib.hid I
 have n5_:=Lib.hid n5
 have Fm_:=Lib.hid Fm
 have EA_:=Lib.hid EA
 have EB_:=Lib.hid EB
 have ED_:=Lib.hid ED
 have hPc_:=Lib.hid hPc
 clear hP hX h ho hXG hXP hroom hN hi hV hC nV nC hop nA nB I n5 Fm EA EB ED hPc hok F hsel hp
 have taarith:=ta_load_arith (dD:Int) (dA:Int)
 have taany:=ta_load_any (dD:Int) (dA:Int)
 have taload:=ta_load_load (dD:Int) (dA:Int)
 go_enter Tryz.func130,Tryz.ntmps130
 go_wp2_with (go_at_call 174;refine (top_c X b off m cap _ X2 hmB).mono ?_;rintro e w1 ⟨rfl,hc1⟩;have hK1:=hc1;have sw1:=hc1.size;have X01:=hc1.cell0 X0;have y01:=hc1.cell0 y0;have y11:=hc1.cell0 y1;have lX1:=Nat.lt_of_lt_of_le lX hc1.size;have lb1:=Nat.lt_of_lt_of_le lb hc1.size;have n1X:¬X=w1.heap.size:=Nat.ne_of_lt lX1;have n1b:¬b=w1.heap.size:=Nat.ne_of_lt lb1;clear hc1)
 clear hmB
 go_region_held3 (fun w'=>w'.cell? ⟨X,0,none⟩=some (.slice AP p.Procs.length cP)∧w'.cell? ⟨b,off+m*4,none⟩=some (.int .i64 fs[m].Proc)∧w'.cell? ⟨b,off+m*4+1,none⟩=some (.int .i64 fs[m].Pc)) (((try dsimp only);(repeat' apply And.intro)<;>(first|with_reducible assumption|(with_reducible refine (cell8 ?_).trans ?_<;>(first|with_reducible assumption|exact n1X|exact n1b|exact n2X|exact n2b))|(go_keep;done))))
  (first|(go_at_call 75;refine (hat _ (Chg.k)).mono ?_;rintro e w2 ⟨rfl,hq2⟩;have hK12:Chg [] w1 w2:=Chg.trans0 (show Chg [] w1 _ from Chg.c) hq2;have hK2:=hK1.trans0 hK12;have X02:=hK12.cell0 X01;have y02:=hK12.cell0 y01;have y12:=hK12.cell0 y11;have lX2:=Nat.lt_of_lt_of_le lX1 hK12.size;have lb2:=Nat.lt_of_lt_of_le lb1 hK12.size;have n2X:¬X=w2.heap.size:=Nat.ne_of_lt lX2;have n2b:¬b=w2.heap.size:=Nat.ne_of_lt lb2;have zc0:=hq2.cells.1 w1.heap.size 0;have zc1:=hq2.cells.1 w1.heap.size 1;have zc2:=hq2.cells.1 w1.heap.size 2;have zc3:=hq2.cells.1 w1.heap.size 3;have zc4:=hq2.cells.1 w1.heap.size 4;have zc5:=hq2.cells.1 w1.heap.size 5;have zc6:=hq2.cells.1 w1.heap.size 6;have zc7:=hq2.cells.1 w1.heap.size 7;have zf0:=hq2.cells.2 w1.heap.size 0;have zf1:=hq2.cells.2 w1.heap.size 1;have zf2:=hq2.cells.2 w1.heap.size 2;have zf3:=hq2.cells.2 w1.heap.size 3;have zf4:=hq2.cells.2 w1.heap.size 4;have zf5:=hq2.cells.2 w1.heap.size 5;have zf6:=hq2.cells.2 w1.heap.size 6;have zf7:=hq2.cells.2 w1.heap.size 7;have sz2:=hq2.size;(try simp only [World.size_alloc,World.size_setCell,World.size_drew] at sz2);(try have lt12:=Nat.lt_of_succ_le sz2)))
 all_goals
  obtain ⟨hq1,hq2b⟩:=hPc_.out
  go_wp2_with fail
  clear hq1 hq2b
  refine (codeOf6_c ⟨iOp,dD,dA,dB,iRel,iLo,iHi,iTo⟩ _ hop_.out).mono ?_
  rintro e w4 ⟨rfl,hc4⟩
  have hK4:Chg [] w w4:=Chg.trans0 (show Chg [] w _ from Chg.k) hc4
  replace X0:=hK4.cell0 X0
  replace X2:=hK4.cell0 X2
  replace y0:=hK4.cell0 y0
  replace y1:=hK4.cell0 y1
  replace y2:=hK4.cell0 y2
  replace y3:=hK4.cell0 y3
  replace vA:=hK4.cell0 vA
  replace vB:=hK4.cell0 vB
  replace vD:=hK4.cell0 vD
  replace zP:=(hK4.cells.2 b (off+m*4+1) lb).trans zP
  replace zD:=(hK4.cells.2 bV (oV+dD) lV).trans zD
  replace lX:=Nat.lt_of_lt_of_le lX hK4.size
  replace lb:=Nat.lt_of_lt_of_le lb hK4.size
  replace lV:=Nat.lt_of_lt_of_le lV hK4.size
  clear hat hc4 hK2 hK1 hK12 hq2 X01 X02 y01 y02 y11 y12 lX1 lX2 lb1 lb2 n1X n1b n2X n2b sz2 sw1 zc0 zf0 zc1 zf1 zc2 zf2 zc3 zf3 zc4 zf4 zc5 zf5 zc6 zf6 zc7 zf7
  try clear lt12
  obtain rfl:iOp=6:=hop_.out
  go_wp2_with fail
  generalize hWi:World.alloc _ _=wi
  have hKi:Chg [] w4 wi:=hWi▸Chg.c
  have hKw:=hK4.trans0 hKi
  have bx0:wi.cell? ⟨w4.heap.size,0,none⟩=some (.int .i64 (dD:Int)):=by rw [←hWi];simp [go_sem]
  have bx1:wi.cell? ⟨w4.heap.size,1,none⟩=some (.int .i64 (dA:Int)):=by rw [←hWi];simp [go_sem]
  have lbx:w4.heap.size<wi.heap.size:=by rw [←hWi];simp [go_sem]
  have nbV:¬bV=w4.heap.size:=Nat.ne_of_lt lV
  have nbV2:¬w4.heap.size=bV:=fun e=>nbV e.symm
  have nbb:¬b=w4.heap.size:=Nat.ne_of_lt lb
  have nbb2:¬w4.heap.size=b:=fun e=>nbb e.symm
  replace X0:=hKi.cell0 X0
  replace X2:=hKi.cell0 X2
  replace y0:=hKi.cell0 y0
  replace y1:=hKi.cell0 y1
  replace y2:=hKi.cell0 y2
  replace y3:=hKi.cell0 y3
  replace vA:=hKi.cell0 vA
  replace vB:=hKi.cell0 vB
  replace vD:=hKi.cell0 vD
  replace zP:=(hKi.cells.2 b (off+m*4+1) lb).trans zP
  replace zD:=(hKi.cells.2 bV (oV+dD) lV).trans zD
  replace lX:=Nat.lt_of_lt_of_le lX hKi.size
  replace lb:=Nat.lt_of_lt_of_le lb hKi.size
  replace lV:=Nat.lt_of_lt_of_le lV hKi.size
  clear hWi hKi taarith taany taload
  cases hbl:below fs[m].Vars[dA] 4
  · have hst:=Lib.hid (st_cell_bad (inp:=inp) hm'.out hi_.out (by simp) rfl lA hbl)
    have hcb9:=fun (wx:World) (hx:Chg [] wi wx)=>cellBad_c X b off m cap fs[m].Vars[dA] fs[m] wx (hx.cell0 X2) (by omega) (hx.cell0 y0) (hx.cell0 y1) hbl
    clear hbl
    refine wp_region_held_drew (S:=(fun w'=>w'.cell? ⟨w4.heap.size,0,none⟩=some (.int .i64 (dD:Int))∧w'.cell? ⟨w4.heap.size,1,none⟩=some (.int .i64 (dA:Int))∧w'.cell? ⟨b,off+m*4+2,none⟩=some (.slice (some ⟨bV,oV,none⟩) fs[m].Vars.length cV))) (by kernel_rfl) ?_ (fun hHeld=>?_)
    focus (((try dsimp only);(repeat' apply And.intro)<;>(first|with_reducible assumption|(go_keep;done))))
    refine wpAnyH_take (i:=0) (v:=?_) rfl (by kernel_rfl) (by kernel_rfl) (by kernel_rfl) (fun _ _ _ h=>h) (Or.inl ⟨by rfl,?_⟩) hHeld ?_
    rotate_left
    focus (intro w hSw;(try dsimp only at hSw);go_simp<;>with_reducible rfl)
    rotate_right
    try simp only [pS,pN,pA,pZ,pC]
    refine wpAnyH_take (i:=1) (v:=?_) rfl (by kernel_rfl) (by kernel_rfl) (by kernel_rfl) (fun _ _ _ h=>h) (Or.inl ⟨by rfl,?_⟩) hHeld ?_
    rotate_left
    focus (intro w hSw;(try dsimp only at hSw);go_simp<;>with_reducible rfl)
    rotate_right
    try simp only [pS,pN,pA,pZ,pC]
    refine wpAnyH_take (i:=2) (v:=?_) rfl (by kernel_rfl) (by kernel_rfl) (by kernel_rfl) (fun _ _ _ h=>h) (Or.inl ⟨by rfl,?_⟩) hHeld ?_
    rotate_left
    focus (intro w hSw;(try dsimp only at hSw);go_simp<;>with_reducible rfl)
    rotate_right
    try simp only [pS,pN,pA,pZ,pC]
    refine wpAnyH_take (i:=3) (v:=?_) rfl (by kernel_rfl) (by kernel_rfl) (by kernel_rfl) (fun _ _ _ h=>h) (Or.inl ⟨by rfl,?_⟩) hHeld ?_
    rotate_left
    focus (intro w hSw;(try dsimp only at hSw);go_simp<;>with_reducible rfl)
    rotate_right
    try simp only [pS,pN,pA,pZ,pC]
    refine wpAnyH_take (i:=4) (v:=?_) rfl (by kernel_rfl) (by kernel_rfl) (by kernel_rfl) (fun _ _ _ h=>h) (Or.inl ⟨by rfl,?_⟩) hHeld ?_
    rotate_left
    focus (intro w hSw;(try dsimp only at hSw);go_simp<;>with_reducible rfl)
    rotate_right
    try simp only [pS,pN,pA,pZ,pC]
    refine wpAnyH_take (i:=5) (v:=?_) rfl (by kernel_rfl) (by kernel_rfl) (by kernel_rfl) (fun _ _ _ h=>h) (Or.inl ⟨by rfl,?_⟩) hHeld ?_
    rotate_left
    focus (intro w hSw;(try dsimp only at hSw);go_simp<;>with_reducible rfl)
    rotate_right
    try simp only [pS,pN,pA,pZ,pC]
    refine wpAnyH_take (i:=6) (v:=?_) rfl (by kernel_rfl) (by kernel_rfl) (by kernel_rfl) (fun _ _ _ h=>h) (Or.inl ⟨by rfl,?_⟩) hHeld ?_
    rotate_left
    focus (intro w hSw;(try dsimp only at hSw);go_simp<;>with_reducible rfl)
    rotate_right
    try simp only [pS,pN,pA,pZ,pC]
    refine wpAnyH_take (i:=7) (v:=?_) rfl (by kernel_rfl) (by kernel_rfl) (by kernel_rfl) (fun _ _ _ h=>h) (Or.inl ⟨by rfl,?_⟩) hHeld ?_
    rotate_left
    focus (intro w hSw;(try dsimp only at hSw);go_simp<;>with_reducible rfl)
    rotate_right
    try simp only [pS,pN,pA,pZ,pC]
    refine wpAnyH_take (i:=8) (v:=?_) rfl (by kernel_rfl) (by kernel_rfl) (by kernel_rfl) (fun _ _ _ h=>h) (Or.inl ⟨by rfl,?_⟩) hHeld ?_
    rotate_left
    focus (intro w hSw;(try dsimp only at hSw);go_simp<;>with_reducible rfl)
    rotate_right
    try simp only [pS,pN,pA,pZ,pC]
    refine wpAnyH_take (i:=9) (v:=?_) rfl (by kernel_rfl) (by kernel_rfl) (by kernel_rfl) (fun _ _ _ h=>h) (Or.inl ⟨by rfl,?_⟩) hHeld ?_
    rotate_left
    focus (intro w hSw;(try dsimp only at hSw);go_simp<;>with_reducible rfl)
    rotate_right
    try simp only [pS,pN,pA,pZ,pC]
    refine wpAnyH_take (i:=10) (v:=?_) rfl (by kernel_rfl) (by kernel_rfl) (by kernel_rfl) (fun _ _ _ h=>h) (Or.inl ⟨by rfl,?_⟩) hHeld ?_
    rotate_left
    focus (intro w hSw;(try dsimp only at hSw);go_simp<;>with_reducible rfl)
    rotate_right
    try simp only [pS,pN,pA,pZ,pC]
    refine wpAnyH_take (i:=11) (v:=?_) rfl (by kernel_rfl) (by kernel_rfl) (by kernel_rfl) (fun _ _ _ h=>h) (Or.inl ⟨by rfl,?_⟩) hHeld ?_
    rotate_left
    focus (intro w hSw;(try dsimp only at hSw);go_simp<;>with_reducible rfl)
    rotate_right
    try simp only [pS,pN,pA,pZ,pC]
    refine wpAnyH_take (i:=12) (v:=?_) rfl (by kernel_rfl) (by kernel_rfl) (by kernel_rfl) (fun _ _ _ h=>h) (Or.inl ⟨by rfl,?_⟩) hHeld ?_
    rotate_left
    focus (intro w hSw;(try dsimp only at hSw);go_simp<;>with_reducible rfl)
    rotate_right
    try simp only [pS,pN,pA,pZ,pC]
    refine wpAnyH_take (i:=13) (v:=?_) rfl (by kernel_rfl) (by kernel_rfl) (by kernel_rfl) (fun _ _ _ h=>h) (Or.inl ⟨by rfl,?_⟩) hHeld ?_
    rotate_left
    focus (intro w hSw;(try dsimp only at hSw);go_simp<;>with_reducible rfl)
    rotate_right
    try simp only [pS,pN,pA,pZ,pC]
    refine wpAnyH_ready (rs:=[14]) (by kernel_rfl) (by simp) ?_
    refine AllReadyH.cons rfl (fun K hK=>?_) AllReadyH.nil
    go_simp
    refine hK.out _ _ ?_ (fun hHeld=>?_)
    focus (((try dsimp only);(repeat' apply And.intro)<;>(first|with_reducible assumption|(go_keep;done))))
    clear hK K
    try simp only [pS,pN,pA,pZ,pC]
    refine wpAnyH_ready (rs:=[15]) (by kernel_rfl) (by simp) ?_
    refine AllReadyH.cons rfl (fun K hK=>?_) AllReadyH.nil
    go_simp
    go_wp2_with (go_at_call 177;refine (hcb9 _ (Chg.c)).mono ?_;rintro e w9 ⟨rfl,hc9⟩;have hK9:Chg [] wi w9:=Chg.trans0 (show Chg [] wi _ from Chg.c) hc9)
    refine ⟨rfl,?_⟩
    show StepRes X _ G (stepped p (goes fs) inp) w _ _
    rw [hst.out]
    exact Or.inr ⟨⟨rfl,(hKw.trans0 hK9).of0⟩,rfl⟩
  · obtain ⟨a,hav,ha4⟩:=below_get hbl
    have laC:a<fs[m].Cells.length:=by have:=hC_.out;omega
    obtain ⟨bX,oX,cX,EX⟩:=int_at Fm_.out.rC Fm_.out.oC laC
    have eX:=EX.eq
    injection eX with eX1 _ eX2
    subst eX1 eX2
    have vX0:=EX.cell
    have zX0:=EX.fz (oX+a)
    have lX0:bX<w.heap.size:=World.block_lt_of_cell? _ _ vX0
    have vX:=hKw.cell0 vX0
    have zX:=(hKw.cells.2 bX (oX+a) lX0).trans zX0
    have lXi:=Nat.lt_of_lt_of_le lX0 hKw.size
    have nXV:¬bX=bV:=fun e=>hap_.out bV ED_.out.mem (e▸EX.mem)
    have nXV2:¬bV=bX:=fun e=>nXV e.symm
    have nXb:¬bX=b:=fun e=>Fm_.out.bC (e▸EX.mem)
    have nXb2:¬b=bX:=fun e=>nXb e.symm
    have nXx:¬bX=w4.heap.size:=Nat.ne_of_lt (Nat.lt_of_lt_of_le lX0 hK4.size)
    have nXx2:¬w4.heap.size=bX:=fun e=>nXx e.symm
    have haC:(a:Int)<fs[m].Cells.length:=by omega
    have EX_:=Lib.hid EX
    have hco:=fun (wx:World) (hx:Chg [] wi wx)=>cellOk_c X b off m cap a bX oX fs[m].Cells.length kC wx (hx.cell0 X2) (by omega) (hx.cell0 y3) ha4 laC
    have hst:=Lib.hid (st_load (inp:=inp) hm'.out hi_.out rfl rfl rfl lA hav ha4 laC)
    rw [hav] at vA
    have hav_:=Lib.hid hav
    clear hbl hav EX vX0 zX0
    refine wp_region_held_drew (S:=(fun w'=>w'.cell? ⟨w4.heap.size,0,none⟩=some (.int .i64 (dD:Int))∧w'.cell? ⟨w4.heap.size,1,none⟩=some (.int .i64 (dA:Int))∧w'.cell? ⟨b,off+m*4+2,none⟩=some (.slice (some ⟨bV,oV,none⟩) fs[m].Vars.length cV))) (by kernel_rfl) ?_ (fun hHeld=>?_)
    focus (((try dsimp only);(repeat' apply And.intro)<;>(first|with_reducible assumption|(go_keep;done))))
    refine wpAnyH_take (i:=0) (v:=?_) rfl (by kernel_rfl) (by kernel_rfl) (by kernel_rfl) (fun _ _ _ h=>h) (Or.inl ⟨by rfl,?_⟩) hHeld ?_
    rotate_left
    focus (intro w hSw;(try dsimp only at hSw);go_simp<;>with_reducible rfl)
    rotate_right
    try simp only [pS,pN,pA,pZ,pC]
    refine wpAnyH_take (i:=1) (v:=?_) rfl (by kernel_rfl) (by kernel_rfl) (by kernel_rfl) (fun _ _ _ h=>h) (Or.inl ⟨by rfl,?_⟩) hHeld ?_
    rotate_left
    focus (intro w hSw;(try dsimp only at hSw);go_simp<;>with_reducible rfl)
    rotate_right
    try simp only [pS,pN,pA,pZ,pC]
    refine wpAnyH_take (i:=2) (v:=?_) rfl (by kernel_rfl) (by kernel_rfl) (by kernel_rfl) (fun _ _ _ h=>h) (Or.inl ⟨by rfl,?_⟩) hHeld ?_
    rotate_left
    focus (intro w hSw;(try dsimp only at hSw);go_simp<;>with_reducible rfl)
    rotate_right
    try simp only [pS,pN,pA,pZ,pC]
    refine wpAnyH_take (i:=3) (v:=?_) rfl (by kernel_rfl) (by kernel_rfl) (by kernel_rfl) (fun _ _ _ h=>h) (Or.inl ⟨by rfl,?_⟩) hHeld ?_
    rotate_left
    focus (intro w hSw;(try dsimp only at hSw);go_simp<;>with_reducible rfl)
    rotate_right
    try simp only [pS,pN,pA,pZ,pC]
    refine wpAnyH_take (i:=4) (v:=?_) rfl (by kernel_rfl) (by kernel_rfl) (by kernel_rfl) (fun _ _ _ h=>h) (Or.inl ⟨by rfl,?_⟩) hHeld ?_
    rotate_left
    focus (intro w hSw;(try dsimp only at hSw);go_simp<;>with_reducible rfl)
    rotate_right
    try simp only [pS,pN,pA,pZ,pC]
    refine wpAnyH_take (i:=5) (v:=?_) rfl (by kernel_rfl) (by kernel_rfl) (by kernel_rfl) (fun _ _ _ h=>h) (Or.inl ⟨by rfl,?_⟩) hHeld ?_
    rotate_left
    focus (intro w hSw;(try dsimp only at hSw);go_simp<;>with_reducible rfl)
    rotate_right
    try simp only [pS,pN,pA,pZ,pC]
    refine wpAnyH_take (i:=6) (v:=?_) rfl (by kernel_rfl) (by kernel_rfl) (by kernel_rfl) (fun _ _ _ h=>h) (Or.inl ⟨by rfl,?_⟩) hHeld ?_
    rotate_left
    focus (intro w hSw;(try dsimp only at hSw);go_simp<;>with_reducible rfl)
    rotate_right
    try simp only [pS,pN,pA,pZ,pC]
    refine wpAnyH_take (i:=7) (v:=?_) rfl (by kernel_rfl) (by kernel_rfl) (by kernel_rfl) (fun _ _ _ h=>h) (Or.inl ⟨by rfl,?_⟩) hHeld ?_
    rotate_left
    focus (intro w hSw;(try dsimp only at hSw);go_simp<;>with_reducible rfl)
    rotate_right
    try simp only [pS,pN,pA,pZ,pC]
    refine wpAnyH_take (i:=8) (v:=?_) rfl (by kernel_rfl) (by kernel_rfl) (by kernel_rfl) (fun _ _ _ h=>h) (Or.inl ⟨by rfl,?_⟩) hHeld ?_
    rotate_left
    focus (intro w hSw;(try dsimp only at hSw);go_simp<;>with_reducible rfl)
    rotate_right
    try simp only [pS,pN,pA,pZ,pC]
    refine wpAnyH_take (i:=9) (v:=?_) rfl (by kernel_rfl) (by kernel_rfl) (by kernel_rfl) (fun _ _ _ h=>h) (Or.inl ⟨by rfl,?_⟩) hHeld ?_
    rotate_left
    focus (intro w hSw;(try dsimp only at hSw);go_simp<;>with_reducible rfl)
    rotate_right
    try simp only [pS,pN,pA,pZ,pC]
    refine wpAnyH_take (i:=10) (v:=?_) rfl (by kernel_rfl) (by kernel_rfl) (by kernel_rfl) (fun _ _ _ h=>h) (Or.inl ⟨by rfl,?_⟩) hHeld ?_
    rotate_left
    focus (intro w hSw;(try dsimp only at hSw);go_simp<;>with_reducible rfl)
    rotate_right
    try simp only [pS,pN,pA,pZ,pC]
    refine wpAnyH_take (i:=11) (v:=?_) rfl (by kernel_rfl) (by kernel_rfl) (by kernel_rfl) (fun _ _ _ h=>h) (Or.inl ⟨by rfl,?_⟩) hHeld ?_
    rotate_left
    focus (intro w hSw;(try dsimp only at hSw);go_simp<;>with_reducible rfl)
    rotate_right
    try simp only [pS,pN,pA,pZ,pC]
    refine wpAnyH_take (i:=12) (v:=?_) rfl (by kernel_rfl) (by kernel_rfl) (by kernel_rfl) (fun _ _ _ h=>h) (Or.inl ⟨by rfl,?_⟩) hHeld ?_
    rotate_left
    focus (intro w hSw;(try dsimp only at hSw);go_simp<;>with_reducible rfl)
    rotate_right
    try simp only [pS,pN,pA,pZ,pC]
    refine wpAnyH_take (i:=13) (v:=?_) rfl (by kernel_rfl) (by kernel_rfl) (by kernel_rfl) (fun _ _ _ h=>h) (Or.inl ⟨by rfl,?_⟩) hHeld ?_
    rotate_left
    focus (intro w hSw;(try dsimp only at hSw);go_simp<;>with_reducible rfl)
    rotate_right
    try simp only [pS,pN,pA,pZ,pC]
    refine wpAnyH_ready (rs:=[14]) (by kernel_rfl) (by simp) ?_
    refine AllReadyH.cons rfl (fun K hK=>?_) AllReadyH.nil
    go_simp
    refine hK.out _ _ ?_ (fun hHeld=>?_)
    focus (((try dsimp only);(repeat' apply And.intro)<;>(first|with_reducible assumption|(go_keep;done))))
    clear hK K
    try simp only [pS,pN,pA,pZ,pC]
    refine wpAnyH_ready (rs:=[15]) (by kernel_rfl) (by simp) ?_
    refine AllReadyH.cons rfl (fun K hK=>?_) AllReadyH.nil
    go_simp
    go_wp2_with (go_at_call 177;refine (hco _ (Chg.c)).mono ?_;rintro e w8 ⟨rfl,hc8⟩;have hK8:Chg [] wi w8:=Chg.trans0 (show Chg [] wi _ from Chg.c) hc8;have bx0w8:=hK8.cell0 bx0;have bx1w8:=hK8.cell0 bx1;have y2w8:=hK8.cell0 y2;have vAw8:=hK8.cell0 vA;have vBw8:=hK8.cell0 vB;have y1w8:=hK8.cell0 y1;have vDw8:=hK8.cell0 vD;have lbw8:=Nat.lt_of_lt_of_le lb hK8.size;have lVw8:=Nat.lt_of_lt_of_le lV hK8.size;have zPw8:=(hK8.cells.2 b (off+m*4+1) lb).trans zP;have vX8:=hK8.cell0 vX;have zX8:=(hK8.cells.2 bX (oX+a) lXi).trans zX;have zD8:=(hK8.cells.2 bV (oV+dD) lV).trans zD;have lXi8:=Nat.lt_of_lt_of_le lXi hK8.size)
    refine hK.out _ _ ?_ (fun hHeld=>?_)
    focus (((try dsimp only);(repeat' apply And.intro)<;>(first|with_reducible assumption|(go_keep;done))))
    clear hK K
    try simp only [pS,pN,pA,pZ,pC]
    refine wpAnyH_take (i:=16) (v:=?_) rfl (by kernel_rfl) (by kernel_rfl) (by kernel_rfl) (fun _ _ _ h=>h) (Or.inl ⟨by rfl,?_⟩) hHeld ?_
    rotate_left
    focus (intro w hSw;(try dsimp only at hSw);go_simp<;>with_reducible rfl)
    rotate_right
    try simp only [pS,pN,pA,pZ,pC]
    refine wpAnyH_ready (rs:=[17]) (by kernel_rfl) (by simp) ?_
    refine AllReadyH.cons rfl (fun K hK=>?_) AllReadyH.nil
    go_simp
    refine hK.out _ _ ?_ (fun hHeld=>?_)
    focus (((try dsimp only);(repeat' apply And.intro)<;>(first|with_reducible assumption|(go_keep;done))))
    clear hK K
    try simp only [pS,pN,pA,pZ,pC]
    refine wpAnyH_take (i:=18) (v:=?_) rfl (by kernel_rfl) (by kernel_rfl) (by kernel_rfl) (fun _ _ _ h=>h) (Or.inl ⟨by rfl,?_⟩) hHeld ?_
    rotate_left
    focus (intro w hSw;(try dsimp only at hSw);go_simp<;>with_reducible rfl)
    rotate_right
    try simp only [pS,pN,pA,pZ,pC]
    refine wpAnyH_ready (rs:=[19]) (by kernel_rfl) (by simp) ?_
    refine AllReadyH.cons rfl (fun K hK=>?_) AllReadyH.nil
    go_simp
    refine hK.out _ _ ?_ (fun hHeld=>?_)
    focus (((try dsimp only);(repeat' apply And.intro)<;>(first|with_reducible assumption|(go_keep;done))))
    clear hK K
    try simp only [pS,pN,pA,pZ,pC]
    refine wpAnyH_done (by kernel_rfl) ?_ _
    have hKw8:=hKw.trans0 hK8
    obtain ⟨hq1,hq2b⟩:=hPc_.out
    go_wp2
    go_end0
    have e8:=ED_.out.set w8 (fs[m].Cells[a]) hKw8 EX_.out.bnd
    have hs:=Fm_.out.setVP _ _ (fs[m].Pc+1) e8.1 e8.2.1 e8.2.2 hPc_.out
    have mV:bV∈G:=Fm_.out.subV _ ED_.out.mem
    have hcb:Chg [bV,b] w8 ((w8.setCell ⟨bV,oV+dD,none⟩ (.int .i64 (fs[m].Cells[a]))).setCell ⟨b,off+m*4+1,none⟩ (.int .i64 (fs[m].Pc+1))):=((Chg.refl [bV,b] w8).setCell (Or.inl (by simp)) _).setCell (Or.inl (by simp)) _
    have hcx:Chg (X::G) w ((w8.setCell ⟨bV,oV+dD,none⟩ (.int .i64 (fs[m].Cells[a]))).setCell ⟨b,off+m*4+1,none⟩ (.int .i64 (fs[m].Pc+1))):=((hKw8.of0).setCell (Or.inl (List.mem_cons_of_mem _ mV)) _).setCell (Or.inl (List.mem_cons_of_mem _ Fm_.out.mem)) _
    have hXf:=(hX_.out.chg0 hKw8).chg hcb (fun hx=>by
     rcases List.mem_cons.1 hx with h1|h1
     · exact hXG_.out (h1▸mV)
     · exact hXb (List.mem_singleton.1 h1))
    show StepRes X _ G (stepped p (goes fs) inp) w _ _
    rw [hst.out]
    refine Or.inl ⟨rfl,_,G,(hXf.fr _).chg0 (by repeat (with_reducible first|exact Chg.refl _ _|refine Chg.alloc ?_ _|refine Chg.drew ?_)),?_,hs.1.chg0 (by repeat (with_reducible first|exact Chg.refl _ _|refine Chg.alloc ?_ _|refine Chg.drew ?_)),hs.2.chg0 (by repeat (with_reducible first|exact Chg.refl _ _|refine Chg.alloc ?_ _|refine Chg.drew ?_)),fun g hg=>Or.inl hg⟩
    repeat (with_reducible first|exact hcx|refine Chg.alloc ?_ _|refine Chg.drew ?_)
end Go.Proofs.YtjakhnhnjhafgaaGreat.Wk
namespace Go.Proofs.YtjakhnhnjhafgaaGreat.Wk
open Go Go.RowKit Go.Deep Ow
open Rp (R sz)
set_option maxRecDepth 100000 in
set_option maxHeartbeats 8000000 in
theorem impStep7_c(p:PrgProg)(fs:List RunFrame)(inp:Int)(X:Nat)(vP:Value)(FP:List Nat)(v:Value)(G:List Nat)(w:World)(hP:RL w p.Procs vP FP)(hXP:X∉FP)(hX:RunX w X vP (goes fs) v)(h:RL w fs v G)(ho:Own w G)(hXG:X∉G)(hroom:Room w 58 v fs.length)(hin:I64 inp)(hok:runOk p (goes fs)=true)
 (hsel:∀(m:Nat) (hml:m<fs.length) (i:InsIns),fs.length=m+1→prgAt p fs[m].Proc fs[m].Pc=some i→i.Op=7) :
 Calls Tryz.prog 130 #[.pointer (some ⟨X,0,none⟩),.int .i64 inp] w (StepRes X vP G (stepped p (goes fs) inp) w):=by
 have F:=goes_facts hok rfl
 have hp:=F.prg
 obtain ⟨m,hm'⟩:∃m,Hid (fs.length=m+1):=⟨fs.length-1,Lib.hid (by have:=F.n1;simp only [goes] at this;omega)⟩
 have hml:m<fs.length:=by have:=hm'.out;omega
 have n5:fs.length≤5:=F.n5
 have hN:nestOk p fs=true:=F.nest
 obtain ⟨i,hi,hV,hC,nV,nC⟩:=frame_facts ((nest_iff p _).1 hN m hml).1
 obtain ⟨kp,jp,At⟩:=prgAt_facts hp hi
 have I:=ins_facts At.ok
 have hop:=hsel m hml i hm'.out hi
 have hPc:I64 (fs[m].Pc+1):=by have h1:=At.epc;have h2:=At.j10;unfold I64;omega
 obtain ⟨dA,hA⟩:=Int.eq_ofNat_of_zero_le I.a0
 obtain ⟨dB,hB⟩:=Int.eq_ofNat_of_zero_le I.b0
 obtain ⟨dD,hD⟩:=Int.eq_ofNat_of_zero_le I.d0
 have lA:dA<fs[m].Vars.length:=by have:=I.a4;omega
 have lB:dB<fs[m].Vars.length:=by have:=I.b4;omega
 have lD:dD<fs[m].Vars.length:=by have:=I.d4;omega
 have nA:=nV _ (List.getElem_mem lA)
 have nB:=nV _ (List.getElem_mem lB)
 have hsub:((m:Int)+1-1)=m:=by omega
 have hm4:(m:Int)≤4:=by have:=hm'.out;omega
 have hmB:(m:Int)+1≤9223372036854775807:=by omega
 have hdA:(dA:Int)<fs[m].Vars.length:=by omega
 have hdB:(dB:Int)<fs[m].Vars.length:=by omega
 have hdD:(dD:Int)<fs[m].Vars.length:=by omega
 obtain ⟨AP,cP,rfl,-,-⟩:=hP.form
 obtain ⟨b,off,cap,vV,vC,FV,FC,Fm,hap⟩:=frame_in_ap h ho (i:=m) hml
 have hap_:=Lib.hid hap
 clear hap
 have ev:=Fm.eq
 rw [hm'.out] at ev
 subst ev
 obtain ⟨bV,oV,cV,EA⟩:=int_at Fm.rV Fm.oV lA
 have eV:=EA.eq
 subst eV
 obtain ⟨bB,oB,cB,EB⟩:=int_at Fm.rV Fm.oV lB
 have eB:=EB.eq
 injection eB with eB1 _ eB2
 injection eB1 with eB1
 injection eB1 with eB1 eB3
 subst eB1 eB2 eB3
 obtain ⟨bE,oE,cE,ED⟩:=int_at Fm.rV Fm.oV lD
 have eD:=ED.eq
 injection eD with eD1 _ eD2
 injection eD1 with eD1
 injection eD1 with eD1 eD3
 subst eD1 eD2 eD3
 obtain ⟨AC,kC,rfl,-,-⟩:=Fm.rC.form
 obtain ⟨iOp,iD,iA,iB,iRel,iLo,iHi,iTo⟩:=i
 simp only at hA hB hD
 subst hA hB hD
 have hat:∀wx,Chg [] w wx→Calls Tryz.prog 75 #[.agg #[.slice AP p.Procs.length cP],.int .i64 fs[m].Proc,.int .i64 fs[m].Pc] wx (fun e w'=>e=.returned (atV (some ⟨iOp,dD,dA,dB,iRel,iLo,iHi,iTo⟩))∧Chg [] wx w'):=fun wx hx=>by
  have:=implPrgAt_c p fs[m].Proc fs[m].Pc _ _ wx (hP.chg0 hx)
  rw [hi] at this
  exact this
 have X0:=hX.c0
 have X2:=hX.c2
 have y0:=Fm.c0
 have y1:=Fm.c1
 have y2:=Fm.c2
 have y3:=Fm.c3
 have vA:=EA.cell
 have vB:=EB.cell
 have vD:=ED.cell
 have lX:=hX.lt
 have lb:b<w.heap.size:=World.block_lt_of_cell? _ _ y0
 have lV:bV<w.heap.size:=World.block_lt_of_cell? _ _ vA
 have hXb:¬X=b:=fun e=>hXG (e▸Fm.mem)
 have hnb:¬bV=b:=fun e=>Fm.bV (e▸EA.mem)
 have hnb':¬b=bV:=fun e=>hnb e.symm
 have zP:=Fm.fz (off+m*4+1)
 have zD:=ED.fz (oV+dD)
 have hP_:=Lib.hid hP
 have hX_:=Lib.hid hX
 have h_:=Lib.hid h
 have ho_:=Lib.hid ho
 have hXG_:=Lib.hid hXG
 have hXP_:=Lib.hid hXP
 have hroom_:=Lib.hid hroom
 have hp_:=Lib.hid hp
 have hN_:=Lib.hid hN
 have hi_:=Lib.hid hi
 have hV_:=Lib.hid hV
 have hC_:=Lib.hid hC
 have nV_:=Lib.hid nV
 have nC_:=Lib.hid nC
 have hop_:=Lib.hid hop
 have nA_:=Lib.hid nA
 have nB_:=Lib.hid nB
 have I_:=Lib.hid I
 have n5_:=Lib.hid n5
 have Fm_:=Lib.hid Fm
 have EA_:=Lib.hid EA
 have EB_:=Lib.hid EB
 have ED_:=Lib.hid ED
 have hPc_:=Lib.hid hPc
 clear hP hX h ho hXG hXP hroom hN hi hV hC nV nC hop nA nB I n5 Fm EA EB ED hPc hok F hsel hp
 have taarith:=ta_store_arith (dA:Int) (dB:Int)
 have taany:=ta_store_any (dA:Int) (dB:Int)
 have taload:=ta_store_load (dA:Int) (dB:Int)
 have tastore:=ta_store_store (dA:Int) (dB:Int)
 go_enter Tryz.func130,Tryz.ntmps130
 go_wp2_with (go_at_call 174;refine (top_c X b off m cap _ X2 hmB).mono ?_;rintro e w1 ⟨rfl,hc1⟩;have hK1:=hc1;have sw1:=hc1.size;have X01:=hc1.cell0 X0;have y01:=hc1.cell0 y0;have y11:=hc1.cell0 y1;have lX1:=Nat.lt_of_lt_of_le lX hc1.size;have lb1:=Nat.lt_of_lt_of_le lb hc1.size;have n1X:¬X=w1.heap.size:=Nat.ne_of_lt lX1;have n1b:¬b=w1.heap.size:=Nat.ne_of_lt lb1;clear hc1)
 clear hmB
 go_region_held3 (fun w'=>w'.cell? ⟨X,0,none⟩=some (.slice AP p.Procs.length cP)∧w'.cell? ⟨b,off+m*4,none⟩=some (.int .i64 fs[m].Proc)∧w'.cell? ⟨b,off+m*4+1,none⟩=some (.int .i64 fs[m].Pc)) (((try dsimp only);(repeat' apply And.intro)<;>(first|with_reducible assumption|(with_reducible refine (cell8 ?_).trans ?_<;>(first|with_reducible assumption|exact n1X|exact n1b|exact n2X|exact n2b))|(go_keep;done))))
  (first|(go_at_call 75;refine (hat _ (Chg.k)).mono ?_;rintro e w2 ⟨rfl,hq2⟩;have hK12:Chg [] w1 w2:=Chg.trans0 (show Chg [] w1 _ from Chg.c) hq2;have hK2:=hK1.trans0 hK12;have X02:=hK12.cell0 X01;have y02:=hK12.cell0 y01;have y12:=hK12.cell0 y11;have lX2:=Nat.lt_of_lt_of_le lX1 hK12.size;have lb2:=Nat.lt_of_lt_of_le lb1 hK12.size;have n2X:¬X=w2.heap.size:=Nat.ne_of_lt lX2;have n2b:¬b=w2.heap.size:=Nat.ne_of_lt lb2;have zc0:=hq2.cells.1 w1.heap.size 0;have zc1:=hq2.cells.1 w1.heap.size 1;have zc2:=hq2.cells.1 w1.heap.size 2;have zc3:=hq2.cells.1 w1.heap.size 3;have zc4:=hq2.cells.1 w1.heap.size 4;have zc5:=hq2.cells.1 w1.heap.size 5;have zc6:=hq2.cells.1 w1.heap.size 6;have zc7:=hq2.cells.1 w1.heap.size 7;have zf0:=hq2.cells.2 w1.heap.size 0;have zf1:=hq2.cells.2 w1.heap.size 1;have zf2:=hq2.cells.2 w1.heap.size 2;have zf3:=hq2.cells.2 w1.heap.size 3;have zf4:=hq2.cells.2 w1.heap.size 4;have zf5:=hq2.cells.2 w1.heap.size 5;have zf6:=hq2.cells.2 w1.heap.size 6;have zf7:=hq2.cells.2 w1.heap.size 7;have sz2:=hq2.size;(try simp only [World.size_alloc,World.size_setCell,World.size_drew] at sz2);(try have lt12:=Nat.lt_of_succ_le sz2)))
 all_goals
  obtain ⟨hq1,hq2b⟩:=hPc_.out
  go_wp2_with fail
  clear hq1 hq2b
  refine (codeOf7_c ⟨iOp,dD,dA,dB,iRel,iLo,iHi,iTo⟩ _ hop_.out).mono ?_
  rintro e w4 ⟨rfl,hc4⟩
  have hK4:Chg [] w w4:=Chg.trans0 (show Chg [] w _ from Chg.k) hc4
  replace X0:=hK4.cell0 X0
  replace X2:=hK4.cell0 X2
  replace y0:=hK4.cell0 y0
  replace y1:=hK4.cell0 y1
  replace y2:=hK4.cell0 y2
  replace y3:=hK4.cell0 y3
  replace vA:=hK4.cell0 vA
  replace vB:=hK4.cell0 vB
  replace vD:=hK4.cell0 vD
  replace zP:=(hK4.cells.2 b (off+m*4+1) lb).trans zP
  replace zD:=(hK4.cells.2 bV (oV+dD) lV).trans zD
  replace lX:=Nat.lt_of_lt_of_le lX hK4.size
  replace lb:=Nat.lt_of_lt_of_le lb hK4.size
  replace lV:=Nat.lt_of_lt_of_le lV hK4.size
  clear hat hc4 hK2 hK1 hK12 hq2 X01 X02 y01 y02 y11 y12 lX1 lX2 lb1 lb2 n1X n1b n2X n2b sz2 sw1 zc0 zf0 zc1 zf1 zc2 zf2 zc3 zf3 zc4 zf4 zc5 zf5 zc6 zf6 zc7 zf7
  try clear lt12
  obtain rfl:iOp=7:=hop_.out
  go_wp2_with fail
  generalize hWi:World.alloc _ _=wi
  have hKi:Chg [] w4 wi:=hWi▸Chg.c
  have hKw:=hK4.trans0 hKi
  have bx0:wi.cell? ⟨w4.heap.size,0,none⟩=some (.int .i64 (dA:Int)):=by rw [←hWi];simp [go_sem]
  have bx1:wi.cell? ⟨w4.heap.size,1,none⟩=some (.int .i64 (dB:Int)):=by rw [←hWi];simp [go_sem]
  have lbx:w4.heap.size<wi.heap.size:=by rw [←hWi];simp [go_sem]
  have nbV:¬bV=w4.heap.size:=Nat.ne_of_lt lV
  have nbV2:¬w4.heap.size=bV:=fun e=>nbV e.symm
  have nbb:¬b=w4.heap.size:=Nat.ne_of_lt lb
  have nbb2:¬w4.heap.size=b:=fun e=>nbb e.symm
  replace X0:=hKi.cell0 X0
  replace X2:=hKi.cell0 X2
  replace y0:=hKi.cell0 y0
  replace y1:=hKi.cell0 y1
  replace y2:=hKi.cell0 y2
  replace y3:=hKi.cell0 y3
  replace vA:=hKi.cell0 vA
  replace vB:=hKi.cell0 vB
  replace vD:=hKi.cell0 vD
  replace zP:=(hKi.cells.2 b (off+m*4+1) lb).trans zP
  replace zD:=(hKi.cells.2 bV (oV+dD) lV).trans zD
  replace lX:=Nat.lt_of_lt_of_le lX hKi.size
  replace lb:=Nat.lt_of_lt_of_le lb hKi.size
  replace lV:=Nat.lt_of_lt_of_le lV hKi.size
  clear hWi hKi taarith taany taload tastore
  cases hbl:below fs[m].Vars[dA] 4
  · have hst:=Lib.hid (st_cell_bad (inp:=inp) hm'.out hi_.out (by simp) rfl lA hbl)
    have hcb9:=fun (wx:World) (hx:Chg [] wi wx)=>cellBad_c X b off m cap fs[m].Vars[dA] fs[m] wx (hx.cell0 X2) (by omega) (hx.cell0 y0) (hx.cell0 y1) hbl
    clear hbl
    refine wp_region_held_drew (S:=(fun w'=>w'.cell? ⟨w4.heap.size,0,none⟩=some (.int .i64 (dA:Int))∧w'.cell? ⟨w4.heap.size,1,none⟩=some (.int .i64 (dB:Int))∧w'.cell? ⟨b,off+m*4+2,none⟩=some (.slice (some ⟨bV,oV,none⟩) fs[m].Vars.length cV)∧w'.cell? ⟨bV,oV+dA,none⟩=some (.int .i64 fs[m].Vars[dA])∧w'.cell? ⟨bV,oV+dB,none⟩=some (.int .i64 fs[m].Vars[dB]))) (by kernel_rfl) ?_ (fun hHeld=>?_)
    focus (((try dsimp only);(repeat' apply And.intro)<;>(first|with_reducible assumption|(go_keep;done))))
    refine wpAnyH_take (i:=0) (v:=?_) rfl (by kernel_rfl) (by kernel_rfl) (by kernel_rfl) (fun _ _ _ h=>h) (Or.inl ⟨by rfl,?_⟩) hHeld ?_
    rotate_left
    focus (intro w hSw;(try dsimp only at hSw);go_simp<;>with_reducible rfl)
    rotate_right
    try simp only [pS,pN,pA,pZ,pC]
    refine wpAnyH_take (i:=1) (v:=?_) rfl (by kernel_rfl) (by kernel_rfl) (by kernel_rfl) (fun _ _ _ h=>h) (Or.inl ⟨by rfl,?_⟩) hHeld ?_
    rotate_left
    focus (intro w hSw;(try dsimp only at hSw);go_simp<;>with_reducible rfl)
    rotate_right
    try simp only [pS,pN,pA,pZ,pC]
    refine wpAnyH_take (i:=2) (v:=?_) rfl (by kernel_rfl) (by kernel_rfl) (by kernel_rfl) (fun _ _ _ h=>h) (Or.inl ⟨by rfl,?_⟩) hHeld ?_
    rotate_left
    focus (intro w hSw;(try dsimp only at hSw);go_simp<;>with_reducible rfl)
    rotate_right
    try simp only [pS,pN,pA,pZ,pC]
    refine wpAnyH_take (i:=3) (v:=?_) rfl (by kernel_rfl) (by kernel_rfl) (by kernel_rfl) (fun _ _ _ h=>h) (Or.inl ⟨by rfl,?_⟩) hHeld ?_
    rotate_left
    focus (intro w hSw;(try dsimp only at hSw);go_simp<;>with_reducible rfl)
    rotate_right
    try simp only [pS,pN,pA,pZ,pC]
    refine wpAnyH_take (i:=4) (v:=?_) rfl (by kernel_rfl) (by kernel_rfl) (by kernel_rfl) (fun _ _ _ h=>h) (Or.inl ⟨by rfl,?_⟩) hHeld ?_
    rotate_left
    focus (intro w hSw;(try dsimp only at hSw);go_simp<;>with_reducible rfl)
    rotate_right
    try simp only [pS,pN,pA,pZ,pC]
    refine wpAnyH_take (i:=5) (v:=?_) rfl (by kernel_rfl) (by kernel_rfl) (by kernel_rfl) (fun _ _ _ h=>h) (Or.inl ⟨by rfl,?_⟩) hHeld ?_
    rotate_left
    focus (intro w hSw;(try dsimp only at hSw);go_simp<;>with_reducible rfl)
    rotate_right
    try simp only [pS,pN,pA,pZ,pC]
    refine wpAnyH_take (i:=6) (v:=?_) rfl (by kernel_rfl) (by kernel_rfl) (by kernel_rfl) (fun _ _ _ h=>h) (Or.inl ⟨by rfl,?_⟩) hHeld ?_
    rotate_left
    focus (intro w hSw;(try dsimp only at hSw);go_simp<;>with_reducible rfl)
    rotate_right
    try simp only [pS,pN,pA,pZ,pC]
    refine wpAnyH_take (i:=7) (v:=?_) rfl (by kernel_rfl) (by kernel_rfl) (by kernel_rfl) (fun _ _ _ h=>h) (Or.inl ⟨by rfl,?_⟩) hHeld ?_
    rotate_left
    focus (intro w hSw;(try dsimp only at hSw);go_simp<;>with_reducible rfl)
    rotate_right
    try simp only [pS,pN,pA,pZ,pC]
    refine wpAnyH_take (i:=8) (v:=?_) rfl (by kernel_rfl) (by kernel_rfl) (by kernel_rfl) (fun _ _ _ h=>h) (Or.inl ⟨by rfl,?_⟩) hHeld ?_
    rotate_left
    focus (intro w hSw;(try dsimp only at hSw);go_simp<;>with_reducible rfl)
    rotate_right
    try simp only [pS,pN,pA,pZ,pC]
    refine wpAnyH_take (i:=10) (v:=?_) rfl (by kernel_rfl) (by kernel_rfl) (by kernel_rfl) (fun _ _ _ h=>h) (Or.inl ⟨by rfl,?_⟩) hHeld ?_
    rotate_left
    focus (intro w hSw;(try dsimp only at hSw);go_simp<;>with_reducible rfl)
    rotate_right
    try simp only [pS,pN,pA,pZ,pC]
    refine wpAnyH_take (i:=11) (v:=?_) rfl (by kernel_rfl) (by kernel_rfl) (by kernel_rfl) (fun _ _ _ h=>h) (Or.inl ⟨by rfl,?_⟩) hHeld ?_
    rotate_left
    focus (intro w hSw;(try dsimp only at hSw);go_simp<;>with_reducible rfl)
    rotate_right
    try simp only [pS,pN,pA,pZ,pC]
    refine wpAnyH_take (i:=12) (v:=?_) rfl (by kernel_rfl) (by kernel_rfl) (by kernel_rfl) (fun _ _ _ h=>h) (Or.inl ⟨by rfl,?_⟩) hHeld ?_
    rotate_left
    focus (intro w hSw;(try dsimp only at hSw);go_simp<;>with_reducible rfl)
    rotate_right
    try simp only [pS,pN,pA,pZ,pC]
    refine wpAnyH_take (i:=13) (v:=?_) rfl (by kernel_rfl) (by kernel_rfl) (by kernel_rfl) (fun _ _ _ h=>h) (Or.inl ⟨by rfl,?_⟩) hHeld ?_
    rotate_left
    focus (intro w hSw;(try dsimp only at hSw);go_simp<;>with_reducible rfl)
    rotate_right
    try simp only [pS,pN,pA,pZ,pC]
    refine wpAnyH_take (i:=14) (v:=?_) rfl (by kernel_rfl) (by kernel_rfl) (by kernel_rfl) (fun _ _ _ h=>h) (Or.inl ⟨by rfl,?_⟩) hHeld ?_
    rotate_left
    focus (intro w hSw;(try dsimp only at hSw);go_simp<;>with_reducible rfl)
    rotate_right
    try simp only [pS,pN,pA,pZ,pC]
    refine wpAnyH_take (i:=15) (v:=?_) rfl (by kernel_rfl) (by kernel_rfl) (by kernel_rfl) (fun _ _ _ h=>h) (Or.inl ⟨by rfl,?_⟩) hHeld ?_
    rotate_left
    focus (intro w hSw;(try dsimp only at hSw);go_simp<;>with_reducible rfl)
    rotate_right
    try simp only [pS,pN,pA,pZ,pC]
    refine wpAnyH_take (i:=16) (v:=?_) rfl (by kernel_rfl) (by kernel_rfl) (by kernel_rfl) (fun _ _ _ h=>h) (Or.inl ⟨by rfl,?_⟩) hHeld ?_
    rotate_left
    focus (intro w hSw;(try dsimp only at hSw);go_simp<;>with_reducible rfl)
    rotate_right
    try simp only [pS,pN,pA,pZ,pC]
    refine wpAnyH_take (i:=17) (v:=?_) rfl (by kernel_rfl) (by kernel_rfl) (by kernel_rfl) (fun _ _ _ h=>h) (Or.inl ⟨by rfl,?_⟩) hHeld ?_
    rotate_left
    focus (intro w hSw;(try dsimp only at hSw);go_simp<;>with_reducible rfl)
    rotate_right
    try simp only [pS,pN,pA,pZ,pC]
    refine wpAnyH_ready (rs:=[9]) (by kernel_rfl) (by simp) ?_
    refine AllReadyH.cons rfl (fun K hK=>?_) AllReadyH.nil
    go_simp
    go_wp2_with (go_at_call 177;refine (hcb9 _ (Chg.c)).mono ?_;rintro e w9 ⟨rfl,hc9⟩;have hK9:Chg [] wi w9:=Chg.trans0 (show Chg [] wi _ from Chg.c) hc9)
    refine ⟨rfl,?_⟩
    show StepRes X _ G (stepped p (goes fs) inp) w _ _
    rw [hst.out]
    exact Or.inr ⟨⟨rfl,(hKw.trans0 hK9).of0⟩,rfl⟩
  · obtain ⟨a,hav,ha4⟩:=below_get hbl
    have laC:a<fs[m].Cells.length:=by have:=hC_.out;omega
    obtain ⟨bX,oX,cX,EX⟩:=int_at Fm_.out.rC Fm_.out.oC laC
    have eX:=EX.eq
    injection eX with eX1 _ eX2
    subst eX1 eX2
    have vX0:=EX.cell
    have zX0:=EX.fz (oX+a)
    have lX0:bX<w.heap.size:=World.block_lt_of_cell? _ _ vX0
    have vX:=hKw.cell0 vX0
    have zX:=(hKw.cells.2 bX (oX+a) lX0).trans zX0
    have lXi:=Nat.lt_of_lt_of_le lX0 hKw.size
    have nXV:¬bX=bV:=fun e=>hap_.out bV ED_.out.mem (e▸EX.mem)
    have nXV2:¬bV=bX:=fun e=>nXV e.symm
    have nXb:¬bX=b:=fun e=>Fm_.out.bC (e▸EX.mem)
    have nXb2:¬b=bX:=fun e=>nXb e.symm
    have nXx:¬bX=w4.heap.size:=Nat.ne_of_lt (Nat.lt_of_lt_of_le lX0 hK4.size)
    have nXx2:¬w4.heap.size=bX:=fun e=>nXx e.symm
    have haC:(a:Int)<fs[m].Cells.length:=by omega
    have EX_:=Lib.hid EX
    have hco:=fun (wx:World) (hx:Chg [] wi wx)=>cellOk_c X b off m cap a bX oX fs[m].Cells.length kC wx (hx.cell0 X2) (by omega) (hx.cell0 y3) ha4 laC
    have hst:=Lib.hid (st_store (inp:=inp) hm'.out hi_.out rfl rfl rfl lA lB hav ha4)
    rw [hav] at vA
    have hav_:=Lib.hid hav
    clear hbl hav EX vX0 zX0
    refine wp_region_held_drew (S:=(fun w'=>w'.cell? ⟨w4.heap.size,0,none⟩=some (.int .i64 (dA:Int))∧w'.cell? ⟨w4.heap.size,1,none⟩=some (.int .i64 (dB:Int))∧w'.cell? ⟨b,off+m*4+2,none⟩=some (.slice (some ⟨bV,oV,none⟩) fs[m].Vars.length cV)∧w'.cell? ⟨bV,oV+dA,none⟩=some (.int .i64 (a:Int))∧w'.cell? ⟨bV,oV+dB,none⟩=some (.int .i64 fs[m].Vars[dB]))) (by kernel_rfl) ?_ (fun hHeld=>?_)
    focus (((try dsimp only);(repeat' apply And.intro)<;>(first|with_reducible assumption|(go_keep;done))))
    refine wpAnyH_take (i:=0) (v:=?_) rfl (by kernel_rfl) (by kernel_rfl) (by kernel_rfl) (fun _ _ _ h=>h) (Or.inl ⟨by rfl,?_⟩) hHeld ?_
    rotate_left
    focus (intro w hSw;(try dsimp only at hSw);go_simp<;>with_reducible rfl)
    rotate_right
    try simp only [pS,pN,pA,pZ,pC]
    refine wpAnyH_take (i:=1) (v:=?_) rfl (by kernel_rfl) (by kernel_rfl) (by kernel_rfl) (fun _ _ _ h=>h) (Or.inl ⟨by rfl,?_⟩) hHeld ?_
    rotate_left
    focus (intro w hSw;(try dsimp only at hSw);go_simp<;>with_reducible rfl)
    rotate_right
    try simp only [pS,pN,pA,pZ,pC]
    refine wpAnyH_take (i:=2) (v:=?_) rfl (by kernel_rfl) (by kernel_rfl) (by kernel_rfl) (fun _ _ _ h=>h) (Or.inl ⟨by rfl,?_⟩) hHeld ?_
    rotate_left
    focus (intro w hSw;(try dsimp only at hSw);go_simp<;>with_reducible rfl)
    rotate_right
    try simp only [pS,pN,pA,pZ,pC]
    refine wpAnyH_take (i:=3) (v:=?_) rfl (by kernel_rfl) (by kernel_rfl) (by kernel_rfl) (fun _ _ _ h=>h) (Or.inl ⟨by rfl,?_⟩) hHeld ?_
    rotate_left
    focus (intro w hSw;(try dsimp only at hSw);go_simp<;>with_reducible rfl)
    rotate_right
    try simp only [pS,pN,pA,pZ,pC]
    refine wpAnyH_take (i:=4) (v:=?_) rfl (by kernel_rfl) (by kernel_rfl) (by kernel_rfl) (fun _ _ _ h=>h) (Or.inl ⟨by rfl,?_⟩) hHeld ?_
    rotate_left
    focus (intro w hSw;(try dsimp only at hSw);go_simp<;>with_reducible rfl)
    rotate_right
    try simp only [pS,pN,pA,pZ,pC]
    refine wpAnyH_take (i:=5) (v:=?_) rfl (by kernel_rfl) (by kernel_rfl) (by kernel_rfl) (fun _ _ _ h=>h) (Or.inl ⟨by rfl,?_⟩) hHeld ?_
    rotate_left
    focus (intro w hSw;(try dsimp only at hSw);go_simp<;>with_reducible rfl)
    rotate_right
    try simp only [pS,pN,pA,pZ,pC]
    refine wpAnyH_take (i:=6) (v:=?_) rfl (by kernel_rfl) (by kernel_rfl) (by kernel_rfl) (fun _ _ _ h=>h) (Or.inl ⟨by rfl,?_⟩) hHeld ?_
    rotate_left
    focus (intro w hSw;(try dsimp only at hSw);go_simp<;>with_reducible rfl)
    rotate_right
    try simp only [pS,pN,pA,pZ,pC]
    refine wpAnyH_take (i:=7) (v:=?_) rfl (by kernel_rfl) (by kernel_rfl) (by kernel_rfl) (fun _ _ _ h=>h) (Or.inl ⟨by rfl,?_⟩) hHeld ?_
    rotate_left
    focus (intro w hSw;(try dsimp only at hSw);go_simp<;>with_reducible rfl)
    rotate_right
    try simp only [pS,pN,pA,pZ,pC]
    refine wpAnyH_take (i:=8) (v:=?_) rfl (by kernel_rfl) (by kernel_rfl) (by kernel_rfl) (fun _ _ _ h=>h) (Or.inl ⟨by rfl,?_⟩) hHeld ?_
    rotate_left
    focus (intro w hSw;(try dsimp only at hSw);go_simp<;>with_reducible rfl)
    rotate_right
    try simp only [pS,pN,pA,pZ,pC]
    refine wpAnyH_take (i:=10) (v:=?_) rfl (by kernel_rfl) (by kernel_rfl) (by kernel_rfl) (fun _ _ _ h=>h) (Or.inl ⟨by rfl,?_⟩) hHeld ?_
    rotate_left
    focus (intro w hSw;(try dsimp only at hSw);go_simp<;>with_reducible rfl)
    rotate_right
    try simp only [pS,pN,pA,pZ,pC]
    refine wpAnyH_take (i:=11) (v:=?_) rfl (by kernel_rfl) (by kernel_rfl) (by kernel_rfl) (fun _ _ _ h=>h) (Or.inl ⟨by rfl,?_⟩) hHeld ?_
    rotate_left
    focus (intro w hSw;(try dsimp only at hSw);go_simp<;>with_reducible rfl)
    rotate_right
    try simp only [pS,pN,pA,pZ,pC]
    refine wpAnyH_take (i:=12) (v:=?_) rfl (by kernel_rfl) (by kernel_rfl) (by kernel_rfl) (fun _ _ _ h=>h) (Or.inl ⟨by rfl,?_⟩) hHeld ?_
    rotate_left
    focus (intro w hSw;(try dsimp only at hSw);go_simp<;>with_reducible rfl)
    rotate_right
    try simp only [pS,pN,pA,pZ,pC]
    refine wpAnyH_take (i:=13) (v:=?_) rfl (by kernel_rfl) (by kernel_rfl) (by kernel_rfl) (fun _ _ _ h=>h) (Or.inl ⟨by rfl,?_⟩) hHeld ?_
    rotate_left
    focus (intro w hSw;(try dsimp only at hSw);go_simp<;>with_reducible rfl)
    rotate_right
    try simp only [pS,pN,pA,pZ,pC]
    refine wpAnyH_take (i:=14) (v:=?_) rfl (by kernel_rfl) (by kernel_rfl) (by kernel_rfl) (fun _ _ _ h=>h) (Or.inl ⟨by rfl,?_⟩) hHeld ?_
    rotate_left
    focus (intro w hSw;(try dsimp only at hSw);go_simp<;>with_reducible rfl)
    rotate_right
    try simp only [pS,pN,pA,pZ,pC]
    refine wpAnyH_take (i:=15) (v:=?_) rfl (by kernel_rfl) (by kernel_rfl) (by kernel_rfl) (fun _ _ _ h=>h) (Or.inl ⟨by rfl,?_⟩) hHeld ?_
    rotate_left
    focus (intro w hSw;(try dsimp only at hSw);go_simp<;>with_reducible rfl)
    rotate_right
    try simp only [pS,pN,pA,pZ,pC]
    refine wpAnyH_take (i:=16) (v:=?_) rfl (by kernel_rfl) (by kernel_rfl) (by kernel_rfl) (fun _ _ _ h=>h) (Or.inl ⟨by rfl,?_⟩) hHeld ?_
    rotate_left
    focus (intro w hSw;(try dsimp only at hSw);go_simp<;>with_reducible rfl)
    rotate_right
    try simp only [pS,pN,pA,pZ,pC]
    refine wpAnyH_take (i:=17) (v:=?_) rfl (by kernel_rfl) (by kernel_rfl) (by kernel_rfl) (fun _ _ _ h=>h) (Or.inl ⟨by rfl,?_⟩) hHeld ?_
    rotate_left
    focus (intro w hSw;(try dsimp only at hSw);go_simp<;>with_reducible rfl)
    rotate_right
    try simp only [pS,pN,pA,pZ,pC]
    refine wpAnyH_ready (rs:=[9]) (by kernel_rfl) (by simp) ?_
    refine AllReadyH.cons rfl (fun K hK=>?_) AllReadyH.nil
    go_simp
    go_wp2_with (go_at_call 177;refine (hco _ (Chg.c)).mono ?_;rintro e w8 ⟨rfl,hc8⟩;have hK8:Chg [] wi w8:=Chg.trans0 (show Chg [] wi _ from Chg.c) hc8;have bx0w8:=hK8.cell0 bx0;have bx1w8:=hK8.cell0 bx1;have y2w8:=hK8.cell0 y2;have vAw8:=hK8.cell0 vA;have vBw8:=hK8.cell0 vB;have y1w8:=hK8.cell0 y1;have vDw8:=hK8.cell0 vD;have lbw8:=Nat.lt_of_lt_of_le lb hK8.size;have lVw8:=Nat.lt_of_lt_of_le lV hK8.size;have zPw8:=(hK8.cells.2 b (off+m*4+1) lb).trans zP;have vX8:=hK8.cell0 vX;have zX8:=(hK8.cells.2 bX (oX+a) lXi).trans zX;have zD8:=(hK8.cells.2 bV (oV+dD) lV).trans zD;have lXi8:=Nat.lt_of_lt_of_le lXi hK8.size)
    refine hK.out _ _ ?_ (fun hHeld=>?_)
    focus (((try dsimp only);(repeat' apply And.intro)<;>(first|with_reducible assumption|(go_keep;done))))
    clear hK K
    try simp only [pS,pN,pA,pZ,pC]
    refine wpAnyH_take (i:=18) (v:=?_) rfl (by kernel_rfl) (by kernel_rfl) (by kernel_rfl) (fun _ _ _ h=>h) (Or.inl ⟨by rfl,?_⟩) hHeld ?_
    rotate_left
    focus (intro w hSw;(try dsimp only at hSw);go_simp<;>with_reducible rfl)
    rotate_right
    try simp only [pS,pN,pA,pZ,pC]
    refine wpAnyH_ready (rs:=[19]) (by kernel_rfl) (by simp) ?_
    refine AllReadyH.cons rfl (fun K hK=>?_) AllReadyH.nil
    go_simp
    refine hK.out _ _ ?_ (fun hHeld=>?_)
    focus (((try dsimp only);(repeat' apply And.intro)<;>(first|with_reducible assumption|(go_keep;done))))
    clear hK K
    try simp only [pS,pN,pA,pZ,pC]
    refine wpAnyH_done (by kernel_rfl) ?_ _
    have hKw8:=hKw.trans0 hK8
    obtain ⟨hq1,hq2b⟩:=hPc_.out
    go_wp2
    go_end0
    have e8:=EX_.out.set w8 (fs[m].Vars[dB]) hKw8 EB_.out.bnd
    have hs:=Fm_.out.setCP _ _ (fs[m].Pc+1) e8.1 e8.2.1 e8.2.2 hPc_.out
    have mX:bX∈G:=Fm_.out.subC _ EX_.out.mem
    have hcb:Chg [bX,b] w8 ((w8.setCell ⟨bX,oX+a,none⟩ (.int .i64 (fs[m].Vars[dB]))).setCell ⟨b,off+m*4+1,none⟩ (.int .i64 (fs[m].Pc+1))):=((Chg.refl [bX,b] w8).setCell (Or.inl (by simp)) _).setCell (Or.inl (by simp)) _
    have hcx:Chg (X::G) w ((w8.setCell ⟨bX,oX+a,none⟩ (.int .i64 (fs[m].Vars[dB]))).setCell ⟨b,off+m*4+1,none⟩ (.int .i64 (fs[m].Pc+1))):=((hKw8.of0).setCell (Or.inl (List.mem_cons_of_mem _ mX)) _).setCell (Or.inl (List.mem_cons_of_mem _ Fm_.out.mem)) _
    have hXf:=(hX_.out.chg0 hKw8).chg hcb (fun hx=>by
     rcases List.mem_cons.1 hx with h1|h1
     · exact hXG_.out (h1▸mX)
     · exact hXb (List.mem_singleton.1 h1))
    show StepRes X _ G (stepped p (goes fs) inp) w _ _
    rw [hst.out]
    refine Or.inl ⟨rfl,_,G,(hXf.fr _).chg0 (by repeat (with_reducible first|exact Chg.refl _ _|refine Chg.alloc ?_ _|refine Chg.drew ?_)),?_,hs.1.chg0 (by repeat (with_reducible first|exact Chg.refl _ _|refine Chg.alloc ?_ _|refine Chg.drew ?_)),hs.2.chg0 (by repeat (with_reducible first|exact Chg.refl _ _|refine Chg.alloc ?_ _|refine Chg.drew ?_)),fun g hg=>Or.inl hg⟩
    repeat (with_reducible first|exact hcx|refine Chg.alloc ?_ _|refine Chg.drew ?_)
end Go.Proofs.YtjakhnhnjhafgaaGreat.Wk
