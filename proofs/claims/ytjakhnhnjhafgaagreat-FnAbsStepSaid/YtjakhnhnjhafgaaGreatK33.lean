/- A part of the proof. -/
import Derived.Test.YtjakhnhnjhafgaaGreatK31
import Derived.Test.YtjakhnhnjhafgaaGreatK32
set_option linter.unusedVariables false
set_option linter.unusedSimpArgs false
namespace Go.Proofs.YtjakhnhnjhafgaaGreat.Wk
open Go Go.RowKit Go.Deep Ow
set_option maxRecDepth 100000
def zEdge : Edge:=⟨0,[],⟨0,0⟩⟩
theorem iEdges_e{V:List ItvItv}{c:ItvItv}{procs:List PrcProc}{sums:List SumSum}{i:InsIns}{pc:Int}(hl:V.length=4)(hi:insOk i procs.length 10=true)(hs:sums.length=procs.length):
 EC Tryz.prog 99 0 [.d (.ep (stD V c)),.agg [.d (.sl 3 (procs.map dPrcProc))],.d (.sl 3 (sums.map dSumSum)),.agg [CI i.Op,CI i.D,CI i.A,CI i.B,CI i.Rel,CI i.Lo,CI i.Hi,CI i.To],CI pc] [] (.d (.sl 2 ((edgesV procs sums i pc V c).map dEdge))) [] 0:=by
 obtain ⟨d0,d4,a0,a4,b0,b4,ht⟩:=ins_vars hi
 have ho:1≤i.Op∧i.Op≤12:=by simp only [insOk,Bool.and_eq_true,decide_eq_true_eq] at hi;omega
 obtain ⟨o,d,a,b,rel,lo,hi',to⟩:=i
 simp only at *
 rcases (by omega:o=1∨o=2∨o=3∨o=4∨o=5∨o=6∨o=7∨o=8∨o=9∨o=10∨o=11∨o=12) with rfl|rfl|rfl|rfl|rfl|rfl|rfl|rfl|rfl|rfl|rfl|rfl
 · exact edgesAct1_e (actArith1_e (R:=doR 1) hl d0 d4 a0 a4 b0 b4 (fun x y=>iItvDo_e rfl rfl))
 · exact edgesAct2_e (actArith2_e (R:=doR 2) hl d0 d4 a0 a4 b0 b4 (fun x y=>iItvDo_e rfl rfl))
 · exact edgesAct3_e (actArith3_e (R:=doR 3) hl d0 d4 a0 a4 b0 b4 (fun x y=>iItvDo_e rfl rfl))
 · exact edgesAct4_e (actArith4_e (R:=doR 4) hl d0 d4 a0 a4 b0 b4 (fun x y=>iItvDo_e rfl rfl))
 · exact edgesAct5_e (actAny_e hl d0 d4)
 · exact edgesAct6_e (actLoad_e hl d0 d4 a0 a4)
 · exact edgesAct7_e (actStore_e hl a0 a4 b0 b4)
 · exact edgesIf_e hl a0 a4 b0 b4
 · exact edgesJump_e
 · exact edgesAct10_e (actCall_e hl d0 d4 a0 a4 (ht rfl).1 (ht rfl).2 (by have:=ht rfl;omega))
 · exact edgesAct11_e (actAssert_e hl a0 a4 b0 b4)
 · exact edgesRet_e
theorem step_guard{p:PrgProg}{sums:List SumSum}{i:InsIns}{pc:Int}{V:List ItvItv}{c:ItvItv}(hok:absOk ⟨true,V,c⟩=true)(h:¬(¬True∨sumsOk p sums=false∨insOk i p.Procs.length 10=false∨below pc 10=false)):
 absStep p sums i pc ⟨true,V,c⟩=(edgesV p.Procs sums i pc V c).map Edge.st∧insOk i p.Procs.length 10=true∧sums.length=p.Procs.length:=by
 simp only [not_or,Bool.not_eq_false] at h
 obtain ⟨-,h1,h2,h3⟩:=h
 refine ⟨by rw [absStep,stepOk,h1,h2,h3,hok];rfl,h2,?_⟩
 simp only [sumsOk,Bool.and_eq_true,decide_eq_true_eq] at h1
 exact h1.1.2
theorem step_no{p:PrgProg}{sums:List SumSum}{i:InsIns}{pc:Int}{s:AbsState}(h:¬True∨sumsOk p sums=false∨insOk i p.Procs.length 10=false∨below pc 10=false):absStep p sums i pc s=[]:=by
 rw [absStep,if_neg]
 rw [Bool.not_eq_true]
 rcases h with h|h|h|h
 · exact absurd trivial h
 all_goals simp [stepOk,h]
theorem edge_at{L:List Edge}{k:Int}(h0:0≤k)(hk:k<L.length):(List.map dEdge L).getD k.toNat []=dEdge (L.getD k.toNat zEdge):=by
 rw [List.getD_eq_getElem?_getD,List.getD_eq_getElem?_getD,List.getElem?_map,List.getElem?_eq_getElem (by omega)];rfl
theorem edges_len{p:PrgProg}{sums:List SumSum}{i:InsIns}{pc:Int}{V:List ItvItv}{c:ItvItv}(hl:V.length=4):∀e∈(edgesV p.Procs sums i pc V c),e.V.length=4:=by
 have hn:∀{W:List ItvItv} {v:Int} {x:ItvItv},W.length=4→(narV W v x).length=4:=fun h=>narV_len h
 have hr:∀R a b,(relV R V a b).1.length=4:=fun R a b=>by
  unfold relV
  repeat' split
  all_goals first|exact hn (hn hl)|exact hn hl|exact hl
 have ha:(actV p.Procs sums i V c).1.length=4:=by
  unfold actV loadV callV divV
  repeat' split
  all_goals first|exact hl|exact hr _ _ _|exact hn hl|(simp [hn,hl];done)|(simp only [List.length_set];first|exact hl|exact hn hl)
 intro e he
 unfold edgesV relG at he
 repeat' split at he
 all_goals (simp only [List.mem_append,List.mem_singleton,List.not_mem_nil,or_false,false_or] at he)
 all_goals (first|(rcases he with rfl|rfl)|subst he)
 all_goals first|exact hl|exact hr _ _ _|exact ha
theorem edges_few{p:PrgProg}{sums:List SumSum}{i:InsIns}{pc:Int}{V:List ItvItv}{c:ItvItv}:(edgesV p.Procs sums i pc V c).length≤2:=by
 unfold edgesV relG
 repeat' split
 all_goals simp
set_option maxHeartbeats 1000000 in
theorem absStepOn_e{p:PrgProg}{sums:List SumSum}{i:InsIns}{pc:Int}{V:List ItvItv}{c:ItvItv}(hok:absOk ⟨true,V,c⟩=true):EC Tryz.prog 38 0 [.agg [.d (.sl 3 (p.Procs.map dPrcProc))],.d (.sl 3 (sums.map dSumSum)),.agg [CI i.Op,CI i.D,CI i.A,CI i.B,CI i.Rel,CI i.Lo,CI i.Hi,CI i.To],CI pc,.agg [CB true,.d (.sl 2 (V.map dItvItv)),CI c.Lo,CI c.Hi]] [] (.d (.sl 5 ((absStep p sums i pc ⟨true,V,c⟩).map dAbsEdge))) [] 0:=by
 refine (seat [] [] [(53,k10.ls)]).PB (mkF [(5,fun s=>[s.at_ 11])] (mkM true [6,1,1,1,5,1,1,35,3,14])) (fn:=Tryz.f38) ⟨by kernel_rfl,by kernel_rfl,rfl⟩ (Nat.le_refl 0)
  (mkEs [ePrgProg 10 p,eLSumSum 30 sums,eInsIns 50 i,eI 70 pc,eAbsState 90 ⟨true,V,c⟩,eSt 111000 V c,eB 111200 true,eB 219000 (sumsOk p sums),eB 227000 (insOk i p.Procs.length 10),eB 232000 (below pc 10),eL 515000 ((edgesV p.Procs sums i pc V c).map dEdge),eLAbsEdge 900 (absStep p sums i pc ⟨true,V,c⟩)])
  (consL ⟨Int×List AbsEdge,fun ee x=>match x with|⟨k,l⟩=>0≤k∧k≤(edgesV p.Procs sums i pc V c).length∧l=((edgesV p.Procs sums i pc V c).map Edge.st).take k.toNat,fun ee x=>match x with|⟨k,l⟩=>mkEs [eI 1 k,eLAbsEdge 3 l,eAbsState 815000 ((edgesV p.Procs sums i pc V c).getD k.toNat zEdge).st.State],fun ee x=>match x with|⟨k,l⟩=>(4-k).toNat⟩ noLps)
  [(0,fun s=>(0,((((s.kl (mkM true [6,1,1,1,5,1,1,35,3,14])).upd [(11,.dead),(53,xi 100000001)]).new 13 kAbsEdge (.rws kAbsEdge 100000003 .nil)).gc 0)))]
  [xPrgProg 10,xLSumSum 30,xInsIns 50,xInt 70,xAbsState 90] [] (by simp only [go_sem,Nat.reduceEqDiff,Nat.reduceAdd,Nat.reduceBEq,Int.reduceToNat]) rfl
  (xLAbsEdge 900) [] (by simp only [go_sem,Nat.reduceEqDiff,Nat.reduceAdd,Nat.reduceBEq,Int.reduceToNat]) rfl (fun _=>?_)
 conv=>arg 4;cbv
 simp (maxSteps:=4000000) only [go_sem,Nat.reduceEqDiff,Nat.reduceAdd,Nat.reduceBEq,Int.reduceToNat,Nat.reduceDiv,Nat.reduceMod,lput,consL]
 repeat' (first|with_reducible apply And.intro|intro _)
 all_goals first
  | exact stread_e hok
  | exact iSumsOk_e rfl
  | exact iInsOk_e rfl
  | exact .inr (below_e rfl)
  | exact iEdges_e (absOn hok).1 (step_guard hok ‹_›).2.1 (step_guard hok ‹_›).2.2
  | (rw [step_no ‹_›];rfl)
  | exact ⟨0,[],⟨by omega,by omega,rfl⟩,rfl,rfl,rfl⟩
  | skip
 · rename_i hg k l hJ hk;exact hJ.1
 · rename_i hg k l hJ hk;exact hk
 · rename_i hg k l hJ hk
   have hm:(edgesV p.Procs sums i pc V c).getD k.toNat zEdge∈(edgesV p.Procs sums i pc V c):=by
    rw [List.getD_eq_getElem?_getD,List.getElem?_eq_getElem (by omega)];exact List.getElem_mem _
   rw [edge_at hJ.1 hk]
   exact stabs_e (V:=((edgesV p.Procs sums i pc V c).getD k.toNat zEdge).V) (c:=((edgesV p.Procs sums i pc V c).getD k.toNat zEdge).c) (edges_len (absOn hok).1 _ hm)
 · rename_i hg k l hJ hk
   have hf:=@edges_few p sums i pc V c
   rw [hJ.2.2,List.length_take,List.length_map];omega
 · rename_i hg k l hJ hk
   have hf:=@edges_few p sums i pc V c
   have e:((edgesV p.Procs sums i pc V c).map Edge.st).take (k+1).toNat=l++[((edgesV p.Procs sums i pc V c).getD k.toNat zEdge).st]:=by
    rw [tk_snoc _ k zEdge.st hJ.1 (by rw [List.length_map];exact hk),hJ.2.2]
    congr 2
    rw [List.getD_eq_getElem?_getD,List.getD_eq_getElem?_getD,List.getElem?_map,List.getElem?_eq_getElem (by omega)];rfl
   refine ⟨k+1,_,⟨by omega,by omega,rfl⟩,by omega,?_,by rw [wrapI]<;>omega,?_⟩
   · rw [e,List.length_append];rfl
   · rw [e,edge_at hJ.1 hk];rfl
 · rename_i hg k l hJ hk
   rw [hJ.2.2,tk_end (by rw [List.length_map];omega),(step_guard hok hg).1]
theorem absStepOff_e{p:PrgProg}{sums:List SumSum}{i:InsIns}{pc:Int}{on:Bool}{V:List ItvItv}{c:ItvItv}(hno:on=false∨absOk ⟨on,V,c⟩=false):EC Tryz.prog 38 0 [.agg [.d (.sl 3 (p.Procs.map dPrcProc))],.d (.sl 3 (sums.map dSumSum)),.agg [CI i.Op,CI i.D,CI i.A,CI i.B,CI i.Rel,CI i.Lo,CI i.Hi,CI i.To],CI pc,.agg [CB on,.d (.sl 2 (V.map dItvItv)),CI c.Lo,CI c.Hi]] [] (.d (.sl 5 (([]:List AbsEdge).map dAbsEdge))) [] 0:=by
 obtain ⟨ok,hrd,hz⟩:∃ok,EC Tryz.prog 53 0 [.agg [CB on,.d (.sl 2 (V.map dItvItv)),CI c.Lo,CI c.Hi]] [] (.tup [.d (.lit (.pointer none)),CB ok]) [] 0∧True:=by
  cases on with
  | false=>exact ⟨_,streadOff_e rfl,trivial⟩
  | true=>exact ⟨false,streadBad_e (by simpa using hno),trivial⟩
 refine (seat [] [] [] [(53,fun _=>some (.tup (ofL [.nilP,.atb 80 .nil])))]).PU (mkM true []) (fn:=Tryz.f38) ⟨by kernel_rfl,by kernel_rfl,rfl⟩
  (mkEs [ePrgProg 10 p,eLSumSum 30 sums,eInsIns 50 i,eI 70 pc,eAbsState 90 ⟨on,V,c⟩,eB 80 ok]) noLps [] [xPrgProg 10,xLSumSum 30,xInsIns 50,xInt 70,xAbsState 90] (by simp only [go_sem,Nat.reduceEqDiff,Nat.reduceAdd,Nat.reduceBEq,Int.reduceToNat]) (fun _=>?_)
 conv=>arg 4;cbv
 simp only [go_sem,Nat.reduceEqDiff,Nat.reduceAdd,Nat.reduceBEq,Int.reduceToNat]
 repeat' (first|with_reducible apply And.intro|intro _)
 all_goals first
  | exact hrd
  | rfl
  | skip
theorem iAbsStep_e{p:PrgProg}{sums:List SumSum}{i:InsIns}{pc:Int}{s:AbsState}{r:List AbsEdge}(h:absStep p sums i pc s=r):EC Tryz.prog 38 0 [.agg [.d (.sl 3 (p.Procs.map dPrcProc))],.d (.sl 3 (sums.map dSumSum)),.agg [CI i.Op,CI i.D,CI i.A,CI i.B,CI i.Rel,CI i.Lo,CI i.Hi,CI i.To],CI pc,.agg [CB s.On,.d (.sl 2 (s.Vars.map dItvItv)),CI s.Cells.Lo,CI s.Cells.Hi]] [] (.d (.sl 5 (r.map dAbsEdge))) [] 0:=by
 subst h
 obtain ⟨on,V,c⟩:=s
 by_cases h:on=true∧absOk ⟨on,V,c⟩=true
 · obtain ⟨rfl,h2⟩:=h;exact absStepOn_e h2
 · have h2:on=false∨absOk ⟨on,V,c⟩=false:=by cases on<;>simp_all
   have e:absStep p sums i pc ⟨on,V,c⟩=[]:=by
    rw [absStep,if_neg]
    rw [Bool.not_eq_true]
    rcases h2 with h|h<;>simp [stepOk,h]
   rw [e];exact absStepOff_e h2
end Go.Proofs.YtjakhnhnjhafgaaGreat.Wk
