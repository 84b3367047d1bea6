/- A part of the proof. -/
import Derived.Test.YtjakhnhnjhafgaaGreatK19
import Derived.Test.YtjakhnhnjhafgaaGreatK30
import Derived.Test.YtjakhnhnjhafgaaGreatK33
import Derived.Test.YtjakhnhnjhafgaaGreatK34
import Derived.Test.YtjakhnhnjhafgaaGreatK35
import Derived.Test.YtjakhnhnjhafgaaGreatK36
import Derived.Test.YtjakhnhnjhafgaaGreatK28
import Derived.Test.YtjakhnhnjhafgaaGreatK37
set_option linter.unusedVariables false
set_option linter.unusedSimpArgs false
namespace Go.Proofs.YtjakhnhnjhafgaaGreat.Wk
open Go Go.RowKit Go.Deep Ow
set_option maxRecDepth 100000
theorem law_has{p0:List PrcProc}{sl:List SumSum}{i:InsIns}{n:Int}{s:AbsState}{list:List Int}(hg:¬(sumsOk ⟨p0⟩ sl=false∨insOk i p0.length 10=false∨absOk s=false∨s.On=false))(h:¬(i.Op=10∨i.Op=12)):
 ((ptEnd i s n list).State=3∧absFails (owLone i) (loneIns i) s=true) ∨
 ((ptEnd i s n list).State=1∧0<(ptEnd i s n list).Frames.length∧∃k:Nat,k<(ptOut i s).length∧((ptOut i s).getD k zAbsEdge).To=((ptEnd i s n list).Frames.getD 0 zRunFrame).Pc∧absHas ((ptOut i s).getD k zAbsEdge).State ((ptEnd i s n list).Frames.getD 0 zRunFrame).Vars ((ptEnd i s n list).Frames.getD 0 zRunFrame).Cells=true):=by
 simp only [not_or,Bool.not_eq_false] at hg
 obtain ⟨-,hi,hok,hon⟩:=hg
 obtain ⟨on,V,c⟩:=s
 simp only at hon
 subst hon
 rcases law_step (n:=n) (list:=list) hi hok (fun e=>h (.inl e)) (fun e=>h (.inr e)) with h3|⟨f,hf,hk⟩
 · exact .inl h3
 · rw [hf];exact .inr ⟨rfl,Nat.zero_lt_one,hk⟩
theorem go_ok{p0:List PrcProc}{sl:List SumSum}{i:InsIns}{s:AbsState}(hg:¬(sumsOk ⟨p0⟩ sl=false∨insOk i p0.length 10=false∨absOk s=false∨s.On=false)):insOk i p0.length 10=true∧absOk s=true∧s.On=true:=by
 simp only [not_or,Bool.not_eq_false] at hg
 exact hg.2
theorem out_few{i:InsIns}{s:AbsState}:(ptOut i s).length≤2:=by
 rw [ptOut,absStep]
 split
 · rw [List.length_map];exact edges_few
 · simp
theorem step_gone{i:InsIns}{s:AbsState}:EC Tryz.prog 38 1 [.agg [.d (.sl 3 ((owLone i).Procs.map dPrcProc))],.osl 0 3 0 1,.agg [CI (loneIns i).Op,CI (loneIns i).D,CI (loneIns i).A,CI (loneIns i).B,CI (loneIns i).Rel,CI (loneIns i).Lo,CI (loneIns i).Hi,CI (loneIns i).To],CI 0,.agg [CB s.On,.d (.sl 2 (s.Vars.map dItvItv)),CI s.Cells.Lo,CI s.Cells.Hi]] [(0,.c 3 [[CB false,CI 0,CI 0]])] (.d (.sl 5 ((ptOut i s).map dAbsEdge))) [] 1:=by
 refine EC.gone (iAbsStep_e (p:=owLone i) (sums:=[⟨false,⟨0,0⟩⟩]) (i:=loneIns i) (pc:=0) (s:=s) rfl) (Each.cons' (Arg.aggD [_]) (Each.cons' (.vw _ _ ?_) (Each.cons' (Arg.aggD [_,_,_,_,_,_,_,_]) (Each.cons' (.dat _) (Each.cons' (Arg.aggD [_,_,_,_]) .nil)))))
 exact vw_lit (rows:=[[CB false,CI 0,CI 0]]) rfl (fun r hr=>by
  rw [List.mem_singleton.1 hr]
  refine ⟨rfl,fun c hc=>?_⟩
  simp only [List.mem_cons,List.not_mem_nil,or_false] at hc
  rcases hc with rfl|rfl|rfl<;>rfl)
set_option maxHeartbeats 4000000 in
theorem fnAbsStep_e{code:List UInt8}{more:List UInt8}{r:Bool}{p0:List PrcProc}{sl:List SumSum}{i:InsIns}{pc n:Int}{s:AbsState}{list:List Int}(hlen:list.length=12)(hd:EC Tryz.prog 37 0 [.d (.sl 1 (code.map dU8))] [] (.tup [.agg [.d (.sl 3 (p0.map dPrcProc))],.d (.sl 3 (sl.map dSumSum)),.agg [CI i.Op,CI i.D,CI i.A,CI i.B,CI i.Rel,CI i.Lo,CI i.Hi,CI i.To],CI pc,.agg [CB s.On,.d (.sl 2 (s.Vars.map dItvItv)),CI s.Cells.Lo,CI s.Cells.Hi]]) [] 0)(hI:EC Tryz.prog 17 0 [.d (.sl 1 (more.map dU8))] [] (.tup [CI n,.d (.sl 1 (list.map dInt))]) [] 0)(hR:insOk i p0.length 10=true→absOk s=true→s.On=true→i.Op≠10→i.Op≠12→EC Tryz.prog 14 0 [.agg [.d (.sl 3 ((owLone i).Procs.map dPrcProc))],.agg [CI (ptRun s n list).State,.d (.sl 4 ((ptRun s n list).Frames.map dRunFrame)),CI (ptRun s n list).Out,CI (ptRun s n list).Proc,CI (ptRun s n list).Pc],CI (list.getD 8 0)] [] (.agg [CI (ptEnd i s n list).State,.d (.sl 4 ((ptEnd i s n list).Frames.map dRunFrame)),CI (ptEnd i s n list).Out,CI (ptEnd i s n list).Proc,CI (ptEnd i s n list).Pc]) [] 0)(h:true=r):EC Tryz.prog 7 0 [.d (.sl 1 (code.map dU8)),.d (.sl 1 (more.map dU8))] [] (CB r) [] 0:=by
 subst h
 obtain ⟨ck,hck⟩:∃ck,ck=ordCk:=⟨_,rfl⟩
 refine (seat [] [38]).PU2 (mkC ck hck (mkM true [21,149])) (fn:=Tryz.f7) ⟨by kernel_rfl,by kernel_rfl,rfl⟩ 12 (by rfl) (mkEs [eLU8 10 code,eLU8 30 more,ePrgProg 311000 ⟨p0⟩,eLSumSum 311030 sl,eInsIns 311060 i,eI 311090 pc,eAbsState 311120 s,eI 411000 n,eLInt 411030 list,eLAbsEdge 515000 (absStep ⟨p0⟩ sl i pc s),eLAbsEdge 616000 (absStep ⟨p0⟩ sl i pc s),eB 617000 true,eB 812000 (sumsOk ⟨p0⟩ sl),eB 819000 (insOk i p0.length 10),eB 824000 (absOk s),eB 914000 true,eB 1114000 true,ePrgProg 1211000 (owLone i),eLAbsEdge 1415000 (ptOut i s),eLInt 1513000 (pointV s n list),eLInt 1513030 (pointC s n list),eRunRun 1613000 (ptRun s n list),eRunRun 1617000 (ptEnd i s n list),eB 1813000 (absFails (owLone i) (loneIns i) s)]) (consL ⟨Int,fun ee k=>0≤k∧k≤(ptOut i s).length∧∀j:Nat,(j:Int)<k→¬(((ptOut i s).getD j zAbsEdge).To=((ptEnd i s n list).Frames.getD 0 zRunFrame).Pc∧absHas ((ptOut i s).getD j zAbsEdge).State ((ptEnd i s n list).Frames.getD 0 zRunFrame).Vars ((ptEnd i s n list).Frames.getD 0 zRunFrame).Cells=true),fun ee k=>mkEs [eI 1 k,eB 2528000 (absHas ((ptOut i s).getD k.toNat zAbsEdge).State ((ptEnd i s n list).Frames.getD 0 zRunFrame).Vars ((ptEnd i s n list).Frames.getD 0 zRunFrame).Cells),eB 2610000 true],fun ee k=>((ptOut i s).length-k).toNat⟩ noLps) [(0,fun s=>(0,(s.kl (mkC ck hck (mkM true [21,149]))).upd [(20,xi 100000001)]))] [xLU8 10,xLU8 30] (by simp only [go_sem,Nat.reduceEqDiff,Nat.reduceAdd,Nat.reduceBEq,Int.reduceToNat]) (fun _=>?_)
 intro K hK
 conv=>arg 4;cbv
 simp only [hK]
 conv=>arg 4;cbv
 simp (maxSteps:=4000000) only [go_sem,Nat.reduceEqDiff,Nat.reduceAdd,Nat.reduceBEq,Int.reduceToNat,Nat.reduceDiv,Nat.reduceMod,lput,consL]
 repeat' (first|with_reducible apply And.intro|intro _)
 all_goals (try (exfalso;assumption))
 all_goals first|(rw [hck];rfl)|exact hd|exact hI|skip
 all_goals first|exact iAbsStep_e rfl|exact sAbsStep_e rfl|exact owEdges_e rfl|exact sSumsOk_e rfl|exact InsOk_e rfl|exact .inr (InsOk_e rfl)|exact AbsOk_e rfl|exact .inr (AbsOk_e rfl)|exact owOk_e rfl|exact .inr (owOk_e rfl)|exact kLone_e rfl|exact owFrameOf_e rfl|exact jAbsFails_e rfl|exact iAbsHas_e rfl|exact .inr (iAbsHas_e rfl)|exact step_gone|skip
 all_goals clear hK hd hI hck
 all_goals first|omega|(exact absurd trivial ‹¬True›)|(rw [step_none ‹_›];rfl)|(exact decide_eq_true (Int.ofNat_le.2 (step_one (by omega))))|(exact Int.zero_lt_one)|(simp [owLone];done)|skip
 · have hg:=go_ok ‹¬(sumsOk _ _=false∨_)›
   exact owPoint_e (s0:=s.On) (s1:=s.Vars) (s2:=s.Cells.Lo) (s3:=s.Cells.Hi) hg.2.1 hg.2.2 hlen rfl rfl
 all_goals have HP:=‹_∧¬(sumsOk _ _=false∨_)∧_›
 all_goals have HF:=@out_few i s
 all_goals have HL:=@law_has p0 sl i n s list HP.2.1 HP.2.2
 · have hg:=go_ok HP.2.1;exact hR hg.1 hg.2.1 hg.2.2 (fun e=>HP.2.2 (.inl e)) (fun e=>HP.2.2 (.inr e))
 · rcases HL with h|h
   · exact h.2
   · have:=h.1;omega
 · exfalso;rcases HL with h|h<;>have:=h.1<;>omega
 · rcases HL with h|h
   · have:=h.1;omega
   · have:=h.2.1;omega
 · rename_i x hJ hx hc;rw [wrapI]<;>omega
 · rename_i x hJ hx hc;rw [wrapI]<;>omega
 · rename_i x hJ hx hc j hj hh
   rw [wrapI (by omega) (by omega)] at hj
   by_cases e:(j:Int)=x
   · have e2:x.toNat=j:=by omega
     rw [e2] at hc;exact hc hh
   · exact hJ.2.2 j (by omega) hh
 · rename_i x hJ hx hc;rw [wrapI (by omega) (by omega)];omega
 · rename_i x hJ hx
   exfalso
   rcases HL with h|h
   · have:=h.1;omega
   · obtain ⟨k,hk,hh⟩:=h.2.2
     exact hJ.2.2 k (by omega) hh
end Go.Proofs.YtjakhnhnjhafgaaGreat.Wk
