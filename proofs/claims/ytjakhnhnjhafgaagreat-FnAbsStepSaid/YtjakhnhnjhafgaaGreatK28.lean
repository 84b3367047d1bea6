/- A part of the proof. -/
import Derived.Test.YtjakhnhnjhafgaaGreatK23
import Derived.Test.YtjakhnhnjhafgaaGreatK21
import Derived.Test.YtjakhnhnjhafgaaGreatK25
set_option linter.unusedVariables false
set_option linter.unusedSimpArgs false
namespace Go.Proofs.YtjakhnhnjhafgaaGreat.Wk
open Go Go.RowKit Go.Deep Ow
set_option maxRecDepth 100000
theorem form_ok{x:InsIns}(h:l1In x.Op 1 12=true):((form x).Op=0∧(form x).D=0∧(form x).A=0∧(form x).B=0∧(form x).Rel=0∧(form x).Lo=0∧(form x).Hi=0∧(form x).To=0)↔formOk x=true:=by
 obtain ⟨o,d,a,b,r,l,hi,t⟩:=x
 simp only [l1In,Bool.and_eq_true,decide_eq_true_eq] at h
 rcases (by omega:o=1∨o=2∨o=3∨o=4∨o=5∨o=6∨o=7∨o=8∨o=9∨o=10∨o=11∨o=12) with rfl|rfl|rfl|rfl|rfl|rfl|rfl|rfl|rfl|rfl|rfl|rfl<;>simp [form,formOk]<;>grind
theorem varOk_in{n:Int}:l1In n 0 3=varOk n:=by simp only [l1In,varOk];congr 1;simp;omega
theorem InsOk_e{i0:Int}{i1:Int}{i2:Int}{i3:Int}{i4:Int}{i5:Int}{i6:Int}{i7:Int}{procs:Int}{size:Int}{r:Bool}(h:insOk (⟨i0,i1,i2,i3,i4,i5,i6,i7⟩:InsIns) procs size=r):EC Tryz.prog 42 0 [.agg [CI i0,CI i1,CI i2,CI i3,CI i4,CI i5,CI i6,CI i7],CI procs,CI size] [] (CB r) [] 0:=by
 subst h
 refine (seat [] []).PU (mkM true [4,2,2,30,1,60]) (fn:=Tryz.f42) ⟨by kernel_rfl,by kernel_rfl,rfl⟩ (mkEs [eInsIns 10 ⟨i0,i1,i2,i3,i4,i5,i6,i7⟩,eInt 30 procs,eInt 50 size,eB 212000 (l1In (⟨i0,i1,i2,i3,i4,i5,i6,i7⟩:InsIns).Op 1 12),eInsIns 216000 (form (⟨i0,i1,i2,i3,i4,i5,i6,i7⟩:InsIns)),eB 223000 (l1In (⟨i0,i1,i2,i3,i4,i5,i6,i7⟩:InsIns).D 0 3),eB 229000 (l1In (⟨i0,i1,i2,i3,i4,i5,i6,i7⟩:InsIns).A 0 3),eB 235000 (l1In (⟨i0,i1,i2,i3,i4,i5,i6,i7⟩:InsIns).B 0 3),eB 612000 (numOk (⟨i0,i1,i2,i3,i4,i5,i6,i7⟩:InsIns).Lo),eB 616000 (numOk (⟨i0,i1,i2,i3,i4,i5,i6,i7⟩:InsIns).Hi),eB 812000 (l1In (⟨i0,i1,i2,i3,i4,i5,i6,i7⟩:InsIns).Rel 1 4),eB 1412000 (l1In (⟨i0,i1,i2,i3,i4,i5,i6,i7⟩:InsIns).Rel 1 4)]) noLps [] [xInsIns 10,xInt 30,xInt 50] rfl (fun _=>?_)
 conv=>arg 4;cbv
 simp only [go_sem,Nat.reduceEqDiff,Nat.reduceAdd,Nat.reduceBEq,Int.reduceToNat]
 repeat' (first|with_reducible apply And.intro|intro _)
 all_goals first|exact l1In_e rfl|exact l3Form_e (r:=form _) rfl|exact NumOk_e rfl|skip
 all_goals (simp only [varOk_in] at *)
 all_goals (by_cases ho:l1In i0 1 12=true)
 all_goals have hb:l1In i0 1 12=(decide (1≤i0)&&decide (i0≤12)):=rfl
 all_goals (try (have hf:=form_ok (x:=⟨i0,i1,i2,i3,i4,i5,i6,i7⟩) ho;simp only [hf] at *))
 all_goals (simp only [insOk,restOk,relOk,l1In,below,itvOk,varOk_in] at *)
 all_goals (simp at *;grind)
end Go.Proofs.YtjakhnhnjhafgaaGreat.Wk
namespace Go.Proofs.YtjakhnhnjhafgaaGreat.Wk
open Go Go.RowKit Go.Deep Ow
set_option maxRecDepth 100000
theorem last_getD{l:List InsIns}(h:1≤l.length)(i:Nat)(hi:i=l.length-1):l.getLast?.elim false insEnds=insEnds (l.getD i zInsIns):=by
 subst hi
 rw [List.getLast?_eq_getElem?,List.getD_eq_getElem?_getD,List.getElem?_eq_getElem (by omega)];rfl
theorem l3Proc_e{c0:Int}{c1:Int}{c2:List InsIns}{procs:Int}{r:Bool}(h:procOk (⟨c0,c1,c2⟩:PrcProc) procs=r):EC Tryz.prog 132 0 [.agg [CI c0,CI c1,.d (.sl 8 (c2.map dInsIns))],CI procs] [] (CB r) [] 0:=by
 subst h
 refine (seat [] []).PU (mkM true [3,1,4,52]) (fn:=Tryz.f132) ⟨by kernel_rfl,by kernel_rfl,rfl⟩ (mkEs [ePrcProc 10 ⟨c0,c1,c2⟩,eInt 30 procs,eB 212000 (numOk (⟨c0,c1,c2⟩:PrcProc).Lo),eB 217000 (numOk (⟨c0,c1,c2⟩:PrcProc).Hi),eB 229000 (l1In (⟨c0,c1,c2⟩:PrcProc).Code.length 1 10)]) (consL ⟨Int,fun ee k=>0≤k∧k≤(⟨c0,c1,c2⟩:PrcProc).Code.length∧((⟨c0,c1,c2⟩:PrcProc).Code.take k.toNat).all (fun i=>insOk i procs (⟨c0,c1,c2⟩:PrcProc).Code.length)=true,fun ee k=>mkEs [eI 1 k,eB 717000 (insOk ((⟨c0,c1,c2⟩:PrcProc).Code.getD k.toNat zInsIns) procs (⟨c0,c1,c2⟩:PrcProc).Code.length)],fun ee k=>((⟨c0,c1,c2⟩:PrcProc).Code.length-k).toNat⟩ noLps) [(0,fun s=>(0,(s.kl (mkM true [3,1,4,52])).upd [(6,xi 100000001)]))] [xPrcProc 10,xInt 30] (by simp only [go_sem,Nat.reduceEqDiff,Nat.reduceAdd,Nat.reduceBEq,Int.reduceToNat]) (fun _=>?_)
 conv=>arg 4;cbv
 simp (maxSteps:=4000000) only [go_sem,Nat.reduceEqDiff,Nat.reduceAdd,Nat.reduceBEq,Int.reduceToNat,Nat.reduceDiv,Nat.reduceMod,lput,consL,NumOk_e,l1In_e,InsOk_e]
 simp only [l1In,not_or,Bool.not_eq_false,Bool.and_eq_true,decide_eq_true_eq,gt_iff_lt,Int.not_lt]
 repeat' (first|with_reducible apply And.intro|intro _)
 all_goals (try simp (disch:=omega) only [wrapI] at *)
 all_goals (try (simp;done))
 all_goals (try omega)
 all_goals (try (rw [tk_all (⟨c0,c1,c2⟩:PrcProc).Code (fun i=>insOk i procs (⟨c0,c1,c2⟩:PrcProc).Code.length) _ zInsIns (by omega) (by omega)];simp_all;done))
 · rename_i h;simp only [procOk,itvOk];rcases h with h|h|h|h<;>simp_all<;>omega
 · rename_i h1 x h2 h3 h4;simp only [procOk,all_bad (p:=fun i=>insOk i procs c2.length) (d:=zInsIns) h2.1 h3 h4,Bool.and_false,Bool.false_and]
 · rename_i h1 x h2 h3
   rw [tk_end h3] at h2
   simp only [procOk,itvOk,h1.1,h1.2.1,h2.2.2]
   have e1:decide (c0≤c1)=true:=by simpa using h1.2.2.1
   have e2:decide (1≤c2.length)=true:=by simpa using (show 1≤c2.length by omega)
   have e3:decide (c2.length≤10)=true:=by simpa using (show c2.length≤10 by omega)
   rw [last_getD (show 1≤c2.length by omega) ((c2.length:Int)-1).toNat (by omega)]
   simp [e1,e2,e3,insEnds]
theorem PrgOk_e{p0:List PrcProc}{r:Bool}(h:prgOk (⟨p0⟩:PrgProg)=r):EC Tryz.prog 70 0 [.agg [.d (.sl 3 (p0.map dPrcProc))]] [] (CB r) [] 0:=by
 subst h
 refine (seat [] []).PU (mkM true [4,22]) (fn:=Tryz.f70) ⟨by kernel_rfl,by kernel_rfl,rfl⟩ (mkEs [ePrgProg 10 ⟨p0⟩,eB 113000 (l1In (⟨p0⟩:PrgProg).Procs.length 1 4)]) (consL ⟨Int,fun ee k=>0≤k∧k≤(⟨p0⟩:PrgProg).Procs.length∧((⟨p0⟩:PrgProg).Procs.take k.toNat).all (fun c=>procOk c (⟨p0⟩:PrgProg).Procs.length)=true,fun ee k=>mkEs [eI 1 k,eB 618000 (procOk ((⟨p0⟩:PrgProg).Procs.getD k.toNat zPrcProc) (⟨p0⟩:PrgProg).Procs.length)],fun ee k=>((⟨p0⟩:PrgProg).Procs.length-k).toNat⟩ noLps) [(0,fun s=>(0,(s.kl (mkM true [4,22])).upd [(3,xi 100000001)]))] [xPrgProg 10] (by simp only [go_sem,Nat.reduceEqDiff,Nat.reduceAdd,Nat.reduceBEq,Int.reduceToNat]) (fun _=>?_)
 conv=>arg 4;cbv
 simp (maxSteps:=4000000) only [go_sem,Nat.reduceEqDiff,Nat.reduceAdd,Nat.reduceBEq,Int.reduceToNat,Nat.reduceDiv,Nat.reduceMod,lput,consL,l1In_e,l3Proc_e]
 simp only [l1In,Bool.and_eq_true,decide_eq_true_eq]
 repeat' (first|with_reducible apply And.intro|intro _)
 all_goals grind [wrapI,prgOk,l1In,tk_all,tk_end,all_bad]
end Go.Proofs.YtjakhnhnjhafgaaGreat.Wk
namespace Go.Proofs.YtjakhnhnjhafgaaGreat.Wk
open Go Go.RowKit Go.Deep Ow
set_option maxRecDepth 100000
def l7Given(p:PrgProg)(i:InsIns):ItvItv:=⟨(p.Procs.getD i.To.toNat zPrcProc).Lo,(p.Procs.getD i.To.toNat zPrcProc).Hi⟩
theorem l7Given_e{p0:List PrcProc}{i0:Int}{i1:Int}{i2:Int}{i3:Int}{i4:Int}{i5:Int}{i6:Int}{i7:Int}{r:ItvItv}(hi:0≤(⟨i0,i1,i2,i3,i4,i5,i6,i7⟩:InsIns).To)(hj:(⟨i0,i1,i2,i3,i4,i5,i6,i7⟩:InsIns).To<(⟨p0⟩:PrgProg).Procs.length)(h:l7Given (⟨p0⟩:PrgProg) (⟨i0,i1,i2,i3,i4,i5,i6,i7⟩:InsIns)=r):EC Tryz.prog 61 0 [.agg [.d (.sl 3 (p0.map dPrcProc))],.agg [CI i0,CI i1,CI i2,CI i3,CI i4,CI i5,CI i6,CI i7]] [] (.agg [CI r.Lo,CI r.Hi]) [] 0:=by
 subst h
 refine (seat [] []).PU (mkM true []) (fn:=Tryz.f61) ⟨by kernel_rfl,by kernel_rfl,rfl⟩ (mkEs [ePrgProg 10 ⟨p0⟩,eInsIns 30 ⟨i0,i1,i2,i3,i4,i5,i6,i7⟩]) noLps [] [xPrgProg 10,xInsIns 30] (by simp only [go_sem,Nat.reduceEqDiff,Nat.reduceAdd,Nat.reduceBEq,Int.reduceToNat]) (fun _=>?_)
 conv=>arg 4;cbv
 simp only [go_sem,Nat.reduceEqDiff,Nat.reduceAdd,Nat.reduceBEq,Int.reduceToNat]
 grind [l7Given]
def l7Fit(p:PrgProg)(i:InsIns)(s:AbsState):Bool:=prgOk p&&insOk i p.Procs.length 10&&absOk s&&s.On
theorem l7Fit_e{p0:List PrcProc}{i0:Int}{i1:Int}{i2:Int}{i3:Int}{i4:Int}{i5:Int}{i6:Int}{i7:Int}{s0:Bool}{s1:List ItvItv}{s2:Int}{s3:Int}{r:Bool}(h:l7Fit (⟨p0⟩:PrgProg) (⟨i0,i1,i2,i3,i4,i5,i6,i7⟩:InsIns) (⟨s0,s1,⟨s2,s3⟩⟩:AbsState)=r):EC Tryz.prog 57 0 [.agg [.d (.sl 3 (p0.map dPrcProc))],.agg [CI i0,CI i1,CI i2,CI i3,CI i4,CI i5,CI i6,CI i7],.agg [CB s0,.d (.sl 2 (s1.map dItvItv)),CI s2,CI s3]] [] (CB r) [] 0:=by
 subst h
 refine (seat [] []).PU (mkM true []) (fn:=Tryz.f57) ⟨by kernel_rfl,by kernel_rfl,rfl⟩ (mkEs [ePrgProg 10 ⟨p0⟩,eInsIns 30 ⟨i0,i1,i2,i3,i4,i5,i6,i7⟩,eAbsState 50 ⟨s0,s1,⟨s2,s3⟩⟩,eB 111000 (prgOk (⟨p0⟩:PrgProg)),eB 117000 (insOk (⟨i0,i1,i2,i3,i4,i5,i6,i7⟩:InsIns) (⟨p0⟩:PrgProg).Procs.length 10),eB 121000 (absOk (⟨s0,s1,⟨s2,s3⟩⟩:AbsState))]) noLps [] [xPrgProg 10,xInsIns 30,xAbsState 50] (by simp only [go_sem,Nat.reduceEqDiff,Nat.reduceAdd,Nat.reduceBEq,Int.reduceToNat]) (fun _=>?_)
 conv=>arg 4;cbv
 simp only [go_sem,Nat.reduceEqDiff,Nat.reduceAdd,Nat.reduceBEq,Int.reduceToNat,PrgOk_e,InsOk_e,AbsOk_e]
 grind [l7Fit]
def absFails(p:PrgProg)(i:InsIns)(s:AbsState):Bool:=
 l7Fit p i s&&(if i.Op=4 then itvHas (s.Vars.getD i.B.toNat zItvItv) 0
 else if i.Op=6∨i.Op=7 then !itvIn (s.Vars.getD i.A.toNat zItvItv) ⟨0,3⟩
 else if i.Op=10 then !itvIn (s.Vars.getD i.A.toNat zItvItv) (l7Given p i)
 else if i.Op=11 then (itvNot i.Rel (s.Vars.getD i.A.toNat zItvItv) (s.Vars.getD i.B.toNat zItvItv)).2.2
 else false)
theorem absOk_len{s:AbsState}(h:absOk s=true)(h1:s.On=true):s.Vars.length=4:=by simp [absOk,h1] at h;exact h.1.1
theorem ins_vars{i:InsIns}{n m:Int}(h:insOk i n m=true):0≤i.D∧i.D<4∧0≤i.A∧i.A<4∧0≤i.B∧i.B<4∧(i.Op=10→0≤i.To∧i.To<n):=by
 simp only [insOk,Bool.and_eq_true,decide_eq_true_eq,varOk,restOk] at h
 obtain ⟨⟨⟨⟨⟨⟨h1,h2⟩,h3⟩,h4⟩,h5⟩,h6⟩,h7⟩:=h
 refine ⟨by omega,by omega,by omega,by omega,by omega,by omega,fun e=>?_⟩
 simp [e,below] at h7
 omega
end Go.Proofs.YtjakhnhnjhafgaaGreat.Wk
namespace Go.Proofs.YtjakhnhnjhafgaaGreat.Wk
open Go Go.RowKit Go.Deep Ow
set_option maxRecDepth 100000
theorem owOk_e{r:Bool}(h:true=r):EC Tryz.prog 11 0 [] [] (CB r) [] 0:=by
 subst h
 refine (seat [] []).PU (mkM true []) (fn:=Tryz.f11) ⟨by kernel_rfl,by kernel_rfl,rfl⟩ (mkEs [eB 110000 true]) noLps [] [] rfl (fun _=>?_)
 conv=>arg 4;cbv
 simp only [go_sem,Nat.reduceEqDiff,Nat.reduceAdd,Nat.reduceBEq,Int.reduceToNat,iNumOk_e]
 first|done|exact iNumOk_e rfl|simp [iNumOk_e,numOk]
def loneIns(i:InsIns):InsIns:=⟨i.Op,i.D,i.A,i.B,i.Rel,i.Lo,i.Hi,if i.Op=10 then 0 else if i.Op=8∨i.Op=9 then 1 else i.To⟩
def owLone(i:InsIns):PrgProg:=⟨[⟨-32768,32767,[loneIns i,⟨12,0,0,0,0,0,0,0⟩]⟩]⟩
theorem owFrameOf_e{a:Int}{b:Int}{vars:List Int}{cells:List Int}{r:RunRun}(h:(⟨1,[⟨a,b,vars,cells⟩],0,0,0⟩:RunRun)=r):EC Tryz.prog 15 0 [CI a,CI b,.d (.sl 1 (vars.map dInt)),.d (.sl 1 (cells.map dInt))] [] (.agg [CI r.State,.d (.sl 4 (r.Frames.map dRunFrame)),CI r.Out,CI r.Proc,CI r.Pc]) [] 0:=by
 subst h
 refine (seat [] []).PU (mkM true []) (fn:=Tryz.f15) ⟨by kernel_rfl,by kernel_rfl,rfl⟩ (mkEs [eInt 10 a,eInt 30 b,eLInt 50 vars,eLInt 70 cells]) noLps [] [xInt 10,xInt 30,xLInt 50,xLInt 70] (by simp only [go_sem,Nat.reduceEqDiff,Nat.reduceAdd,Nat.reduceBEq,Int.reduceToNat]) (fun _=>?_)
 conv=>arg 4;cbv
 simp only [go_sem,Nat.reduceEqDiff,Nat.reduceAdd,Nat.reduceBEq,Int.reduceToNat]
 simp only [List.map_cons,List.map_nil,tupOf,dOf,List.headD_cons,List.tail_cons,intD_i,elsD_s,List.map_map,Function.comp_def,ud_Int,ud_InsIns,List.map_id']
end Go.Proofs.YtjakhnhnjhafgaaGreat.Wk
namespace Go.Proofs.YtjakhnhnjhafgaaGreat.Wk
open Go Go.RowKit Go.Deep Ow
theorem nums_modify{l:List Int}{n:Nat}{v:Int}(h:numsOk l 4=true)(hv:numOk v=true):numsOk (l.modify n fun _=>v) 4=true:=by
 simp only [numsOk,Bool.and_eq_true,List.length_modify,List.all_eq_true] at h ⊢
 refine ⟨h.1,fun x hx=>?_⟩
 obtain ⟨j,hj,rfl⟩:=List.getElem_of_mem hx
 rw [List.getElem_modify]
 split
 · exact hv
 · exact h.2 _ (List.getElem_mem _)
theorem itv_at{s:AbsState}(h:absOk s=true)(hon:s.On=true){k:Int}(h0:0≤k)(h4:k<4):itvOk (s.Vars.getD k.toNat zItvItv)=true∧getI (s.Vars.map (·.Lo)) k=(s.Vars.getD k.toNat zItvItv).Lo:=by
 have hl:=absOk_len h hon
 have hk:k.toNat<s.Vars.length:=by omega
 simp only [absOk,hon,if_true,Bool.and_eq_true,List.all_eq_true] at h
 rw [List.getD_eq_getElem?_getD,List.getElem?_eq_getElem hk]
 refine ⟨h.2 _ (List.getElem_mem _),?_⟩
 unfold getI
 rw [List.getD_eq_getElem?_getD,List.getElem?_map,List.getElem?_eq_getElem hk]
 rfl
theorem itv_nums{a:ItvItv}(h:itvOk a=true):numOk a.Lo=true∧numOk a.Hi=true∧a.Lo≤a.Hi:=by
 simp only [itvOk,Bool.and_eq_true,decide_eq_true_eq] at h
 exact ⟨h.1.1,h.1.2,h.2⟩
end Go.Proofs.YtjakhnhnjhafgaaGreat.Wk
namespace Go.Proofs.YtjakhnhnjhafgaaGreat.Wk
open Go Go.RowKit Go.Deep Ow
set_option maxRecDepth 100000
def sumOk(s:SumSum):Bool:=if s.On then itvOk s.Out else l7None s.Out
def sumsOk(p:PrgProg)(l:List SumSum):Bool:=prgOk p&&decide (l.length=p.Procs.length)&&l.all sumOk
theorem iSumOk_e{a0:Bool}{a1:Int}{a2:Int}{r:Bool}(h:sumOk (⟨a0,⟨a1,a2⟩⟩:SumSum)=r):EC Tryz.prog 150 0 [.agg [CB a0,CI a1,CI a2]] [] (CB r) [] 0:=by
 subst h
 refine (seat [] []).PU (mkM true []) (fn:=Tryz.f150) ⟨by kernel_rfl,by kernel_rfl,rfl⟩ (mkEs [eSumSum 10 ⟨a0,⟨a1,a2⟩⟩,eB 115000 (itvOk (⟨a0,⟨a1,a2⟩⟩:SumSum).Out)]) noLps [] [xSumSum 10] rfl (fun _=>?_)
 conv=>arg 4;cbv
 simp only [go_sem,Nat.reduceEqDiff,Nat.reduceAdd,Nat.reduceBEq,Int.reduceToNat,iItvOk_e]
 grind [sumOk,l7None]
theorem sumNot_e{a0:Bool}{a1:Int}{a2:Int}{r:Bool}(h:(!sumOk (⟨a0,⟨a1,a2⟩⟩:SumSum))=r):EC Tryz.prog 149 0 [.agg [CB a0,CI a1,CI a2]] [] (CB r) [] 0:=by
 subst h
 refine (seat [] []).PU (mkM true []) (fn:=Tryz.f149) ⟨by kernel_rfl,by kernel_rfl,rfl⟩ (mkEs [eSumSum 10 ⟨a0,⟨a1,a2⟩⟩,eB 111000 (sumOk (⟨a0,⟨a1,a2⟩⟩:SumSum))]) noLps [] [xSumSum 10] rfl (fun _=>?_)
 conv=>arg 4;cbv
 simp only [go_sem,Nat.reduceEqDiff,Nat.reduceAdd,Nat.reduceBEq,Int.reduceToNat,iSumOk_e]
theorem idxSum_e{uu:Unit}{l:List SumSum}{r:Int}(h:(idxF (fun a=>!sumOk a) l)=r):EC Tryz.prog 187 0 [.d (.sl 3 (l.map dSumSum)),.fn (.func 149) [] []] [] (CI r) [] 0:=by
 subst h
 refine (seat [] []).PU (mkM true [2,2,2,1,2,10]) (fn:=Tryz.f187) ⟨by kernel_rfl,by kernel_rfl,rfl⟩ (mkEs [eLSumSum 10 l,eI 49 0]) (consL ⟨Int,fun ee k=>0≤k∧k≤l.length∧(l.take k.toNat).any (fun a=>!sumOk a)=false,fun ee k=>mkEs [eI 1 k,eB 415000 (!sumOk (l.getD k.toNat zSumSum))],fun ee k=>(l.length-k).toNat⟩ noLps) [(0,fun s=>(0,(s.kl (mkM true [2,2,2,1,2,10])).upd [(8,xi 100000001)]))] [xLSumSum 10,.fn 149 .nil .nil] (by simp only [go_sem,Nat.reduceEqDiff,Nat.reduceAdd,Nat.reduceBEq,Int.reduceToNat]) (fun _=>?_)
 conv=>arg 4;cbv
 simp (maxSteps:=4000000) only [go_sem,Nat.reduceEqDiff,Nat.reduceAdd,Nat.reduceBEq,Int.reduceToNat,Nat.reduceDiv,Nat.reduceMod,lput,consL]
 rename_i hwf
 have hw:=wf_sl (hwf _ List.mem_cons_self)
 simp only [List.length_map] at hw
 repeat' (first|with_reducible apply And.intro|intro _)
 all_goals (try (simp (disch:=omega) only [wrapI] at *))
 all_goals first|omega|(simp;done)|exact sumNot_e rfl|exact (idxF_no ‹_› (by grind)).symm|skip
 all_goals first|exact (idxF_at (d:=zSumSum) (by omega) (by omega) (by grind) (by simp_all)).symm|exact (any_next (d:=zSumSum) (by omega) (by omega) (by grind) (by simp_all))|skip
theorem anySumF_e{uu:Unit}{l:List SumSum}{r:Bool}(h:(l.any (fun a=>!sumOk a))=r):EC Tryz.prog 148 0 [.d (.sl 3 (l.map dSumSum)),.fn (.func 149) [] []] [] (CB r) [] 0:=by
 subst h
 refine (seat [] []).PU (mkM true []) (fn:=Tryz.f148) ⟨by kernel_rfl,by kernel_rfl,rfl⟩ (mkEs [eLSumSum 10 l,eI 49 0,eI 112000 (idxF (fun a=>!sumOk a) l)]) noLps [] [xLSumSum 10,.fn 149 .nil .nil] (by simp only [go_sem,Nat.reduceEqDiff,Nat.reduceAdd,Nat.reduceBEq,Int.reduceToNat]) (fun _=>?_)
 conv=>arg 4;cbv
 simp only [go_sem,Nat.reduceEqDiff,Nat.reduceAdd,Nat.reduceBEq,Int.reduceToNat]
 repeat' (first|with_reducible apply And.intro|intro _)
 all_goals first|exact idxSum_e (uu:=()) rfl|exact idxF_any|(rw [←idxF_any];rfl)
theorem iSumsOk_e{p0:List PrcProc}{l:List SumSum}{r:Bool}(h:sumsOk (⟨p0⟩:PrgProg) l=r):EC Tryz.prog 97 0 [.agg [.d (.sl 3 (p0.map dPrcProc))],.d (.sl 3 (l.map dSumSum))] [] (CB r) [] 0:=by
 subst h
 refine (seat [] []).PU (mkM true []) (fn:=Tryz.f97) ⟨by kernel_rfl,by kernel_rfl,rfl⟩ (mkEs [ePrgProg 10 ⟨p0⟩,eLSumSum 30 l,eB 111000 (prgOk (⟨p0⟩:PrgProg)),eB 122000 (l.any (fun a=>!sumOk a))]) noLps [] [xPrgProg 10,xLSumSum 30] (by simp only [go_sem,Nat.reduceEqDiff,Nat.reduceAdd,Nat.reduceBEq,Int.reduceToNat]) (fun _=>?_)
 conv=>arg 4;cbv
 simp only [go_sem,Nat.reduceEqDiff,Nat.reduceAdd,Nat.reduceBEq,Int.reduceToNat]
 repeat' (first|with_reducible apply And.intro|intro _)
 all_goals first|exact jPrgOk_e rfl|exact anySumF_e (uu:=()) rfl|skip
 · exact .inr (anySumF_e (uu:=()) rfl)
 · simp only [sumsOk,List.all_eq_not_any_not,Bool.and_assoc];congr 2;rw [Bool.eq_iff_iff];simp;omega
end Go.Proofs.YtjakhnhnjhafgaaGreat.Wk
