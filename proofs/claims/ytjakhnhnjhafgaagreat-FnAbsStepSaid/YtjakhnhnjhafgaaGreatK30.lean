/- A part of the proof. -/
import Derived.Test.YtjakhnhnjhafgaaGreatK29
import Derived.Test.YtjakhnhnjhafgaaGreatK19
set_option linter.unusedVariables false
set_option linter.unusedSimpArgs false
namespace Go.Proofs.YtjakhnhnjhafgaaGreat.Wk
open Go Go.RowKit Go.Deep Ow
set_option maxRecDepth 100000
def normO(n:Int):Int:=if n.tmod 65536<0 then IntKind.i64.wrap (n.tmod 65536+65536) else n.tmod 65536
theorem norm_in{n:Int}:0≤normO n∧normO n≤65535:=by
 unfold normO
 have h1:=Int.tmod_lt_of_pos n (b:=65536) (by omega)
 have h2:-65536<n.tmod 65536:=by
  have:=Int.lt_tmod_of_pos n (b:=65536) (by omega)
  omega
 split
 · rw [wrapI]<;>omega
 · omega
theorem owNorm_e{n:Int}{r:Int}(h:normO n=r):EC Tryz.prog 164 0 [CI n] [] (CI r) [] 0:=by
 subst h
 refine (seat [] []).PU (mkM true []) (fn:=Tryz.f164) ⟨by kernel_rfl,by kernel_rfl,rfl⟩ (mkEs [eInt 10 n]) noLps [] [xInt 10] (by simp only [go_sem,Nat.reduceEqDiff,Nat.reduceAdd,Nat.reduceBEq,Int.reduceToNat]) (fun _=>?_)
 conv=>arg 4;cbv
 simp only [go_sem,Nat.reduceEqDiff,Nat.reduceAdd,Nat.reduceBEq,Int.reduceToNat]
 grind [normO]
def pickO(a:ItvItv)(n:Int):Int:=a.Lo+(normO n).tmod (a.Hi-a.Lo+1)
theorem pick_has{a:ItvItv}{n:Int}(h:itvOk a=true):itvHas a (pickO a n)=true:=by
 obtain ⟨h1,h2,h3⟩:=itv_nums h
 rw [numOk_iff] at h1 h2
 rw [has_iff,pickO]
 have m0:=(norm_in (n:=n)).1
 have m1:=Int.tmod_nonneg (a.Hi-a.Lo+1) m0
 have m2:=Int.tmod_lt_of_pos (normO n) (b:=a.Hi-a.Lo+1) (by omega)
 omega
theorem owPick_e{a0:Int}{a1:Int}{n:Int}{r:Int}(hok:itvOk (⟨a0,a1⟩:ItvItv)=true)(h:pickO (⟨a0,a1⟩:ItvItv) n=r):EC Tryz.prog 107 0 [.agg [CI a0,CI a1],CI n] [] (CI r) [] 0:=by
 subst h
 refine (seat [] []).PU (mkM true []) (fn:=Tryz.f107) ⟨by kernel_rfl,by kernel_rfl,rfl⟩ (mkEs [eItvItv 10 ⟨a0,a1⟩,eInt 30 n,eI 113000 (normO n)]) noLps [] [xItvItv 10,xInt 30] (by simp only [go_sem,Nat.reduceEqDiff,Nat.reduceAdd,Nat.reduceBEq,Int.reduceToNat]) (fun _=>?_)
 conv=>arg 4;cbv
 simp only [go_sem,Nat.reduceEqDiff,Nat.reduceAdd,Nat.reduceBEq,Int.reduceToNat]
 obtain ⟨h1,h2,h3⟩:=itv_nums hok
 rw [numOk_iff] at h1 h2
 have h4:=norm_in (n:=n)
 have h5:=pick_has (n:=n) hok
 rw [has_iff] at h5
 simp only at h1 h2 h3 h5
 repeat' (first|with_reducible apply And.intro|intro _)
 all_goals (try simp (disch:=omega) only [wrapI] at *)
 all_goals first|exact owNorm_e rfl|omega|(show IntKind.i64.wrap (pickO ⟨a0,a1⟩ n)=_;rw [wrapI]<;>omega)
def pointV(s:AbsState)(n:Int)(list:List Int):List Int:=(List.range 4).map (fun k=>pickO (s.Vars.getD k zItvItv) (IntKind.i64.wrap (list.getD k 0+n)))
def pointC(s:AbsState)(n:Int)(list:List Int):List Int:=(List.range 4).map (fun k=>pickO s.Cells (IntKind.i64.wrap (list.getD (k+4) 0-n)))
theorem vars_at{V:List ItvItv}{c:ItvItv}{k:Int}(h:absOk ⟨true,V,c⟩=true)(h0:0≤k)(h4:k<4):itvOk (V.getD k.toNat zItvItv)=true:=(itv_at h rfl h0 h4).1
theorem pv_next{s:AbsState}{n k:Int}{list:List Int}(h0:0≤k)(h4:k<4):(pointV s n list).take (k+1).toNat=(pointV s n list).take k.toNat++[pickO (s.Vars.getD k.toNat zItvItv) (IntKind.i64.wrap (list.getD k.toNat 0+n))]:=by
 rw [tk_snoc _ k 0 h0 (by simp only [pointV,List.length_map,List.length_range];omega)]
 congr 2
 rw [pointV,List.getD_eq_getElem?_getD,List.getElem?_map,List.getElem?_range (by omega)];rfl
theorem pc_next{s:AbsState}{n k:Int}{list:List Int}(h0:0≤k)(h4:k<4):(pointC s n list).take (k+1).toNat=(pointC s n list).take k.toNat++[pickO s.Cells (IntKind.i64.wrap (list.getD (k+4).toNat 0-n))]:=by
 rw [tk_snoc _ k 0 h0 (by simp only [pointC,List.length_map,List.length_range];omega)]
 congr 2
 rw [pointC,List.getD_eq_getElem?_getD,List.getElem?_map,List.getElem?_range (by omega),show (k+4).toNat=k.toNat+4 by omega];rfl
theorem owPoint_e{s0:Bool}{s1:List ItvItv}{s2:Int}{s3:Int}{n:Int}{list:List Int}{r0:List Int}{r1:List Int}(hok:absOk (⟨s0,s1,⟨s2,s3⟩⟩:AbsState)=true)(hon:(⟨s0,s1,⟨s2,s3⟩⟩:AbsState).On=true)(hl:list.length=12)(h0:((pointV (⟨s0,s1,⟨s2,s3⟩⟩:AbsState) n list,pointC (⟨s0,s1,⟨s2,s3⟩⟩:AbsState) n list)).1=r0)(h1:((pointV (⟨s0,s1,⟨s2,s3⟩⟩:AbsState) n list,pointC (⟨s0,s1,⟨s2,s3⟩⟩:AbsState) n list)).2=r1):EC Tryz.prog 44 0 [.agg [CB s0,.d (.sl 2 (s1.map dItvItv)),CI s2,CI s3],CI n,.d (.sl 1 (list.map dInt))] [] (.tup [.d (.sl 1 (r0.map dInt)),.d (.sl 1 (r1.map dInt))]) [] 0:=by
 subst h0 h1
 refine (seat [] []).PU (mkM true [4,2,6,40]) (fn:=Tryz.f44) ⟨by kernel_rfl,by kernel_rfl,rfl⟩ (mkEs [eAbsState 10 ⟨s0,s1,⟨s2,s3⟩⟩,eInt 30 n,eLInt 50 list]) (consL ⟨Int×List Int,fun ee x=>match x with|⟨k,l⟩=>0≤k∧k≤4∧l=(pointV (⟨s0,s1,⟨s2,s3⟩⟩:AbsState) n list).take k.toNat,fun ee x=>match x with|⟨k,l⟩=>mkEs [eI 1 k,eLInt 3 l,eI 622000 (pickO ((⟨s0,s1,⟨s2,s3⟩⟩:AbsState).Vars.getD k.toNat zItvItv) (IntKind.i64.wrap (list.getD k.toNat 0+n)))],fun ee x=>match x with|⟨k,l⟩=>(4-k).toNat⟩ (consL ⟨Int×List Int,fun ee x=>match x with|⟨k,l⟩=>0≤k∧k≤4∧l=(pointC (⟨s0,s1,⟨s2,s3⟩⟩:AbsState) n list).take k.toNat,fun ee x=>match x with|⟨k,l⟩=>mkEs [eI 1 k,eLInt 3 l,eI 1020000 (pickO (⟨s0,s1,⟨s2,s3⟩⟩:AbsState).Cells (IntKind.i64.wrap (list.getD (k+4).toNat 0-n)))],fun ee x=>match x with|⟨k,l⟩=>(4-k).toNat⟩ noLps)) [(0,fun s=>(0,(((s.kl (mkM true [4,2,6,40])).upd [(10,xi 100000001)]).grow ((s.kl (mkM true [4,2,6,40])).at_ 8) (.rws kInt 100000003 .nil)))),(2,fun s=>(1,(((s.kl (mkM true [4,2,6,40])).upd [(11,xi 200000001)]).grow ((s.kl (mkM true [4,2,6,40])).at_ 9) (.rws kInt 200000003 .nil))))] [xAbsState 10,xInt 30,xLInt 50] (by simp only [go_sem,Nat.reduceEqDiff,Nat.reduceAdd,Nat.reduceBEq,Int.reduceToNat]) (fun _=>?_)
 conv=>arg 4;cbv
 simp (maxSteps:=4000000) only [go_sem,Nat.reduceEqDiff,Nat.reduceAdd,Nat.reduceBEq,Int.reduceToNat,Nat.reduceDiv,Nat.reduceMod,lput,consL]
 subst hon
 obtain ⟨h4,hc,hv⟩:=absOn hok
 have hlP:∀m,((pointV ⟨true,s1,⟨s2,s3⟩⟩ n list).take m).length≤4:=fun m=>by rw [List.length_take];simp only [pointV,List.length_map,List.length_range];omega
 have hlC:∀m,((pointC ⟨true,s1,⟨s2,s3⟩⟩ n list).take m).length≤4:=fun m=>by rw [List.length_take];simp only [pointC,List.length_map,List.length_range];omega
 repeat' (first|with_reducible apply And.intro|intro _)
 all_goals (try simp (disch:=omega) only [wrapI] at *)
 all_goals first|omega|(simp;done)|exact ⟨0,[],⟨by omega,by omega,rfl⟩,rfl,rfl,rfl⟩|exact owPick_e (vars_at hok (by omega) (by omega)) rfl|exact owPick_e hc rfl|(rename_i hJ _;rw [hJ.2.2];first|(have:=hlP;omega)|(have:=hlC;omega))|(rename_i hJ _ _;rw [hJ.2.2];first|(have:=hlP;grind)|(have:=hlC;grind))|skip
 · have e:=‹_∧_∧_=List.take _ (pointV _ _ _)›;rw [e.2.2];have:=hlP (Int.toNat ‹Int›);grind
 · rename_i k l hJ hk;refine ⟨k+1,_,⟨by omega,by omega,rfl⟩,by omega,?_,rfl,?_⟩
   · rw [pv_next hJ.1 hk,←hJ.2.2,List.length_append];rfl
   · rw [pv_next hJ.1 hk,←hJ.2.2]
 · rename_i k l hJ hk;refine ⟨k+1,_,⟨by omega,by omega,rfl⟩,by omega,?_,rfl,?_⟩
   · rw [pc_next hJ.1 hk,←hJ.2.2,List.length_append];rfl
   · rw [pc_next hJ.1 hk,←hJ.2.2]
 · rename_i k l hJ hk k2 l2 hJ2 hk2;rw [hJ.2.2,hJ2.2.2,List.take_of_length_le (by simp only [pointV,List.length_map,List.length_range];omega),List.take_of_length_le (by simp only [pointC,List.length_map,List.length_range];omega)]
theorem wf_agg1{x:C}{n:Nat}{els:List (List D)}{rest:List C}(h:wfC (.agg (x::.d (.sl n els)::rest))):(els.length:Int)≤9223372036854775807:=wf_sl (n:=n) (h (.sl n els) (by simp))
theorem owState_e{a0:Bool}{a1:List ItvItv}{a2:Int}{a3:Int}{r:Bool}(h:true=r):EC Tryz.prog 101 0 [.agg [CB a0,.d (.sl 2 (a1.map dItvItv)),CI a2,CI a3],.agg [CB a0,.d (.sl 2 (a1.map dItvItv)),CI a2,CI a3]] [] (CB r) [] 0:=by
 subst h
 refine (seat [] []).PU (mkM true [6,39]) (fn:=Tryz.f101) ⟨by kernel_rfl,by kernel_rfl,rfl⟩ (mkEs [eAbsState 10 ⟨a0,a1,⟨a2,a3⟩⟩]) (consL ⟨Int,fun ee k=>0≤k∧k≤(⟨a0,a1,⟨a2,a3⟩⟩:AbsState).Vars.length,fun ee k=>mkEs [eI 1 k],fun ee k=>((⟨a0,a1,⟨a2,a3⟩⟩:AbsState).Vars.length-k).toNat⟩ noLps) [(0,fun s=>(0,(s.kl (mkM true [6,39])).upd [(5,xi 100000001)]))] [xAbsState 10,xAbsState 10] (by simp only [go_sem,Nat.reduceEqDiff,Nat.reduceAdd,Nat.reduceBEq,Int.reduceToNat]) (fun _=>?_)
 conv=>arg 4;cbv
 simp (maxSteps:=4000000) only [go_sem,Nat.reduceEqDiff,Nat.reduceAdd,Nat.reduceBEq,Int.reduceToNat,Nat.reduceDiv,Nat.reduceMod,lput,consL]
 rename_i hwf
 have hw:(a1.length:Int)≤9223372036854775807:=by simpa using wf_agg1 (hwf _ List.mem_cons_self)
 repeat' (first|with_reducible apply And.intro|intro _)
 all_goals (try simp (disch:=omega) only [wrapI] at *)
 all_goals first|omega|(simp;done)|(exfalso;simp_all;done)|skip
theorem owEdges_e{a:List AbsEdge}{r:Bool}(h:true=r):EC Tryz.prog 39 0 [.d (.sl 5 (a.map dAbsEdge)),.d (.sl 5 (a.map dAbsEdge))] [] (CB r) [] 0:=by
 subst h
 refine (seat [] []).PU (mkM true [2,2,2,36]) (fn:=Tryz.f39) ⟨by kernel_rfl,by kernel_rfl,rfl⟩ (mkEs [eLAbsEdge 10 a]) (consL ⟨Int,fun ee k=>0≤k∧k≤a.length,fun ee k=>mkEs [eI 1 k,eB 632000 true],fun ee k=>(a.length-k).toNat⟩ noLps) [(0,fun s=>(0,(s.kl (mkM true [2,2,2,36])).upd [(5,xi 100000001)]))] [xLAbsEdge 10,xLAbsEdge 10] (by simp only [go_sem,Nat.reduceEqDiff,Nat.reduceAdd,Nat.reduceBEq,Int.reduceToNat]) (fun _=>?_)
 conv=>arg 4;cbv
 simp (maxSteps:=4000000) only [go_sem,Nat.reduceEqDiff,Nat.reduceAdd,Nat.reduceBEq,Int.reduceToNat,Nat.reduceDiv,Nat.reduceMod,lput,consL]
 rename_i hwf
 have hw:=wf_sl (hwf _ List.mem_cons_self)
 simp only [List.length_map] at hw
 repeat' (first|with_reducible apply And.intro|intro _)
 all_goals (try simp (disch:=omega) only [wrapI] at *)
 all_goals first|omega|(simp;done)|exact owState_e rfl|(exfalso;simp_all;done)|skip
end Go.Proofs.YtjakhnhnjhafgaaGreat.Wk
namespace Go.Proofs.YtjakhnhnjhafgaaGreat.Wk
open Go Go.RowKit Go.Deep Ow
theorem point_in{V:List ItvItv}{c:ItvItv}{n:Int}{list:List Int}(hok:absOk ⟨true,V,c⟩=true):inV V (pointV ⟨true,V,c⟩ n list)∧inC c (pointC ⟨true,V,c⟩ n list):=by
 obtain ⟨hl,hc,-⟩:=absOn hok
 refine ⟨⟨hl,by simp [pointV],fun k hk=>?_⟩,by simp [pointC],fun k hk=>?_⟩
 · rw [pointV,List.getD_eq_getElem?_getD (l:=List.map _ _),List.getElem?_map,List.getElem?_range hk]
   have:=vars_at (k:=k) hok (by omega) (by omega)
   exact pick_has (by simpa using this)
 · rw [pointC,List.getD_eq_getElem?_getD (l:=List.map _ _),List.getElem?_map,List.getElem?_range hk]
   exact pick_has hc
theorem inV_nums{V:List ItvItv}{x:List Int}(h:inV V x):numsOk x 4=true:=by
 simp only [numsOk,Bool.and_eq_true,beq_iff_eq,List.all_eq_true]
 refine ⟨h.2.1,fun n hn=>?_⟩
 obtain ⟨k,hk,rfl⟩:=List.getElem_of_mem hn
 have:=h.2.2 k (by have:=h.2.1;omega)
 rw [has_iff,List.getD_eq_getElem?_getD (l:=x),List.getElem?_eq_getElem hk] at this
 rw [numOk_iff];simp only [Option.getD_some] at this;omega
theorem inC_nums{c:ItvItv}{x:List Int}(h:inC c x):numsOk x 4=true:=by
 simp only [numsOk,Bool.and_eq_true,beq_iff_eq,List.all_eq_true]
 refine ⟨h.1,fun n hn=>?_⟩
 obtain ⟨k,hk,rfl⟩:=List.getElem_of_mem hn
 have:=h.2 k (by have:=h.1;omega)
 rw [has_iff,List.getD_eq_getElem?_getD (l:=x),List.getElem?_eq_getElem hk] at this
 rw [numOk_iff];simp only [Option.getD_some] at this;omega
theorem has_ok{a:ItvItv}{n:Int}(h:itvHas a n=true):itvOk a=true:=by simp only [itvHas,Bool.and_eq_true] at h;exact h.1
theorem abs_has{V:List ItvItv}{c:ItvItv}{x y:List Int}(h:inV V x)(h2:inC c y):absHas ⟨true,V,c⟩ x y=true:=by
 have hc:itvOk c=true:=has_ok (h2.2 0 (by omega))
 have hV:absOk ⟨true,V,c⟩=true:=by
  simp only [absOk,if_true,Bool.and_eq_true,decide_eq_true_eq,List.all_eq_true]
  refine ⟨⟨h.1,hc⟩,fun a ha=>?_⟩
  obtain ⟨k,hk,rfl⟩:=List.getElem_of_mem ha
  have:=has_ok (h.2.2 k (by have:=h.1;omega))
  rwa [List.getD_eq_getElem?_getD,List.getElem?_eq_getElem hk] at this
 simp only [absHas,hV,Bool.true_and,Bool.and_eq_true,decide_eq_true_eq,List.all_eq_true]
 refine ⟨⟨⟨h.2.1,h2.1⟩,fun k hk=>h.2.2 k (List.mem_range.1 hk)⟩,fun n hn=>?_⟩
 obtain ⟨k,hk,rfl⟩:=List.getElem_of_mem hn
 have:=h2.2 k (by have:=h2.1;omega)
 rwa [List.getD_eq_getElem?_getD (l:=y),List.getElem?_eq_getElem hk] at this
def ptRun(s:AbsState)(n:Int)(list:List Int):RunRun:=⟨1,[⟨0,0,pointV s n list,pointC s n list⟩],0,0,0⟩
def ptEnd(i:InsIns)(s:AbsState)(n:Int)(list:List Int):RunRun:=runStep (owLone i) (ptRun s n list) (list.getD 8 0)
def ptOut(i:InsIns)(s:AbsState):List AbsEdge:=absStep (owLone i) [⟨false,⟨0,0⟩⟩] (loneIns i) 0 s
theorem out_eq{i:InsIns}{m:Int}{V:List ItvItv}{c:ItvItv}(hi:insOk i m 10=true)(hok:absOk ⟨true,V,c⟩=true):ptOut i ⟨true,V,c⟩=(edgesV (owLone i).Procs [⟨false,⟨0,0⟩⟩] (loneIns i) 0 V c).map Edge.st:=by
 have hp:=prg_lone hi
 have h1:sumsOk (owLone i) [⟨false,⟨0,0⟩⟩]=true:=by
  simp only [sumsOk,hp,Bool.true_and,Bool.and_eq_true]
  exact ⟨rfl,by decide⟩
 have h2:insOk (loneIns i) (owLone i).Procs.length 10=true:=(ins_lone hi).2
 have h3:stepOk (owLone i) [⟨false,⟨0,0⟩⟩] (loneIns i) 0 ⟨true,V,c⟩=true:=by
  simp only [stepOk,h1,h2,hok,Bool.true_and];decide
 rw [ptOut,absStep,if_pos h3]
theorem law_step{i:InsIns}{m n:Int}{V:List ItvItv}{c:ItvItv}{list:List Int}(hi:insOk i m 10=true)(hok:absOk ⟨true,V,c⟩=true)(h10:i.Op≠10)(h12:i.Op≠12):
 ((ptEnd i ⟨true,V,c⟩ n list).State=3∧absFails (owLone i) (loneIns i) ⟨true,V,c⟩=true) ∨
 ∃ f,ptEnd i ⟨true,V,c⟩ n list=goes [f]∧∃k:Nat,k<(ptOut i ⟨true,V,c⟩).length∧((ptOut i ⟨true,V,c⟩).getD k zAbsEdge).To=f.Pc∧absHas ((ptOut i ⟨true,V,c⟩).getD k zAbsEdge).State f.Vars f.Cells=true:=by
 obtain ⟨hV,hC⟩:=point_in (n:=n) (list:=list) hok
 obtain ⟨-,hrun⟩:=run_lone (inp:=list.getD 8 0) hi (inV_nums hV) (inC_nums hC)
 have e10:(loneIns i).Op≠10:=h10
 have e12:(loneIns i).Op≠12:=h12
 have hE:ptEnd i ⟨true,V,c⟩ n list=_:=hrun
 rw [hE]
 rcases step_in (p:=owLone i) (procs:=(owLone i).Procs) (sums:=[⟨false,⟨0,0⟩⟩]) (inp:=list.getD 8 0) (ins_lone hi).2 e10 e12 hV hC with ⟨h3,hf⟩|⟨f,hg,e,he,h1,h2,h3⟩
 · refine .inl ⟨h3,?_⟩
   have hl:l7Fit (owLone i) (loneIns i) ⟨true,V,c⟩=true:=by
    have h2:insOk (loneIns i) (owLone i).Procs.length 10=true:=(ins_lone hi).2
    simp only [l7Fit,prg_lone hi,h2,hok,Bool.true_and]
   rw [absFails,hl,Bool.true_and];exact hf
 · refine .inr ⟨f,hg,?_⟩
   rw [out_eq hi hok]
   obtain ⟨k,hk,rfl⟩:=List.getElem_of_mem he
   refine ⟨k,by rw [List.length_map];exact hk,?_⟩
   rw [List.getD_eq_getElem?_getD,List.getElem?_map,List.getElem?_eq_getElem hk]
   exact ⟨h1,abs_has h2 h3⟩
theorem edges_one{procs:List PrcProc}{sums:List SumSum}{i:InsIns}{pc:Int}{V:List ItvItv}{c:ItvItv}(h:i.Op≠8):(edgesV procs sums i pc V c).length≤1:=by
 unfold edgesV
 rw [if_neg h]
 repeat' split
 all_goals simp
theorem step_one{p:PrgProg}{sums:List SumSum}{i:InsIns}{pc:Int}{s:AbsState}(h:i.Op≠8):(absStep p sums i pc s).length≤1:=by
 unfold absStep
 split
 · rw [List.length_map];exact edges_one h
 · simp
theorem step_none{p:PrgProg}{sums:List SumSum}{i:InsIns}{pc:Int}{s:AbsState}(h:sumsOk p sums=false∨insOk i p.Procs.length 10=false∨absOk s=false∨s.On=false):absStep p sums i pc s=[]:=by
 rw [absStep,if_neg]
 rw [Bool.not_eq_true]
 rcases h with h|h|h|h<;>simp [stepOk,h]
end Go.Proofs.YtjakhnhnjhafgaaGreat.Wk
namespace Ow
open Go Go.RowKit Go.Deep
def Sx.new(s:Sx)(t:Nat)(cs:Ki)(r:X):Sx:=⟨s.T.set t (.osl s.n cs.len (.int .i64 0) (mkRln r)),⟨s.n,cs,r⟩::s.H,s.n+1⟩
theorem Ent.all{s s':St}(h:Ent s.n s s')(k:Nat):Ent k s s':=fun ρ F RO w vs hA=>by
 obtain ⟨ρ',F',RO',e,a⟩:=h ρ F RO w vs ⟨hA.sim,hA.rel,hA.dom,Nat.le_refl _⟩
 exact ⟨ρ',F',RO',⟨e.chg,fun l hl=>e.base l (Nat.lt_of_lt_of_le hl hA.le),e.ro,e.ro',e.sim,e.new⟩,⟨a.sim,a.rel,a.dom,Nat.le_trans hA.le a.le⟩⟩
def vwS(s g:Sx):Sx:=match mtZ s.n s g with
 | some eqs=>if eqs.all (fun p=>p.1==p.2)=true then g else s
 | none=>s
theorem vwS_ok{s g:Sx}{e:Env}{k:Nat}:Ent k (s.den e) ((vwS s g).den e):=by
 unfold vwS
 split
 · rename_i eqs h
   split
   · rename_i hc
     exact Ent.all (mtZ_ok (m:=s.n) h (fun p hp=>by rw [beq_iff_eq.1 (List.all_eq_true.1 hc p hp)])) k
   · exact .refl _ _
 · exact .refl _ _
def vws : List (Nat×(Sx→Sx))→Nat→Sx→Sx
 | [],_,s=>s
 | p::ps,i,s=>if p.1=i then vwS s (p.2 s) else vws ps i s
theorem vws_ok(l:List (Nat×(Sx→Sx)))(i:Nat)(s:Sx)(e:Env)(k:Nat):Ent k (s.den e) ((vws l i s).den e):=by
 induction l with
 | nil=>exact .refl _ _
 | cons p ps ih=>unfold vws;split;exact vwS_ok;exact ih
def mkV(l:List (Nat×(Sx→Sx)))(ms:Ms):Ms:=⟨ms.m,fun i s=>vws l i (ms.fz i s),fun i s e k=>(ms.ok i s e k).trans (vws_ok l i _ e k),ms.ck,ms.cok⟩
def frA2(no:List Nat)(s:Sx):X→X×List Nat
 | .cons a b=>(.cons (frA2 no s a).1 (frA2 no s b).1,(frA2 no s a).2++(frA2 no s b).2)
 | .app a b=>(.app (frA2 no s a).1 (frA2 no s b).1,(frA2 no s a).2++(frA2 no s b).2)
 | .ite c a b=>(.ite c (frA2 no s a).1 (frA2 no s b).1,(frA2 no s a).2++(frA2 no s b).2)
 | .agg a=>(.agg (frA2 no s a).1,(frA2 no s a).2)
 | .tup a=>(.tup (frA2 no s a).1,(frA2 no s a).2)
 | x=>fzG no s x
theorem frA2_ok{e:Env}{s:Sx}{n:Nat}{hv:Nat→Option Blk}{no:List Nat}:∀{x:X},x.ids n=true→(∀l∈(frA2 no s x).2,hv l=(s.den e).H.get l)→FzAll n hv (x.den e) ((frA2 no s x).1.den e):=by
 intro x
 induction x with
 | cons a b iha ihb=>
   intro hx hh
   simp only [X.ids,Bool.and_eq_true] at hx
   simp only [frA2,List.mem_append] at hh
   exact .cons (iha hx.1 (fun l hl=>hh l (.inl hl))) (ihb hx.2 (fun l hl=>hh l (.inr hl)))
 | app a b iha ihb=>
   intro hx hh
   simp only [X.ids,Bool.and_eq_true] at hx
   simp only [frA2,List.mem_append] at hh
   exact .app (iha hx.1 (fun l hl=>hh l (.inl hl))) (ihb hx.2 (fun l hl=>hh l (.inr hl)))
 | ite c a b _ iha ihb=>
   intro hx hh
   simp only [X.ids,Bool.and_eq_true] at hx
   simp only [frA2,List.mem_append] at hh
   have h1:=iha (by simp_all) (fun l hl=>hh l (.inl hl))
   have h2:=ihb (by simp_all) (fun l hl=>hh l (.inr hl))
   simp only [frA2,X.den]
   split
   · exact h1
   · exact h2
 | agg a ih=>intro hx hh;have:=ih hx hh;exact .flat (.agg _ _ this.2.1.1 this.2.1.2) rfl rfl
 | tup a ih=>intro hx hh;have:=ih hx hh;exact ⟨.tup _ _ this.2.1.1 this.2.1.2,this.2.1,this.2.2⟩
 | _=>exact fzG_ok
def frI2(s:Sx):Sx:=if idsOk s then
 let p:=frB [] s (fun b=>frA2 [] s b.rows) s.H
 ⟨s.T,p.1.filter (fun b=>!p.2.contains b.l),s.n⟩
 else s
theorem frI2_ok{e:Env}{s:Sx}{m:Nat}:Ent m (s.den e) ((frI2 s).den e):=by
 unfold frI2
 split
 · rename_i hc
   obtain ⟨h1,h2⟩:=idsOk_ok hc
   refine frK_ok (.refl fun c hc=>?_) (fun l p hp=>frB_ok (s:=s) (no:=[]) (fun b hb hh=>frA2_ok (h2 b hb) hh) (hb_sub fun l h=>h) l p hp)
   obtain ⟨x,hx,rfl⟩:=List.mem_map.1 hc
   exact (FzAll.same (List.all_eq_true.1 h1 x hx)).1
 · exact .refl _ _
def mkI(l:List Nat)(ms:Ms):Ms:=⟨ms.m,fun i s=>if l.contains i then frI2 (ms.fz i s) else ms.fz i s,fun i s e k=>by
 split
 · exact (ms.ok i s e k).trans frI2_ok
 · exact ms.ok i s e k,ms.ck,ms.cok⟩
def plQ : X→Int→Option X
 | .int _ m,n=>some (.int .i64 (m+n))
 | .ite c x y,n=>(plQ x n).bind (fun a=>(plQ y n).map (.ite c a ·))
 | _,_=>none
def litN : X→Option Int
 | .nil=>some 0
 | .cons _ b=>(litN b).map (· + 1)
 | _=>none
def lnQ : X→Option X
 | .app a b=>(litN b).bind (fun n=>(lnQ a).bind (fun x=>plQ x n))
 | .ite c a b=>(lnQ a).bind (fun x=>(lnQ b).map (.ite c x ·))
 | x=>(litN x).map (.int .i64 ·)
def nQ : X→Option X
 | .int _ m=>some (.int .i64 m)
 | .rln r=>lnQ r
 | .ite c a b=>(nQ a).bind (fun x=>(nQ b).map (.ite c x ·))
 | _=>none
theorem plQ_ok{e:Env}:∀{x y:X} {n:Int},plQ x n=some y→intOf (y.den e)=intOf (x.den e)+n:=by
 intro x
 induction x with
 | int k m=>intro y n h;cases h;rfl
 | ite c a b _ iha ihb=>
   intro y n h
   simp only [plQ,Option.bind_eq_some_iff,Option.map_eq_some_iff] at h
   obtain ⟨a',h1,b',h2,rfl⟩:=h
   simp only [X.den]
   split
   · exact iha h1
   · exact ihb h2
 | _=>intro y n h;cases h
theorem litN_ok{e:Env}:∀{r:X} {n:Int},litN r=some n→((tupOf (r.den e)).length:Int)=n:=by
 intro r
 induction r with
 | nil=>intro n h;cases h;rfl
 | cons a b _ ih=>
   intro n h
   obtain ⟨m,h1,rfl⟩:=Option.map_eq_some_iff.1 h
   simp only [X.den,tupOf_t,List.length_cons];have:=ih h1;omega
 | _=>intro n h;cases h
theorem lnQ_ok{e:Env}:∀{r x:X},lnQ r=some x→intOf (x.den e)=(tupOf (r.den e)).length:=by
 intro r
 induction r with
 | app a b iha ihb=>
   intro x h
   simp only [lnQ,Option.bind_eq_some_iff] at h
   obtain ⟨n,h1,y,h2,h3⟩:=h
   rw [plQ_ok h3,iha h2,←litN_ok (e:=e) h1]
   simp only [X.den,tupOf_t,List.length_append];omega
 | ite c a b _ iha ihb=>
   intro x h
   simp only [lnQ,Option.bind_eq_some_iff,Option.map_eq_some_iff] at h
   obtain ⟨a',h1,b',h2,rfl⟩:=h
   simp only [X.den]
   split
   · exact iha h1
   · exact ihb h2
 | _=>
   intro x h
   obtain ⟨n,h1,rfl⟩:=Option.map_eq_some_iff.1 h
   rw [litN_ok (e:=e) h1];rfl
theorem nQ_ok{e:Env}:∀{n x:X},nQ n=some x→intOf (x.den e)=intOf (n.den e):=by
 intro n
 induction n with
 | int k m=>intro x h;cases h;rfl
 | rln r _=>intro x h;rw [lnQ_ok h];rfl
 | ite c a b _ iha ihb=>
   intro x h
   simp only [nQ,Option.bind_eq_some_iff,Option.map_eq_some_iff] at h
   obtain ⟨a',h1,b',h2,rfl⟩:=h
   simp only [X.den]
   split
   · exact iha h1
   · exact ihb h2
 | _=>intro x h;cases h
def fzV(b:XB)(sz:Nat)(n:X):Option X:=match nQ n,lnQ b.rows with
 | some x,some y=>if b.cs.len=sz∧litQ sz b.rows=true∧(x==y)=true then some (.fz (anyK sz) b.rows) else none
 | _,_=>none
theorem fzV_ok{e:Env}{s:Sx}{hv:Nat→Option Blk}{b:XB}{l sz:Nat}{m y:X}(hb:getX s.H l=some b)(hl:hv l=(s.den e).H.get l)(h:fzV b sz m=some y):Vw hv (.osl l sz 0 (intOf (m.den e)).toNat) (dOf (y.den e))∧y.den e=.d (dOf (y.den e)):=by
 unfold fzV at h
 split at h
 · rename_i x x' hx hx'
   split at h
   · rename_i hc
     obtain ⟨rfl,hq,hn⟩:=hc
     cases h
     have hk:=hl.trans (getX_H (e:=e) hb)
     have hm:(intOf (m.den e)).toNat=(rowsC (b.rows.den e)).length:=by
      rw [←nQ_ok hx,beq_iff_eq.1 hn,lnQ_ok hx'];simp [rowsC]
     rw [hm]
     have:=vw_lit hk (fun r hr=>by
      obtain ⟨c,hc,rfl⟩:=List.mem_map.1 hr
      exact litQ_ok hq c hc)
     refine ⟨?_,rfl⟩
     simp only [X.den,dOf_d,anyK_len]
     simp only [rowsC,List.map_map] at this ⊢
     exact this
   · cases h
 · cases h
def frV(t:Nat)(s:Sx):Sx:=match s.T.getD t .dead with
 | .osl l sz (.int _ 0) n=>match getX s.H l with
   | some b=>match fzV b sz n with
     | some y=>if idsOk s=true then ⟨s.T.set t y,s.H.filter (fun q=>!([l]:List Nat).contains q.l),s.n⟩ else s
     | none=>s
   | none=>s
 | _=>s
theorem getX_in{l:Nat}{b:XB}:∀{H:List XB},getX H l=some b→b∈H:=by
 intro H
 induction H with
 | nil=>intro h;cases h
 | cons q H ih=>
   intro h
   unfold getX at h
   split at h
   · cases h;exact List.mem_cons_self
   · exact List.mem_cons_of_mem _ (ih h)
theorem frV_ok{e:Env}{s:Sx}{m t:Nat}:Ent m (s.den e) ((frV t s).den e):=by
 unfold frV
 split
 · rename_i l sz k n hT
   split
   · rename_i b hb
     split
     · rename_i y hy
       split
       · rename_i hc
         obtain ⟨h1,h2⟩:=idsOk_ok hc
         refine frK_ok (ids:=[l]) (T':=s.T.set t y) (H':=s.H) ⟨by simp,fun i a f ha hf=>?_⟩ (fun l' p hp=>⟨p,hp,rfl,.same (h2 p (getX_in hp))⟩)
         rw [List.getElem?_map] at ha hf
         obtain ⟨x,hx,rfl⟩:=Option.map_eq_some_iff.1 ha
         obtain ⟨z,hz,rfl⟩:=Option.map_eq_some_iff.1 hf
         rw [List.getElem?_set] at hz
         split at hz
         · rename_i hi
           subst hi
           split at hz
           · cases hz
             rw [List.getD_eq_getElem?_getD,hx] at hT
             have hT:x=.osl l sz (.int k 0) n:=hT
             subst hT
             obtain ⟨q1,q2⟩:=fzV_ok (e:=e) (s:=s) (hv:=(hbOf s e [l]).get) hb (by rw [hbOf_get,if_pos (by simp)]) hy
             rw [q2]
             simp only [X.den,intOf_i]
             exact .vw _ _ q1
           · cases hz
         · rw [hx] at hz;cases hz
           exact (FzAll.same (List.all_eq_true.1 h1 x (List.mem_of_getElem? hx))).1
       · exact .refl _ _
     · exact .refl _ _
   · exact .refl _ _
 · exact .refl _ _
def frVs : List (Nat×Nat)→Nat→Sx→Sx
 | [],_,s=>s
 | p::ps,i,s=>if p.1=i then frV p.2 s else frVs ps i s
theorem frVs_ok{l:List (Nat×Nat)}{i:Nat}{s:Sx}{e:Env}{k:Nat}:Ent k (s.den e) ((frVs l i s).den e):=by
 induction l with
 | nil=>exact .refl _ _
 | cons p ps ih=>unfold frVs;split;exact frV_ok;exact ih
def mkS(l:List (Nat×Nat))(ms:Ms):Ms:=⟨ms.m,fun i s=>frVs l i (ms.fz i s),fun i s e k=>(ms.ok i s e k).trans frVs_ok,ms.ck,ms.cok⟩
def Sx.own0(s:Sx)(t:Nat)(cs:Ki):Sx:=match s.T.getD t .dead with | .nilS=>s.new t cs .nil|_=>s
end Ow
