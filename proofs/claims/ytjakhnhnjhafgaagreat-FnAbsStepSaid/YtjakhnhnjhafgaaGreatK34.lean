/- A part of the proof. -/
import Derived.Test.YtjakhnhnjhafgaaGreatK31
import Derived.Test.YtjakhnhnjhafgaaGreatK29
set_option linter.unusedVariables false
set_option linter.unusedSimpArgs false
namespace Go.Proofs.YtjakhnhnjhafgaaGreat.Wk
open Go Go.RowKit Go.Deep Ow
set_option maxRecDepth 100000
@[go_sem] theorem r10_den{e:Env}{i:Nat}:tupOf ((r10 i).den e)=[CI (e.I i []),CI (e.I (i+1) []),CI (e.I (i+2) []),CI (e.I (i+3) []),CI (e.I (i+4) []),CI (e.I (i+5) []),CI (e.I (i+6) []),CI (e.I (i+7) []),CI (e.I (i+8) []),CI (e.I (i+9) [])]:=rfl
@[go_sem] theorem stD_eq{V:List ItvItv}{c:ItvItv}:stD V c=[.lit (.int .i64 (V.getD 0 zItvItv).Lo),.lit (.int .i64 (V.getD 0 zItvItv).Hi),.lit (.int .i64 (V.getD 1 zItvItv).Lo),.lit (.int .i64 (V.getD 1 zItvItv).Hi),.lit (.int .i64 (V.getD 2 zItvItv).Lo),.lit (.int .i64 (V.getD 2 zItvItv).Hi),.lit (.int .i64 (V.getD 3 zItvItv).Lo),.lit (.int .i64 (V.getD 3 zItvItv).Hi),.lit (.int .i64 c.Lo),.lit (.int .i64 c.Hi)]:=rfl
theorem hasNot_e{V:List ItvItv}{c:ItvItv}{n:Int}{r:Bool}(h:(!itvHas c n)=r):EC Tryz.prog 110 0 [CI n,.d (.ep [.ep (stD V c)])] [] (CB r) [] 0:=by
 subst h
 refine (seat [] []).PU (mkM true []) (fn:=Tryz.f110) ⟨by kernel_rfl,by kernel_rfl,rfl⟩ (mkEs [eInt 10 n,eSt 60 V c,eB 115000 (itvHas c n)]) noLps [] [xInt 10,.ep (.cons (.ep (r10 60)) .nil)] (by simp only [go_sem,Nat.reduceEqDiff,Nat.reduceAdd,Nat.reduceBEq,Int.reduceToNat]) (fun _=>?_)
 conv=>arg 4;cbv
 simp only [go_sem,Nat.reduceEqDiff,Nat.reduceAdd,Nat.reduceBEq,Int.reduceToNat]
 exact iItvHas_e rfl
theorem idxHas_e{V:List ItvItv}{c:ItvItv}{l:List Int}{r:Int}(h:(idxF (fun n=>!itvHas c n) l)=r):EC Tryz.prog 165 0 [.d (.sl 1 (l.map dInt)),.fn (.func 110) [] [.d (.ep [.ep (stD V c)])]] [] (CI r) [] 0:=by
 subst h
 refine (seat [] []).PU (mkM true [2,2,2,1,2,10]) (fn:=Tryz.f165) ⟨by kernel_rfl,by kernel_rfl,rfl⟩ (mkEs [eLInt 10 l,eSt 60 V c]) (consL ⟨Int,fun ee k=>0≤k∧k≤l.length∧(l.take k.toNat).any (fun n=>!itvHas c n)=false,fun ee k=>mkEs [eI 1 k,eB 415000 (!itvHas c (l.getD k.toNat 0))],fun ee k=>(l.length-k).toNat⟩ noLps) [(0,fun s=>(0,(s.kl (mkM true [2,2,2,1,2,10])).upd [(8,xi 100000001)]))] [xLInt 10,.fn 110 .nil (.cons (.ep (.cons (.ep (r10 60)) .nil)) .nil)] (by simp only [go_sem,Nat.reduceEqDiff,Nat.reduceAdd,Nat.reduceBEq,Int.reduceToNat]) (fun _=>?_)
 conv=>arg 4;cbv
 simp (maxSteps:=4000000) only [go_sem,Nat.reduceEqDiff,Nat.reduceAdd,Nat.reduceBEq,Int.reduceToNat,Nat.reduceDiv,Nat.reduceMod,lput,consL]
 rename_i hwf
 have hw:=wf_sl (hwf _ List.mem_cons_self)
 simp only [List.length_map] at hw
 repeat' (first|with_reducible apply And.intro|intro _)
 all_goals (try (simp (disch:=omega) only [wrapI] at *))
 all_goals first|omega|(simp;done)|exact hasNot_e rfl|exact (idxF_no ‹_› (by grind)).symm|skip
 all_goals first|exact (idxF_at (d:=(0:Int)) (by omega) (by omega) (by grind) (by simp_all)).symm|exact (any_next (d:=(0:Int)) (by omega) (by omega) (by grind) (by simp_all))|skip
theorem anyHasF_e{V:List ItvItv}{c:ItvItv}{l:List Int}{r:Bool}(h:(l.any (fun n=>!itvHas c n))=r):EC Tryz.prog 109 0 [.d (.sl 1 (l.map dInt)),.fn (.func 110) [] [.d (.ep [.ep (stD V c)])]] [] (CB r) [] 0:=by
 subst h
 refine (seat [] []).PU (mkM true []) (fn:=Tryz.f109) ⟨by kernel_rfl,by kernel_rfl,rfl⟩ (mkEs [eLInt 10 l,eSt 60 V c,eI 112000 (idxF (fun n=>!itvHas c n) l)]) noLps [] [xLInt 10,.fn 110 .nil (.cons (.ep (.cons (.ep (r10 60)) .nil)) .nil)] (by simp only [go_sem,Nat.reduceEqDiff,Nat.reduceAdd,Nat.reduceBEq,Int.reduceToNat]) (fun _=>?_)
 conv=>arg 4;cbv
 simp only [go_sem,Nat.reduceEqDiff,Nat.reduceAdd,Nat.reduceBEq,Int.reduceToNat]
 repeat' (first|with_reducible apply And.intro|intro _)
 all_goals first|exact idxHas_e rfl|exact idxF_any|(rw [←idxF_any];rfl)
end Go.Proofs.YtjakhnhnjhafgaaGreat.Wk
namespace Go.Proofs.YtjakhnhnjhafgaaGreat.Wk
open Go Go.RowKit Go.Deep Ow
set_option maxRecDepth 100000
def hasB(V:List ItvItv)(vars:List Int)(m:Nat):Bool:=(List.range m).all (fun k=>itvHas (V.getD k zItvItv) (vars.getD k 0))
theorem hasB_next{V:List ItvItv}{vars:List Int}{k:Int}(h0:0≤k):hasB V vars (k+1).toNat=(hasB V vars k.toNat&&itvHas (V.getD k.toNat zItvItv) (vars.getD k.toNat 0)):=by
 rw [show (k+1).toNat=k.toNat+1 by omega,hasB,List.range_succ,List.all_append];simp [hasB]
theorem hasB_bad{V:List ItvItv}{vars:List Int}{k:Nat}(hk:k<4)(h:itvHas (V.getD k zItvItv) (vars.getD k 0)=false):hasB V vars 4=false:=by
 rw [Bool.eq_false_iff];intro hc
 have:=List.all_eq_true.1 hc k (List.mem_range.2 hk)
 rw [h] at this;cases this
theorem absHas_eq{V:List ItvItv}{c:ItvItv}{vars cells:List Int}(hok:absOk ⟨true,V,c⟩=true):absHas ⟨true,V,c⟩ vars cells=(decide (vars.length=4)&&decide (cells.length=4)&&hasB V vars 4&&!cells.any (fun n=>!itvHas c n)):=by
 simp only [absHas,hok,Bool.true_and,hasB,List.all_eq_not_any_not]
set_option maxHeartbeats 1000000 in
theorem absHasOn_e{V:List ItvItv}{c:ItvItv}{vars cells:List Int}(hok:absOk ⟨true,V,c⟩=true):EC Tryz.prog 45 0 [.agg [CB true,.d (.sl 2 (V.map dItvItv)),CI c.Lo,CI c.Hi],.d (.sl 1 (vars.map dInt)),.d (.sl 1 (cells.map dInt))] [] (CB (absHas ⟨true,V,c⟩ vars cells)) [] 0:=by
 rw [absHas_eq hok]
 obtain ⟨hl,-,-⟩:=absOn hok
 obtain ⟨w0,w1,w2,w3,rfl⟩:=four hl
 refine (seat [] [] [(53,k10.ls)]).PB (mkF [(4,fun s=>s.in_ 7),(10,fun s=>[s.at_ 7])] (mkM true [4,2,5,21,3,18])) (fn:=Tryz.f45) ⟨by kernel_rfl,by kernel_rfl,rfl⟩ (Nat.le_refl 0)
  (mkEs [eAbsState 10 ⟨true,[w0,w1,w2,w3],c⟩,eLInt 30 vars,eLInt 50 cells,eSt 111000 [w0,w1,w2,w3] c,eB 111200 true,eB 1012000 (cells.any (fun n=>!itvHas c n)),eB 900 (decide (vars.length=4)&&decide (cells.length=4)&&hasB [w0,w1,w2,w3] vars 4&&!cells.any (fun n=>!itvHas c n))])
  (consL ⟨Int,fun ee k=>0≤k∧k≤4∧hasB [w0,w1,w2,w3] vars k.toNat=true,fun ee k=>mkEs [eI 1 k,eB 717000 (itvHas (([w0,w1,w2,w3]:List ItvItv).getD k.toNat zItvItv) (vars.getD k.toNat 0)),eB 1012000 (cells.any (fun n=>!itvHas c n))],fun ee k=>(4-k).toNat⟩ noLps)
  [(0,fun s=>(0,(s.kl (mkM true [4,2,5,21,3,18])).upd [(34,xi 100000001)]))]
  [xAbsState 10,xLInt 30,xLInt 50] [] (by simp only [go_sem,Nat.reduceEqDiff,Nat.reduceAdd,Nat.reduceBEq,Int.reduceToNat]) rfl
  (.atb 900 .nil) [] (by simp only [go_sem,Nat.reduceEqDiff,Nat.reduceAdd,Nat.reduceBEq,Int.reduceToNat]) rfl (fun _=>?_)
 conv=>arg 4;cbv
 simp (maxSteps:=4000000) only [go_sem,Nat.reduceEqDiff,Nat.reduceAdd,Nat.reduceBEq,Int.reduceToNat,Nat.reduceDiv,Nat.reduceMod,lput,consL]
 repeat' (first|with_reducible apply And.intro|intro _)
 all_goals first
  | exact stread_e hok
  | omega
  | (simp;done)
  | (simp (disch:=omega) only [sel4Lo,sel4Hi];exact iItvHas_e rfl)
  | exact anyHasF_e (V:=[w0,w1,w2,w3]) rfl
  | rfl
  | skip
 · rename_i hg
   have hg:¬vars.length=4∨¬cells.length=4:=by
    rcases hg with h|h|h
    · exact absurd trivial h
    · exact .inl (by omega)
    · exact .inr (by omega)
   rcases hg with h|h<;>simp [h]
 all_goals have hG:=‹¬(¬True∨_)›
 all_goals simp only [not_or,ne_eq,Decidable.not_not] at hG
 all_goals obtain ⟨-,hv4,hc4⟩:=hG
 · rename_i x hJ hx hb
   rw [hasB_bad (k:=x.toNat) (by omega) hb,Bool.and_false,Bool.false_and]
 · rename_i x hJ hx hb;rw [wrapI]<;>omega
 · rename_i x hJ hx hb;rw [wrapI]<;>omega
 · rename_i x hJ hx hb;rw [wrapI (by omega) (by omega),hasB_next hJ.1,hJ.2.2,hb];rfl
 · rename_i x hJ hx hb;rw [wrapI (by omega) (by omega)];omega
 · rename_i x hJ hx
   have e:x.toNat=4:=by omega
   have e1:vars.length=4:=by omega
   have e2:cells.length=4:=by omega
   have h4:=hJ.2.2
   rw [e] at h4
   simp [h4,e1,e2]
theorem absHasOff_e{on:Bool}{V:List ItvItv}{c:ItvItv}{vars cells:List Int}(hno:on=false∨absOk ⟨on,V,c⟩=false):EC Tryz.prog 45 0 [.agg [CB on,.d (.sl 2 (V.map dItvItv)),CI c.Lo,CI c.Hi],.d (.sl 1 (vars.map dInt)),.d (.sl 1 (cells.map dInt))] [] (CB false) [] 0:=by
 obtain ⟨ok,hrd⟩:∃ok,EC Tryz.prog 53 0 [.agg [CB on,.d (.sl 2 (V.map dItvItv)),CI c.Lo,CI c.Hi]] [] (.tup [.d (.lit (.pointer none)),CB ok]) [] 0:=by
  cases on with
  | false=>exact ⟨_,streadOff_e rfl⟩
  | true=>exact ⟨false,streadBad_e (by simpa using hno)⟩
 refine (seat [] [] [] [(53,fun _=>some (.tup (ofL [.nilP,.atb 80 .nil])))]).PU (mkM true []) (fn:=Tryz.f45) ⟨by kernel_rfl,by kernel_rfl,rfl⟩
  (mkEs [eAbsState 10 ⟨on,V,c⟩,eLInt 30 vars,eLInt 50 cells,eB 80 ok]) noLps [] [xAbsState 10,xLInt 30,xLInt 50] (by simp only [go_sem,Nat.reduceEqDiff,Nat.reduceAdd,Nat.reduceBEq,Int.reduceToNat]) (fun _=>?_)
 conv=>arg 4;cbv
 simp only [go_sem,Nat.reduceEqDiff,Nat.reduceAdd,Nat.reduceBEq,Int.reduceToNat]
 repeat' (first|with_reducible apply And.intro|intro _)
 all_goals first
  | exact hrd
  | skip
theorem iAbsHas_e{s:AbsState}{vars cells:List Int}{r:Bool}(h:absHas s vars cells=r):EC Tryz.prog 45 0 [.agg [CB s.On,.d (.sl 2 (s.Vars.map dItvItv)),CI s.Cells.Lo,CI s.Cells.Hi],.d (.sl 1 (vars.map dInt)),.d (.sl 1 (cells.map dInt))] [] (CB r) [] 0:=by
 subst h
 obtain ⟨on,V,c⟩:=s
 by_cases h:on=true∧absOk ⟨on,V,c⟩=true
 · obtain ⟨rfl,h2⟩:=h;exact absHasOn_e h2
 · have h2:on=false∨absOk ⟨on,V,c⟩=false:=by cases on<;>simp_all
   have e:absHas ⟨on,V,c⟩ vars cells=false:=by
    rcases h2 with h|h<;>simp [absHas,h]
   rw [e];exact absHasOff_e h2
end Go.Proofs.YtjakhnhnjhafgaaGreat.Wk
