/- A part of the proof. -/
import Derived.Test.YtjakhnhnjhafgaaGreatK29
import Derived.Test.YtjakhnhnjhafgaaGreatK27
set_option linter.unusedVariables false
set_option linter.unusedSimpArgs false
namespace Go.Proofs.YtjakhnhnjhafgaaGreat.Wk
open Go Go.RowKit Go.Deep Ow
set_option maxRecDepth 100000
theorem tq_ItvItv{V:List ItvItv}:List.map tupOf (qItvItv V)=V.map (fun x=>[CI x.Lo,CI x.Hi]):=by rw [qItvItv,List.map_map];rfl
theorem mod_set{V:List ItvItv}{k:Nat}{p q:Int}:((V.modify k fun x=>⟨p,x.Hi⟩).modify k fun x=>⟨x.Lo,q⟩)=V.set k ⟨p,q⟩:=by
 refine List.ext_getElem? fun i=>?_
 rw [List.getElem?_modify,List.getElem?_modify,List.getElem?_set]
 by_cases h:k=i
 · subst h
   simp only [if_true]
   by_cases hk:k<V.length
   · rw [List.getElem?_eq_getElem hk,if_pos hk];rfl
   · rw [List.getElem?_eq_none (by omega),if_neg hk];rfl
 · simp only [if_neg h];cases V[i]? <;> rfl
def offS : AbsState:=⟨false,[],⟨0,0⟩⟩
def copyS(s:AbsState):AbsState:=if s.On=true then s else offS
def setS(s:AbsState)(k:Int)(a:ItvItv):AbsState:=⟨s.On,s.Vars.set k.toNat a,s.Cells⟩
def cutS(s:AbsState)(k:Int)(a:ItvItv):AbsState×Bool:=if (itvMeet (s.Vars.getD k.toNat zItvItv) a).2=true then (setS s k (itvMeet (s.Vars.getD k.toNat zItvItv) a).1,true) else (offS,false)
theorem cut_no{s:AbsState}{k:Int}{a:ItvItv}(h:(itvMeet (s.Vars.getD k.toNat zItvItv) a).2=false):cutS s k a=(offS,false):=by rw [cutS,h];rfl
theorem cut_yes{s:AbsState}{k:Int}{a:ItvItv}(h:(itvMeet (s.Vars.getD k.toNat zItvItv) a).2=true):cutS s k a=(setS s k (itvMeet (s.Vars.getD k.toNat zItvItv) a).1,true):=by rw [cutS,if_pos h]
def twoS(s:AbsState)(i:InsIns)(a b:ItvItv)(ok:Bool):AbsState:=if ok=true then (if (cutS s i.A a).2=true then (cutS (cutS s i.A a).1 i.B b).1 else offS) else offS
theorem copyS_e{s r:AbsState}(hm:s.On=true→s.Vars.length≤4)(h:copyS s=r):EC Tryz.prog 158 0 [.agg [CB s.On,.d (.sl 2 (s.Vars.map dItvItv)),CI s.Cells.Lo,CI s.Cells.Hi]] [] (.agg [CB r.On,.osl 0 2 0 r.Vars.length,CI r.Cells.Lo,CI r.Cells.Hi]) [(0,.c 2 (r.Vars.map (fun x=>(dItvItv x).map C.d)))] 1:=by
 refine (seat [] []).PB (mkM true []) (fn:=Tryz.f158) ⟨by kernel_rfl,by kernel_rfl,rfl⟩ (by decide)
  (mkEs [eAbsState 10 s,eAbsState 900 r]) noLps [] [xAbsState 10] [] (by simp only [ofL,XB.den,rowsC,List.map_cons,List.map_nil,tq_ItvItv,go_sem,Nat.reduceEqDiff,Nat.reduceAdd,Nat.reduceBEq,Int.reduceToNat]) (by simp only [ofL,XB.den,rowsC,List.map_cons,List.map_nil,tq_ItvItv,go_sem,Nat.reduceEqDiff,Nat.reduceAdd,Nat.reduceBEq,Int.reduceToNat])
  (.agg (ofL [.atb 900 .nil,.osl 0 2 (.int .i64 0) (.rln (.rws kItvItv 901 .nil)),xi 902,xi 903])) [⟨0,kItvItv,.rws kItvItv 901 .nil⟩] (by simp only [ofL,XB.den,rowsC,List.map_cons,List.map_nil,tq_ItvItv,go_sem,Nat.reduceEqDiff,Nat.reduceAdd,Nat.reduceBEq,Int.reduceToNat]) (by simp only [ofL,XB.den,rowsC,List.map_cons,List.map_nil,tq_ItvItv,go_sem,Nat.reduceEqDiff,Nat.reduceAdd,Nat.reduceBEq,Int.reduceToNat]) (fun _=>?_)
 conv=>arg 4;cbv
 simp only [go_sem,Nat.reduceEqDiff,Nat.reduceAdd,Nat.reduceBEq,Int.reduceToNat]
 repeat' (first|with_reducible apply And.intro|intro _)
 all_goals (subst h;first|(have:=hm (by assumption);omega)|simp_all [copyS,offS])
theorem setS_e{s r:AbsState}{k:Int}{a:ItvItv}(h0:0≤k)(h1:k<s.Vars.length)(h:setS s k a=r):EC Tryz.prog 157 1 [.agg [CB s.On,.osl 0 2 0 s.Vars.length,CI s.Cells.Lo,CI s.Cells.Hi],CI k,.agg [CI a.Lo,CI a.Hi]] [(0,.c 2 (s.Vars.map (fun x=>(dItvItv x).map C.d)))] (.agg [CB r.On,.osl 0 2 0 r.Vars.length,CI r.Cells.Lo,CI r.Cells.Hi]) [(0,.c 2 (r.Vars.map (fun x=>(dItvItv x).map C.d)))] 2:=by
 refine (seat [] []).PB (mkM true []) (fn:=Tryz.f157) ⟨by kernel_rfl,by kernel_rfl,rfl⟩ (by decide)
  (mkEs [eAbsState 10 s,eInt 30 k,eItvItv 50 a,eAbsState 900 r]) noLps [] [.agg (ofL [.atb 10 .nil,.osl 0 2 (.int .i64 0) (.rln (.rws kItvItv 11 .nil)),xi 12,xi 13]),xInt 30,xItvItv 50] [⟨0,kItvItv,.rws kItvItv 11 .nil⟩] (by simp only [ofL,XB.den,rowsC,List.map_cons,List.map_nil,tq_ItvItv,go_sem,Nat.reduceEqDiff,Nat.reduceAdd,Nat.reduceBEq,Int.reduceToNat]) (by simp only [ofL,XB.den,rowsC,List.map_cons,List.map_nil,tq_ItvItv,go_sem,Nat.reduceEqDiff,Nat.reduceAdd,Nat.reduceBEq,Int.reduceToNat])
  (.agg (ofL [.atb 900 .nil,.osl 0 2 (.int .i64 0) (.rln (.rws kItvItv 901 .nil)),xi 902,xi 903])) [⟨0,kItvItv,.rws kItvItv 901 .nil⟩] (by simp only [ofL,XB.den,rowsC,List.map_cons,List.map_nil,tq_ItvItv,go_sem,Nat.reduceEqDiff,Nat.reduceAdd,Nat.reduceBEq,Int.reduceToNat]) (by simp only [ofL,XB.den,rowsC,List.map_cons,List.map_nil,tq_ItvItv,go_sem,Nat.reduceEqDiff,Nat.reduceAdd,Nat.reduceBEq,Int.reduceToNat]) (fun _=>?_)
 conv=>arg 4;cbv
 simp only [go_sem,Nat.reduceEqDiff,Nat.reduceAdd,Nat.reduceBEq,Int.reduceToNat]
 repeat' (first|with_reducible apply And.intro|intro _)
 all_goals (subst h;first|omega|exact mod_set|(simp [setS];done)|rfl)
theorem cutS_e{s r0:AbsState}{k:Int}{a:ItvItv}{r1:Bool}(h0:0≤k)(h1:k<s.Vars.length)(hr0:(cutS s k a).1=r0)(hr1:(cutS s k a).2=r1):EC Tryz.prog 195 1 [.agg [CB s.On,.osl 0 2 0 s.Vars.length,CI s.Cells.Lo,CI s.Cells.Hi],CI k,.agg [CI a.Lo,CI a.Hi]] [(0,.c 2 (s.Vars.map (fun x=>(dItvItv x).map C.d)))] (.tup [.agg [CB r0.On,.osl 0 2 0 r0.Vars.length,CI r0.Cells.Lo,CI r0.Cells.Hi],CB r1]) [(0,.c 2 (r0.Vars.map (fun x=>(dItvItv x).map C.d)))] 2:=by
 refine (seat [157] [157]).PB (mkT [(3,fun _=>(0,.int .i64 0))] (mkM true [])) (fn:=Tryz.f195) ⟨by kernel_rfl,by kernel_rfl,rfl⟩ (by decide)
  (mkEs [eAbsState 10 s,eInt 30 k,eItvItv 50 a,eItvItv 116000 (itvMeet (s.Vars.getD k.toNat zItvItv) a).1,eB 116030 (itvMeet (s.Vars.getD k.toNat zItvItv) a).2,eAbsState 413000 (setS s k (itvMeet (s.Vars.getD k.toNat zItvItv) a).1),eAbsState 900 r0,eB 910 r1]) noLps [] [.agg (ofL [.atb 10 .nil,.osl 0 2 (.int .i64 0) (.rln (.rws kItvItv 11 .nil)),xi 12,xi 13]),xInt 30,xItvItv 50] [⟨0,kItvItv,.rws kItvItv 11 .nil⟩] (by simp only [ofL,XB.den,rowsC,List.map_cons,List.map_nil,tq_ItvItv,go_sem,Nat.reduceEqDiff,Nat.reduceAdd,Nat.reduceBEq,Int.reduceToNat]) (by simp only [ofL,XB.den,rowsC,List.map_cons,List.map_nil,tq_ItvItv,go_sem,Nat.reduceEqDiff,Nat.reduceAdd,Nat.reduceBEq,Int.reduceToNat])
  (.tup (ofL [.agg (ofL [.atb 900 .nil,.osl 0 2 (.int .i64 0) (.rln (.rws kItvItv 901 .nil)),xi 902,xi 903]),.atb 910 .nil])) [⟨0,kItvItv,.rws kItvItv 901 .nil⟩] (by simp only [ofL,XB.den,rowsC,List.map_cons,List.map_nil,tq_ItvItv,go_sem,Nat.reduceEqDiff,Nat.reduceAdd,Nat.reduceBEq,Int.reduceToNat]) (by simp only [ofL,XB.den,rowsC,List.map_cons,List.map_nil,tq_ItvItv,go_sem,Nat.reduceEqDiff,Nat.reduceAdd,Nat.reduceBEq,Int.reduceToNat]) (fun _=>?_)
 conv=>arg 4;cbv
 simp only [go_sem,Nat.reduceEqDiff,Nat.reduceAdd,Nat.reduceBEq,Int.reduceToNat]
 repeat' (first|with_reducible apply And.intro|intro _)
 all_goals subst hr0 hr1
 all_goals first|omega|exact sItvMeet_e rfl rfl|exact setS_e h0 h1 rfl|(rename_i hm;rw [cut_no hm];first|done|rfl)|(rename_i hm;rw [cut_yes hm];first|done|rfl|(simp [setS];done))|skip
theorem cut_len{s:AbsState}{k:Int}{a:ItvItv}(h:(cutS s k a).2=true):(cutS s k a).1.Vars.length=s.Vars.length:=by
 unfold cutS at *
 split at h
 · rename_i hc;rw [if_pos hc];simp [setS]
 · cases h
theorem cut_off{s:AbsState}{k:Int}{a:ItvItv}(h:(cutS s k a).2=false):(cutS s k a).1=offS:=by
 unfold cutS at *
 split at h
 · cases h
 · rename_i hc;rw [if_neg hc]
theorem two_off{s:AbsState}{i:InsIns}{a b:ItvItv}{ok:Bool}(h:ok=false∨(cutS s i.A a).2=false∨(cutS (cutS s i.A a).1 i.B b).2=false):twoS s i a b ok=offS:=by
 unfold twoS
 rcases h with rfl|h|h
 · rfl
 · split
   · rw [h];rfl
   · rfl
 · split
   · split
     · exact cut_off h
     · rfl
   · rfl
theorem two_on{s:AbsState}{i:InsIns}{a b:ItvItv}{ok:Bool}(h:ok=true)(h2:(cutS s i.A a).2=true):twoS s i a b ok=(cutS (cutS s i.A a).1 i.B b).1:=by rw [twoS,if_pos h,if_pos h2]
set_option maxHeartbeats 1000000 in
theorem twoS_e{s r:AbsState}{i:InsIns}{a b:ItvItv}{ok:Bool}(hl:s.Vars.length=4)(ha:0≤i.A)(ha4:i.A<4)(hb:0≤i.B)(hb4:i.B<4)(h:twoS s i a b ok=r):EC Tryz.prog 197 1 [.agg [CB s.On,.osl 0 2 0 s.Vars.length,CI s.Cells.Lo,CI s.Cells.Hi],.agg [CI i.Op,CI i.D,CI i.A,CI i.B,CI i.Rel,CI i.Lo,CI i.Hi,CI i.To],.agg [CI a.Lo,CI a.Hi],.agg [CI b.Lo,CI b.Hi],CB ok] [(0,.c 2 (s.Vars.map (fun x=>(dItvItv x).map C.d)))] (.agg [CB r.On,.d (.sl 2 (r.Vars.map dItvItv)),CI r.Cells.Lo,CI r.Cells.Hi]) [] 1:=by
 refine (seat [195] [195]).PB (mkF [(9,fun _=>[0])] (mkM true [])) (fn:=Tryz.f197) ⟨by kernel_rfl,by kernel_rfl,rfl⟩ (by decide)
  (mkEs [eAbsState 10 s,eInsIns 30 i,eItvItv 50 a,eItvItv 70 b,eB 90 ok,eAbsState 314000 (cutS s i.A a).1,eB 314030 (cutS s i.A a).2,eAbsState 614000 (cutS (cutS s i.A a).1 i.B b).1,eB 614030 (cutS (cutS s i.A a).1 i.B b).2,eAbsState 900 r]) noLps [] [.agg (ofL [.atb 10 .nil,.osl 0 2 (.int .i64 0) (.rln (.rws kItvItv 11 .nil)),xi 12,xi 13]),xInsIns 30,xItvItv 50,xItvItv 70,.atb 90 .nil] [⟨0,kItvItv,.rws kItvItv 11 .nil⟩] (by simp only [ofL,XB.den,rowsC,List.map_cons,List.map_nil,tq_ItvItv,go_sem,Nat.reduceEqDiff,Nat.reduceAdd,Nat.reduceBEq,Int.reduceToNat]) (by simp only [ofL,XB.den,rowsC,List.map_cons,List.map_nil,tq_ItvItv,go_sem,Nat.reduceEqDiff,Nat.reduceAdd,Nat.reduceBEq,Int.reduceToNat])
  (xAbsState 900) [] (by simp only [ofL,XB.den,rowsC,List.map_cons,List.map_nil,tq_ItvItv,go_sem,Nat.reduceEqDiff,Nat.reduceAdd,Nat.reduceBEq,Int.reduceToNat]) (by simp only [ofL,XB.den,rowsC,List.map_cons,List.map_nil,tq_ItvItv,go_sem,Nat.reduceEqDiff,Nat.reduceAdd,Nat.reduceBEq,Int.reduceToNat]) (fun _=>?_)
 conv=>arg 4;cbv
 simp only [go_sem,Nat.reduceEqDiff,Nat.reduceAdd,Nat.reduceBEq,Int.reduceToNat]
 repeat' (first|with_reducible apply And.intro|intro _)
 all_goals subst h
 all_goals first
  | exact cutS_e ha (by omega) rfl rfl
  | (rename_i hc;exact cutS_e hb (by rw [cut_len hc];omega) rfl rfl)
  | (rw [two_off (.inl (by assumption))];first|done|rfl)
  | (rw [two_off (.inr (.inl (by assumption)))];first|done|rfl)
  | (rw [two_off (.inr (.inr (by assumption)))];first|done|rfl)
  | (rw [two_on (by assumption) (by assumption)];first|done|rfl)
  | skip
end Go.Proofs.YtjakhnhnjhafgaaGreat.Wk
