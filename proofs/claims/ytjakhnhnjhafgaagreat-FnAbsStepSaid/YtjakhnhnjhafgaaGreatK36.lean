/- A part of the proof. -/
import Derived.Test.YtjakhnhnjhafgaaGreatKSl
import Derived.Test.YtjakhnhnjhafgaaGreatK28
set_option linter.unusedVariables false
set_option linter.unusedSimpArgs false
namespace Go.Proofs.YtjakhnhnjhafgaaGreat.Wk
open Go Go.RowKit Go.Deep Ow
set_option maxRecDepth 100000
abbrev vA(s:AbsState)(k:Int):ItvItv:=s.Vars.getD k.toNat zItvItv
def relS(R:ItvItv×ItvItv×Bool)(s:AbsState)(i:InsIns):AbsState:=twoS s i R.1 R.2.1 R.2.2
def doS(s:AbsState)(i:InsIns):AbsState:=if doOk i.Op (vA s i.A) (vA s i.B)=true then setS (if i.Op=4 then setS s i.B (l2Cut (vA s i.B) 0).1 else s) i.D (doV i.Op (vA s i.A) (vA s i.B)) else offS
def cellS(s:AbsState)(i:InsIns):AbsState:=if (cutS s i.A ⟨0,3⟩).2=true then (if i.Op=6 then setS (cutS s i.A ⟨0,3⟩).1 i.D (cutS s i.A ⟨0,3⟩).1.Cells else ⟨(cutS s i.A ⟨0,3⟩).1.On,(cutS s i.A ⟨0,3⟩).1.Vars,itvJoin (cutS s i.A ⟨0,3⟩).1.Cells (vA s i.B)⟩) else offS
def callS(p:PrgProg)(sums:List SumSum)(s:AbsState)(i:InsIns):AbsState:=if (cutS s i.A (l7Given p i)).2=true∧(sums.getD i.To.toNat zSumSum).On=true then setS (cutS s i.A (l7Given p i)).1 i.D (sums.getD i.To.toNat zSumSum).Out else offS
def edgeS(to:Int)(s:AbsState):List AbsEdge:=if s.On=true then [⟨to,s⟩] else []
theorem copy_on{s:AbsState}(h:s.On=true):copyS s=s:=if_pos h
theorem tq_AbsEdge{V:List AbsEdge}:List.map tupOf (qAbsEdge V)=V.map (fun x=>(dAbsEdge x).map C.d):=by rw [qAbsEdge,List.map_map];rfl
theorem do_off{s:AbsState}{i:InsIns}(h:doOk i.Op (vA s i.A) (vA s i.B)=false):doS s i=offS:=by rw [doS,h];rfl
theorem do_on{s:AbsState}{i:InsIns}(h:doOk i.Op (vA s i.A) (vA s i.B)=true):doS s i=setS (if i.Op=4 then setS s i.B (l2Cut (vA s i.B) 0).1 else s) i.D (doV i.Op (vA s i.A) (vA s i.B)):=if_pos h
theorem cell_off{s:AbsState}{i:InsIns}(h:(cutS s i.A ⟨0,3⟩).2=false):cellS s i=offS:=by rw [cellS,h];rfl
theorem cell_load{s:AbsState}{i:InsIns}(h:(cutS s i.A ⟨0,3⟩).2=true)(h6:i.Op=6):cellS s i=setS (cutS s i.A ⟨0,3⟩).1 i.D (cutS s i.A ⟨0,3⟩).1.Cells:=by rw [cellS,if_pos h,if_pos h6]
theorem cell_store{s:AbsState}{i:InsIns}(h:(cutS s i.A ⟨0,3⟩).2=true)(h6:¬i.Op=6):cellS s i=⟨(cutS s i.A ⟨0,3⟩).1.On,(cutS s i.A ⟨0,3⟩).1.Vars,itvJoin (cutS s i.A ⟨0,3⟩).1.Cells (vA s i.B)⟩:=by rw [cellS,if_pos h,if_neg h6]
theorem call_off{p:PrgProg}{sums:List SumSum}{s:AbsState}{i:InsIns}(h:(cutS s i.A (l7Given p i)).2=false∨(sums.getD i.To.toNat zSumSum).On=false):callS p sums s i=offS:=by
 rw [callS,if_neg]
 rintro ⟨h1,h2⟩
 rcases h with h|h
 · rw [h] at h1;cases h1
 · rw [h] at h2;cases h2
theorem call_on{p:PrgProg}{sums:List SumSum}{s:AbsState}{i:InsIns}(h:¬((cutS s i.A (l7Given p i)).2=false∨(sums.getD i.To.toNat zSumSum).On=false)):callS p sums s i=setS (cutS s i.A (l7Given p i)).1 i.D (sums.getD i.To.toNat zSumSum).Out:=by
 simp only [not_or,Bool.not_eq_false] at h
 rw [callS,if_pos h]
theorem rr_ItvItv{V:List ItvItv}:List.map (fun c=>(⟨intD ((List.map dOf (tupOf c)).headD dz),intD ((List.map dOf (tupOf c)).tail.headD dz)⟩:ItvItv)) (List.map (fun r=>C.tup (List.map C.d r)) (List.map dItvItv V))=V:=by
 rw [List.map_map,List.map_map];exact (List.map_congr_left fun x _=>rfl).trans (List.map_id _)
theorem rr_AbsEdge{V:List AbsEdge}:List.map (fun c=>(⟨intD ((List.map dOf (tupOf c)).headD dz),⟨boolD ((List.map dOf (tupOf c)).tail.headD dz),List.map uItvItv (elsD ((List.map dOf (tupOf c)).tail.tail.headD dz)),⟨intD ((List.map dOf (tupOf c)).tail.tail.tail.headD dz),intD ((List.map dOf (tupOf c)).tail.tail.tail.tail.headD dz)⟩⟩⟩:AbsEdge)) (qAbsEdge V)=V:=by
 rw [qAbsEdge,List.map_map]
 refine (List.map_congr_left fun x _=>?_).trans (List.map_id _)
 show (⟨x.To,⟨x.State.On,List.map uItvItv (x.State.Vars.map dItvItv),x.State.Cells⟩⟩:AbsEdge)=x
 rw [List.map_map]
 have:List.map (uItvItv∘dItvItv) x.State.Vars=x.State.Vars:=(List.map_congr_left fun x _=>rfl).trans (List.map_id _)
 rw [this]
theorem set_len{s:AbsState}{k:Int}{a:ItvItv}:(setS s k a).Vars.length=s.Vars.length:=by simp [setS]
set_option maxHeartbeats 1000000 in
theorem holds_e{s r:AbsState}{i:InsIns}(hon:s.On=true)(hl:s.Vars.length=4)(ha:0≤i.A)(ha4:i.A<4)(hb:0≤i.B)(hb4:i.B<4)(h:relS (itvRel i.Rel (vA s i.A) (vA s i.B)) s i=r):EC Tryz.prog 160 0 [.agg [CB s.On,.d (.sl 2 (s.Vars.map dItvItv)),CI s.Cells.Lo,CI s.Cells.Hi],.agg [CI i.Op,CI i.D,CI i.A,CI i.B,CI i.Rel,CI i.Lo,CI i.Hi,CI i.To]] [] (.agg [CB r.On,.d (.sl 2 (r.Vars.map dItvItv)),CI r.Cells.Lo,CI r.Cells.Hi]) [] 0:=by
 refine (seat [158] [197] [] [(158,fun _=>none)]).PB (mkM true []) (fn:=Tryz.f160) ⟨by kernel_rfl,by kernel_rfl,rfl⟩ (by decide)
  (mkEs [eAbsState 10 s,eInsIns 30 i,eItvItv 124000 (itvRel i.Rel (vA s i.A) (vA s i.B)).1,eItvItv 124030 (itvRel i.Rel (vA s i.A) (vA s i.B)).2.1,eB 124060 (itvRel i.Rel (vA s i.A) (vA s i.B)).2.2,eAbsState 211000 s,eAbsState 216000 r]) noLps [] [xAbsState 10,xInsIns 30] [] (by simp only [ofL,XB.den,rowsC,List.map_cons,List.map_nil,tq_ItvItv,go_sem,Nat.reduceEqDiff,Nat.reduceAdd,Nat.reduceBEq,Int.reduceToNat]) (by simp only [ofL,XB.den,rowsC,List.map_cons,List.map_nil,tq_ItvItv,go_sem,Nat.reduceEqDiff,Nat.reduceAdd,Nat.reduceBEq,Int.reduceToNat])
  (xAbsState 216000) [] (by simp only [ofL,XB.den,rowsC,List.map_cons,List.map_nil,tq_ItvItv,go_sem,Nat.reduceEqDiff,Nat.reduceAdd,Nat.reduceBEq,Int.reduceToNat]) (by simp only [ofL,XB.den,rowsC,List.map_cons,List.map_nil,tq_ItvItv,go_sem,Nat.reduceEqDiff,Nat.reduceAdd,Nat.reduceBEq,Int.reduceToNat]) (fun _=>?_)
 conv=>arg 4;cbv
 simp only [go_sem,Nat.reduceEqDiff,Nat.reduceAdd,Nat.reduceBEq,Int.reduceToNat]
 repeat' (first|with_reducible apply And.intro|intro _)
 all_goals first
  | omega
  | exact copyS_e (fun _=>by omega) (copy_on hon)
  | exact ItvRel_e rfl rfl rfl
  | exact twoS_e hl ha ha4 hb hb4 h
  | rfl
  | skip
set_option maxHeartbeats 1000000 in
theorem other_e{s r:AbsState}{i:InsIns}(hon:s.On=true)(hl:s.Vars.length=4)(ha:0≤i.A)(ha4:i.A<4)(hb:0≤i.B)(hb4:i.B<4)(h:relS (itvNot i.Rel (vA s i.A) (vA s i.B)) s i=r):EC Tryz.prog 161 0 [.agg [CB s.On,.d (.sl 2 (s.Vars.map dItvItv)),CI s.Cells.Lo,CI s.Cells.Hi],.agg [CI i.Op,CI i.D,CI i.A,CI i.B,CI i.Rel,CI i.Lo,CI i.Hi,CI i.To]] [] (.agg [CB r.On,.d (.sl 2 (r.Vars.map dItvItv)),CI r.Cells.Lo,CI r.Cells.Hi]) [] 0:=by
 refine (seat [158] [197] [] [(158,fun _=>none)]).PB (mkM true []) (fn:=Tryz.f161) ⟨by kernel_rfl,by kernel_rfl,rfl⟩ (by decide)
  (mkEs [eAbsState 10 s,eInsIns 30 i,eItvItv 124000 (itvNot i.Rel (vA s i.A) (vA s i.B)).1,eItvItv 124030 (itvNot i.Rel (vA s i.A) (vA s i.B)).2.1,eB 124060 (itvNot i.Rel (vA s i.A) (vA s i.B)).2.2,eAbsState 211000 s,eAbsState 216000 r]) noLps [] [xAbsState 10,xInsIns 30] [] (by simp only [ofL,XB.den,rowsC,List.map_cons,List.map_nil,tq_ItvItv,go_sem,Nat.reduceEqDiff,Nat.reduceAdd,Nat.reduceBEq,Int.reduceToNat]) (by simp only [ofL,XB.den,rowsC,List.map_cons,List.map_nil,tq_ItvItv,go_sem,Nat.reduceEqDiff,Nat.reduceAdd,Nat.reduceBEq,Int.reduceToNat])
  (xAbsState 216000) [] (by simp only [ofL,XB.den,rowsC,List.map_cons,List.map_nil,tq_ItvItv,go_sem,Nat.reduceEqDiff,Nat.reduceAdd,Nat.reduceBEq,Int.reduceToNat]) (by simp only [ofL,XB.den,rowsC,List.map_cons,List.map_nil,tq_ItvItv,go_sem,Nat.reduceEqDiff,Nat.reduceAdd,Nat.reduceBEq,Int.reduceToNat]) (fun _=>?_)
 conv=>arg 4;cbv
 simp only [go_sem,Nat.reduceEqDiff,Nat.reduceAdd,Nat.reduceBEq,Int.reduceToNat]
 repeat' (first|with_reducible apply And.intro|intro _)
 all_goals first
  | omega
  | exact copyS_e (fun _=>by omega) (copy_on hon)
  | exact ItvNot_e rfl rfl rfl
  | exact twoS_e hl ha ha4 hb hb4 h
  | rfl
  | skip
set_option maxHeartbeats 1000000 in
theorem doS_e{s r:AbsState}{i:InsIns}(hon:s.On=true)(hl:s.Vars.length=4)(ha:0≤i.A)(ha4:i.A<4)(hb:0≤i.B)(hb4:i.B<4)(hd:0≤i.D)(hd4:i.D<4)(h:doS s i=r):EC Tryz.prog 163 0 [.agg [CB s.On,.d (.sl 2 (s.Vars.map dItvItv)),CI s.Cells.Lo,CI s.Cells.Hi],.agg [CI i.Op,CI i.D,CI i.A,CI i.B,CI i.Rel,CI i.Lo,CI i.Hi,CI i.To]] [] (.agg [CB r.On,.d (.sl 2 (r.Vars.map dItvItv)),CI r.Cells.Lo,CI r.Cells.Hi]) [] 0:=by
 refine (seat [158,157] [157] [] [(158,fun _=>none)]).PB (mkM true []) (fn:=Tryz.f163) ⟨by kernel_rfl,by kernel_rfl,rfl⟩ (by decide)
  (mkEs [eAbsState 10 s,eInsIns 30 i,eAbsState 111000 s,eItvItv 224000 (doV i.Op (vA s i.A) (vA s i.B)),eB 224030 (doOk i.Op (vA s i.A) (vA s i.B)),eItvItv 616000 (l2Cut (vA s i.B) 0).1,eB 616030 (l2Cut (vA s i.B) 0).2,eAbsState 714000 (setS s i.B (l2Cut (vA s i.B) 0).1),eAbsState 814000 (setS (if i.Op=4 then setS s i.B (l2Cut (vA s i.B) 0).1 else s) i.D (doV i.Op (vA s i.A) (vA s i.B))),eAbsState 900 r]) noLps [] [xAbsState 10,xInsIns 30] [] (by simp only [ofL,XB.den,rowsC,List.map_cons,List.map_nil,tq_ItvItv,go_sem,Nat.reduceEqDiff,Nat.reduceAdd,Nat.reduceBEq,Int.reduceToNat]) (by simp only [ofL,XB.den,rowsC,List.map_cons,List.map_nil,tq_ItvItv,go_sem,Nat.reduceEqDiff,Nat.reduceAdd,Nat.reduceBEq,Int.reduceToNat])
  (xAbsState 900) [] (by simp only [ofL,XB.den,rowsC,List.map_cons,List.map_nil,tq_ItvItv,go_sem,Nat.reduceEqDiff,Nat.reduceAdd,Nat.reduceBEq,Int.reduceToNat]) (by simp only [ofL,XB.den,rowsC,List.map_cons,List.map_nil,tq_ItvItv,go_sem,Nat.reduceEqDiff,Nat.reduceAdd,Nat.reduceBEq,Int.reduceToNat]) (fun _=>?_)
 conv=>arg 4;cbv
 simp only [go_sem,Nat.reduceEqDiff,Nat.reduceAdd,Nat.reduceBEq,Int.reduceToNat]
 repeat' (first|with_reducible apply And.intro|intro _)
 all_goals first
  | omega
  | exact copyS_e (fun _=>by omega) (copy_on hon)
  | exact sItvDo_e rfl rfl
  | exact l2Cut_e rfl rfl
  | exact setS_e hb (by omega) rfl
  | (by_cases h4:i.Op=4<;>simp only [h4,beq_self_eq_true,beq_iff_eq,if_true,if_false,Int.toNat_natCast]<;>first|exact setS_e hd (by rw [set_len];omega) rfl|exact setS_e hd (by omega) rfl)
  | (subst h;rw [do_off (by assumption)];first|done|rfl)
  | (subst h;rw [do_on (by assumption)];first|done|rfl)
  | skip
set_option maxHeartbeats 1000000 in
theorem cellS_e{s r:AbsState}{i:InsIns}(hon:s.On=true)(hl:s.Vars.length=4)(ha:0≤i.A)(ha4:i.A<4)(hb:0≤i.B)(hb4:i.B<4)(hd:0≤i.D)(hd4:i.D<4)(h:cellS s i=r):EC Tryz.prog 159 0 [.agg [CB s.On,.d (.sl 2 (s.Vars.map dItvItv)),CI s.Cells.Lo,CI s.Cells.Hi],.agg [CI i.Op,CI i.D,CI i.A,CI i.B,CI i.Rel,CI i.Lo,CI i.Hi,CI i.To]] [] (.agg [CB r.On,.d (.sl 2 (r.Vars.map dItvItv)),CI r.Cells.Lo,CI r.Cells.Hi]) [] 0:=by
 refine (seat [158,195,157] [195,157] [] [(158,fun _=>none)]).PB (mkM true []) (fn:=Tryz.f159) ⟨by kernel_rfl,by kernel_rfl,rfl⟩ (by decide)
  (mkEs [eAbsState 10 s,eInsIns 30 i,eAbsState 211000 s,eItvItv 214000 ⟨0,3⟩,eAbsState 215000 (cutS s i.A ⟨0,3⟩).1,eB 215030 (cutS s i.A ⟨0,3⟩).2,eAbsState 615000 (setS (cutS s i.A ⟨0,3⟩).1 i.D (cutS s i.A ⟨0,3⟩).1.Cells),eItvItv 713000 (itvJoin (cutS s i.A ⟨0,3⟩).1.Cells (vA s i.B)),eAbsState 900 r]) noLps [] [xAbsState 10,xInsIns 30] [] (by simp only [ofL,XB.den,rowsC,List.map_cons,List.map_nil,tq_ItvItv,go_sem,Nat.reduceEqDiff,Nat.reduceAdd,Nat.reduceBEq,Int.reduceToNat]) (by simp only [ofL,XB.den,rowsC,List.map_cons,List.map_nil,tq_ItvItv,go_sem,Nat.reduceEqDiff,Nat.reduceAdd,Nat.reduceBEq,Int.reduceToNat])
  (xAbsState 900) [] (by simp only [ofL,XB.den,rowsC,List.map_cons,List.map_nil,tq_ItvItv,go_sem,Nat.reduceEqDiff,Nat.reduceAdd,Nat.reduceBEq,Int.reduceToNat]) (by simp only [ofL,XB.den,rowsC,List.map_cons,List.map_nil,tq_ItvItv,go_sem,Nat.reduceEqDiff,Nat.reduceAdd,Nat.reduceBEq,Int.reduceToNat]) (fun _=>?_)
 conv=>arg 4;cbv
 simp only [go_sem,Nat.reduceEqDiff,Nat.reduceAdd,Nat.reduceBEq,Int.reduceToNat]
 repeat' (first|with_reducible apply And.intro|intro _)
 all_goals first
  | omega
  | exact copyS_e (fun _=>by omega) (copy_on hon)
  | exact l7Places_e (r:=⟨0,3⟩) rfl
  | exact cutS_e (a:=⟨0,3⟩) ha (by omega) rfl rfl
  | exact sItvJoin_e rfl
  | (rename_i hc _;exact setS_e hd (by rw [cut_len hc];omega) rfl)
  | (subst h;rw [cell_off (by assumption)];first|done|rfl)
  | (subst h;rw [cell_load (by assumption) (by assumption)];first|done|rfl)
  | (subst h;rw [cell_store (by assumption) (by assumption)];first|done|rfl)
  | skip
set_option maxHeartbeats 1000000 in
theorem callS_e{p:PrgProg}{sums:List SumSum}{s r:AbsState}{i:InsIns}(hon:s.On=true)(hl:s.Vars.length=4)(ha:0≤i.A)(ha4:i.A<4)(hd:0≤i.D)(hd4:i.D<4)(ht:0≤i.To)(htp:i.To<p.Procs.length)(hts:i.To<sums.length)(h:callS p sums s i=r):EC Tryz.prog 162 0 [.agg [.d (.sl 3 (p.Procs.map dPrcProc))],.d (.sl 3 (sums.map dSumSum)),.agg [CB s.On,.d (.sl 2 (s.Vars.map dItvItv)),CI s.Cells.Lo,CI s.Cells.Hi],.agg [CI i.Op,CI i.D,CI i.A,CI i.B,CI i.Rel,CI i.Lo,CI i.Hi,CI i.To]] [] (.agg [CB r.On,.d (.sl 2 (r.Vars.map dItvItv)),CI r.Cells.Lo,CI r.Cells.Hi]) [] 0:=by
 refine (seat [158,195,157] [195,157] [] [(158,fun _=>none)]).PB (mkM true []) (fn:=Tryz.f162) ⟨by kernel_rfl,by kernel_rfl,rfl⟩ (by decide)
  (mkEs [ePrgProg 50 p,eLSumSum 70 sums,eAbsState 10 s,eInsIns 30 i,eAbsState 111000 s,eItvItv 116000 (l7Given p i),eAbsState 117000 (cutS s i.A (l7Given p i)).1,eB 117030 (cutS s i.A (l7Given p i)).2,eAbsState 419000 (setS (cutS s i.A (l7Given p i)).1 i.D (sums.getD i.To.toNat zSumSum).Out),eAbsState 900 r]) noLps [] [xPrgProg 50,xLSumSum 70,xAbsState 10,xInsIns 30] [] (by simp only [ofL,XB.den,rowsC,List.map_cons,List.map_nil,tq_ItvItv,go_sem,Nat.reduceEqDiff,Nat.reduceAdd,Nat.reduceBEq,Int.reduceToNat]) (by simp only [ofL,XB.den,rowsC,List.map_cons,List.map_nil,tq_ItvItv,go_sem,Nat.reduceEqDiff,Nat.reduceAdd,Nat.reduceBEq,Int.reduceToNat])
  (xAbsState 900) [] (by simp only [ofL,XB.den,rowsC,List.map_cons,List.map_nil,tq_ItvItv,go_sem,Nat.reduceEqDiff,Nat.reduceAdd,Nat.reduceBEq,Int.reduceToNat]) (by simp only [ofL,XB.den,rowsC,List.map_cons,List.map_nil,tq_ItvItv,go_sem,Nat.reduceEqDiff,Nat.reduceAdd,Nat.reduceBEq,Int.reduceToNat]) (fun _=>?_)
 conv=>arg 4;cbv
 simp only [go_sem,Nat.reduceEqDiff,Nat.reduceAdd,Nat.reduceBEq,Int.reduceToNat]
 repeat' (first|with_reducible apply And.intro|intro _)
 all_goals first
  | omega
  | exact copyS_e (fun _=>by omega) (copy_on hon)
  | exact l7Given_e ht htp rfl
  | exact cutS_e ha (by omega) rfl rfl
  | (rename_i hc;exact setS_e hd (by rw [cut_len (by simp_all)];omega) rfl)
  | (subst h;rw [call_off (by assumption)];first|done|rfl)
  | (subst h;rw [call_on (by assumption)];first|done|rfl)
  | skip
theorem edgeS_e{to:Int}{s:AbsState}{r:List AbsEdge}(h:edgeS to s=r):EC Tryz.prog 156 0 [CI to,.agg [CB s.On,.d (.sl 2 (s.Vars.map dItvItv)),CI s.Cells.Lo,CI s.Cells.Hi]] [] (.osl 0 5 0 r.length) [(0,.c 5 (r.map (fun x=>(dAbsEdge x).map C.d)))] 1:=by
 refine (seat [] [] [] []).PB (mkM true []) (fn:=Tryz.f156) ⟨by kernel_rfl,by kernel_rfl,rfl⟩ (by decide)
  (mkEs [eInt 10 to,eAbsState 30 s,eLAbsEdge 900 r]) noLps [] [xInt 10,xAbsState 30] [] (by simp only [ofL,XB.den,rowsC,List.map_cons,List.map_nil,tq_AbsEdge,go_sem,Nat.reduceEqDiff,Nat.reduceAdd,Nat.reduceBEq,Int.reduceToNat]) (by simp only [ofL,XB.den,rowsC,List.map_cons,List.map_nil,tq_AbsEdge,go_sem,Nat.reduceEqDiff,Nat.reduceAdd,Nat.reduceBEq,Int.reduceToNat])
  (.osl 0 5 (.int .i64 0) (.rln (.rws kAbsEdge 900 .nil))) [⟨0,kAbsEdge,.rws kAbsEdge 900 .nil⟩] (by simp only [ofL,XB.den,rowsC,List.map_cons,List.map_nil,tq_AbsEdge,go_sem,Nat.reduceEqDiff,Nat.reduceAdd,Nat.reduceBEq,Int.reduceToNat]) (by simp only [ofL,XB.den,rowsC,List.map_cons,List.map_nil,tq_AbsEdge,go_sem,Nat.reduceEqDiff,Nat.reduceAdd,Nat.reduceBEq,Int.reduceToNat]) (fun _=>?_)
 conv=>arg 4;cbv
 simp only [go_sem,Nat.reduceEqDiff,Nat.reduceAdd,Nat.reduceBEq,Int.reduceToNat]
 repeat' (first|with_reducible apply And.intro|intro _)
 all_goals (subst h;rename_i hc;first|(simp [edgeS,hc,qAbsEdge,dAbsEdge];done)|skip)
def stepS(p:PrgProg)(sums:List SumSum)(i:InsIns)(pc:Int)(s:AbsState):List AbsEdge:=
 if i.Op=5 then edgeS (IntKind.i64.wrap (pc+1)) (setS s i.D ⟨i.Lo,i.Hi⟩) else if i.Op=6∨i.Op=7 then edgeS (IntKind.i64.wrap (pc+1)) (cellS s i)
 else if i.Op=8 then edgeS i.To (relS (itvRel i.Rel (vA s i.A) (vA s i.B)) s i)++edgeS (IntKind.i64.wrap (pc+1)) (relS (itvNot i.Rel (vA s i.A) (vA s i.B)) s i)
 else if i.Op=9 then edgeS i.To s else if i.Op=10 then edgeS (IntKind.i64.wrap (pc+1)) (callS p sums s i)
 else if i.Op=11 then edgeS (IntKind.i64.wrap (pc+1)) (relS (itvRel i.Rel (vA s i.A) (vA s i.B)) s i) else if i.Op=12 then [] else edgeS (IntKind.i64.wrap (pc+1)) (doS s i)
theorem edge_len{to:Int}{s:AbsState}:(edgeS to s).length≤1:=by unfold edgeS;split<;>simp
theorem copyD_e{s r:AbsState}(hm:s.On=true→s.Vars.length≤4)(h:copyS s=r):EC Tryz.prog 158 0 [.agg [CB s.On,.d (.sl 2 (s.Vars.map dItvItv)),CI s.Cells.Lo,CI s.Cells.Hi]] [] (.agg [CB r.On,.d (.sl 2 (r.Vars.map dItvItv)),CI r.Cells.Lo,CI r.Cells.Hi]) [] 0:=by
 refine (seat [] [] [] []).PB (mkM true []) (fn:=Tryz.f158) ⟨by kernel_rfl,by kernel_rfl,rfl⟩ (by decide)
  (mkEs [eAbsState 10 s,eAbsState 900 r]) noLps [] [xAbsState 10] [] (by simp only [ofL,XB.den,rowsC,List.map_cons,List.map_nil,tq_ItvItv,go_sem,Nat.reduceEqDiff,Nat.reduceAdd,Nat.reduceBEq,Int.reduceToNat]) (by simp only [ofL,XB.den,rowsC,List.map_cons,List.map_nil,tq_ItvItv,go_sem,Nat.reduceEqDiff,Nat.reduceAdd,Nat.reduceBEq,Int.reduceToNat])
  (xAbsState 900) [] (by simp only [ofL,XB.den,rowsC,List.map_cons,List.map_nil,tq_ItvItv,go_sem,Nat.reduceEqDiff,Nat.reduceAdd,Nat.reduceBEq,Int.reduceToNat]) (by simp only [ofL,XB.den,rowsC,List.map_cons,List.map_nil,tq_ItvItv,go_sem,Nat.reduceEqDiff,Nat.reduceAdd,Nat.reduceBEq,Int.reduceToNat]) (fun _=>?_)
 conv=>arg 4;cbv
 simp only [go_sem,Nat.reduceEqDiff,Nat.reduceAdd,Nat.reduceBEq,Int.reduceToNat]
 repeat' (first|with_reducible apply And.intro|intro _)
 all_goals (subst h;first|(have:=hm (by assumption);omega)|(rw [copy_on (by assumption)];exact rr_ItvItv)|(simp_all [copyS,offS];done)|skip)
theorem setD_e{s r:AbsState}{k:Int}{a:ItvItv}(h0:0≤k)(h1:k<s.Vars.length)(h:setS s k a=r):EC Tryz.prog 157 1 [.agg [CB s.On,.osl 0 2 0 s.Vars.length,CI s.Cells.Lo,CI s.Cells.Hi],CI k,.agg [CI a.Lo,CI a.Hi]] [(0,.c 2 (s.Vars.map (fun x=>(dItvItv x).map C.d)))] (.agg [CB r.On,.d (.sl 2 (r.Vars.map dItvItv)),CI r.Cells.Lo,CI r.Cells.Hi]) [] 1:=by
 refine (seat [] [] [] []).PB (mkF [(2,fun _=>[0])] (mkM true [])) (fn:=Tryz.f157) ⟨by kernel_rfl,by kernel_rfl,rfl⟩ (by decide)
  (mkEs [eAbsState 10 s,eInt 30 k,eItvItv 50 a,eAbsState 900 r]) noLps [] [.agg (ofL [.atb 10 .nil,.osl 0 2 (.int .i64 0) (.rln (.rws kItvItv 11 .nil)),xi 12,xi 13]),xInt 30,xItvItv 50] [⟨0,kItvItv,.rws kItvItv 11 .nil⟩] (by simp only [ofL,XB.den,rowsC,List.map_cons,List.map_nil,tq_ItvItv,go_sem,Nat.reduceEqDiff,Nat.reduceAdd,Nat.reduceBEq,Int.reduceToNat]) (by simp only [ofL,XB.den,rowsC,List.map_cons,List.map_nil,tq_ItvItv,go_sem,Nat.reduceEqDiff,Nat.reduceAdd,Nat.reduceBEq,Int.reduceToNat])
  (xAbsState 900) [] (by simp only [ofL,XB.den,rowsC,List.map_cons,List.map_nil,tq_ItvItv,go_sem,Nat.reduceEqDiff,Nat.reduceAdd,Nat.reduceBEq,Int.reduceToNat]) (by simp only [ofL,XB.den,rowsC,List.map_cons,List.map_nil,tq_ItvItv,go_sem,Nat.reduceEqDiff,Nat.reduceAdd,Nat.reduceBEq,Int.reduceToNat]) (fun _=>?_)
 conv=>arg 4;cbv
 simp only [go_sem,Nat.reduceEqDiff,Nat.reduceAdd,Nat.reduceBEq,Int.reduceToNat]
 repeat' (first|with_reducible apply And.intro|intro _)
 all_goals (subst h;first|omega|exact mod_set|(simp [setS];done)|rfl|skip)
set_option maxHeartbeats 2000000 in
theorem stepN_e{p:PrgProg}{sums:List SumSum}{i:InsIns}{pc:Int}{s:AbsState}{r:List AbsEdge}(hi:insOk i p.Procs.length 10=true)(hs:sums.length=p.Procs.length)(hon:s.On=true)(hl:s.Vars.length=4)(h9:i.Op≠9)(h:stepS p sums i pc s=r):EC Tryz.prog 102 0 [.agg [.d (.sl 3 (p.Procs.map dPrcProc))],.d (.sl 3 (sums.map dSumSum)),.agg [CI i.Op,CI i.D,CI i.A,CI i.B,CI i.Rel,CI i.Lo,CI i.Hi,CI i.To],CI pc,.agg [CB s.On,.d (.sl 2 (s.Vars.map dItvItv)),CI s.Cells.Lo,CI s.Cells.Hi]] [] (.d (.sl 5 (r.map dAbsEdge))) [] 0:=by
 refine (seat [158,156] [157] [] [(158,fun _=>none),(156,fun _=>none)]).PB (mkM true [6,1,1,1,2,1,1,15,1,57]) (fn:=Tryz.f102) ⟨by kernel_rfl,by kernel_rfl,rfl⟩ (by decide)
  (mkEs [ePrgProg 50 p,eLSumSum 70 sums,eAbsState 10 s,eInsIns 30 i,eInt 90 pc,eAbsState 313000 s,eAbsState 321000 (setS s i.D ⟨i.Lo,i.Hi⟩),eLAbsEdge 322000 (edgeS (IntKind.i64.wrap (pc+1)) (setS s i.D ⟨i.Lo,i.Hi⟩)),eAbsState 614000 (cellS s i),eLAbsEdge 615000 (edgeS (IntKind.i64.wrap (pc+1)) (cellS s i)),eAbsState 814000 (relS (itvRel i.Rel (vA s i.A) (vA s i.B)) s i),eLAbsEdge 815000 (edgeS i.To (relS (itvRel i.Rel (vA s i.A) (vA s i.B)) s i)),eAbsState 820000 (relS (itvNot i.Rel (vA s i.A) (vA s i.B)) s i),eLAbsEdge 821000 (edgeS (IntKind.i64.wrap (pc+1)) (relS (itvNot i.Rel (vA s i.A) (vA s i.B)) s i)),eAbsState 1013000 s,eLAbsEdge 1014000 (edgeS i.To s),eAbsState 1216000 (callS p sums s i),eLAbsEdge 1217000 (edgeS (IntKind.i64.wrap (pc+1)) (callS p sums s i)),eAbsState 1414000 (relS (itvRel i.Rel (vA s i.A) (vA s i.B)) s i),eLAbsEdge 1415000 (edgeS (IntKind.i64.wrap (pc+1)) (relS (itvRel i.Rel (vA s i.A) (vA s i.B)) s i)),eAbsState 1714000 (doS s i),eLAbsEdge 1715000 (edgeS (IntKind.i64.wrap (pc+1)) (doS s i)),eLAbsEdge 900 r]) noLps [] [xPrgProg 50,xLSumSum 70,xInsIns 30,xInt 90,xAbsState 10] [] (by simp only [ofL,XB.den,rowsC,List.map_cons,List.map_nil,tq_ItvItv,go_sem,Nat.reduceEqDiff,Nat.reduceAdd,Nat.reduceBEq,Int.reduceToNat]) (by simp only [ofL,XB.den,rowsC,List.map_cons,List.map_nil,tq_ItvItv,go_sem,Nat.reduceEqDiff,Nat.reduceAdd,Nat.reduceBEq,Int.reduceToNat])
  (xLAbsEdge 900) [] (by simp only [ofL,XB.den,rowsC,List.map_cons,List.map_nil,tq_ItvItv,go_sem,Nat.reduceEqDiff,Nat.reduceAdd,Nat.reduceBEq,Int.reduceToNat]) (by simp only [ofL,XB.den,rowsC,List.map_cons,List.map_nil,tq_ItvItv,go_sem,Nat.reduceEqDiff,Nat.reduceAdd,Nat.reduceBEq,Int.reduceToNat]) (fun _=>?_)
 conv=>arg 4;cbv
 simp only [go_sem,Nat.reduceEqDiff,Nat.reduceAdd,Nat.reduceBEq,Int.reduceToNat]
 obtain ⟨hd,hd4,ha,ha4,hb,hb4,ht⟩:=ins_vars hi
 repeat' (first|with_reducible apply And.intro|intro _)
 all_goals first
  | exact edgeS_e rfl
  | exact copyS_e (fun _=>by omega) (copy_on hon)
  | exact setD_e (a:=⟨_,_⟩) hd (by omega) rfl
  | exact copyD_e (fun _=>by omega) (copy_on hon)
  | omega
  | (exfalso;omega)
  | exact cellS_e hon hl ha ha4 hb hb4 hd hd4 rfl
  | exact holds_e hon hl ha ha4 hb hb4 rfl
  | exact other_e hon hl ha ha4 hb hb4 rfl
  | exact doS_e hon hl ha ha4 hb hb4 hd hd4 rfl
  | exact callS_e hon hl ha ha4 hd hd4 (ht (by assumption)).1 (ht (by assumption)).2 (by have:=ht (by assumption);omega) rfl
  | exact Int.le_trans (Int.ofNat_le.2 edge_len) (by decide)
  | skip
 all_goals (subst h;first|done|(rw [List.map_append,rr_AbsEdge,rr_AbsEdge];grind [stepS])|grind [stepS]|skip)
set_option maxHeartbeats 2000000 in
theorem stepJ_e{p:PrgProg}{sums:List SumSum}{i:InsIns}{pc:Int}{s:AbsState}{r:List AbsEdge}(hi:insOk i p.Procs.length 10=true)(hs:sums.length=p.Procs.length)(hon:s.On=true)(hl:s.Vars.length=4)(h9:i.Op=9)(h:stepS p sums i pc s=r):EC Tryz.prog 102 0 [.agg [.d (.sl 3 (p.Procs.map dPrcProc))],.d (.sl 3 (sums.map dSumSum)),.agg [CI i.Op,CI i.D,CI i.A,CI i.B,CI i.Rel,CI i.Lo,CI i.Hi,CI i.To],CI pc,.agg [CB s.On,.d (.sl 2 (s.Vars.map dItvItv)),CI s.Cells.Lo,CI s.Cells.Hi]] [] (.d (.sl 5 (r.map dAbsEdge))) [] 0:=by
 refine (seat [156] [157] [] [(156,fun _=>none)]).PB (mkM true [6,1,1,1,2,1,1,15,1,57]) (fn:=Tryz.f102) ⟨by kernel_rfl,by kernel_rfl,rfl⟩ (by decide)
  (mkEs [ePrgProg 50 p,eLSumSum 70 sums,eAbsState 10 s,eInsIns 30 i,eInt 90 pc,eAbsState 313000 s,eAbsState 321000 (setS s i.D ⟨i.Lo,i.Hi⟩),eLAbsEdge 322000 (edgeS (IntKind.i64.wrap (pc+1)) (setS s i.D ⟨i.Lo,i.Hi⟩)),eAbsState 614000 (cellS s i),eLAbsEdge 615000 (edgeS (IntKind.i64.wrap (pc+1)) (cellS s i)),eAbsState 814000 (relS (itvRel i.Rel (vA s i.A) (vA s i.B)) s i),eLAbsEdge 815000 (edgeS i.To (relS (itvRel i.Rel (vA s i.A) (vA s i.B)) s i)),eAbsState 820000 (relS (itvNot i.Rel (vA s i.A) (vA s i.B)) s i),eLAbsEdge 821000 (edgeS (IntKind.i64.wrap (pc+1)) (relS (itvNot i.Rel (vA s i.A) (vA s i.B)) s i)),eAbsState 1013000 s,eLAbsEdge 1014000 (edgeS i.To s),eAbsState 1216000 (callS p sums s i),eLAbsEdge 1217000 (edgeS (IntKind.i64.wrap (pc+1)) (callS p sums s i)),eAbsState 1414000 (relS (itvRel i.Rel (vA s i.A) (vA s i.B)) s i),eLAbsEdge 1415000 (edgeS (IntKind.i64.wrap (pc+1)) (relS (itvRel i.Rel (vA s i.A) (vA s i.B)) s i)),eAbsState 1714000 (doS s i),eLAbsEdge 1715000 (edgeS (IntKind.i64.wrap (pc+1)) (doS s i)),eLAbsEdge 900 r]) noLps [] [xPrgProg 50,xLSumSum 70,xInsIns 30,xInt 90,xAbsState 10] [] (by simp only [ofL,XB.den,rowsC,List.map_cons,List.map_nil,tq_ItvItv,go_sem,Nat.reduceEqDiff,Nat.reduceAdd,Nat.reduceBEq,Int.reduceToNat]) (by simp only [ofL,XB.den,rowsC,List.map_cons,List.map_nil,tq_ItvItv,go_sem,Nat.reduceEqDiff,Nat.reduceAdd,Nat.reduceBEq,Int.reduceToNat])
  (xLAbsEdge 900) [] (by simp only [ofL,XB.den,rowsC,List.map_cons,List.map_nil,tq_ItvItv,go_sem,Nat.reduceEqDiff,Nat.reduceAdd,Nat.reduceBEq,Int.reduceToNat]) (by simp only [ofL,XB.den,rowsC,List.map_cons,List.map_nil,tq_ItvItv,go_sem,Nat.reduceEqDiff,Nat.reduceAdd,Nat.reduceBEq,Int.reduceToNat]) (fun _=>?_)
 conv=>arg 4;cbv
 simp only [go_sem,Nat.reduceEqDiff,Nat.reduceAdd,Nat.reduceBEq,Int.reduceToNat]
 obtain ⟨hd,hd4,ha,ha4,hb,hb4,ht⟩:=ins_vars hi
 repeat' (first|with_reducible apply And.intro|intro _)
 all_goals first
  | exact edgeS_e rfl
  | exact copyS_e (fun _=>by omega) (copy_on hon)
  | exact setD_e (a:=⟨_,_⟩) hd (by omega) rfl
  | exact copyD_e (fun _=>by omega) (copy_on hon)
  | omega
  | (exfalso;omega)
  | exact cellS_e hon hl ha ha4 hb hb4 hd hd4 rfl
  | exact holds_e hon hl ha ha4 hb hb4 rfl
  | exact other_e hon hl ha ha4 hb hb4 rfl
  | exact doS_e hon hl ha ha4 hb hb4 hd hd4 rfl
  | exact callS_e hon hl ha ha4 hd hd4 (ht (by assumption)).1 (ht (by assumption)).2 (by have:=ht (by assumption);omega) rfl
  | exact Int.le_trans (Int.ofNat_le.2 edge_len) (by decide)
  | skip
 all_goals (subst h;first|done|(rw [List.map_append,rr_AbsEdge,rr_AbsEdge];grind [stepS])|grind [stepS]|skip)
theorem stepS_e{p:PrgProg}{sums:List SumSum}{i:InsIns}{pc:Int}{s:AbsState}{r:List AbsEdge}(hi:insOk i p.Procs.length 10=true)(hs:sums.length=p.Procs.length)(hon:s.On=true)(hl:s.Vars.length=4)(h:stepS p sums i pc s=r):
 EC Tryz.prog 102 0 [.agg [.d (.sl 3 (p.Procs.map dPrcProc))],.d (.sl 3 (sums.map dSumSum)),.agg [CI i.Op,CI i.D,CI i.A,CI i.B,CI i.Rel,CI i.Lo,CI i.Hi,CI i.To],CI pc,.agg [CB s.On,.d (.sl 2 (s.Vars.map dItvItv)),CI s.Cells.Lo,CI s.Cells.Hi]] [] (.d (.sl 5 (r.map dAbsEdge))) [] 0:=by
 by_cases h9:i.Op=9
 · exact stepJ_e hi hs hon hl h9 h
 · exact stepN_e hi hs hon hl h9 h
end Go.Proofs.YtjakhnhnjhafgaaGreat.Wk
namespace Go.Proofs.YtjakhnhnjhafgaaGreat.Wk
open Go Go.RowKit Go.Deep Ow
set_option maxRecDepth 100000
theorem sSumOk_e{a0:Bool}{a1:Int}{a2:Int}{r:Bool}(h:sumOk (⟨a0,⟨a1,a2⟩⟩:SumSum)=r):EC Tryz.prog 103 0 [.agg [CB a0,CI a1,CI a2]] [] (CB r) [] 0:=by
 subst h
 refine (seat [] []).PU (mkM true []) (fn:=Tryz.f103) ⟨by kernel_rfl,by kernel_rfl,rfl⟩ (mkEs [eSumSum 10 ⟨a0,⟨a1,a2⟩⟩,eB 212000 (l7None (⟨a0,⟨a1,a2⟩⟩:SumSum).Out),eB 312000 (itvOk (⟨a0,⟨a1,a2⟩⟩:SumSum).Out)]) noLps [] [xSumSum 10] rfl (fun _=>?_)
 conv=>arg 4;cbv
 simp only [go_sem,Nat.reduceEqDiff,Nat.reduceAdd,Nat.reduceBEq,Int.reduceToNat,l7None_e,ItvOk_e]
 grind [sumOk]
end Go.Proofs.YtjakhnhnjhafgaaGreat.Wk
namespace Go.Proofs.YtjakhnhnjhafgaaGreat.Wk
open Go Go.RowKit Go.Deep Ow
set_option maxRecDepth 100000
theorem sSumsOk_e{q0:List PrcProc}{l:List SumSum}{r:Bool}(h:sumsOk (⟨q0⟩:PrgProg) l=r):EC Tryz.prog 41 0 [.agg [.d (.sl 3 (q0.map dPrcProc))],.d (.sl 3 (l.map dSumSum))] [] (CB r) [] 0:=by
 subst h
 refine (seat [] []).PU (mkM true [3,1,2,23]) (fn:=Tryz.f41) ⟨by kernel_rfl,by kernel_rfl,rfl⟩ (mkEs [ePrgProg 10 ⟨q0⟩,eLSumSum 30 l,eB 111000 (prgOk (⟨q0⟩:PrgProg))]) (consL ⟨Int,fun ee k=>0≤k∧k≤l.length∧(l.take k.toNat).all sumOk=true,fun ee k=>mkEs [eI 1 k,eB 614000 (sumOk (l.getD k.toNat zSumSum))],fun ee k=>(l.length-k).toNat⟩ noLps) [(0,fun s=>(0,(s.kl (mkM true [3,1,2,23])).upd [(5,xi 100000001)]))] [xPrgProg 10,xLSumSum 30] (by simp only [go_sem,Nat.reduceEqDiff,Nat.reduceAdd,Nat.reduceBEq,Int.reduceToNat]) (fun _=>?_)
 conv=>arg 4;cbv
 simp (maxSteps:=4000000) only [go_sem,Nat.reduceEqDiff,Nat.reduceAdd,Nat.reduceBEq,Int.reduceToNat,Nat.reduceDiv,Nat.reduceMod,lput,consL]
 rename_i hwf
 have hw:=wf_sl (hwf _ (List.mem_cons_of_mem _ List.mem_cons_self))
 simp only [List.length_map] at hw
 repeat' (first|with_reducible apply And.intro|intro _)
 all_goals (try simp (disch:=omega) only [wrapI] at *)
 all_goals first|omega|(simp;done)|exact PrgOk_e rfl|exact sSumOk_e (r:=sumOk _) rfl|skip
 · rename_i hg
   rcases hg with h|h
   · simp [sumsOk,h]
   · have:¬l.length=q0.length:=by omega
     simp [sumsOk,this]
 · rename_i k hJ hk hb
   simp only [sumsOk,all_bad (p:=sumOk) (d:=zSumSum) hJ.1 hk hb,Bool.and_false]
 · rename_i k hJ hk hb
   rw [tk_all l sumOk k zSumSum hJ.1 hk,hJ.2.2,hb];rfl
 · rename_i hg k hJ hk
   rw [tk_end (by omega)] at hJ
   simp only [not_or,Bool.not_eq_false,ne_eq,Decidable.not_not] at hg
   have:l.length=q0.length:=by omega
   simp [sumsOk,hg.1,this,hJ.2.2]
end Go.Proofs.YtjakhnhnjhafgaaGreat.Wk
namespace Go.Proofs.YtjakhnhnjhafgaaGreat.Wk
open Go Go.RowKit Go.Deep Ow
set_option maxRecDepth 100000
theorem cut_st{V:List ItvItv}{c:ItvItv}{k:Int}{a:ItvItv}(h:(itvMeet (V.getD k.toNat zItvItv) a).2=true):cutS ⟨true,V,c⟩ k a=(⟨true,narV V k a,c⟩,true):=by
 rw [cutS,if_pos h];rfl
theorem cut_st0{V:List ItvItv}{c:ItvItv}{k:Int}{a:ItvItv}(h:¬(itvMeet (V.getD k.toNat zItvItv) a).2=true):cutS ⟨true,V,c⟩ k a=(offS,false):=by
 rw [cutS,if_neg h]
theorem rel_edge{R:ItvItv×ItvItv×Bool}{V:List ItvItv}{c:ItvItv}{i:InsIns}{to:Int}:edgeS to (relS R ⟨true,V,c⟩ i)=(relG R V i.A i.B c to).map Edge.st:=by
 unfold relS twoS relG relV
 by_cases h1:R.2.2=true
 · rw [if_pos h1,if_pos h1]
   by_cases h2:(itvMeet (V.getD i.A.toNat zItvItv) R.1).2=true
   · rw [cut_st h2,if_pos rfl,if_pos h2]
     by_cases h3:(itvMeet ((narV V i.A R.1).getD i.B.toNat zItvItv) R.2.1).2=true
     · rw [cut_st h3,if_pos h3];rfl
     · rw [cut_st0 h3,if_neg h3];rfl
   · rw [cut_st0 h2,if_neg (by decide),if_neg h2];rfl
 · rw [if_neg h1,if_neg h1];rfl
theorem cut_without{b:ItvItv}(h:b.Lo≠0∨b.Hi≠0)(hb:itvOk b=true):(l2Cut b 0).1=without b ⟨0,0⟩:=by
 obtain ⟨lo,hi⟩:=b
 simp only [itvOk,numOk,Bool.and_eq_true,decide_eq_true_eq] at hb
 simp only [l2Cut,without] at *
 by_cases h1:lo=0
 · have h2:¬hi=0:=by omega
   subst h1
   simp [h2]
 · by_cases h2:hi=0
   · subst h2;simp [h1]
   · simp [h1,h2]
theorem steps_eq{p:PrgProg}{sums:List SumSum}{i:InsIns}{n pc:Int}{V:List ItvItv}{c:ItvItv}(hi:insOk i n 10=true)(hl:V.length=4):stepS p sums i pc ⟨true,V,c⟩=(edgesV p.Procs sums i pc V c).map Edge.st:=by
 have ho:1≤i.Op∧i.Op≤12:=by simp only [insOk,Bool.and_eq_true,decide_eq_true_eq] at hi;omega
 rcases (by omega:i.Op≤4∨i.Op=5∨i.Op=6∨i.Op=7∨i.Op=8∨i.Op=9∨i.Op=10∨i.Op=11∨i.Op=12) with h|h|h|h|h|h|h|h|h
 · have e:∀k:Int,5≤k→¬i.Op=k:=fun k hk=>by omega
   rw [stepS,if_neg (e 5 (by omega)),if_neg (by omega),if_neg (e 8 (by omega)),if_neg (e 9 (by omega)),if_neg (e 10 (by omega)),if_neg (e 11 (by omega)),if_neg (e 12 (by omega))]
   rw [edgesV,if_neg (e 12 (by omega)),if_neg (e 9 (by omega)),if_neg (e 8 (by omega))]
   have ha:actV p.Procs sums i V c=(if (doR i.Op (V.getD i.A.toNat zItvItv) (V.getD i.B.toNat zItvItv)).2=true then (if i.Op=4 then divV V i.B else V).set i.D.toNat (doR i.Op (V.getD i.A.toNat zItvItv) (V.getD i.B.toNat zItvItv)).1 else V,c,(doR i.Op (V.getD i.A.toNat zItvItv) (V.getD i.B.toNat zItvItv)).2):=by
    rw [actV,if_neg (e 5 (by omega)),if_neg (e 6 (by omega)),if_neg (e 7 (by omega)),if_neg (e 10 (by omega)),if_neg (e 11 (by omega))]
   rw [ha]
   by_cases hd:doOk i.Op (V.getD i.A.toNat zItvItv) (V.getD i.B.toNat zItvItv)=true
   · have e1:(doR i.Op (V.getD i.A.toNat zItvItv) (V.getD i.B.toNat zItvItv)).2=true:=hd
     rw [doS,if_pos hd,if_pos e1,if_pos e1]
     by_cases h4:i.Op=4
     · rw [if_pos h4,if_pos h4]
       simp only [doOk,Bool.and_eq_true,Bool.or_eq_true,decide_eq_true_eq] at hd
       have hw:=cut_without (b:=V.getD i.B.toNat zItvItv) (by omega) hd.1.1.1.2
       have:(l2Cut (vA ⟨true,V,c⟩ i.B) 0).1=without (V.getD i.B.toNat zItvItv) ⟨0,0⟩:=hw
       rw [this];rfl
     · rw [if_neg h4,if_neg h4];rfl
   · have e1:¬(doR i.Op (V.getD i.A.toNat zItvItv) (V.getD i.B.toNat zItvItv)).2=true:=hd
     rw [doS,if_neg hd,if_neg e1];rfl
 · simp only [stepS,edgesV,actV,h,if_true];rfl
 · have e1:stepS p sums i pc ⟨true,V,c⟩=edgeS (IntKind.i64.wrap (pc+1)) (cellS ⟨true,V,c⟩ i):=by simp [stepS,h]
   have e2:actV p.Procs sums i V c=(loadV V c i.D i.A,c,(itvMeet (V.getD i.A.toNat zItvItv) cells4).2):=by simp [actV,h]
   rw [e1,edgesV,if_neg (by omega),if_neg (by omega),if_neg (by omega),e2,cellS]
   by_cases hm:(itvMeet (V.getD i.A.toNat zItvItv) cells4).2=true
   · rw [show cutS ⟨true,V,c⟩ i.A ⟨0,3⟩=_ from cut_st hm,if_pos rfl,if_pos h,if_pos hm,loadV,if_pos hm];rfl
   · rw [show cutS ⟨true,V,c⟩ i.A ⟨0,3⟩=_ from cut_st0 hm,if_neg (by decide),if_neg hm];rfl
 · have e1:stepS p sums i pc ⟨true,V,c⟩=edgeS (IntKind.i64.wrap (pc+1)) (cellS ⟨true,V,c⟩ i):=by simp [stepS,h]
   have e2:actV p.Procs sums i V c=(narV V i.A cells4,storeC V c i.A i.B,(itvMeet (V.getD i.A.toNat zItvItv) cells4).2):=by simp [actV,h]
   have h6:¬i.Op=6:=by omega
   rw [e1,edgesV,if_neg (by omega),if_neg (by omega),if_neg (by omega),e2,cellS]
   by_cases hm:(itvMeet (V.getD i.A.toNat zItvItv) cells4).2=true
   · rw [show cutS ⟨true,V,c⟩ i.A ⟨0,3⟩=_ from cut_st hm,if_pos rfl,if_neg h6,if_pos hm,storeC,if_pos hm];rfl
   · rw [show cutS ⟨true,V,c⟩ i.A ⟨0,3⟩=_ from cut_st0 hm,if_neg (by decide),if_neg hm];rfl
 · have e1:stepS p sums i pc ⟨true,V,c⟩=edgeS i.To (relS (itvRel i.Rel (vA ⟨true,V,c⟩ i.A) (vA ⟨true,V,c⟩ i.B)) ⟨true,V,c⟩ i)++edgeS (IntKind.i64.wrap (pc+1)) (relS (itvNot i.Rel (vA ⟨true,V,c⟩ i.A) (vA ⟨true,V,c⟩ i.B)) ⟨true,V,c⟩ i):=by simp [stepS,h]
   rw [e1,edgesV,if_neg (by omega),if_neg (by omega),if_pos h,List.map_append,rel_edge,rel_edge]
 · simp only [stepS,edgesV,h];rfl
 · have e1:stepS p sums i pc ⟨true,V,c⟩=edgeS (IntKind.i64.wrap (pc+1)) (callS p sums ⟨true,V,c⟩ i):=by simp [stepS,h]
   have e2:actV p.Procs sums i V c=(callV V p.Procs sums i.D i.A i.To,c,callOk V p.Procs sums i.A i.To):=by simp [actV,h]
   rw [e1,edgesV,if_neg (by omega),if_neg (by omega),if_neg (by omega),e2,callS]
   by_cases hm:(itvMeet (V.getD i.A.toNat zItvItv) (l7Given p i)).2=true
   · rw [cut_st hm]
     by_cases hs:(sums.getD i.To.toNat zSumSum).On=true
     · have hk:callOk V p.Procs sums i.A i.To=true:=by
        have hm':(itvMeet (V.getD i.A.toNat zItvItv) ⟨(p.Procs.getD i.To.toNat zPrcProc).Lo,(p.Procs.getD i.To.toNat zPrcProc).Hi⟩).2=true:=hm
        rw [callOk,hm',hs];rfl
       rw [if_pos ⟨rfl,hs⟩,if_pos hk,callV,if_pos hk];rfl
     · have hk:¬callOk V p.Procs sums i.A i.To=true:=by
        rw [Bool.not_eq_true] at hs ⊢
        rw [callOk,hs,Bool.and_false]
       rw [if_neg (fun hc=>hs hc.2),if_neg hk];rfl
   · have hk:¬callOk V p.Procs sums i.A i.To=true:=by
      rw [Bool.not_eq_true] at hm ⊢
      have hm':(itvMeet (V.getD i.A.toNat zItvItv) ⟨(p.Procs.getD i.To.toNat zPrcProc).Lo,(p.Procs.getD i.To.toNat zPrcProc).Hi⟩).2=false:=hm
      rw [callOk,hm',Bool.false_and]
     rw [cut_st0 hm,if_neg (fun hc=>by cases hc.1),if_neg hk];rfl
 · have e1:stepS p sums i pc ⟨true,V,c⟩=edgeS (IntKind.i64.wrap (pc+1)) (relS (itvRel i.Rel (vA ⟨true,V,c⟩ i.A) (vA ⟨true,V,c⟩ i.B)) ⟨true,V,c⟩ i):=by simp [stepS,h]
   rw [e1,rel_edge,edgesV,if_neg (by omega),if_neg (by omega),if_neg (by omega),relG]
   have e2:actV p.Procs sums i V c=((relV (itvRel i.Rel (V.getD i.A.toNat zItvItv) (V.getD i.B.toNat zItvItv)) V i.A i.B).1,c,(relV (itvRel i.Rel (V.getD i.A.toNat zItvItv) (V.getD i.B.toNat zItvItv)) V i.A i.B).2):=by simp [actV,h]
   rw [e2]
 · simp only [stepS,edgesV,h];rfl
theorem inb_of{pc:Int}:l1In pc 0 9=below pc 10:=by
 rw [l1In,below];congr 1;rw [decide_eq_decide];omega
theorem fit_no{p:PrgProg}{sums:List SumSum}{i:InsIns}{pc:Int}{s:AbsState}(h:sumsOk p sums=false∨l7Fit p i s=false∨l1In pc 0 9=false):absStep p sums i pc s=[]:=by
 rw [absStep,if_neg]
 intro hc
 simp only [stepOk,Bool.and_eq_true] at hc
 obtain ⟨⟨⟨⟨h1,h2⟩,h3⟩,h4⟩,h5⟩:=hc
 have hp:prgOk p=true:=by simp only [sumsOk,Bool.and_eq_true] at h1;exact h1.1.1
 rcases h with h|h|h
 · rw [h1] at h;cases h
 · rw [l7Fit,hp,h2,h3,h4] at h;cases h
 · rw [inb_of,h5] at h;cases h
theorem fit_yes{p:PrgProg}{sums:List SumSum}{i:InsIns}{pc:Int}{s:AbsState}(h:¬(sumsOk p sums=false∨l7Fit p i s=false∨l1In pc 0 9=false)):
 insOk i p.Procs.length 10=true∧sums.length=p.Procs.length∧s.On=true∧s.Vars.length=4∧stepS p sums i pc s=absStep p sums i pc s:=by
 simp only [not_or,Bool.not_eq_false,inb_of] at h
 obtain ⟨h1,h2,h5⟩:=h
 simp only [l7Fit,Bool.and_eq_true] at h2
 obtain ⟨⟨⟨-,hi⟩,ha⟩,hon⟩:=h2
 obtain ⟨on,V,c⟩:=s
 simp only at hon
 subst hon
 have hl:=(absOn ha).1
 refine ⟨hi,?_,rfl,hl,?_⟩
 · simp only [sumsOk,Bool.and_eq_true,decide_eq_true_eq] at h1;exact h1.1.2
 · rw [steps_eq hi hl,absStep,stepOk,h1,hi,ha,h5];rfl
theorem sAbsStep_e{p:PrgProg}{sums:List SumSum}{i:InsIns}{pc:Int}{s:AbsState}{r:List AbsEdge}(h:absStep p sums i pc s=r):EC Tryz.prog 40 0 [.agg [.d (.sl 3 (p.Procs.map dPrcProc))],.d (.sl 3 (sums.map dSumSum)),.agg [CI i.Op,CI i.D,CI i.A,CI i.B,CI i.Rel,CI i.Lo,CI i.Hi,CI i.To],CI pc,.agg [CB s.On,.d (.sl 2 (s.Vars.map dItvItv)),CI s.Cells.Lo,CI s.Cells.Hi]] [] (.d (.sl 5 (r.map dAbsEdge))) [] 0:=by
 subst h
 refine (seat [] []).PU (mkM true []) (fn:=Tryz.f40) ⟨by kernel_rfl,by kernel_rfl,rfl⟩
  (mkEs [ePrgProg 50 p,eLSumSum 70 sums,eInsIns 30 i,eInt 90 pc,eAbsState 10 s,eB 112000 (sumsOk p sums),eB 118000 (l7Fit p i s),eB 123000 (l1In pc 0 9),eLAbsEdge 315000 (absStep p sums i pc s)]) noLps [] [xPrgProg 50,xLSumSum 70,xInsIns 30,xInt 90,xAbsState 10] (by simp only [go_sem,Nat.reduceEqDiff,Nat.reduceAdd,Nat.reduceBEq,Int.reduceToNat]) (fun _=>?_)
 conv=>arg 4;cbv
 simp only [go_sem,Nat.reduceEqDiff,Nat.reduceAdd,Nat.reduceBEq,Int.reduceToNat]
 repeat' (first|with_reducible apply And.intro|intro _)
 all_goals first
  | exact sSumsOk_e rfl
  | exact l7Fit_e rfl
  | exact .inr (l7Fit_e rfl)
  | exact l1In_e rfl
  | exact .inr (l1In_e rfl)
  | skip
 · rw [fit_no ‹_›];rfl
 · obtain ⟨hi,hs,hon,hl,he⟩:=fit_yes ‹_›
   exact stepS_e hi hs hon hl he
end Go.Proofs.YtjakhnhnjhafgaaGreat.Wk
