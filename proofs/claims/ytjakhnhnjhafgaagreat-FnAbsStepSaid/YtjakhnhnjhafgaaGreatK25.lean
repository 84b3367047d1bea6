/- A part of the proof. -/
import Derived.Test.YtjakhnhnjhafgaaGreatK23
import Derived.Test.YtjakhnhnjhafgaaGreatK24
set_option linter.unusedVariables false
set_option linter.unusedSimpArgs false
namespace Go.Proofs.YtjakhnhnjhafgaaGreat.Wk
open Go Go.RowKit Go.Deep Ow
set_option maxRecDepth 100000
def DI(n:Int):D:=.lit (.int .i64 n)
def stD(V:List ItvItv)(c:ItvItv):List D:=[DI (V.getD 0 zItvItv).Lo,DI (V.getD 0 zItvItv).Hi,DI (V.getD 1 zItvItv).Lo,DI (V.getD 1 zItvItv).Hi,DI (V.getD 2 zItvItv).Lo,DI (V.getD 2 zItvItv).Hi,DI (V.getD 3 zItvItv).Lo,DI (V.getD 3 zItvItv).Hi,DI c.Lo,DI c.Hi]
theorem stNot_e{a0:Int}{a1:Int}{r:Bool}(h:(!itvOk (⟨a0,a1⟩:ItvItv))=r):EC Tryz.prog 115 0 [.agg [CI a0,CI a1]] [] (CB r) [] 0:=by
 subst h
 refine (seat [] []).PU (mkM true []) (fn:=Tryz.f115) ⟨by kernel_rfl,by kernel_rfl,rfl⟩ (mkEs [eItvItv 10 ⟨a0,a1⟩,eB 111000 (itvOk (⟨a0,a1⟩:ItvItv))]) noLps [] [xItvItv 10] rfl (fun _=>?_)
 conv=>arg 4;cbv
 simp only [go_sem,Nat.reduceEqDiff,Nat.reduceAdd,Nat.reduceBEq,Int.reduceToNat,iItvOk_e]
theorem idxItv_e{uu:Unit}{l:List ItvItv}{r:Int}(h:(idxF (fun a=>!itvOk a) l)=r):EC Tryz.prog 168 0 [.d (.sl 2 (l.map dItvItv)),.fn (.func 115) [] []] [] (CI r) [] 0:=by
 subst h
 refine (seat [] []).PU (mkM true [2,2,2,1,2,10]) (fn:=Tryz.f168) ⟨by kernel_rfl,by kernel_rfl,rfl⟩ (mkEs [eLItvItv 10 l,eI 49 0]) (consL ⟨Int,fun ee k=>0≤k∧k≤l.length∧(l.take k.toNat).any (fun a=>!itvOk a)=false,fun ee k=>mkEs [eI 1 k,eB 415000 (!itvOk (l.getD k.toNat zItvItv))],fun ee k=>(l.length-k).toNat⟩ noLps) [(0,fun s=>(0,(s.kl (mkM true [2,2,2,1,2,10])).upd [(8,xi 100000001)]))] [xLItvItv 10,.fn 115 .nil .nil] (by simp only [go_sem,Nat.reduceEqDiff,Nat.reduceAdd,Nat.reduceBEq,Int.reduceToNat]) (fun _=>?_)
 conv=>arg 4;cbv
 simp (maxSteps:=4000000) only [go_sem,Nat.reduceEqDiff,Nat.reduceAdd,Nat.reduceBEq,Int.reduceToNat,Nat.reduceDiv,Nat.reduceMod,lput,consL]
 rename_i hwf
 have hw:=wf_sl (hwf _ List.mem_cons_self)
 simp only [List.length_map] at hw
 repeat' (first|with_reducible apply And.intro|intro _)
 all_goals (try (simp (disch:=omega) only [wrapI] at *))
 all_goals first|omega|(simp;done)|exact stNot_e rfl|exact (idxF_no ‹_› (by grind)).symm|skip
 all_goals first|exact (idxF_at (d:=zItvItv) (by omega) (by omega) (by grind) (by simp_all)).symm|exact (any_next (d:=zItvItv) (by omega) (by omega) (by grind) (by simp_all))|skip
theorem anyItvF_e{uu:Unit}{l:List ItvItv}{r:Bool}(h:(l.any (fun a=>!itvOk a))=r):EC Tryz.prog 114 0 [.d (.sl 2 (l.map dItvItv)),.fn (.func 115) [] []] [] (CB r) [] 0:=by
 subst h
 refine (seat [] []).PU (mkM true []) (fn:=Tryz.f114) ⟨by kernel_rfl,by kernel_rfl,rfl⟩ (mkEs [eLItvItv 10 l,eI 49 0,eI 112000 (idxF (fun a=>!itvOk a) l)]) noLps [] [xLItvItv 10,.fn 115 .nil .nil] (by simp only [go_sem,Nat.reduceEqDiff,Nat.reduceAdd,Nat.reduceBEq,Int.reduceToNat]) (fun _=>?_)
 conv=>arg 4;cbv
 simp only [go_sem,Nat.reduceEqDiff,Nat.reduceAdd,Nat.reduceBEq,Int.reduceToNat]
 repeat' (first|with_reducible apply And.intro|intro _)
 all_goals first|exact idxItv_e (uu:=()) rfl|exact idxF_any|(rw [←idxF_any];rfl)
theorem stcopy_e{V:List ItvItv}{c:ItvItv}:EC Tryz.prog 151 0 [.d (.ep (stD V c))] [] (.ptr 0 10 0 0) [(0,.c 10 [stC V c])] 1:=by
 refine (seat [] []).PB (mkM true []) (fn:=Tryz.f151) ⟨by kernel_rfl,by kernel_rfl,rfl⟩ (Nat.zero_le 1)
  (mkEs [eSt 10 V c])
  noLps [] [.ep (r10 10)] [] rfl rfl
  (.ptr 0 10 (.int .i64 0) 0) [b10 0 10] rfl rfl (fun _=>?_)
 conv=>arg 4;cbv
 simp only [go_sem,Nat.reduceEqDiff,Nat.reduceAdd,Nat.reduceBEq,Int.reduceToNat]
end Go.Proofs.YtjakhnhnjhafgaaGreat.Wk
namespace Go.Proofs.YtjakhnhnjhafgaaGreat.Wk
open Go Go.RowKit Go.Deep Ow
set_option maxRecDepth 100000
theorem iSingle_e{n:Int}{r:ItvItv}(h:(⟨n,n⟩:ItvItv)=r):EC Tryz.prog 193 0 [CI n] [] (.agg [CI r.Lo,CI r.Hi]) [] 0:=by
 subst h
 refine (seat [] []).PU (mkM true []) (fn:=Tryz.f193) ⟨by kernel_rfl,by kernel_rfl,rfl⟩ (mkEs [eInt 10 n]) noLps [] [xInt 10] rfl (fun _=>?_)
 conv=>arg 4;cbv
 simp only [go_sem,Nat.reduceEqDiff,Nat.reduceAdd,Nat.reduceBEq,Int.reduceToNat]
def itvJoin(a b:ItvItv):ItvItv:=if itvOk a&&itvOk b then ⟨mn a.Lo b.Lo,mx a.Hi b.Hi⟩ else ⟨0,0⟩
theorem iItvJoin_e{a0:Int}{a1:Int}{b0:Int}{b1:Int}{r:ItvItv}(h:itvJoin (⟨a0,a1⟩:ItvItv) (⟨b0,b1⟩:ItvItv)=r):EC Tryz.prog 194 0 [.agg [CI a0,CI a1],.agg [CI b0,CI b1]] [] (.agg [CI r.Lo,CI r.Hi]) [] 0:=by
 subst h
 refine (seat [] []).PU (mkM true []) (fn:=Tryz.f194) ⟨by kernel_rfl,by kernel_rfl,rfl⟩ (mkEs [eItvItv 10 ⟨a0,a1⟩,eItvItv 30 ⟨b0,b1⟩,eB 112000 (itvOk (⟨a0,a1⟩:ItvItv)&&itvOk (⟨b0,b1⟩:ItvItv))]) noLps [] [xItvItv 10,xItvItv 30] rfl (fun _=>?_)
 conv=>arg 4;cbv
 simp only [go_sem,Nat.reduceEqDiff,Nat.reduceAdd,Nat.reduceBEq,Int.reduceToNat,bothOk_e]
 grind [itvJoin]
theorem cloneItv_e{l:List ItvItv}(hl:0<l.length)(hm:l.length≤4398046511104):EC Tryz.prog 155 0 [.d (.sl 2 (l.map dItvItv))] [] (.d (.sl 2 (l.map dItvItv))) [] 0:=by
 refine (seat [] []).PU (mkM true []) (fn:=Tryz.f155) ⟨by kernel_rfl,by kernel_rfl,rfl⟩ (mkEs [eLItvItv 10 l]) noLps [] [xLItvItv 10] (by simp only [go_sem,Nat.reduceEqDiff,Nat.reduceAdd,Nat.reduceBEq,Int.reduceToNat]) (fun _=>?_)
 conv=>arg 4;cbv
 simp only [go_sem,Nat.reduceEqDiff,Nat.reduceAdd,Nat.reduceBEq,Int.reduceToNat]
 refine ⟨by omega,by omega,?_⟩
 simp [List.map_map,Function.comp_def,dItvItv,tupOf,dOf,intD]
theorem stabs_e{V:List ItvItv}{c:ItvItv}(hl:V.length=4):EC Tryz.prog 100 0 [.d (.ep (stD V c))] [] (.agg [CB true,.d (.sl 2 (V.map dItvItv)),CI c.Lo,CI c.Hi]) [] 0:=by
 obtain ⟨w0,w1,w2,w3,rfl⟩:=four hl
 refine (seat [] []).PU (mkM true []) (fn:=Tryz.f100) ⟨by kernel_rfl,by kernel_rfl,rfl⟩ (mkEs [eSt 10 ([w0,w1,w2,w3]:List ItvItv) c,eLItvItv 314000 [w0,w1,w2,w3]]) noLps [] [.ep (r10 10)] rfl (fun _=>?_)
 conv=>arg 4;cbv
 simp only [go_sem,Nat.reduceEqDiff,Nat.reduceAdd,Nat.reduceBEq,Int.reduceToNat]
 exact cloneItv_e (l:=[w0,w1,w2,w3]) (by simp) (by simp)
theorem any_not{V:List ItvItv}:V.any (fun a=>!itvOk a)=!V.all itvOk:=by rw [List.all_eq_not_any_not];simp
theorem absOn{V:List ItvItv}{c:ItvItv}(h:absOk ⟨true,V,c⟩=true):V.length=4∧itvOk c=true∧V.any (fun a=>!itvOk a)=false:=by
 simp only [absOk,if_true,Bool.and_eq_true,decide_eq_true_eq] at h
 exact ⟨h.1.1,h.1.2,by rw [any_not,h.2];rfl⟩
theorem absOn'{V:List ItvItv}{c:ItvItv}(h1:V.length=4)(h2:itvOk c=true)(h3:V.any (fun a=>!itvOk a)=false):absOk ⟨true,V,c⟩=true:=by
 rw [any_not] at h3
 have:V.all itvOk=true:=by simpa using h3
 simp [absOk,h1,h2,this]
theorem stread_e{V:List ItvItv}{c:ItvItv}(h:absOk ⟨true,V,c⟩=true):EC Tryz.prog 53 0 [.agg [CB true,.d (.sl 2 (V.map dItvItv)),CI c.Lo,CI c.Hi]] [] (.tup [.ptr 0 10 0 0,CB true]) [(0,.c 10 [stC V c])] 1:=by
 refine (seat [] []).PB (mkM true []) (fn:=Tryz.f53) ⟨by kernel_rfl,by kernel_rfl,rfl⟩ (Nat.zero_le 1)
  (mkEs [eLItvItv 11 V,eI 12 c.Lo,eI 13 c.Hi,eB 317000 (itvOk c),eB 323000 (V.any (fun a=>!itvOk a)),eSt 910 V c]) noLps [] [.agg (ofL [.bool true,xLItvItv 11,.ati .i64 12 .nil,.ati .i64 13 .nil])] [] (by simp only [ofL,go_sem,Nat.reduceEqDiff,Nat.reduceAdd,Nat.reduceBEq,Int.reduceToNat]) rfl
  (.tup (ofL [.ptr 0 10 (.int .i64 0) 0,.bool true])) [b10 0 910] rfl rfl (fun _=>?_)
 conv=>arg 4;cbv
 simp only [go_sem,Nat.reduceEqDiff,Nat.reduceAdd,Nat.reduceBEq,Int.reduceToNat]
 obtain ⟨h1,h2,h3⟩:=absOn h
 refine ⟨⟨fun _=>⟨iItvOk_e rfl,fun _=>anyItvF_e (uu:=()) rfl⟩,fun hh=>?_⟩,fun _=>by omega⟩
 rcases hh with hh|hh|hh
 · omega
 · rw [h2] at hh;cases hh
 · rw [h3] at hh;cases hh
theorem streadBad_e{V:List ItvItv}{c:ItvItv}(h:absOk ⟨true,V,c⟩=false):EC Tryz.prog 53 0 [.agg [CB true,.d (.sl 2 (V.map dItvItv)),CI c.Lo,CI c.Hi]] [] (.tup [.d (.lit (.pointer none)),CB false]) [] 0:=by
 refine (seat [] []).PU (mkM true []) (fn:=Tryz.f53) ⟨by kernel_rfl,by kernel_rfl,rfl⟩
  (mkEs [eLItvItv 11 V,eI 12 c.Lo,eI 13 c.Hi,eB 317000 (itvOk c),eB 323000 (V.any (fun a=>!itvOk a))]) noLps [] [.agg (ofL [.bool true,xLItvItv 11,.ati .i64 12 .nil,.ati .i64 13 .nil])] (by simp only [ofL,go_sem,Nat.reduceEqDiff,Nat.reduceAdd,Nat.reduceBEq,Int.reduceToNat]) (fun _=>?_)
 conv=>arg 4;cbv
 simp only [go_sem,Nat.reduceEqDiff,Nat.reduceAdd,Nat.reduceBEq,Int.reduceToNat]
 refine ⟨fun _=>⟨iItvOk_e rfl,fun _=>anyItvF_e (uu:=()) rfl⟩,fun hh=>?_⟩
 simp only [not_or,Bool.not_eq_false,Bool.not_eq_true,Decidable.not_not] at hh
 rw [absOn' (by omega) hh.2.1 hh.2.2] at h
 cases h
theorem streadOff_e{V:List ItvItv}{c:ItvItv}{r:Bool}(h:absOk ⟨false,V,c⟩=r):EC Tryz.prog 53 0 [.agg [CB false,.d (.sl 2 (V.map dItvItv)),CI c.Lo,CI c.Hi]] [] (.tup [.d (.lit (.pointer none)),CB r]) [] 0:=by
 subst h
 refine (seat [] []).PU (mkM true []) (fn:=Tryz.f53) ⟨by kernel_rfl,by kernel_rfl,rfl⟩
  (mkEs [eLItvItv 11 V,eI 12 c.Lo,eI 13 c.Hi]) noLps [] [.agg (ofL [.bool false,xLItvItv 11,.ati .i64 12 .nil,.ati .i64 13 .nil])] (by simp only [ofL,go_sem,Nat.reduceEqDiff,Nat.reduceAdd,Nat.reduceBEq,Int.reduceToNat]) (fun _=>?_)
 conv=>arg 4;cbv
 simp only [go_sem,Nat.reduceEqDiff,Nat.reduceAdd,Nat.reduceBEq,Int.reduceToNat]
 cases V with
 | nil=>simp [absOk,l7None]
 | cons a l=>simp [absOk];omega
end Go.Proofs.YtjakhnhnjhafgaaGreat.Wk
namespace Go.Proofs.YtjakhnhnjhafgaaGreat.Wk
open Go Go.RowKit Go.Deep Ow
set_option maxRecDepth 100000
theorem set4Lo{V:List ItvItv}{d:Int}{x:ItvItv}{k:Nat}(hk:k<V.length)(hd:0≤d):((V.set d.toNat x).getD k zItvItv).Lo=if (d==(k:Int))=true then x.Lo else (V.getD k zItvItv).Lo:=by
 by_cases h:d=(k:Int)
 · subst h;simp [List.getD_eq_getElem?_getD,hk]
 · have:¬d.toNat=k:=by omega
   simp [List.getD_eq_getElem?_getD,List.getElem?_set,this,h]
theorem set4Hi{V:List ItvItv}{d:Int}{x:ItvItv}{k:Nat}(hk:k<V.length)(hd:0≤d):((V.set d.toNat x).getD k zItvItv).Hi=if (d==(k:Int))=true then x.Hi else (V.getD k zItvItv).Hi:=by
 by_cases h:d=(k:Int)
 · subst h;simp [List.getD_eq_getElem?_getD,hk]
 · have:¬d.toNat=k:=by omega
   simp [List.getD_eq_getElem?_getD,List.getElem?_set,this,h]
def cells4 : ItvItv:=⟨0,3⟩
def loadV(V:List ItvItv)(c:ItvItv)(d a:Int):List ItvItv:=if (itvMeet (V.getD a.toNat zItvItv) cells4).2 then (narV V a cells4).set d.toNat c else narV V a cells4
def storeC(V:List ItvItv)(c:ItvItv)(a b:Int):ItvItv:=if (itvMeet (V.getD a.toNat zItvItv) cells4).2 then itvJoin c (V.getD b.toNat zItvItv) else c
def callOk(V:List ItvItv)(procs:List PrcProc)(sums:List SumSum)(a to:Int):Bool:=(itvMeet (V.getD a.toNat zItvItv) ⟨(procs.getD to.toNat zPrcProc).Lo,(procs.getD to.toNat zPrcProc).Hi⟩).2&&(sums.getD to.toNat zSumSum).On
theorem callBad{V:List ItvItv}{procs:List PrcProc}{sums:List SumSum}{a to:Int}(h:(itvMeet (V.getD a.toNat zItvItv) ⟨(procs.getD to.toNat zPrcProc).Lo,(procs.getD to.toNat zPrcProc).Hi⟩).2=false∨(sums.getD to.toNat zSumSum).On=false):callOk V procs sums a to=false:=by
 rcases h with h|h<;>simp only [callOk,h,Bool.false_and,Bool.and_false]
theorem callGood{V:List ItvItv}{procs:List PrcProc}{sums:List SumSum}{a to:Int}(h:¬((itvMeet (V.getD a.toNat zItvItv) ⟨(procs.getD to.toNat zPrcProc).Lo,(procs.getD to.toNat zPrcProc).Hi⟩).2=false∨(sums.getD to.toNat zSumSum).On=false)):callOk V procs sums a to=true:=by
 simp only [not_or,Bool.not_eq_false] at h
 rw [callOk,h.1,h.2];rfl
def callV(V:List ItvItv)(procs:List PrcProc)(sums:List SumSum)(d a to:Int):List ItvItv:=if callOk V procs sums a to then (narV V a ⟨(procs.getD to.toNat zPrcProc).Lo,(procs.getD to.toNat zPrcProc).Hi⟩).set d.toNat (sums.getD to.toNat zSumSum).Out else narV V a ⟨(procs.getD to.toNat zPrcProc).Lo,(procs.getD to.toNat zPrcProc).Hi⟩
theorem actAny_e{V:List ItvItv}{c:ItvItv}{procs:List PrcProc}{sums:List SumSum}{d a b rel lo hi to:Int}(hl:V.length=4)(hd:0≤d)(hd4:d<4):
 EC Tryz.prog 154 1 [.ptr 0 10 0 0,.agg [.d (.sl 3 (procs.map dPrcProc))],.d (.sl 3 (sums.map dSumSum)),.agg [CI 5,CI d,CI a,CI b,CI rel,CI lo,CI hi,CI to]] [(0,.c 10 [stC V c])] (CB true) [(0,.c 10 [stC (V.set d.toNat ⟨lo,hi⟩) c])] 1:=by
 obtain ⟨w0,w1,w2,w3,rfl⟩:=four hl
 refine (seat [] [] [] codeM).PB (mkM true []) (fn:=Tryz.f154) ⟨by kernel_rfl,by kernel_rfl,rfl⟩ (Nat.le_refl 1)
  (mkEs [eSt 10 ([w0,w1,w2,w3]:List ItvItv) c,eI 31 d,eI 32 a,eI 33 b,eI 34 rel,eI 35 lo,eI 36 hi,eI 37 to,eLPrcProc 40 procs,eLSumSum 42 sums,eB 900 true,eSt 910 (([w0,w1,w2,w3]:List ItvItv).set d.toNat ⟨lo,hi⟩) c])
  noLps [] [.ptr 0 10 (.int .i64 0) 0,.agg (ofL [xLPrcProc 40]),xLSumSum 42,.agg (ofL [.int .i64 5,.ati .i64 31 .nil,.ati .i64 32 .nil,.ati .i64 33 .nil,.ati .i64 34 .nil,.ati .i64 35 .nil,.ati .i64 36 .nil,.ati .i64 37 .nil])] [b10 0 10] (by simp only [ofL,go_sem,Nat.reduceEqDiff,Nat.reduceAdd,Nat.reduceBEq,Int.reduceToNat]) rfl
  (.atb 900 .nil) [b10 0 910] rfl rfl (fun _=>?_)
 conv=>arg 4;cbv
 simp only [go_sem,Nat.reduceEqDiff,Nat.reduceAdd,Nat.reduceBEq,Int.reduceToNat]
 repeat' (first|with_reducible apply And.intro|intro _)
 all_goals first
  | omega
  | (simp;done)
  | (refine codeOf_e ?_;simp [codeC];done)
  | exact cellIndexes_e (r:=cells4) rfl
  | exact narrow_e (V:=[w0,w1,w2,w3]) rfl ha ha4
  | exact iItvJoin_e rfl
  | exact prcItv_e (r:=⟨_,_⟩) rfl
  | exact relate_e (V:=[w0,w1,w2,w3]) rfl ha ha4 hb hb4
  | skip
 all_goals first
  | (simp (disch:=omega) only [sel4Lo,sel4Hi];exact iItvJoin_e rfl)
  | (symm;assumption)
  | (rename_i hk;exact (callBad hk).symm)
  | (rename_i hk;exact (callGood hk).symm)
  | (rename_i hk;simp only [callV,callBad hk,Bool.false_eq_true,if_false];done)
  | (rename_i hk;simp only [callV,callGood hk,if_true];simp (disch:=first|omega|simp [narV]) only [set4Lo,set4Hi]<;>(repeat' split)<;>first|rfl|(simp_all;done)|(exfalso;simp_all;omega))
  | ((try simp only [loadV,storeC,callV,callOk]);(repeat' split)<;>first|rfl|(simp (disch:=first|omega|simp [narV]) only [set4Lo,set4Hi];(repeat' split)<;>first|rfl|(simp_all;done)|(exfalso;simp_all;omega))|(simp_all;done))
  | skip
theorem actLoad_e{V:List ItvItv}{c:ItvItv}{procs:List PrcProc}{sums:List SumSum}{d a b rel lo hi to:Int}(hl:V.length=4)(hd:0≤d)(hd4:d<4)(ha:0≤a)(ha4:a<4):
 EC Tryz.prog 154 1 [.ptr 0 10 0 0,.agg [.d (.sl 3 (procs.map dPrcProc))],.d (.sl 3 (sums.map dSumSum)),.agg [CI 6,CI d,CI a,CI b,CI rel,CI lo,CI hi,CI to]] [(0,.c 10 [stC V c])] (CB (itvMeet (V.getD a.toNat zItvItv) cells4).2) [(0,.c 10 [stC (loadV V c d a) c])] 1:=by
 obtain ⟨w0,w1,w2,w3,rfl⟩:=four hl
 refine (seat [] [] [] codeM).PB (mkM true []) (fn:=Tryz.f154) ⟨by kernel_rfl,by kernel_rfl,rfl⟩ (Nat.le_refl 1)
  (mkEs [eSt 10 ([w0,w1,w2,w3]:List ItvItv) c,eI 31 d,eI 32 a,eI 33 b,eI 34 rel,eI 35 lo,eI 36 hi,eI 37 to,eLPrcProc 40 procs,eLSumSum 42 sums,eItvItv 1513000 cells4,eB 1514000 (itvMeet (([w0,w1,w2,w3]:List ItvItv).getD a.toNat zItvItv) cells4).2,eSt 1514200 (narV ([w0,w1,w2,w3]:List ItvItv) a cells4) c,eB 900 (itvMeet (([w0,w1,w2,w3]:List ItvItv).getD a.toNat zItvItv) cells4).2,eSt 910 (loadV ([w0,w1,w2,w3]:List ItvItv) c d a) c])
  noLps [] [.ptr 0 10 (.int .i64 0) 0,.agg (ofL [xLPrcProc 40]),xLSumSum 42,.agg (ofL [.int .i64 6,.ati .i64 31 .nil,.ati .i64 32 .nil,.ati .i64 33 .nil,.ati .i64 34 .nil,.ati .i64 35 .nil,.ati .i64 36 .nil,.ati .i64 37 .nil])] [b10 0 10] (by simp only [ofL,go_sem,Nat.reduceEqDiff,Nat.reduceAdd,Nat.reduceBEq,Int.reduceToNat]) rfl
  (.atb 900 .nil) [b10 0 910] rfl rfl (fun _=>?_)
 conv=>arg 4;cbv
 simp only [go_sem,Nat.reduceEqDiff,Nat.reduceAdd,Nat.reduceBEq,Int.reduceToNat]
 repeat' (first|with_reducible apply And.intro|intro _)
 all_goals first
  | omega
  | (simp;done)
  | (refine codeOf_e ?_;simp [codeC];done)
  | exact cellIndexes_e (r:=cells4) rfl
  | exact narrow_e (V:=[w0,w1,w2,w3]) rfl ha ha4
  | exact iItvJoin_e rfl
  | exact prcItv_e (r:=⟨_,_⟩) rfl
  | exact relate_e (V:=[w0,w1,w2,w3]) rfl ha ha4 hb hb4
  | skip
 all_goals first
  | (simp (disch:=omega) only [sel4Lo,sel4Hi];exact iItvJoin_e rfl)
  | (symm;assumption)
  | (rename_i hk;exact (callBad hk).symm)
  | (rename_i hk;exact (callGood hk).symm)
  | (rename_i hk;simp only [callV,callBad hk,Bool.false_eq_true,if_false];done)
  | (rename_i hk;simp only [callV,callGood hk,if_true];simp (disch:=first|omega|simp [narV]) only [set4Lo,set4Hi]<;>(repeat' split)<;>first|rfl|(simp_all;done)|(exfalso;simp_all;omega))
  | ((try simp only [loadV,storeC,callV,callOk]);(repeat' split)<;>first|rfl|(simp (disch:=first|omega|simp [narV]) only [set4Lo,set4Hi];(repeat' split)<;>first|rfl|(simp_all;done)|(exfalso;simp_all;omega))|(simp_all;done))
  | skip
theorem actStore_e{V:List ItvItv}{c:ItvItv}{procs:List PrcProc}{sums:List SumSum}{d a b rel lo hi to:Int}(hl:V.length=4)(ha:0≤a)(ha4:a<4)(hb:0≤b)(hb4:b<4):
 EC Tryz.prog 154 1 [.ptr 0 10 0 0,.agg [.d (.sl 3 (procs.map dPrcProc))],.d (.sl 3 (sums.map dSumSum)),.agg [CI 7,CI d,CI a,CI b,CI rel,CI lo,CI hi,CI to]] [(0,.c 10 [stC V c])] (CB (itvMeet (V.getD a.toNat zItvItv) cells4).2) [(0,.c 10 [stC (narV V a cells4) (storeC V c a b)])] 1:=by
 obtain ⟨w0,w1,w2,w3,rfl⟩:=four hl
 refine (seat [] [] [] codeM).PB (mkM true []) (fn:=Tryz.f154) ⟨by kernel_rfl,by kernel_rfl,rfl⟩ (Nat.le_refl 1)
  (mkEs [eSt 10 ([w0,w1,w2,w3]:List ItvItv) c,eI 31 d,eI 32 a,eI 33 b,eI 34 rel,eI 35 lo,eI 36 hi,eI 37 to,eLPrcProc 40 procs,eLSumSum 42 sums,eItvItv 2113000 cells4,eB 2114000 (itvMeet (([w0,w1,w2,w3]:List ItvItv).getD a.toNat zItvItv) cells4).2,eSt 2114200 (narV ([w0,w1,w2,w3]:List ItvItv) a cells4) c,eItvItv 2316000 (itvJoin c (([w0,w1,w2,w3]:List ItvItv).getD b.toNat zItvItv)),eB 900 (itvMeet (([w0,w1,w2,w3]:List ItvItv).getD a.toNat zItvItv) cells4).2,eSt 910 (narV ([w0,w1,w2,w3]:List ItvItv) a cells4) (storeC ([w0,w1,w2,w3]:List ItvItv) c a b)])
  noLps [] [.ptr 0 10 (.int .i64 0) 0,.agg (ofL [xLPrcProc 40]),xLSumSum 42,.agg (ofL [.int .i64 7,.ati .i64 31 .nil,.ati .i64 32 .nil,.ati .i64 33 .nil,.ati .i64 34 .nil,.ati .i64 35 .nil,.ati .i64 36 .nil,.ati .i64 37 .nil])] [b10 0 10] (by simp only [ofL,go_sem,Nat.reduceEqDiff,Nat.reduceAdd,Nat.reduceBEq,Int.reduceToNat]) rfl
  (.atb 900 .nil) [b10 0 910] rfl rfl (fun _=>?_)
 conv=>arg 4;cbv
 simp only [go_sem,Nat.reduceEqDiff,Nat.reduceAdd,Nat.reduceBEq,Int.reduceToNat]
 repeat' (first|with_reducible apply And.intro|intro _)
 all_goals first
  | omega
  | (simp;done)
  | (refine codeOf_e ?_;simp [codeC];done)
  | exact cellIndexes_e (r:=cells4) rfl
  | exact narrow_e (V:=[w0,w1,w2,w3]) rfl ha ha4
  | exact iItvJoin_e rfl
  | exact prcItv_e (r:=⟨_,_⟩) rfl
  | exact relate_e (V:=[w0,w1,w2,w3]) rfl ha ha4 hb hb4
  | skip
 all_goals first
  | (simp (disch:=omega) only [sel4Lo,sel4Hi];exact iItvJoin_e rfl)
  | (symm;assumption)
  | (rename_i hk;exact (callBad hk).symm)
  | (rename_i hk;exact (callGood hk).symm)
  | (rename_i hk;simp only [callV,callBad hk,Bool.false_eq_true,if_false];done)
  | (rename_i hk;simp only [callV,callGood hk,if_true];simp (disch:=first|omega|simp [narV]) only [set4Lo,set4Hi]<;>(repeat' split)<;>first|rfl|(simp_all;done)|(exfalso;simp_all;omega))
  | ((try simp only [loadV,storeC,callV,callOk]);(repeat' split)<;>first|rfl|(simp (disch:=first|omega|simp [narV]) only [set4Lo,set4Hi];(repeat' split)<;>first|rfl|(simp_all;done)|(exfalso;simp_all;omega))|(simp_all;done))
  | skip
theorem actCall_e{V:List ItvItv}{c:ItvItv}{procs:List PrcProc}{sums:List SumSum}{d a b rel lo hi to:Int}(hl:V.length=4)(hd:0≤d)(hd4:d<4)(ha:0≤a)(ha4:a<4)(ht:0≤to)(htp:to<procs.length)(hts:to<sums.length):
 EC Tryz.prog 154 1 [.ptr 0 10 0 0,.agg [.d (.sl 3 (procs.map dPrcProc))],.d (.sl 3 (sums.map dSumSum)),.agg [CI 10,CI d,CI a,CI b,CI rel,CI lo,CI hi,CI to]] [(0,.c 10 [stC V c])] (CB (callOk V procs sums a to)) [(0,.c 10 [stC (callV V procs sums d a to) c])] 1:=by
 obtain ⟨w0,w1,w2,w3,rfl⟩:=four hl
 refine (seat [] [] [] codeM).PB (mkM true []) (fn:=Tryz.f154) ⟨by kernel_rfl,by kernel_rfl,rfl⟩ (Nat.le_refl 1)
  (mkEs [eSt 10 ([w0,w1,w2,w3]:List ItvItv) c,eI 31 d,eI 32 a,eI 33 b,eI 34 rel,eI 35 lo,eI 36 hi,eI 37 to,eLPrcProc 40 procs,eLSumSum 42 sums,eItvItv 2619000 ⟨(procs.getD to.toNat zPrcProc).Lo,(procs.getD to.toNat zPrcProc).Hi⟩,eB 2620000 (itvMeet (([w0,w1,w2,w3]:List ItvItv).getD a.toNat zItvItv) ⟨(procs.getD to.toNat zPrcProc).Lo,(procs.getD to.toNat zPrcProc).Hi⟩).2,eSt 2620200 (narV ([w0,w1,w2,w3]:List ItvItv) a ⟨(procs.getD to.toNat zPrcProc).Lo,(procs.getD to.toNat zPrcProc).Hi⟩) c,eB 900 (callOk ([w0,w1,w2,w3]:List ItvItv) procs sums a to),eSt 910 (callV ([w0,w1,w2,w3]:List ItvItv) procs sums d a to) c])
  noLps [] [.ptr 0 10 (.int .i64 0) 0,.agg (ofL [xLPrcProc 40]),xLSumSum 42,.agg (ofL [.int .i64 10,.ati .i64 31 .nil,.ati .i64 32 .nil,.ati .i64 33 .nil,.ati .i64 34 .nil,.ati .i64 35 .nil,.ati .i64 36 .nil,.ati .i64 37 .nil])] [b10 0 10] (by simp only [ofL,go_sem,Nat.reduceEqDiff,Nat.reduceAdd,Nat.reduceBEq,Int.reduceToNat]) rfl
  (.atb 900 .nil) [b10 0 910] rfl rfl (fun _=>?_)
 conv=>arg 4;cbv
 simp only [go_sem,Nat.reduceEqDiff,Nat.reduceAdd,Nat.reduceBEq,Int.reduceToNat]
 repeat' (first|with_reducible apply And.intro|intro _)
 all_goals first
  | omega
  | (simp;done)
  | (refine codeOf_e ?_;simp [codeC];done)
  | exact cellIndexes_e (r:=cells4) rfl
  | exact narrow_e (V:=[w0,w1,w2,w3]) rfl ha ha4
  | exact iItvJoin_e rfl
  | exact prcItv_e (r:=⟨_,_⟩) rfl
  | exact relate_e (V:=[w0,w1,w2,w3]) rfl ha ha4 hb hb4
  | skip
 all_goals first
  | (simp (disch:=omega) only [sel4Lo,sel4Hi];exact iItvJoin_e rfl)
  | (symm;assumption)
  | (rename_i hk;exact (callBad hk).symm)
  | (rename_i hk;exact (callGood hk).symm)
  | (rename_i hk;simp only [callV,callBad hk,Bool.false_eq_true,if_false];done)
  | (rename_i hk;simp only [callV,callGood hk,if_true];simp (disch:=first|omega|simp [narV]) only [set4Lo,set4Hi]<;>(repeat' split)<;>first|rfl|(simp_all;done)|(exfalso;simp_all;omega))
  | ((try simp only [loadV,storeC,callV,callOk]);(repeat' split)<;>first|rfl|(simp (disch:=first|omega|simp [narV]) only [set4Lo,set4Hi];(repeat' split)<;>first|rfl|(simp_all;done)|(exfalso;simp_all;omega))|(simp_all;done))
  | skip
theorem actAssert_e{V:List ItvItv}{c:ItvItv}{procs:List PrcProc}{sums:List SumSum}{d a b rel lo hi to:Int}(hl:V.length=4)(ha:0≤a)(ha4:a<4)(hb:0≤b)(hb4:b<4):
 EC Tryz.prog 154 1 [.ptr 0 10 0 0,.agg [.d (.sl 3 (procs.map dPrcProc))],.d (.sl 3 (sums.map dSumSum)),.agg [CI 11,CI d,CI a,CI b,CI rel,CI lo,CI hi,CI to]] [(0,.c 10 [stC V c])] (CB (relV (itvRel rel (V.getD a.toNat zItvItv) (V.getD b.toNat zItvItv)) V a b).2) [(0,.c 10 [stC (relV (itvRel rel (V.getD a.toNat zItvItv) (V.getD b.toNat zItvItv)) V a b).1 c])] 1:=by
 obtain ⟨w0,w1,w2,w3,rfl⟩:=four hl
 refine (seat [] [] [] codeM).PB (mkM true []) (fn:=Tryz.f154) ⟨by kernel_rfl,by kernel_rfl,rfl⟩ (Nat.le_refl 1)
  (mkEs [eSt 10 ([w0,w1,w2,w3]:List ItvItv) c,eI 31 d,eI 32 a,eI 33 b,eI 34 rel,eI 35 lo,eI 36 hi,eI 37 to,eLPrcProc 40 procs,eLSumSum 42 sums,eB 3117000 (relV (itvRel rel (([w0,w1,w2,w3]:List ItvItv).getD a.toNat zItvItv) (([w0,w1,w2,w3]:List ItvItv).getD b.toNat zItvItv)) ([w0,w1,w2,w3]:List ItvItv) a b).2,eSt 3117200 ((relV (itvRel rel (([w0,w1,w2,w3]:List ItvItv).getD a.toNat zItvItv) (([w0,w1,w2,w3]:List ItvItv).getD b.toNat zItvItv)) ([w0,w1,w2,w3]:List ItvItv) a b).1) c,eB 900 (relV (itvRel rel (([w0,w1,w2,w3]:List ItvItv).getD a.toNat zItvItv) (([w0,w1,w2,w3]:List ItvItv).getD b.toNat zItvItv)) ([w0,w1,w2,w3]:List ItvItv) a b).2,eSt 910 ((relV (itvRel rel (([w0,w1,w2,w3]:List ItvItv).getD a.toNat zItvItv) (([w0,w1,w2,w3]:List ItvItv).getD b.toNat zItvItv)) ([w0,w1,w2,w3]:List ItvItv) a b).1) c])
  noLps [] [.ptr 0 10 (.int .i64 0) 0,.agg (ofL [xLPrcProc 40]),xLSumSum 42,.agg (ofL [.int .i64 11,.ati .i64 31 .nil,.ati .i64 32 .nil,.ati .i64 33 .nil,.ati .i64 34 .nil,.ati .i64 35 .nil,.ati .i64 36 .nil,.ati .i64 37 .nil])] [b10 0 10] (by simp only [ofL,go_sem,Nat.reduceEqDiff,Nat.reduceAdd,Nat.reduceBEq,Int.reduceToNat]) rfl
  (.atb 900 .nil) [b10 0 910] rfl rfl (fun _=>?_)
 conv=>arg 4;cbv
 simp only [go_sem,Nat.reduceEqDiff,Nat.reduceAdd,Nat.reduceBEq,Int.reduceToNat]
 repeat' (first|with_reducible apply And.intro|intro _)
 all_goals first
  | omega
  | (simp;done)
  | (refine codeOf_e ?_;simp [codeC];done)
  | exact cellIndexes_e (r:=cells4) rfl
  | exact narrow_e (V:=[w0,w1,w2,w3]) rfl ha ha4
  | exact iItvJoin_e rfl
  | exact prcItv_e (r:=⟨_,_⟩) rfl
  | exact relate_e (V:=[w0,w1,w2,w3]) rfl ha ha4 hb hb4
  | skip
 all_goals first
  | (simp (disch:=omega) only [sel4Lo,sel4Hi];exact iItvJoin_e rfl)
  | (symm;assumption)
  | (rename_i hk;exact (callBad hk).symm)
  | (rename_i hk;exact (callGood hk).symm)
  | (rename_i hk;simp only [callV,callBad hk,Bool.false_eq_true,if_false];done)
  | (rename_i hk;simp only [callV,callGood hk,if_true];simp (disch:=first|omega|simp [narV]) only [set4Lo,set4Hi]<;>(repeat' split)<;>first|rfl|(simp_all;done)|(exfalso;simp_all;omega))
  | ((try simp only [loadV,storeC,callV,callOk]);(repeat' split)<;>first|rfl|(simp (disch:=first|omega|simp [narV]) only [set4Lo,set4Hi];(repeat' split)<;>first|rfl|(simp_all;done)|(exfalso;simp_all;omega))|(simp_all;done))
  | skip
end Go.Proofs.YtjakhnhnjhafgaaGreat.Wk
