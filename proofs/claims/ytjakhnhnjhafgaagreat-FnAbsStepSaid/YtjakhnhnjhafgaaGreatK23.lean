/- A part of the proof. -/
import Derived.Test.YtjakhnhnjhafgaaGreatK20
import Derived.Test.YtjakhnhnjhafgaaGreatK22
import Derived.Test.YtjakhnhnjhafgaaGreatK21
set_option linter.unusedVariables false
set_option linter.unusedSimpArgs false
namespace Go.Proofs.YtjakhnhnjhafgaaGreat.Wk
open Go Go.RowKit Go.Deep Ow
set_option maxRecDepth 100000
theorem ItvNot_e{rel:Int}{a0:Int}{a1:Int}{b0:Int}{b1:Int}{r0:ItvItv}{r1:ItvItv}{r2:Bool}(h0:(itvNot rel (⟨a0,a1⟩:ItvItv) (⟨b0,b1⟩:ItvItv)).1=r0)(h1:(itvNot rel (⟨a0,a1⟩:ItvItv) (⟨b0,b1⟩:ItvItv)).2.1=r1)(h2:(itvNot rel (⟨a0,a1⟩:ItvItv) (⟨b0,b1⟩:ItvItv)).2.2=r2):EC Tryz.prog 62 0 [CI rel,.agg [CI a0,CI a1],.agg [CI b0,CI b1]] [] (.tup [.agg [CI r0.Lo,CI r0.Hi],.agg [CI r1.Lo,CI r1.Hi],CB r2]) [] 0:=by
 subst h0 h1 h2
 refine (seat [] []).PU (mkM true [3,1,12,42]) (fn:=Tryz.f62) ⟨by kernel_rfl,by kernel_rfl,rfl⟩ (mkEs [eInt 10 rel,eItvItv 30 ⟨a0,a1⟩,eItvItv 50 ⟨b0,b1⟩,eItvItv 312000 (itvRel 2 (⟨b0,b1⟩:ItvItv) (⟨a0,a1⟩:ItvItv)).1,eItvItv 312030 (itvRel 2 (⟨b0,b1⟩:ItvItv) (⟨a0,a1⟩:ItvItv)).2.1,eB 312060 (itvRel 2 (⟨b0,b1⟩:ItvItv) (⟨a0,a1⟩:ItvItv)).2.2,eItvItv 612000 (itvRel 1 (⟨b0,b1⟩:ItvItv) (⟨a0,a1⟩:ItvItv)).1,eItvItv 612030 (itvRel 1 (⟨b0,b1⟩:ItvItv) (⟨a0,a1⟩:ItvItv)).2.1,eB 612060 (itvRel 1 (⟨b0,b1⟩:ItvItv) (⟨a0,a1⟩:ItvItv)).2.2,eItvItv 912000 (itvRel 4 (⟨a0,a1⟩:ItvItv) (⟨b0,b1⟩:ItvItv)).1,eItvItv 912030 (itvRel 4 (⟨a0,a1⟩:ItvItv) (⟨b0,b1⟩:ItvItv)).2.1,eB 912060 (itvRel 4 (⟨a0,a1⟩:ItvItv) (⟨b0,b1⟩:ItvItv)).2.2,eItvItv 1112000 (itvRel 3 (⟨a0,a1⟩:ItvItv) (⟨b0,b1⟩:ItvItv)).1,eItvItv 1112030 (itvRel 3 (⟨a0,a1⟩:ItvItv) (⟨b0,b1⟩:ItvItv)).2.1,eB 1112060 (itvRel 3 (⟨a0,a1⟩:ItvItv) (⟨b0,b1⟩:ItvItv)).2.2]) noLps [] [xInt 10,xItvItv 30,xItvItv 50] rfl (fun _=>?_)
 conv=>arg 4;cbv
 simp only [go_sem,Nat.reduceEqDiff,Nat.reduceAdd,Nat.reduceBEq,Int.reduceToNat]
 repeat' (first|with_reducible apply And.intro|intro _)
 all_goals first|exact ItvRel_e rfl rfl rfl|grind [itvNot]
def form(i:InsIns):InsIns:=
 if i.Op=5 then ⟨0,0,i.A,i.B,i.Rel,0,0,i.To⟩
 else if i.Op=1∨i.Op=2∨i.Op=3∨i.Op=4 then ⟨0,0,0,0,i.Rel,i.Lo,i.Hi,i.To⟩
 else if i.Op=6 then ⟨0,0,0,i.B,i.Rel,i.Lo,i.Hi,i.To⟩
 else if i.Op=7 then ⟨0,i.D,0,0,i.Rel,i.Lo,i.Hi,i.To⟩
 else if i.Op=8 then ⟨0,i.D,0,0,0,i.Lo,i.Hi,0⟩
 else if i.Op=9 then ⟨0,i.D,i.A,i.B,i.Rel,i.Lo,i.Hi,0⟩
 else if i.Op=10 then ⟨0,0,0,i.B,i.Rel,i.Lo,i.Hi,0⟩
 else if i.Op=11 then ⟨0,i.D,0,0,0,i.Lo,i.Hi,i.To⟩
 else if i.Op=12 then ⟨0,i.D,0,i.B,i.Rel,i.Lo,i.Hi,i.To⟩
 else ⟨0,i.D,i.A,i.B,i.Rel,i.Lo,i.Hi,i.To⟩
theorem l3Form_e{i0:Int}{i1:Int}{i2:Int}{i3:Int}{i4:Int}{i5:Int}{i6:Int}{i7:Int}{r:InsIns}(h:form (⟨i0,i1,i2,i3,i4,i5,i6,i7⟩:InsIns)=r):EC Tryz.prog 104 0 [.agg [CI i0,CI i1,CI i2,CI i3,CI i4,CI i5,CI i6,CI i7]] [] (.agg [CI r.Op,CI r.D,CI r.A,CI r.B,CI r.Rel,CI r.Lo,CI r.Hi,CI r.To]) [] 0:=by
 subst h
 refine (seat [] []).PU (mkM true [4,2,1,5,1,39]) (fn:=Tryz.f104) ⟨by kernel_rfl,by kernel_rfl,rfl⟩ (mkEs [eInsIns 10 ⟨i0,i1,i2,i3,i4,i5,i6,i7⟩]) noLps [] [xInsIns 10] rfl (fun _=>?_)
 conv=>arg 4;cbv
 simp only [go_sem,Nat.reduceEqDiff,Nat.reduceAdd,Nat.reduceBEq,Int.reduceToNat]
 grind [form]
end Go.Proofs.YtjakhnhnjhafgaaGreat.Wk
namespace Go.Proofs.YtjakhnhnjhafgaaGreat.Wk
open Go Go.RowKit Go.Deep Ow
set_option maxRecDepth 100000
theorem iItvNot_e{rel:Int}{a0:Int}{a1:Int}{b0:Int}{b1:Int}{r0:ItvItv}{r1:ItvItv}{r2:Bool}(h0:(itvNot rel (⟨a0,a1⟩:ItvItv) (⟨b0,b1⟩:ItvItv)).1=r0)(h1:(itvNot rel (⟨a0,a1⟩:ItvItv) (⟨b0,b1⟩:ItvItv)).2.1=r1)(h2:(itvNot rel (⟨a0,a1⟩:ItvItv) (⟨b0,b1⟩:ItvItv)).2.2=r2):EC Tryz.prog 125 0 [CI rel,.agg [CI a0,CI a1],.agg [CI b0,CI b1]] [] (.tup [.agg [CI r0.Lo,CI r0.Hi],.agg [CI r1.Lo,CI r1.Hi],CB r2]) [] 0:=by
 subst h0 h1 h2
 refine (seat [] []).PU (mkM true [3,1,12,42]) (fn:=Tryz.f125) ⟨by kernel_rfl,by kernel_rfl,rfl⟩ (mkEs [eInt 10 rel,eItvItv 30 ⟨a0,a1⟩,eItvItv 50 ⟨b0,b1⟩,eItvItv 312000 (itvRel 2 (⟨b0,b1⟩:ItvItv) (⟨a0,a1⟩:ItvItv)).1,eItvItv 312030 (itvRel 2 (⟨b0,b1⟩:ItvItv) (⟨a0,a1⟩:ItvItv)).2.1,eB 312060 (itvRel 2 (⟨b0,b1⟩:ItvItv) (⟨a0,a1⟩:ItvItv)).2.2,eItvItv 612000 (itvRel 1 (⟨b0,b1⟩:ItvItv) (⟨a0,a1⟩:ItvItv)).1,eItvItv 612030 (itvRel 1 (⟨b0,b1⟩:ItvItv) (⟨a0,a1⟩:ItvItv)).2.1,eB 612060 (itvRel 1 (⟨b0,b1⟩:ItvItv) (⟨a0,a1⟩:ItvItv)).2.2,eItvItv 912000 (itvRel 4 (⟨a0,a1⟩:ItvItv) (⟨b0,b1⟩:ItvItv)).1,eItvItv 912030 (itvRel 4 (⟨a0,a1⟩:ItvItv) (⟨b0,b1⟩:ItvItv)).2.1,eB 912060 (itvRel 4 (⟨a0,a1⟩:ItvItv) (⟨b0,b1⟩:ItvItv)).2.2,eItvItv 1112000 (itvRel 3 (⟨a0,a1⟩:ItvItv) (⟨b0,b1⟩:ItvItv)).1,eItvItv 1112030 (itvRel 3 (⟨a0,a1⟩:ItvItv) (⟨b0,b1⟩:ItvItv)).2.1,eB 1112060 (itvRel 3 (⟨a0,a1⟩:ItvItv) (⟨b0,b1⟩:ItvItv)).2.2]) noLps [] [xInt 10,xItvItv 30,xItvItv 50] rfl (fun _=>?_)
 conv=>arg 4;cbv
 simp only [go_sem,Nat.reduceEqDiff,Nat.reduceAdd,Nat.reduceBEq,Int.reduceToNat]
 repeat' (first|with_reducible apply And.intro|intro _)
 all_goals first|exact iItvRel_e rfl rfl rfl|grind [itvNot]
end Go.Proofs.YtjakhnhnjhafgaaGreat.Wk
namespace Go.Proofs.YtjakhnhnjhafgaaGreat.Wk
open Go Go.RowKit Go.Deep Ow
set_option maxRecDepth 100000
theorem sel4Lo{w0 w1 w2 w3:ItvItv}{a:Int}(h:0≤a∧a<4):(if (a==((0:Nat):Int))=true then w0.Lo else if (a==((1:Nat):Int))=true then w1.Lo else if (a==((2:Nat):Int))=true then w2.Lo else w3.Lo)=(([w0,w1,w2,w3]:List ItvItv).getD a.toNat zItvItv).Lo:=by
 rcases (by omega:a=0∨a=1∨a=2∨a=3) with rfl|rfl|rfl|rfl<;>simp
theorem sel4Hi{w0 w1 w2 w3:ItvItv}{a:Int}(h:0≤a∧a<4):(if (a==((0:Nat):Int))=true then w0.Hi else if (a==((1:Nat):Int))=true then w1.Hi else if (a==((2:Nat):Int))=true then w2.Hi else w3.Hi)=(([w0,w1,w2,w3]:List ItvItv).getD a.toNat zItvItv).Hi:=by
 rcases (by omega:a=0∨a=1∨a=2∨a=3) with rfl|rfl|rfl|rfl<;>simp
theorem narV_len{V:List ItvItv}{v:Int}{x:ItvItv}(h:V.length=4):(narV V v x).length=4:=by simp [narV,h]
def relV(R:ItvItv×ItvItv×Bool)(V:List ItvItv)(a b:Int):List ItvItv×Bool:=
 if R.2.2 then (if (itvMeet (V.getD a.toNat zItvItv) R.1).2 then (narV (narV V a R.1) b R.2.1,(itvMeet ((narV V a R.1).getD b.toNat zItvItv) R.2.1).2) else (narV V a R.1,false)) else (V,false)
theorem relate_e{V:List ItvItv}{c:ItvItv}{rel a b:Int}(hl:V.length=4)(ha:0≤a)(ha4:a<4)(hb:0≤b)(hb4:b<4):
 EC Tryz.prog 152 1 [.ptr 0 10 0 0,.fn (.func 153) [] [],CI rel,CI a,CI b] [(0,.c 10 [stC V c])] (CB (relV (itvRel rel (V.getD a.toNat zItvItv) (V.getD b.toNat zItvItv)) V a b).2) [(0,.c 10 [stC (relV (itvRel rel (V.getD a.toNat zItvItv) (V.getD b.toNat zItvItv)) V a b).1 c])] 1:=by
 obtain ⟨w0,w1,w2,w3,rfl⟩:=four hl
 refine (seat [] []).PB (mkM true []) (fn:=Tryz.f152) ⟨by kernel_rfl,by kernel_rfl,rfl⟩ (Nat.le_refl 1)
  (mkEs [eSt 10 ([w0,w1,w2,w3]:List ItvItv) c,eI 30 rel,eI 31 a,eI 32 b,
    eItvItv 124000 (itvRel rel (([w0,w1,w2,w3]:List ItvItv).getD a.toNat zItvItv) (([w0,w1,w2,w3]:List ItvItv).getD b.toNat zItvItv)).1,eItvItv 124030 (itvRel rel (([w0,w1,w2,w3]:List ItvItv).getD a.toNat zItvItv) (([w0,w1,w2,w3]:List ItvItv).getD b.toNat zItvItv)).2.1,eB 124060 (itvRel rel (([w0,w1,w2,w3]:List ItvItv).getD a.toNat zItvItv) (([w0,w1,w2,w3]:List ItvItv).getD b.toNat zItvItv)).2.2,eB 215000 (itvMeet (([w0,w1,w2,w3]:List ItvItv).getD a.toNat zItvItv) (itvRel rel (([w0,w1,w2,w3]:List ItvItv).getD a.toNat zItvItv) (([w0,w1,w2,w3]:List ItvItv).getD b.toNat zItvItv)).1).2,eSt 215200 (narV ([w0,w1,w2,w3]:List ItvItv) a (itvRel rel (([w0,w1,w2,w3]:List ItvItv).getD a.toNat zItvItv) (([w0,w1,w2,w3]:List ItvItv).getD b.toNat zItvItv)).1) c,eB 221000 (itvMeet ((narV ([w0,w1,w2,w3]:List ItvItv) a (itvRel rel (([w0,w1,w2,w3]:List ItvItv).getD a.toNat zItvItv) (([w0,w1,w2,w3]:List ItvItv).getD b.toNat zItvItv)).1).getD b.toNat zItvItv) (itvRel rel (([w0,w1,w2,w3]:List ItvItv).getD a.toNat zItvItv) (([w0,w1,w2,w3]:List ItvItv).getD b.toNat zItvItv)).2.1).2,eSt 221200 (narV (narV ([w0,w1,w2,w3]:List ItvItv) a (itvRel rel (([w0,w1,w2,w3]:List ItvItv).getD a.toNat zItvItv) (([w0,w1,w2,w3]:List ItvItv).getD b.toNat zItvItv)).1) b (itvRel rel (([w0,w1,w2,w3]:List ItvItv).getD a.toNat zItvItv) (([w0,w1,w2,w3]:List ItvItv).getD b.toNat zItvItv)).2.1) c,
    eB 900 (relV (itvRel rel (([w0,w1,w2,w3]:List ItvItv).getD a.toNat zItvItv) (([w0,w1,w2,w3]:List ItvItv).getD b.toNat zItvItv)) ([w0,w1,w2,w3]:List ItvItv) a b).2,eSt 910 ((relV (itvRel rel (([w0,w1,w2,w3]:List ItvItv).getD a.toNat zItvItv) (([w0,w1,w2,w3]:List ItvItv).getD b.toNat zItvItv)) ([w0,w1,w2,w3]:List ItvItv) a b).1) c])
  noLps [] [.ptr 0 10 (.int .i64 0) 0,.fn 153 .nil .nil,.ati .i64 30 .nil,.ati .i64 31 .nil,.ati .i64 32 .nil] [b10 0 10] rfl rfl
  (.atb 900 .nil) [b10 0 910] rfl rfl (fun _=>?_)
 conv=>arg 4;cbv
 simp only [go_sem,Nat.reduceEqDiff,Nat.reduceAdd,Nat.reduceBEq,Int.reduceToNat]
 simp (disch:=omega) only [sel4Lo,sel4Hi]
 repeat' (first|with_reducible apply And.intro|intro _)
 all_goals first
  | omega
  | exact iItvRel_e rfl rfl rfl
  | exact narrow_e (V:=[w0,w1,w2,w3]) rfl ha ha4
  | exact narrow_e (V:=narV [w0,w1,w2,w3] a _) (narV_len rfl) hb hb4
  | skip
 all_goals simp only [relV]
 all_goals (repeat' split)<;>first|rfl|simp_all;done
theorem relateN_e{V:List ItvItv}{c:ItvItv}{rel a b:Int}(hl:V.length=4)(ha:0≤a)(ha4:a<4)(hb:0≤b)(hb4:b<4):
 EC Tryz.prog 152 1 [.ptr 0 10 0 0,.fn (.func 125) [] [],CI rel,CI a,CI b] [(0,.c 10 [stC V c])] (CB (relV (itvNot rel (V.getD a.toNat zItvItv) (V.getD b.toNat zItvItv)) V a b).2) [(0,.c 10 [stC (relV (itvNot rel (V.getD a.toNat zItvItv) (V.getD b.toNat zItvItv)) V a b).1 c])] 1:=by
 obtain ⟨w0,w1,w2,w3,rfl⟩:=four hl
 refine (seat [] []).PB (mkM true []) (fn:=Tryz.f152) ⟨by kernel_rfl,by kernel_rfl,rfl⟩ (Nat.le_refl 1)
  (mkEs [eSt 10 ([w0,w1,w2,w3]:List ItvItv) c,eI 30 rel,eI 31 a,eI 32 b,
    eItvItv 124000 (itvNot rel (([w0,w1,w2,w3]:List ItvItv).getD a.toNat zItvItv) (([w0,w1,w2,w3]:List ItvItv).getD b.toNat zItvItv)).1,eItvItv 124030 (itvNot rel (([w0,w1,w2,w3]:List ItvItv).getD a.toNat zItvItv) (([w0,w1,w2,w3]:List ItvItv).getD b.toNat zItvItv)).2.1,eB 124060 (itvNot rel (([w0,w1,w2,w3]:List ItvItv).getD a.toNat zItvItv) (([w0,w1,w2,w3]:List ItvItv).getD b.toNat zItvItv)).2.2,eB 215000 (itvMeet (([w0,w1,w2,w3]:List ItvItv).getD a.toNat zItvItv) (itvNot rel (([w0,w1,w2,w3]:List ItvItv).getD a.toNat zItvItv) (([w0,w1,w2,w3]:List ItvItv).getD b.toNat zItvItv)).1).2,eSt 215200 (narV ([w0,w1,w2,w3]:List ItvItv) a (itvNot rel (([w0,w1,w2,w3]:List ItvItv).getD a.toNat zItvItv) (([w0,w1,w2,w3]:List ItvItv).getD b.toNat zItvItv)).1) c,eB 221000 (itvMeet ((narV ([w0,w1,w2,w3]:List ItvItv) a (itvNot rel (([w0,w1,w2,w3]:List ItvItv).getD a.toNat zItvItv) (([w0,w1,w2,w3]:List ItvItv).getD b.toNat zItvItv)).1).getD b.toNat zItvItv) (itvNot rel (([w0,w1,w2,w3]:List ItvItv).getD a.toNat zItvItv) (([w0,w1,w2,w3]:List ItvItv).getD b.toNat zItvItv)).2.1).2,eSt 221200 (narV (narV ([w0,w1,w2,w3]:List ItvItv) a (itvNot rel (([w0,w1,w2,w3]:List ItvItv).getD a.toNat zItvItv) (([w0,w1,w2,w3]:List ItvItv).getD b.toNat zItvItv)).1) b (itvNot rel (([w0,w1,w2,w3]:List ItvItv).getD a.toNat zItvItv) (([w0,w1,w2,w3]:List ItvItv).getD b.toNat zItvItv)).2.1) c,
    eB 900 (relV (itvNot rel (([w0,w1,w2,w3]:List ItvItv).getD a.toNat zItvItv) (([w0,w1,w2,w3]:List ItvItv).getD b.toNat zItvItv)) ([w0,w1,w2,w3]:List ItvItv) a b).2,eSt 910 ((relV (itvNot rel (([w0,w1,w2,w3]:List ItvItv).getD a.toNat zItvItv) (([w0,w1,w2,w3]:List ItvItv).getD b.toNat zItvItv)) ([w0,w1,w2,w3]:List ItvItv) a b).1) c])
  noLps [] [.ptr 0 10 (.int .i64 0) 0,.fn 125 .nil .nil,.ati .i64 30 .nil,.ati .i64 31 .nil,.ati .i64 32 .nil] [b10 0 10] rfl rfl
  (.atb 900 .nil) [b10 0 910] rfl rfl (fun _=>?_)
 conv=>arg 4;cbv
 simp only [go_sem,Nat.reduceEqDiff,Nat.reduceAdd,Nat.reduceBEq,Int.reduceToNat]
 simp (disch:=omega) only [sel4Lo,sel4Hi]
 repeat' (first|with_reducible apply And.intro|intro _)
 all_goals first
  | omega
  | exact iItvNot_e rfl rfl rfl
  | exact narrow_e (V:=[w0,w1,w2,w3]) rfl ha ha4
  | exact narrow_e (V:=narV [w0,w1,w2,w3] a _) (narV_len rfl) hb hb4
  | skip
 all_goals simp only [relV]
 all_goals (repeat' split)<;>first|rfl|simp_all;done
end Go.Proofs.YtjakhnhnjhafgaaGreat.Wk
