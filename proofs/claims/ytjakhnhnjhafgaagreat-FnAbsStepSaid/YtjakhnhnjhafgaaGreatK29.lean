/- A part of the proof. -/
import Derived.Test.YtjakhnhnjhafgaaGreatK26
import Derived.Test.YtjakhnhnjhafgaaGreatK27
import Derived.Test.YtjakhnhnjhafgaaGreatK28
set_option linter.unusedVariables false
set_option linter.unusedSimpArgs false
namespace Go.Proofs.YtjakhnhnjhafgaaGreat.Wk
open Go Go.RowKit Go.Deep Ow
structure Edge where
 to:Int
 V : List ItvItv
 c : ItvItv
def doR(op:Int)(x y:ItvItv):ItvItv×Bool:=(doV op x y,doOk op x y)
def actV(procs:List PrcProc)(sums:List SumSum)(i:InsIns)(V:List ItvItv)(c:ItvItv):List ItvItv×ItvItv×Bool:=
 if i.Op=5 then (V.set i.D.toNat ⟨i.Lo,i.Hi⟩,c,true)
 else if i.Op=6 then (loadV V c i.D i.A,c,(itvMeet (V.getD i.A.toNat zItvItv) cells4).2)
 else if i.Op=7 then (narV V i.A cells4,storeC V c i.A i.B,(itvMeet (V.getD i.A.toNat zItvItv) cells4).2)
 else if i.Op=10 then (callV V procs sums i.D i.A i.To,c,callOk V procs sums i.A i.To)
 else if i.Op=11 then ((relV (itvRel i.Rel (V.getD i.A.toNat zItvItv) (V.getD i.B.toNat zItvItv)) V i.A i.B).1,c,(relV (itvRel i.Rel (V.getD i.A.toNat zItvItv) (V.getD i.B.toNat zItvItv)) V i.A i.B).2)
 else (if (doR i.Op (V.getD i.A.toNat zItvItv) (V.getD i.B.toNat zItvItv)).2=true then (if i.Op=4 then divV V i.B else V).set i.D.toNat (doR i.Op (V.getD i.A.toNat zItvItv) (V.getD i.B.toNat zItvItv)).1 else V,c,(doR i.Op (V.getD i.A.toNat zItvItv) (V.getD i.B.toNat zItvItv)).2)
def relG(R:ItvItv×ItvItv×Bool)(V:List ItvItv)(a b:Int)(c:ItvItv)(to:Int):List Edge:=if (relV R V a b).2=true then [⟨to,(relV R V a b).1,c⟩] else []
def edgesV(procs:List PrcProc)(sums:List SumSum)(i:InsIns)(pc:Int)(V:List ItvItv)(c:ItvItv):List Edge:=
 if i.Op=12 then [] else if i.Op=9 then [⟨i.To,V,c⟩]
 else if i.Op=8 then relG (itvRel i.Rel (V.getD i.A.toNat zItvItv) (V.getD i.B.toNat zItvItv)) V i.A i.B c i.To++relG (itvNot i.Rel (V.getD i.A.toNat zItvItv) (V.getD i.B.toNat zItvItv)) V i.A i.B c (IntKind.i64.wrap (pc+1))
 else if (actV procs sums i V c).2.2=true then [⟨IntKind.i64.wrap (pc+1),(actV procs sums i V c).1,(actV procs sums i V c).2.1⟩] else []
def Edge.st(e:Edge):AbsEdge:=⟨e.to,⟨true,e.V,e.c⟩⟩
def stepOk(p:PrgProg)(sums:List SumSum)(i:InsIns)(pc:Int)(s:AbsState):Bool:=sumsOk p sums&&insOk i p.Procs.length 10&&absOk s&&s.On&&below pc 10
def absStep(p:PrgProg)(sums:List SumSum)(i:InsIns)(pc:Int)(s:AbsState):List AbsEdge:=
 if stepOk p sums i pc s=true then (edgesV p.Procs sums i pc s.Vars s.Cells).map Edge.st else []
def absHas(s:AbsState)(vars cells:List Int):Bool:=
 absOk s&&s.On&&decide (vars.length=4)&&decide (cells.length=4)&&(List.range 4).all (fun k=>itvHas (s.Vars.getD k zItvItv) (vars.getD k 0))&&cells.all (fun n=>itvHas s.Cells n)
theorem has_iff{a:ItvItv}{n:Int}:itvHas a n=true↔-32768≤a.Lo∧a.Lo≤n∧n≤a.Hi∧a.Hi≤32767:=by
 simp only [itvHas,itvOk,numOk,l1In,Bool.and_eq_true,decide_eq_true_eq];omega
def inV(V:List ItvItv)(x:List Int):Prop:=V.length=4∧x.length=4∧∀k:Nat,k<4→itvHas (V.getD k zItvItv) (x.getD k 0)=true
theorem inV.at_{V:List ItvItv}{x:List Int}(h:inV V x){k:Int}(h0:0≤k)(h4:k<4):itvHas (V.getD k.toNat zItvItv) (getI x k)=true:=h.2.2 k.toNat (by omega)
theorem inV.set{V:List ItvItv}{x:List Int}(h:inV V x){d:Int}(h0:0≤d)(h4:d<4){a:ItvItv}{n:Int}(hn:itvHas a n=true):inV (V.set d.toNat a) (setI x d n):=by
 refine ⟨by simp [h.1],by simp [setI,h.2.1],fun k hk=>?_⟩
 have h1:=h.1
 have h2:=h.2.1
 unfold setI
 rw [List.getD_eq_getElem?_getD,List.getD_eq_getElem?_getD,List.getElem?_set,List.getElem?_set]
 by_cases e:d.toNat=k
 · rw [if_pos e,if_pos e,if_pos (by omega),if_pos (by omega)];exact hn
 · rw [if_neg e,if_neg e,←List.getD_eq_getElem?_getD,←List.getD_eq_getElem?_getD];exact h.2.2 k hk
theorem setI_self{x:List Int}{k:Int}(h:k.toNat<x.length):setI x k (getI x k)=x:=by
 unfold setI getI
 rw [List.getD_eq_getElem?_getD,List.getElem?_eq_getElem h]
 simp
theorem meet_has{a b:ItvItv}{n:Int}(h1:itvHas a n=true)(h2:itvHas b n=true):(itvMeet a b).2=true∧itvHas (itvMeet a b).1 n=true:=by
 have ha:=h1;have hb:=h2
 rw [has_iff] at ha hb
 have oa:itvOk a=true:=by simp only [itvHas,Bool.and_eq_true] at h1;exact h1.1
 have ob:itvOk b=true:=by simp only [itvHas,Bool.and_eq_true] at h2;exact h2.1
 have om:itvOk ⟨mx a.Lo b.Lo,mn a.Hi b.Hi⟩=true:=by
  rw [meet_ok oa ob];simp only [mx,mn,decide_eq_true_eq];grind
 simp only [itvMeet,oa,ob,om,Bool.and_self,if_true,true_and]
 rw [has_iff];simp only [mx,mn,decide_eq_true_eq];grind
theorem inV.nar{V:List ItvItv}{x:List Int}(h:inV V x){v:Int}(h0:0≤v)(h4:v<4){a:ItvItv}(hn:itvHas a (getI x v)=true):(itvMeet (V.getD v.toNat zItvItv) a).2=true∧inV (narV V v a) x:=by
 obtain ⟨h1,h2⟩:=meet_has (h.at_ h0 h4) hn
 refine ⟨h1,?_⟩
 have:=h.set h0 h4 h2
 rwa [setI_self (by have:=h.2.1;omega)] at this
theorem inV.rel{V:List ItvItv}{x:List Int}(h:inV V x){a b:Int}(ha:0≤a)(ha4:a<4)(hb:0≤b)(hb4:b<4){R:ItvItv×ItvItv×Bool}(hR:R.2.2=true)(h1:itvHas R.1 (getI x a)=true)(h2:itvHas R.2.1 (getI x b)=true):(relV R V a b).2=true∧inV (relV R V a b).1 x:=by
 obtain ⟨k1,k2⟩:=h.nar ha ha4 h1
 obtain ⟨k3,k4⟩:=k2.nar hb hb4 h2
 unfold relV
 rw [if_pos hR,if_pos k1]
 exact ⟨k3,k4⟩
theorem rel_has{rel:Int}{a b:ItvItv}{x y:Int}(ha:itvHas a x=true)(hb:itvHas b y=true)(h:relHolds rel x y=true):(itvRel rel a b).2.2=true∧itvHas (itvRel rel a b).1 x=true∧itvHas (itvRel rel a b).2.1 y=true:=by
 have oa:itvOk a=true:=by simp only [itvHas,Bool.and_eq_true] at ha;exact ha.1
 have ob:itvOk b=true:=by simp only [itvHas,Bool.and_eq_true] at hb;exact hb.1
 simp only [has_iff] at *
 have w1:IntKind.i64.wrap (b.Hi-1)=b.Hi-1:=by rw [wrapI]<;>omega
 have w2:IntKind.i64.wrap (a.Lo+1)=a.Lo+1:=by rw [wrapI]<;>omega
 have w3:IntKind.i64.wrap (b.Lo+1)=b.Lo+1:=by rw [wrapI]<;>omega
 have w4:IntKind.i64.wrap (b.Lo-1)=b.Lo-1:=by rw [wrapI]<;>omega
 have w5:IntKind.i64.wrap (a.Lo-1)=a.Lo-1:=by rw [wrapI]<;>omega
 unfold relHolds at h
 by_cases r1:rel=1
 · subst r1
   simp [itvRel,oa,ob,l2Both,w1,w2,mn,mx] at h ⊢
   grind
 by_cases r2:rel=2
 · subst r2
   simp [itvRel,oa,ob,l2Both,mn,mx] at h ⊢
   grind
 by_cases r3:rel=3
 · subst r3
   simp [itvRel,oa,ob,l2Both,mn,mx] at h ⊢
   grind
 by_cases r4:rel=4
 · subst r4
   simp [itvRel,oa,ob,l2Other,l2Cut,w2,w3,w4,w5] at h ⊢
   grind
 · simp [r1,r2,r3,r4] at h
theorem not_has{rel:Int}{a b:ItvItv}{x y:Int}(ha:itvHas a x=true)(hb:itvHas b y=true)(hr:1≤rel∧rel≤4)(h:relHolds rel x y=false):(itvNot rel a b).2.2=true∧itvHas (itvNot rel a b).1 x=true∧itvHas (itvNot rel a b).2.1 y=true:=by
 rcases (by omega:rel=1∨rel=2∨rel=3∨rel=4) with rfl|rfl|rfl|rfl
 · obtain ⟨k1,k2,k3⟩:=rel_has (rel:=2) hb ha (by simp [relHolds] at h ⊢;omega)
   simp [itvNot,k1,k2,k3]
 · obtain ⟨k1,k2,k3⟩:=rel_has (rel:=1) hb ha (by simp [relHolds] at h ⊢;omega)
   simp [itvNot,k1,k2,k3]
 · obtain ⟨k1,k2,k3⟩:=rel_has (rel:=4) ha hb (by simp [relHolds] at h ⊢;omega)
   simp [itvNot,k1,k2,k3]
 · obtain ⟨k1,k2,k3⟩:=rel_has (rel:=3) ha hb (by simp [relHolds] at h ⊢;omega)
   simp [itvNot,k1,k2,k3]
theorem fold_has{lo hi v:Int}(h1:lo≤v)(h2:v≤hi)(h3:-1099511627776≤lo)(h4:hi≤1099511627776):itvHas (itvFold lo hi) (numWrap v)=true:=by
 rw [has_iff,itvFold,if_neg (by omega)]
 have e1:turnW lo=(lo+32768) / 65536:=by rw [turnW,wrapI]<;>omega
 have e2:turnW hi=(hi+32768) / 65536:=by rw [turnW,wrapI]<;>omega
 rw [e1,e2]
 unfold numW numWrap
 split
 · simp only;omega
 · simp only;omega
theorem quo_pos{u y:Int}(hy:0<y):u.tdiv y=if 0≤u then u / y else -((-u) / y):=by
 split
 · rename_i h;exact Int.tdiv_eq_ediv_of_nonneg h
 · have h:0≤-u:=by omega
   rw [←Int.tdiv_eq_ediv_of_nonneg h,Int.neg_tdiv,Int.neg_neg]
theorem ediv_anti{u y z:Int}(hu:0≤u)(hy:0<y)(hz:y≤z):u / z≤u / y:=by
 have hq:0≤u / z:=Int.ediv_nonneg hu (by omega)
 refine (Int.le_ediv_iff_mul_le hy).2 ?_
 have h1:u / z*z≤u:=Int.ediv_mul_le u (by omega)
 have h2:u / z*y≤u / z*z:=Int.mul_le_mul_of_nonneg_left hz hq
 omega
theorem quo_in{l h u y z w:Int}(h1:l≤u)(h2:u≤h)(hy:0<y)(hz:y≤z)(hw:z≤w):
 min (l.tdiv y) (l.tdiv w)≤u.tdiv z∧u.tdiv z≤max (h.tdiv y) (h.tdiv w):=by
 have m:∀a b:Int,a≤b→a / z≤b / z:=fun a b h=>Int.ediv_le_ediv (by omega) h
 rw [quo_pos hy,quo_pos (u:=l) (y:=w) (by omega),quo_pos (u:=u) (y:=z) (by omega),quo_pos (u:=h) hy,quo_pos (u:=h) (y:=w) (by omega)]
 have n:∀a:Int,0≤a→0≤a / z:=fun a h=>Int.ediv_nonneg h (by omega)
 have a1:∀a:Int,0≤a→a / w≤a / z∧a / z≤a / y:=fun a h=>⟨ediv_anti h (by omega) hw,ediv_anti h hy hz⟩
 constructor
 · by_cases hu:0≤u
   · rw [if_pos hu]
     by_cases hl:0≤l
     · rw [if_pos hl,if_pos hl];have:=m l u h1;have:=a1 l hl;omega
     · rw [if_neg hl,if_neg hl];have:=n u hu;have:=a1 (-l) (by omega);have:=n (-l) (by omega);omega
   · rw [if_neg hu,if_neg (by omega),if_neg (by omega)]
     have:=m (-u) (-l) (by omega);have:=a1 (-l) (by omega);omega
 · by_cases hu:0≤u
   · rw [if_pos hu,if_pos (by omega),if_pos (by omega)]
     have:=m u h h2;have:=a1 h (by omega);omega
   · rw [if_neg hu]
     by_cases hh:0≤h
     · rw [if_pos hh,if_pos hh];have:=n (-u) (by omega);have:=a1 h hh;have:=n h hh;omega
     · rw [if_neg hh,if_neg hh];have:=m (-h) (-u) (by omega);have:=a1 (-h) (by omega);omega
theorem tdiv_small{x y:Int}(h1:-32768≤x)(h2:x≤32767):-32768≤x.tdiv y∧x.tdiv y≤32768:=by
 have h:=Int.natAbs_tdiv_le_natAbs x y
 omega
theorem qd_eq{x y:Int}(h1:-32768≤x)(h2:x≤32767):qd x y=x.tdiv y:=by
 have:=tdiv_small (y:=y) h1 h2
 rw [qd,wrapI]<;>omega
theorem span_in{a b c d v:Int}(h1:min (min a b) (min c d)≤v)(h2:v≤max (max a b) (max c d)):(span4 a b c d).Lo≤v∧v≤(span4 a b c d).Hi:=by
 simp only [span4,mn,mx,decide_eq_true_eq]
 grind
theorem span_small{a b c d:Int}{M:Int}(ha:-M≤a∧a≤M)(hb:-M≤b∧b≤M)(hc:-M≤c∧c≤M)(hd:-M≤d∧d≤M):-M≤(span4 a b c d).Lo∧(span4 a b c d).Hi≤M:=by
 simp only [span4,mn,mx,decide_eq_true_eq]
 grind
end Go.Proofs.YtjakhnhnjhafgaaGreat.Wk
namespace Go.Proofs.YtjakhnhnjhafgaaGreat.Wk
open Go Go.RowKit Go.Deep Ow
theorem lin_in{k c d y:Int}(h1:c≤y)(h2:y≤d):min (k*c) (k*d)≤k*y∧k*y≤max (k*c) (k*d):=by
 by_cases hk:0≤k
 · have a1:=Int.mul_le_mul_of_nonneg_left h1 hk
   have a2:=Int.mul_le_mul_of_nonneg_left h2 hk
   omega
 · have a1:=Int.mul_le_mul_of_nonpos_left (a:=k) (by omega) h1
   have a2:=Int.mul_le_mul_of_nonpos_left (a:=k) (by omega) h2
   omega
theorem mul_in{l h c d x y:Int}(h1:l≤x)(h2:x≤h)(h3:c≤y)(h4:y≤d):min (min (l*c) (l*d)) (min (h*c) (h*d))≤x*y∧x*y≤max (max (l*c) (l*d)) (max (h*c) (h*d)):=by
 have a:=lin_in (k:=y) h1 h2
 rw [Int.mul_comm y,Int.mul_comm y,Int.mul_comm y] at a
 have b:=lin_in (k:=l) h3 h4
 have c:=lin_in (k:=h) h3 h4
 omega
theorem mul_small{x y:Int}(h1:-32768≤x∧x≤32767)(h2:-32768≤y∧y≤32767):-1073741824≤x*y∧x*y≤1073741824:=by
 have a:=mul_in h1.1 h1.2 h2.1 h2.2
 omega
theorem mulQ_eq{a b:ItvItv}(ha:-32768≤a.Lo∧a.Lo≤32767)(ha':-32768≤a.Hi∧a.Hi≤32767)(hb:-32768≤b.Lo∧b.Lo≤32767)(hb':-32768≤b.Hi∧b.Hi≤32767):mulQ a b=span4 (a.Lo*b.Lo) (a.Lo*b.Hi) (a.Hi*b.Lo) (a.Hi*b.Hi):=by
 have w:∀x y:Int,(-32768≤x∧x≤32767)→(-32768≤y∧y≤32767)→W64 (x*y)=x*y:=fun x y h1 h2=>by
  have:=mul_small h1 h2
  exact wrapI (by omega) (by omega)
 rw [mulQ,w _ _ ha hb,w _ _ ha hb',w _ _ ha' hb,w _ _ ha' hb']
theorem div_in{a b:ItvItv}{x y:Int}(ha:itvHas a x=true)(hb:itvHas b y=true)(hy:y≠0):(divB a b).Lo≤x.tdiv y∧x.tdiv y≤(divB a b).Hi∧-32768≤(divB a b).Lo∧(divB a b).Hi≤32768:=by
 rw [has_iff] at ha hb
 have q1:∀y,qd a.Lo y=a.Lo.tdiv y:=fun y=>qd_eq (by omega) (by omega)
 have q2:∀y,qd a.Hi y=a.Hi.tdiv y:=fun y=>qd_eq (by omega) (by omega)
 have s1:∀y,-32768≤a.Lo.tdiv y∧a.Lo.tdiv y≤32768:=fun y=>tdiv_small (by omega) (by omega)
 have s2:∀y,-32768≤a.Hi.tdiv y∧a.Hi.tdiv y≤32768:=fun y=>tdiv_small (by omega) (by omega)
 have neg:b.Lo<0→-32768≤(divNeg a b).Lo∧(divNeg a b).Hi≤32768∧(y<0→(divNeg a b).Lo≤x.tdiv y∧x.tdiv y≤(divNeg a b).Hi):=fun hl=>by
  unfold divNeg
  rw [q1,q1,q2,q2]
  obtain ⟨k1,k2⟩:=span_small (s1 b.Lo) (s1 (mn b.Hi (-1))) (s2 b.Lo) (s2 (mn b.Hi (-1)))
  refine ⟨k1,k2,fun hn=>?_⟩
  have hm:mn b.Hi (-1)<0∧y≤mn b.Hi (-1):=by
   simp only [mn,decide_eq_true_eq];split<;>omega
  obtain ⟨e1,e2⟩:=quo_in (l:=a.Lo) (h:=a.Hi) (u:=x) (y:=-(mn b.Hi (-1))) (z:=-y) (w:=-b.Lo) ha.2.1 ha.2.2.1 (by omega) (by omega) (by omega)
  simp only [Int.tdiv_neg] at e1 e2
  refine span_in ?_ ?_<;>omega
 unfold divB
 split
 · rename_i h0
   rw [q1,q1,q2,q2]
   obtain ⟨k1,k2⟩:=span_small (s1 (mx b.Lo 1)) (s1 b.Hi) (s2 (mx b.Lo 1)) (s2 b.Hi)
   have hm:0<mx b.Lo 1∧mx b.Lo 1≤y:=by
    simp only [mx,decide_eq_true_eq];split<;>omega
   obtain ⟨e1,e2⟩:=quo_in (l:=a.Lo) (h:=a.Hi) (u:=x) (y:=mx b.Lo 1) (z:=y) (w:=b.Hi) ha.2.1 ha.2.2.1 hm.1 hm.2 hb.2.2.1
   obtain ⟨i1,i2⟩:=span_in (a:=a.Lo.tdiv (mx b.Lo 1)) (b:=a.Lo.tdiv b.Hi) (c:=a.Hi.tdiv (mx b.Lo 1)) (d:=a.Hi.tdiv b.Hi) (v:=x.tdiv y) (by omega) (by omega)
   exact ⟨i1,i2,k1,k2⟩
 · rename_i h0
   obtain ⟨k1,k2,k3⟩:=neg (by omega)
   split
   · rename_i h1
     obtain ⟨i1,i2⟩:=k3 (by omega)
     exact ⟨i1,i2,k1,k2⟩
   · rename_i h1
     have hA:-32768≤(divAcr a b).Lo∧(divAcr a b).Hi≤32768∧(0<y→(divAcr a b).Lo≤x.tdiv y∧x.tdiv y≤(divAcr a b).Hi):=by
      unfold divAcr
      rw [q1,q2]
      obtain ⟨m1,m2⟩:=span_small (M:=32768) (a:=a.Lo) (b:=a.Lo.tdiv b.Hi) (c:=a.Hi) (d:=a.Hi.tdiv b.Hi) (by omega) (s1 b.Hi) (by omega) (s2 b.Hi)
      refine ⟨m1,m2,fun hp=>?_⟩
      obtain ⟨e1,e2⟩:=quo_in (l:=a.Lo) (h:=a.Hi) (u:=x) (y:=1) (z:=y) (w:=b.Hi) ha.2.1 ha.2.2.1 (by omega) (by omega) hb.2.2.1
      simp only [Int.tdiv_one] at e1 e2
      refine span_in ?_ ?_<;>omega
     obtain ⟨m1,m2,m3⟩:=hA
     simp only [mn,mx,decide_eq_true_eq]
     rcases (by omega:y<0∨0<y) with hy'|hy'
     · obtain ⟨i1,i2⟩:=k3 hy'
       refine ⟨?_,?_,?_,?_⟩<;>split<;>omega
     · obtain ⟨i1,i2⟩:=m3 hy'
       refine ⟨?_,?_,?_,?_⟩<;>split<;>omega
theorem do_has{op x y:Int}{a b:ItvItv}(ho:1≤op∧op≤4)(ha:itvHas a x=true)(hb:itvHas b y=true)(hz:op=4→y≠0):
 doOk op a b=true∧(numDo op x y).2=true∧itvHas (doV op a b) (numDo op x y).1=true:=by
 have oa:itvOk a=true:=by simp only [itvHas,Bool.and_eq_true] at ha;exact ha.1
 have ob:itvOk b=true:=by simp only [itvHas,Bool.and_eq_true] at hb;exact hb.1
 have ha':=ha;have hb':=hb
 rw [has_iff] at ha hb
 have nx:numOk x=true:=by rw [numOk_iff];omega
 have ny:numOk y=true:=by rw [numOk_iff];omega
 have hok:doOk op a b=true:=by
  have h4:op≠4∨b.Lo≠0∨b.Hi≠0:=by
   by_cases h:op=4
   · have:=hz h;omega
   · exact .inl h
  simp [doOk,oa,ob];omega
 refine ⟨hok,?_⟩
 rw [doV,if_pos hok]
 rcases (by omega:op=1∨op=2∨op=3∨op=4) with rfl|rfl|rfl|rfl
 · refine ⟨by simp [numDo,nx,ny],?_⟩
   have e:(numDo 1 x y).1=numWrap (x+y):=by simp [numDo,nx,ny]
   have e2:doB 1 a b=⟨a.Lo+b.Lo,a.Hi+b.Hi⟩:=by
    show (⟨W64 _,W64 _⟩:ItvItv)=_
    rw [show W64 (a.Lo+b.Lo)=_ from wrapI (by omega) (by omega),show W64 (a.Hi+b.Hi)=_ from wrapI (by omega) (by omega)]
   rw [e,e2];exact fold_has (by simp only;omega) (by simp only;omega) (by simp only;omega) (by simp only;omega)
 · refine ⟨by simp [numDo,nx,ny],?_⟩
   have e:(numDo 2 x y).1=numWrap (x-y):=by simp [numDo,nx,ny]
   have e2:doB 2 a b=⟨a.Lo-b.Hi,a.Hi-b.Lo⟩:=by
    show (⟨W64 _,W64 _⟩:ItvItv)=_
    rw [show W64 (a.Lo-b.Hi)=_ from wrapI (by omega) (by omega),show W64 (a.Hi-b.Lo)=_ from wrapI (by omega) (by omega)]
   rw [e,e2];exact fold_has (by simp only;omega) (by simp only;omega) (by simp only;omega) (by simp only;omega)
 · refine ⟨by simp [numDo,nx,ny],?_⟩
   have e:(numDo 3 x y).1=numWrap (x*y):=by simp [numDo,nx,ny]
   have e2:doB 3 a b=mulQ a b:=rfl
   obtain ⟨m1,m2⟩:=mul_in ha.2.1 ha.2.2.1 hb.2.1 hb.2.2.1
   obtain ⟨s1,s2⟩:=span_in m1 m2
   obtain ⟨t1,t2⟩:=span_small (mul_small (x:=a.Lo) (y:=b.Lo) (by omega) (by omega)) (mul_small (x:=a.Lo) (y:=b.Hi) (by omega) (by omega)) (mul_small (x:=a.Hi) (y:=b.Lo) (by omega) (by omega)) (mul_small (x:=a.Hi) (y:=b.Hi) (by omega) (by omega))
   rw [e,e2,mulQ_eq (by omega) (by omega) (by omega) (by omega)];exact fold_has s1 s2 (by omega) (by omega)
 · have hy:=hz rfl
   refine ⟨by simp [numDo,nx,ny,hy],?_⟩
   have e:(numDo 4 x y).1=numWrap (x.tdiv y):=by simp [numDo,nx,ny,hy]
   have e2:doB 4 a b=divB a b:=rfl
   obtain ⟨s1,s2,t1,t2⟩:=div_in ha' hb' hy
   rw [e,e2];exact fold_has s1 s2 (by omega) (by omega)
end Go.Proofs.YtjakhnhnjhafgaaGreat.Wk
namespace Go.Proofs.YtjakhnhnjhafgaaGreat.Wk
open Go Go.RowKit Go.Deep Ow
theorem ins_lone{i:InsIns}{n:Int}(h:insOk i n 10=true):insOk (loneIns i) 1 2=true∧insOk (loneIns i) 1 10=true:=by
 obtain ⟨o,d,a,b,r,l,hi,t⟩:=i
 have h1:1≤o∧o≤12:=by simp only [insOk,Bool.and_eq_true,decide_eq_true_eq] at h;omega
 rcases (by omega:o=1∨o=2∨o=3∨o=4∨o=5∨o=6∨o=7∨o=8∨o=9∨o=10∨o=11∨o=12) with rfl|rfl|rfl|rfl|rfl|rfl|rfl|rfl|rfl|rfl|rfl|rfl <;>
  (simp [insOk,formOk,restOk,loneIns,below] at h ⊢;grind)
theorem prg_lone{i:InsIns}{n:Int}(h:insOk i n 10=true):prgOk (owLone i)=true:=by
 have hi:=(ins_lone h).1
 simp only [prgOk,owLone,List.length_cons,List.length_nil,List.all_cons,List.all_nil,Bool.and_true,procOk]
 have hz:insOk ⟨12,0,0,0,0,0,0,0⟩ 1 2=true:=by decide
 simp [hi,hz,itvOk,numOk,insEnds]
theorem run_lone{i:InsIns}{n inp:Int}{V C:List Int}(h:insOk i n 10=true)(hV:numsOk V 4=true)(hC:numsOk C 4=true):
 runOk (owLone i) ⟨1,[⟨0,0,V,C⟩],0,0,0⟩=true∧runStep (owLone i) ⟨1,[⟨0,0,V,C⟩],0,0,0⟩ inp=stepAt (owLone i) [⟨0,0,V,C⟩] ⟨0,0,V,C⟩ (loneIns i) inp:=by
 have hp:=prg_lone h
 have hat:prgAt (owLone i) 0 0=some (loneIns i):=by simp [prgAt,owLone]
 have hok:runOk (owLone i) ⟨1,[⟨0,0,V,C⟩],0,0,0⟩=true:=by
  simp [runOk,hp,nestOk,frameOk,hat,hV,hC,numOk]
 refine ⟨hok,?_⟩
 rw [runStep,hok,if_pos rfl,if_pos rfl]
 simp [stepped,hat]
def inC(c:ItvItv)(x:List Int):Prop:=x.length=4∧∀k:Nat,k<4→itvHas c (x.getD k 0)=true
theorem inC.at_{c:ItvItv}{x:List Int}(h:inC c x){k:Int}(h0:0≤k)(h4:k<4):itvHas c (getI x k)=true:=h.2 k.toNat (by omega)
theorem inC.set{c c2:ItvItv}{x:List Int}(h:inC c x){d n:Int}(hn:itvHas c2 n=true)(hle:∀m,itvHas c m=true→itvHas c2 m=true):inC c2 (setI x d n):=by
 refine ⟨by simp [setI,h.1],fun k hk=>?_⟩
 have h1:=h.1
 unfold setI
 rw [List.getD_eq_getElem?_getD,List.getElem?_set]
 by_cases e:d.toNat=k
 · rw [if_pos e,if_pos (by omega)];exact hn
 · rw [if_neg e,←List.getD_eq_getElem?_getD];exact hle _ (h.2 k hk)
theorem join_has{a b:ItvItv}{m n:Int}(ha:itvHas a m=true)(hb:itvHas b n=true):itvHas (itvJoin a b) n=true∧∀k,itvHas a k=true→itvHas (itvJoin a b) k=true:=by
 have oa:itvOk a=true:=by simp only [itvHas,Bool.and_eq_true] at ha;exact ha.1
 have ob:itvOk b=true:=by simp only [itvHas,Bool.and_eq_true] at hb;exact hb.1
 rw [has_iff] at ha hb
 refine ⟨?_,fun k hk=>?_⟩
 · rw [has_iff];simp only [itvJoin,oa,ob,Bool.and_self,if_true,mn,mx,decide_eq_true_eq];grind
 · rw [has_iff] at hk ⊢;simp only [itvJoin,oa,ob,Bool.and_self,if_true,mn,mx,decide_eq_true_eq];grind
def failsV(procs:List PrcProc)(i:InsIns)(V:List ItvItv):Bool:=if i.Op=4 then itvHas (V.getD i.B.toNat zItvItv) 0
 else if i.Op=6∨i.Op=7 then !itvIn (V.getD i.A.toNat zItvItv) ⟨0,3⟩
 else if i.Op=10 then !itvIn (V.getD i.A.toNat zItvItv) (l7Given ⟨procs⟩ i)
 else if i.Op=11 then (itvNot i.Rel (V.getD i.A.toNat zItvItv) (V.getD i.B.toNat zItvItv)).2.2
 else false
theorem cell_has{n:Int}:itvHas cells4 n=below n 4:=by
 have h1:itvOk cells4=true:=by decide
 rw [itvHas,h1,Bool.true_and,l1In,below,Bool.eq_iff_iff]
 simp only [Bool.and_eq_true,decide_eq_true_eq]
 show 0≤n∧n≤3↔_
 omega
theorem cell_out{a:ItvItv}{n:Int}(h:itvHas a n=true)(hn:below n 4=false):itvIn a ⟨0,3⟩=false:=by
 rw [has_iff] at h
 rw [Bool.eq_false_iff]
 intro hc
 simp only [itvIn,Bool.and_eq_true,decide_eq_true_eq] at hc
 simp only [below,Bool.and_eq_false_iff,decide_eq_false_iff_not] at hn
 omega
theorem fail_div'{i:InsIns}{p:PrgProg}{fs:List RunFrame}{f:RunFrame}{inp:Int}(hop:i.Op=4)(hb:getI f.Vars i.B=0):(stepAt p fs f i inp).State=3:=by
 simp [stepAt,hop,hb,numDo,runFail]
theorem without_has{a:ItvItv}{n:Int}(h:itvHas a n=true)(hn:n≠0):itvHas (without a ⟨0,0⟩) n=true:=by
 rw [has_iff] at *
 have w2:IntKind.i64.wrap (a.Lo+1)=a.Lo+1:=by rw [wrapI]<;>omega
 have w3:IntKind.i64.wrap (a.Hi-1)=a.Hi-1:=by rw [wrapI]<;>omega
 simp only [without,w2,w3]
 grind
theorem step_in{j:InsIns}{p:PrgProg}{procs:List PrcProc}{sums:List SumSum}{inp:Int}{V:List ItvItv}{c:ItvItv}{x y:List Int}(hj:insOk j 1 10=true)(h10:j.Op≠10)(h12:j.Op≠12)(hV:inV V x)(hc:inC c y):
 ((stepAt p [⟨0,0,x,y⟩] ⟨0,0,x,y⟩ j inp).State=3∧failsV procs j V=true) ∨
 ∃ f,stepAt p [⟨0,0,x,y⟩] ⟨0,0,x,y⟩ j inp=goes [f]∧∃e∈edgesV procs sums j 0 V c,e.to=f.Pc∧inV e.V f.Vars∧inC e.c f.Cells:=by
 have hr:1≤j.Op∧j.Op≤12∧(0≤j.D∧j.D<4)∧(0≤j.A∧j.A<4)∧(0≤j.B∧j.B<4)∧restOk j 1 10=true:=by
  simp only [insOk,Bool.and_eq_true,decide_eq_true_eq,varOk] at hj
  obtain ⟨⟨⟨⟨⟨⟨h1,h2⟩,-⟩,h4⟩,h5⟩,h6⟩,h7⟩:=hj
  exact ⟨h1,h2,h4,h5,h6,h7⟩
 obtain ⟨o1,o2,⟨d0,d4⟩,⟨a0,a4⟩,⟨b0,b4⟩,hrest⟩:=hr
 have hA:=hV.at_ a0 a4
 have hB:=hV.at_ b0 b4
 have w1:IntKind.i64.wrap (0+1)=1:=by rw [wrapI]<;>omega
 have one:∀{R:List ItvItv×ItvItv×Bool} {vs ys:List Int} {pc:Int},actV procs sums j V c=R→R.2.2=true→pc=1→inV R.1 vs→inC R.2.1 ys→j.Op≠8→j.Op≠9 →
  ∃ e∈edgesV procs sums j 0 V c,e.to=(⟨0,pc,vs,ys⟩:RunFrame).Pc∧inV e.V (⟨0,pc,vs,ys⟩:RunFrame).Vars∧inC e.c (⟨0,pc,vs,ys⟩:RunFrame).Cells:=fun hR h2 hp h3 h4 n8 n9=>by
  subst hR hp
  rw [edgesV,if_neg h12,if_neg n9,if_neg n8,if_pos h2,w1]
  exact ⟨_,List.mem_singleton.2 rfl,rfl,h3,h4⟩
 rcases (by omega:j.Op≤4∨j.Op=5∨j.Op=6∨j.Op=7∨j.Op=8∨j.Op=9∨j.Op=11) with ho|ho|ho|ho|ho|ho|ho
 · by_cases hz:j.Op=4∧getI x j.B=0
   · left
     refine ⟨fail_div' hz.1 hz.2,?_⟩
     rw [failsV,if_pos hz.1,←hz.2];exact hB
   · right
     obtain ⟨k1,k2,k3⟩:=do_has ⟨o1,ho⟩ hA hB (fun h h0=>hz ⟨h,h0⟩)
     refine ⟨⟨0,1,setI x j.D (numDo j.Op (getI x j.A) (getI x j.B)).1,y⟩,by simp [stepAt,ho,k2,setLast],?_⟩
     have e5:¬j.Op=5:=by omega
     have e6:¬j.Op=6:=by omega
     have e7:¬j.Op=7:=by omega
     have e11:¬j.Op=11:=by omega
     have hact:actV procs sums j V c=((if j.Op=4 then divV V j.B else V).set j.D.toNat (doV j.Op (V.getD j.A.toNat zItvItv) (V.getD j.B.toNat zItvItv)),c,true):=by
      simp only [actV,if_neg e5,if_neg e6,if_neg e7,if_neg h10,if_neg e11,doR,k1,if_true]
     refine one hact rfl rfl ?_ hc (by omega) (by omega)
     refine inV.set ?_ d0 d4 k3
     split
     · rename_i h4
       have hne:getI x j.B≠0:=fun h0=>hz ⟨h4,h0⟩
       have hw:itvHas (without (V.getD j.B.toNat zItvItv) ⟨0,0⟩) (getI x j.B)=true:=without_has hB hne
       have:=hV.set b0 b4 hw
       rwa [setI_self (by have:=hV.2.1;omega)] at this
     · exact hV
 · right
   have hI:itvOk ⟨j.Lo,j.Hi⟩=true:=by simpa [restOk,ho] using hrest
   refine ⟨⟨0,1,setI x j.D (j.Lo+inp % (j.Hi-j.Lo+1)),y⟩,by simp [stepAt,ho,setLast],?_⟩
   have hact:actV procs sums j V c=(V.set j.D.toNat ⟨j.Lo,j.Hi⟩,c,true):=by simp only [actV,if_pos ho]
   refine one hact rfl rfl (hV.set d0 d4 ?_) hc (by omega) (by omega)
   rw [has_iff]
   simp only [itvOk,numOk,Bool.and_eq_true,decide_eq_true_eq] at hI
   have m1:=Int.emod_nonneg inp (b:=j.Hi-j.Lo+1) (by omega)
   have m2:=Int.emod_lt_of_pos inp (b:=j.Hi-j.Lo+1) (by omega)
   simp only;omega
 · have e5:¬j.Op=5:=by omega
   by_cases hb:below (getI x j.A) 4=true
   · right
     have hn:=hV.nar a0 a4 (a:=cells4) (by rw [cell_has];exact hb)
     refine ⟨⟨0,1,setI x j.D (getI y (getI x j.A)),y⟩,by simp [stepAt,ho,hb,setLast],?_⟩
     have hact:actV procs sums j V c=((narV V j.A cells4).set j.D.toNat c,c,true):=by
      simp only [actV,if_neg e5,if_pos ho,loadV,hn.1,if_true]
     refine one hact rfl rfl (hn.2.set d0 d4 ?_) hc (by omega) (by omega)
     simp only [below,Bool.and_eq_true,decide_eq_true_eq] at hb
     exact hc.at_ hb.1 hb.2
   · left
     have hb:=Bool.not_eq_true _▸hb
     refine ⟨by simp [stepAt,ho,hb,runFail],?_⟩
     simp only [failsV,ho,cell_out hA hb];simp
 · have e5:¬j.Op=5:=by omega
   have e6:¬j.Op=6:=by omega
   by_cases hb:below (getI x j.A) 4=true
   · right
     have hn:=hV.nar a0 a4 (a:=cells4) (by rw [cell_has];exact hb)
     refine ⟨⟨0,1,x,setI y (getI x j.A) (getI x j.B)⟩,by simp [stepAt,ho,hb,setLast],?_⟩
     have hact:actV procs sums j V c=(narV V j.A cells4,itvJoin c (V.getD j.B.toNat zItvItv),true):=by
      simp only [actV,if_neg e5,if_neg e6,if_pos ho,storeC,hn.1,if_true]
     obtain ⟨q1,q2⟩:=join_has (hc.at_ (k:=0) (by omega) (by omega)) hB
     exact one hact rfl rfl hn.2 (hc.set q1 q2) (by omega) (by omega)
   · left
     have hb:=Bool.not_eq_true _▸hb
     refine ⟨by simp [stepAt,ho,hb,runFail],?_⟩
     simp only [failsV,ho,cell_out hA hb];simp
 · right
   have hrel:1≤j.Rel∧j.Rel≤4:=by
    simp [restOk,ho,relOk] at hrest
    exact hrest.1
   by_cases hh:relHolds j.Rel (getI x j.A) (getI x j.B)=true
   · obtain ⟨r1,r2,r3⟩:=rel_has hA hB hh
     obtain ⟨k1,k2⟩:=hV.rel a0 a4 b0 b4 r1 r2 r3
     refine ⟨⟨0,j.To,x,y⟩,by simp [stepAt,ho,hh,setLast],?_⟩
     rw [edgesV,if_neg h12,if_neg (by omega),if_pos ho]
     refine ⟨_,List.mem_append_left _ (by rw [relG,if_pos k1];exact List.mem_singleton.2 rfl),rfl,k2,hc⟩
   · have hh:=Bool.not_eq_true _▸hh
     obtain ⟨r1,r2,r3⟩:=not_has hA hB hrel hh
     obtain ⟨k1,k2⟩:=hV.rel a0 a4 b0 b4 r1 r2 r3
     refine ⟨⟨0,1,x,y⟩,by simp [stepAt,ho,hh,setLast],?_⟩
     rw [edgesV,if_neg h12,if_neg (by omega),if_pos ho]
     refine ⟨_,List.mem_append_right _ (by rw [relG,if_pos k1];exact List.mem_singleton.2 rfl),w1,k2,hc⟩
 · right
   refine ⟨⟨0,j.To,x,y⟩,by simp [stepAt,ho,setLast],?_⟩
   rw [edgesV,if_neg h12,if_pos ho]
   exact ⟨_,List.mem_singleton.2 rfl,rfl,hV,hc⟩
 · have hrel:1≤j.Rel∧j.Rel≤4:=by simpa [restOk,ho,relOk] using hrest
   by_cases hh:relHolds j.Rel (getI x j.A) (getI x j.B)=true
   · right
     obtain ⟨r1,r2,r3⟩:=rel_has hA hB hh
     obtain ⟨k1,k2⟩:=hV.rel a0 a4 b0 b4 r1 r2 r3
     refine ⟨⟨0,1,x,y⟩,by simp [stepAt,ho,hh,setLast],?_⟩
     have hact:actV procs sums j V c=((relV (itvRel j.Rel (V.getD j.A.toNat zItvItv) (V.getD j.B.toNat zItvItv)) V j.A j.B).1,c,(relV (itvRel j.Rel (V.getD j.A.toNat zItvItv) (V.getD j.B.toNat zItvItv)) V j.A j.B).2):=by simp [actV,ho]
     exact one hact k1 rfl k2 hc (by omega) (by omega)
   · left
     have hh:=Bool.not_eq_true _▸hh
     obtain ⟨r1,-,-⟩:=not_has hA hB hrel hh
     exact ⟨by simp [stepAt,ho,hh,runFail],by simp only [failsV,ho,r1];simp⟩
end Go.Proofs.YtjakhnhnjhafgaaGreat.Wk
