/- A part of the proof. -/
import Derived.Test.YtjakhnhnjhafgaaGreatK29
import Derived.Test.YtjakhnhnjhafgaaGreatK30
import Derived.Test.YtjakhnhnjhafgaaGreatK21
import Derived.Test.YtjakhnhnjhafgaaGreatK03
set_option linter.unusedVariables false
set_option linter.unusedSimpArgs false
namespace Go.Proofs.YtjakhnhnjhafgaaGreat.Wk
open Go Go.RowKit Go.Deep Ow
def unwV(op a b:Int):Int:=if op=1 then a+b else if op=2 then a-b else if op=3 then a*b else a.tdiv b
def secs(op:Int)(b:ItvItv):List Int:=if op=4 then [b.Lo,b.Hi,-1,1].filter (fun n=>n != 0&&itvHas b n) else [b.Lo,b.Hi]
def pairs2(a:ItvItv)(l:List Int):List ItvItv:=l.flatMap (fun n=>[⟨a.Lo,n⟩,⟨a.Hi,n⟩])
def unwL(op:Int)(l:List ItvItv):List Int:=l.map (fun c=>unwV op c.Lo c.Hi)
def resL(op:Int)(a b:ItvItv):List Int:=if op=2 then [IntKind.i64.wrap (a.Lo-b.Hi),IntKind.i64.wrap (a.Hi-b.Lo)] else unwL op (pairs2 a (secs op b))
def minL(l:List Int)(d:Int):Int:=l.foldl mn d
def maxL(l:List Int)(d:Int):Int:=l.foldl mx d
theorem filt_next{P:Int→Bool}{l:List Int}{k:Int}(h0:0≤k)(h:k<l.length):(l.take (k+1).toNat).filter P=if P (sel l k)=true then (l.take k.toNat).filter P++[sel l k] else (l.take k.toNat).filter P:=by
 rw [tk_snoc l k 0 h0 h,List.filter_append]
 show _++List.filter P [sel l k]=_
 split
 · rename_i hp;rw [List.filter_cons_of_pos hp];rfl
 · rename_i hp;rw [List.filter_cons_of_neg hp];simp
theorem pairs_next{a:ItvItv}{l:List Int}{k:Int}(h0:0≤k)(h:k<l.length):pairs2 a (l.take (k+1).toNat)=pairs2 a (l.take k.toNat)++[⟨a.Lo,l.getD k.toNat 0⟩,⟨a.Hi,l.getD k.toNat 0⟩]:=by
 rw [tk_snoc l k 0 h0 h,pairs2,List.flatMap_append];rfl
theorem secs_len{op:Int}{b:ItvItv}:(secs op b).length≤4:=by
 unfold secs
 split
 · exact Nat.le_trans (List.length_filter_le _ _) (by simp)
 · simp
theorem take4{x y z w k:Int}{P:Int→Bool}:((([x,y,z,w]:List Int).take k.toNat).filter P).length≤4:=Nat.le_trans (List.length_filter_le _ _) (by simp;omega)
theorem pairs_len{a:ItvItv}:∀{l:List Int},(pairs2 a l).length=2*l.length:=by
 intro l
 induction l with
 | nil=>rfl
 | cons x l ih=>simp only [pairs2,List.flatMap_cons,List.length_append,List.length_cons,List.length_nil] at *;omega
theorem secs_done{op k:Int}{b:ItvItv}{l:List Int}(ho:op=4)(hJ:0≤k∧k≤4∧l=(([b.Lo,b.Hi,-1,1]:List Int).take k.toNat).filter (fun n=>n != 0&&itvHas b n))(hk:¬k<((4:Nat):Int)):l=secs op b:=by
 rw [hJ.2.2,secs,if_pos ho,List.take_of_length_le (by simp;omega)]
theorem cor_back{b:ItvItv}{k:Int}{l:List Int}(hJ:0≤k∧k≤4∧l=(([b.Lo,b.Hi,-1,1]:List Int).take k.toNat).filter (fun n=>n != 0&&itvHas b n))(hk:k<((4:Nat):Int)):
 ∃ x y,(0≤x∧x≤4∧y=(([b.Lo,b.Hi,-1,1]:List Int).take x.toNat).filter (fun n=>n != 0&&itvHas b n))∧(4-x).toNat<(4-k).toNat ∧
  (if (sel [b.Lo,b.Hi,-1,1] k != 0&&itvHas b (sel [b.Lo,b.Hi,-1,1] k))=true then ((l.length+1:Nat):Int) else (l.length:Int))=(y.length:Int)∧k+1=x ∧
  (if (sel [b.Lo,b.Hi,-1,1] k != 0&&itvHas b (sel [b.Lo,b.Hi,-1,1] k))=true then l++[sel [b.Lo,b.Hi,-1,1] k] else l)=y:=by
 obtain ⟨h0,h4,rfl⟩:=hJ
 refine ⟨k+1,_,⟨by omega,by omega,rfl⟩,by omega,?_,rfl,?_⟩
 · rw [filt_next h0 (by simpa using hk)];split<;>simp
 · rw [filt_next h0 (by simpa using hk)]
theorem cor1_back{a:ItvItv}{S:List Int}{k w:Int}{l:List ItvItv}(hJ:0≤k∧k≤S.length∧l=pairs2 a (S.take k.toNat))(hk:k<S.length)(h4:S.length≤4)(hw:w=k+1):
 ∃ (x:Int) (y:List ItvItv),(0≤x∧x≤S.length∧y=pairs2 a (S.take x.toNat))∧(5-x).toNat<(5-k).toNat∧((l.length+2:Nat):Int)=(y.length:Int)∧w=x ∧
  C.tup (qItvItv l++[C.tup [CI a.Lo,CI (S.getD k.toNat 0)],C.tup [CI a.Hi,CI (S.getD k.toNat 0)]])=C.tup (qItvItv y):=by
 obtain ⟨h0,hl,rfl⟩:=hJ
 subst hw
 refine ⟨k+1,_,⟨by omega,by omega,rfl⟩,by omega,?_,rfl,?_⟩
 · rw [pairs_next h0 hk,List.length_append];rfl
 · rw [pairs_next h0 hk,qItvItv,qItvItv,List.map_append];rfl
theorem unw_next{op:Int}{l:List ItvItv}{k:Int}(h0:0≤k)(h:k<l.length):unwL op (l.take (k+1).toNat)=unwL op (l.take k.toNat)++[unwV op (l.getD k.toNat zItvItv).Lo (l.getD k.toNat zItvItv).Hi]:=by
 rw [tk_snoc l k zItvItv h0 h,unwL,List.map_append];rfl
theorem res_len{op:Int}{a b:ItvItv}:(resL op a b).length≤8:=by
 unfold resL
 split
 · simp
 · have h1:=secs_len (op:=op) (b:=b)
   have h2:=pairs_len (a:=a) (l:=secs op b)
   rw [unwL,List.length_map];omega
theorem mm_back{R:List Int}{k lo hi w:Int}(hJ:0≤k∧k≤R.length∧lo=minL (R.take k.toNat) (sel R 0)∧hi=maxL (R.take k.toNat) (sel R 0))(hk:k<R.length)(h8:R.length≤8)(hw:w=k+1):
 ∃ x y z:Int,(0≤x∧x≤R.length∧y=minL (R.take x.toNat) (sel R 0)∧z=maxL (R.take x.toNat) (sel R 0))∧(9-x).toNat<(9-k).toNat ∧
  (if decide (R.getD k.toNat 0<lo)=true then R.getD k.toNat 0 else lo)=y∧(if decide (hi<R.getD k.toNat 0)=true then R.getD k.toNat 0 else hi)=z∧w=x:=by
 obtain ⟨h0,hl,rfl,rfl⟩:=hJ
 subst hw
 refine ⟨k+1,_,_,⟨by omega,by omega,rfl,rfl⟩,by omega,?_,?_,rfl⟩
 · rw [tk_snoc R k 0 h0 hk,minL,minL,List.foldl_append];rfl
 · rw [tk_snoc R k 0 h0 hk,maxL,maxL,List.foldl_append];rfl
theorem mn_eq{a b:Int}:mn a b=min a b:=by simp only [mn,decide_eq_true_eq];omega
theorem mx_eq{a b:Int}:mx a b=max a b:=by simp only [mx,decide_eq_true_eq];omega
theorem fold4{x y z w:Int}:minL [x,y,z,w] x=min (min x z) (min y w)∧maxL [x,y,z,w] x=max (max x z) (max y w):=by
 simp only [minL,maxL,List.foldl,mn_eq,mx_eq];omega
theorem fold6{x y z w u v:Int}(h1:u=x∨u=z)(h2:v=y∨v=w):minL [x,y,z,w,u,v] x=min (min x z) (min y w)∧maxL [x,y,z,w,u,v] x=max (max x z) (max y w):=by
 simp only [minL,maxL,List.foldl,mn_eq,mx_eq]
 rcases h1 with rfl|rfl<;>rcases h2 with rfl|rfl<;>omega
theorem fold8{x y z w u v s t:Int}:minL [x,y,z,w,u,v,s,t] x=min (min (min x u) (min y v)) (min (min s z) (min t w))∧maxL [x,y,z,w,u,v,s,t] x=max (max (max x u) (max y v)) (max (max s z) (max t w)):=by
 simp only [minL,maxL,List.foldl,mn_eq,mx_eq]
 constructor<;>apply Int.le_antisymm<;>simp only [Int.le_min,Int.max_le]<;>(repeat' apply And.intro)<;>omega
theorem span_eq{a b c d:Int}:span4 a b c d=⟨min (min a b) (min c d),max (max a b) (max c d)⟩:=by simp only [span4,mn_eq,mx_eq]
theorem res_span{op:Int}{a b:ItvItv}(oa:itvOk a=true)(ob:itvOk b=true)(ho:1≤op∧op≤4)(hne:resL op a b≠[]):
 doOk op a b=true∧minL (resL op a b) (sel (resL op a b) 0)=(doB op a b).Lo∧maxL (resL op a b) (sel (resL op a b) 0)=(doB op a b).Hi:=by
 obtain ⟨a1,a2,a3⟩:=itv_nums oa
 obtain ⟨b1,b2,b3⟩:=itv_nums ob
 rw [numOk_iff] at a1 a2 b1 b2
 have hh:∀n,itvHas b n=(decide (b.Lo≤n)&&decide (n≤b.Hi)):=fun n=>by rw [itvHas,ob,Bool.true_and];rfl
 have w:∀x y:Int,(-32768≤x∧x≤32767)→(-32768≤y∧y≤32767)→W64 (x+y)=x+y:=fun x y h1 h2=>wrapI (by omega) (by omega)
 rcases (by omega:op=1∨op=2∨op=3∨op=4) with rfl|rfl|rfl|rfl
 · refine ⟨by simp [doOk,oa,ob],?_⟩
   have e:resL 1 a b=[a.Lo+b.Lo,a.Hi+b.Lo,a.Lo+b.Hi,a.Hi+b.Hi]:=by simp [resL,unwL,pairs2,secs,unwV]
   have e2:doB 1 a b=⟨a.Lo+b.Lo,a.Hi+b.Hi⟩:=by
    show (⟨W64 _,W64 _⟩:ItvItv)=_
    rw [w _ _ (by omega) (by omega),w _ _ (by omega) (by omega)]
   rw [e,e2]
   show minL _ (a.Lo+b.Lo)=_∧maxL _ (a.Lo+b.Lo)=_
   rw [fold4.1,fold4.2];simp only;omega
 · refine ⟨by simp [doOk,oa,ob],?_⟩
   have e:resL 2 a b=[W64 (a.Lo-b.Hi),W64 (a.Hi-b.Lo)]:=rfl
   have e2:doB 2 a b=⟨W64 (a.Lo-b.Hi),W64 (a.Hi-b.Lo)⟩:=rfl
   have w1:W64 (a.Lo-b.Hi)=a.Lo-b.Hi:=wrapI (by omega) (by omega)
   have w2:W64 (a.Hi-b.Lo)=a.Hi-b.Lo:=wrapI (by omega) (by omega)
   rw [e,e2,w1,w2]
   show minL _ (a.Lo-b.Hi)=_∧maxL _ (a.Lo-b.Hi)=_
   simp only [minL,maxL,List.foldl,mn_eq,mx_eq];omega
 · refine ⟨by simp [doOk,oa,ob],?_⟩
   have e:resL 3 a b=[a.Lo*b.Lo,a.Hi*b.Lo,a.Lo*b.Hi,a.Hi*b.Hi]:=by simp [resL,unwL,pairs2,secs,unwV]
   have e2:doB 3 a b=mulQ a b:=rfl
   rw [e,e2,mulQ_eq (by omega) (by omega) (by omega) (by omega),span_eq]
   show minL _ (a.Lo*b.Lo)=_∧maxL _ (a.Lo*b.Lo)=_
   rw [fold4.1,fold4.2];exact ⟨rfl,rfl⟩
 · have q1 : ∀y,qd a.Lo y=a.Lo.tdiv y:=fun y=>qd_eq (by omega) (by omega)
   have q2:∀y,qd a.Hi y=a.Hi.tdiv y:=fun y=>qd_eq (by omega) (by omega)
   have e2:doB 4 a b=divB a b:=rfl
   have hz:b.Lo≠0∨b.Hi≠0:=by
    refine Classical.byContradiction fun hc=>hne ?_
    have h1:b.Lo=0:=by omega
    have h2:b.Hi=0:=by omega
    simp [resL,secs,hh,h1,h2,unwL,pairs2]
   refine ⟨by simp [doOk,oa,ob];omega,?_⟩
   have e:resL 4 a b=unwL 4 (pairs2 a (secs 4 b)):=rfl
   have s0:secs 4 b=[b.Lo,b.Hi,-1,1].filter (fun n=>n != 0&&itvHas b n):=rfl
   have cT:∀n,n≠0→b.Lo≤n→n≤b.Hi→(n != 0&&itvHas b n)=true:=fun n h1 h2 h3=>by
    rw [hh];simp only [Bool.and_eq_true,bne_iff_ne,decide_eq_true_eq];exact ⟨h1,h2,h3⟩
   have cF:∀n,n=0∨n<b.Lo∨b.Hi<n→(n != 0&&itvHas b n)=false:=fun n h=>by
    rw [hh,Bool.eq_false_iff]
    simp only [ne_eq,Bool.and_eq_true,bne_iff_ne,decide_eq_true_eq];omega
   have mk:∀l,unwL 4 (pairs2 a l)=l.flatMap (fun n=>[a.Lo.tdiv n,a.Hi.tdiv n]):=fun l=>by
    simp only [unwL,pairs2,List.map_flatMap];rfl
   have fin:∀l:List Int,secs 4 b=l→minL (l.flatMap (fun n=>[a.Lo.tdiv n,a.Hi.tdiv n])) (sel (l.flatMap (fun n=>[a.Lo.tdiv n,a.Hi.tdiv n])) 0)=(divB a b).Lo∧maxL (l.flatMap (fun n=>[a.Lo.tdiv n,a.Hi.tdiv n])) (sel (l.flatMap (fun n=>[a.Lo.tdiv n,a.Hi.tdiv n])) 0)=(divB a b).Hi →
    minL (resL 4 a b) (sel (resL 4 a b) 0)=(doB 4 a b).Lo∧maxL (resL 4 a b) (sel (resL 4 a b) 0)=(doB 4 a b).Hi:=fun l hl h=>by rw [e,e2,hl,mk];exact h
   by_cases p0:0≤b.Lo
   · have d1:divB a b=span4 (a.Lo.tdiv (mx b.Lo 1)) (a.Lo.tdiv b.Hi) (a.Hi.tdiv (mx b.Lo 1)) (a.Hi.tdiv b.Hi):=by rw [divB,if_pos p0,q1,q1,q2,q2]
     by_cases p1:b.Lo=0
     · have hs:secs 4 b=[b.Hi,1]:=by rw [s0];simp only [List.filter,cF b.Lo (by omega),cT b.Hi (by omega) (by omega) (by omega),cF (-1) (by omega),cT 1 (by omega) (by omega) (by omega)]
       refine fin _ hs ?_
       have hm:mx b.Lo 1=1:=by rw [mx_eq];omega
       rw [d1,span_eq,hm]
       show minL [a.Lo.tdiv b.Hi,a.Hi.tdiv b.Hi,a.Lo.tdiv 1,a.Hi.tdiv 1] (a.Lo.tdiv b.Hi)=_∧maxL [a.Lo.tdiv b.Hi,a.Hi.tdiv b.Hi,a.Lo.tdiv 1,a.Hi.tdiv 1] (a.Lo.tdiv b.Hi)=_
       rw [fold4.1,fold4.2];simp only;omega
     · have hm:mx b.Lo 1=b.Lo:=by rw [mx_eq];omega
       have h3:¬b.Hi=0:=by omega
       by_cases p2:b.Lo=1
       · have hs:secs 4 b=[b.Lo,b.Hi,1]:=by rw [s0];simp only [List.filter,cT b.Lo (by omega) (by omega) (by omega),cT b.Hi (by omega) (by omega) (by omega),cF (-1) (by omega),cT 1 (by omega) (by omega) (by omega)]
         refine fin _ hs ?_
         rw [d1,span_eq,hm]
         show minL [a.Lo.tdiv b.Lo,a.Hi.tdiv b.Lo,a.Lo.tdiv b.Hi,a.Hi.tdiv b.Hi,a.Lo.tdiv 1,a.Hi.tdiv 1] (a.Lo.tdiv b.Lo)=_∧maxL [a.Lo.tdiv b.Lo,a.Hi.tdiv b.Lo,a.Lo.tdiv b.Hi,a.Hi.tdiv b.Hi,a.Lo.tdiv 1,a.Hi.tdiv 1] (a.Lo.tdiv b.Lo)=_
         rw [(fold6 (.inl (by rw [p2])) (.inl (by rw [p2]))).1,(fold6 (.inl (by rw [p2])) (.inl (by rw [p2]))).2];exact ⟨rfl,rfl⟩
       · have hs:secs 4 b=[b.Lo,b.Hi]:=by rw [s0];simp only [List.filter,cT b.Lo (by omega) (by omega) (by omega),cT b.Hi (by omega) (by omega) (by omega),cF (-1) (by omega),cF 1 (by omega)]
         refine fin _ hs ?_
         rw [d1,span_eq,hm]
         show minL [a.Lo.tdiv b.Lo,a.Hi.tdiv b.Lo,a.Lo.tdiv b.Hi,a.Hi.tdiv b.Hi] (a.Lo.tdiv b.Lo)=_∧maxL [a.Lo.tdiv b.Lo,a.Hi.tdiv b.Lo,a.Lo.tdiv b.Hi,a.Hi.tdiv b.Hi] (a.Lo.tdiv b.Lo)=_
         rw [fold4.1,fold4.2];exact ⟨rfl,rfl⟩
   · have h1 : ¬b.Lo=0:=by omega
     by_cases p1:b.Hi≤0
     · have d1:divB a b=span4 (a.Lo.tdiv b.Lo) (a.Lo.tdiv (mn b.Hi (-1))) (a.Hi.tdiv b.Lo) (a.Hi.tdiv (mn b.Hi (-1))):=by rw [divB,if_neg p0,if_pos p1,divNeg,q1,q1,q2,q2]
       by_cases p2:b.Hi=0
       · have hs:secs 4 b=[b.Lo,-1]:=by rw [s0];simp only [List.filter,cT b.Lo (by omega) (by omega) (by omega),cF b.Hi (by omega),cT (-1) (by omega) (by omega) (by omega),cF 1 (by omega)]
         refine fin _ hs ?_
         have hm:mn b.Hi (-1)=-1:=by rw [mn_eq];omega
         rw [d1,span_eq,hm]
         show minL [a.Lo.tdiv b.Lo,a.Hi.tdiv b.Lo,a.Lo.tdiv (-1),a.Hi.tdiv (-1)] (a.Lo.tdiv b.Lo)=_∧maxL [a.Lo.tdiv b.Lo,a.Hi.tdiv b.Lo,a.Lo.tdiv (-1),a.Hi.tdiv (-1)] (a.Lo.tdiv b.Lo)=_
         rw [fold4.1,fold4.2];exact ⟨rfl,rfl⟩
       · have hm:mn b.Hi (-1)=b.Hi:=by rw [mn_eq];omega
         by_cases p3:b.Hi=-1
         · have hs:secs 4 b=[b.Lo,b.Hi,-1]:=by rw [s0];simp only [List.filter,cT b.Lo (by omega) (by omega) (by omega),cT b.Hi (by omega) (by omega) (by omega),cT (-1) (by omega) (by omega) (by omega),cF 1 (by omega)]
           refine fin _ hs ?_
           rw [d1,span_eq,hm]
           show minL [a.Lo.tdiv b.Lo,a.Hi.tdiv b.Lo,a.Lo.tdiv b.Hi,a.Hi.tdiv b.Hi,a.Lo.tdiv (-1),a.Hi.tdiv (-1)] (a.Lo.tdiv b.Lo)=_∧maxL [a.Lo.tdiv b.Lo,a.Hi.tdiv b.Lo,a.Lo.tdiv b.Hi,a.Hi.tdiv b.Hi,a.Lo.tdiv (-1),a.Hi.tdiv (-1)] (a.Lo.tdiv b.Lo)=_
           rw [(fold6 (.inr (by rw [p3])) (.inr (by rw [p3]))).1,(fold6 (.inr (by rw [p3])) (.inr (by rw [p3]))).2];exact ⟨rfl,rfl⟩
         · have hs:secs 4 b=[b.Lo,b.Hi]:=by rw [s0];simp only [List.filter,cT b.Lo (by omega) (by omega) (by omega),cT b.Hi (by omega) (by omega) (by omega),cF (-1) (by omega),cF 1 (by omega)]
           refine fin _ hs ?_
           rw [d1,span_eq,hm]
           show minL [a.Lo.tdiv b.Lo,a.Hi.tdiv b.Lo,a.Lo.tdiv b.Hi,a.Hi.tdiv b.Hi] (a.Lo.tdiv b.Lo)=_∧maxL [a.Lo.tdiv b.Lo,a.Hi.tdiv b.Lo,a.Lo.tdiv b.Hi,a.Hi.tdiv b.Hi] (a.Lo.tdiv b.Lo)=_
           rw [fold4.1,fold4.2];exact ⟨rfl,rfl⟩
     · have hs:secs 4 b=[b.Lo,b.Hi,-1,1]:=by rw [s0];simp only [List.filter,cT b.Lo (by omega) (by omega) (by omega),cT b.Hi (by omega) (by omega) (by omega),cT (-1) (by omega) (by omega) (by omega),cT 1 (by omega) (by omega) (by omega)]
       refine fin _ hs ?_
       have hm:mn b.Hi (-1)=-1:=by rw [mn_eq];omega
       have d1:divB a b=⟨min (min (min (a.Lo.tdiv b.Lo) (a.Lo.tdiv (-1))) (min (a.Hi.tdiv b.Lo) (a.Hi.tdiv (-1)))) (min (min (a.Lo.tdiv 1) (a.Lo.tdiv b.Hi)) (min (a.Hi.tdiv 1) (a.Hi.tdiv b.Hi))),max (max (max (a.Lo.tdiv b.Lo) (a.Lo.tdiv (-1))) (max (a.Hi.tdiv b.Lo) (a.Hi.tdiv (-1)))) (max (max (a.Lo.tdiv 1) (a.Lo.tdiv b.Hi)) (max (a.Hi.tdiv 1) (a.Hi.tdiv b.Hi)))⟩:=by
        rw [divB,if_neg p0,if_neg p1,divNeg,divAcr,q1,q1,q1,q2,q2,q2,hm,span_eq,span_eq]
        simp only [mn_eq,mx_eq,Int.tdiv_one]
       rw [d1]
       show minL [a.Lo.tdiv b.Lo,a.Hi.tdiv b.Lo,a.Lo.tdiv b.Hi,a.Hi.tdiv b.Hi,a.Lo.tdiv (-1),a.Hi.tdiv (-1),a.Lo.tdiv 1,a.Hi.tdiv 1] (a.Lo.tdiv b.Lo)=_∧maxL [a.Lo.tdiv b.Lo,a.Hi.tdiv b.Lo,a.Lo.tdiv b.Hi,a.Hi.tdiv b.Hi,a.Lo.tdiv (-1),a.Hi.tdiv (-1),a.Lo.tdiv 1,a.Hi.tdiv 1] (a.Lo.tdiv b.Lo)=_
       exact fold8
theorem res_fold{op lo hi:Int}{a b:ItvItv}(oa:itvOk a=true)(ob:itvOk b=true)(ho:1≤op∧op≤4)(hne:resL op a b≠[])(h1:lo=minL (resL op a b) (sel (resL op a b) 0))(h2:hi=maxL (resL op a b) (sel (resL op a b) 0)):
 itvFold lo hi=doV op a b∧doOk op a b=true:=by
 obtain ⟨h3,h4,h5⟩:=res_span oa ob ho hne
 rw [doV,if_pos h3,h1,h2,h4,h5];exact ⟨rfl,h3⟩
theorem res_none{op:Int}{a b:ItvItv}(h:resL op a b=[]):doOk op a b=false:=by
 rw [Bool.eq_false_iff]
 intro hc
 simp only [doOk,Bool.and_eq_true,decide_eq_true_eq,Bool.or_eq_true] at hc
 obtain ⟨⟨⟨⟨oa,ob⟩,o1⟩,o2⟩,hz⟩:=hc
 have h2:secs op b=[]:=by
  unfold resL at h
  split at h
  · cases h
  · have h3:=congrArg List.length h
    rw [unwL,List.length_map,pairs_len] at h3
    exact List.length_eq_zero_iff.1 (by simp only [List.length_nil] at h3;omega)
 unfold secs at h2
 split at h2
 · rename_i h4
   obtain ⟨b1,b2,b3⟩:=itv_nums ob
   have hb:∀n∈[b.Lo,b.Hi,-1,1],¬((n != 0&&itvHas b n)=true):=fun n hn=>by
    have:=List.filter_eq_nil_iff.1 h2 n hn
    simpa using this
   have h5:=hb b.Lo (by simp)
   have h6:=hb b.Hi (by simp)
   simp only [itvHas,ob,l1In,Bool.true_and,Bool.and_eq_true,bne_iff_ne,decide_eq_true_eq] at h5 h6
   omega
 · cases h2
end Go.Proofs.YtjakhnhnjhafgaaGreat.Wk
namespace Go.Proofs.YtjakhnhnjhafgaaGreat.Wk
open Go Go.RowKit Go.Deep Ow
set_option maxRecDepth 100000
theorem iUnw_e{op a b r:Int}(ho:1≤op∧op≤4)(ha:-32768≤a∧a≤32767)(hb:-32768≤b∧b≤32767)(hz:op=4→b≠0)(h:unwV op a b=r):
 EC Tryz.prog 207 0 [CI op,CI a,CI b] [] (CI r) [] 0:=by
 subst h
 refine EC.ofLit (FnIs.ok (fn:=Tryz.f207) ⟨by kernel_rfl,by kernel_rfl,rfl⟩) (fun ρ RO w vs hr=>?_)
 rw [hr.vals (us:=[.int .i64 op,.int .i64 a,.int .i64 b]) rfl]
 rcases (by omega:op=1∨op=2∨op=3∨op=4) with rfl|rfl|rfl|rfl
 · exact unw1_c a b w ha hb
 · exact unw2_c a b w ha hb
 · exact unw3_c a b w ha hb
 · exact unw4_c a b w ha (hz rfl)
theorem iCorners_e{op:Int}{a0:Int}{a1:Int}{b0:Int}{b1:Int}{r:List ItvItv}(h:pairs2 (⟨a0,a1⟩:ItvItv) (secs op (⟨b0,b1⟩:ItvItv))=r):EC Tryz.prog 212 0 [CI op,.agg [CI a0,CI a1],.agg [CI b0,CI b1]] [] (.d (.sl 2 (r.map dItvItv))) [] 0:=by
 subst h
 refine (seat [] []).PU (mkM true [3,1,4,1,2,1,1,11,3,15,3,16]) (fn:=Tryz.f212) ⟨by kernel_rfl,by kernel_rfl,rfl⟩ (mkEs [eInt 10 op,eItvItv 30 ⟨a0,a1⟩,eItvItv 50 ⟨b0,b1⟩]) (consL ⟨Int×List Int,fun ee x=>match x with|⟨k,l⟩=>0≤k∧k≤4∧l=([(⟨b0,b1⟩:ItvItv).Lo,(⟨b0,b1⟩:ItvItv).Hi,-1,1].take k.toNat).filter (fun n=>n != 0&&itvHas (⟨b0,b1⟩:ItvItv) n),fun ee x=>match x with|⟨k,l⟩=>mkEs [eI 1 k,eLInt 3 l,eB 715000 (itvHas (⟨b0,b1⟩:ItvItv) (sel [(⟨b0,b1⟩:ItvItv).Lo,(⟨b0,b1⟩:ItvItv).Hi,-1,1] k))],fun ee x=>match x with|⟨k,l⟩=>(4-k).toNat⟩ (consL ⟨Int×List ItvItv,fun ee x=>match x with|⟨k,l⟩=>0≤k∧k≤(secs op (⟨b0,b1⟩:ItvItv)).length∧l=pairs2 (⟨a0,a1⟩:ItvItv) ((secs op (⟨b0,b1⟩:ItvItv)).take k.toNat),fun ee x=>match x with|⟨k,l⟩=>mkEs [eI 1 k,eLItvItv 3 l,eLInt 4 (secs op (⟨b0,b1⟩:ItvItv))],fun ee x=>match x with|⟨k,l⟩=>(5-k).toNat⟩ noLps)) [(0,fun s=>(0,((((s.kl (mkM true [3,1,4,1,2,1,1,11,3,15,3,16])).upd [(26,xi 100000001)]).new 7 kInt (.rws kInt 100000003 .nil)).gc 0))),(2,fun s=>(1,((((s.kl (mkM true [3,1,4,1,2,1,1,11,3,15,3,16])).upd [(7,.dead),(42,xLInt 200000004),(44,xi 200000001)]).new 10 kItvItv (.rws kItvItv 200000003 .nil)).gc 0)))] [xInt 10,xItvItv 30,xItvItv 50] rfl (fun _=>?_)
 conv=>arg 4;cbv
 simp (maxSteps:=4000000) only [go_sem,Nat.reduceEqDiff,Nat.reduceAdd,Nat.reduceBEq,Int.reduceToNat,Nat.reduceDiv,Nat.reduceMod,lput,consL]
 repeat' (first|with_reducible apply And.intro|intro _)
 all_goals (try simp (disch:=omega) only [wrapI] at *)
 all_goals first|omega|(simp;done)|exact iItvHas_e rfl|exact ⟨0,[],⟨by omega,by omega,rfl⟩,rfl,rfl,rfl⟩|skip
 · rename_i k l hJ hk hc;rw [hJ.2.2];have:=@take4 b0 b1 (-1) 1 k (fun n=>n != 0&&itvHas ⟨b0,b1⟩ n);omega
 · rename_i k l hJ hk;exact @cor_back ⟨b0,b1⟩ k l hJ hk
 · rename_i h4 k l hJ hk;exact ⟨0,[],⟨by omega,by omega,rfl⟩,rfl,secs_done h4 hJ hk,rfl,rfl⟩
 · rename_i h4 k l hJ hk k2 l2 hJ2 hk2;rw [←secs_done h4 hJ hk];exact hk2
 · rename_i h4 k l hJ hk k2 l2 hJ2 hk2
   have h1:=@secs_len op ⟨b0,b1⟩
   rw [hJ2.2.2,pairs_len,List.length_take];omega
 · rename_i h4 k l hJ hk k2 l2 hJ2 hk2
   have h1:=@secs_len op ⟨b0,b1⟩
   rw [secs_done h4 hJ hk] at hk2
   exact @cor1_back ⟨a0,a1⟩ _ _ _ _ hJ2 hk2 h1 (by rw [wrapI]<;>omega)
 · rename_i h4 k l hJ hk k2 l2 hJ2 hk2
   rw [secs_done h4 hJ hk] at hk2
   rw [hJ2.2.2,tk_end (by omega)]
 · rename_i h4;exact ⟨0,[],⟨by omega,by omega,rfl⟩,rfl,by rw [secs,if_neg h4];rfl,rfl,rfl⟩
 · rename_i h4 k l hJ hk;rw [secs,if_neg h4];exact hk
 · rename_i h4 k l hJ hk
   have h1:=@secs_len op ⟨b0,b1⟩
   rw [hJ.2.2,pairs_len,List.length_take];omega
 · rename_i h4 k l hJ hk
   have h1:=@secs_len op ⟨b0,b1⟩
   exact @cor1_back ⟨a0,a1⟩ _ _ _ _ hJ (by rw [secs,if_neg h4];exact hk) h1 rfl
 · rename_i h4 k l hJ hk
   rw [hJ.2.2,tk_end (by rw [secs,if_neg h4];simp only [List.length_cons,List.length_nil];omega)]
theorem iArith_e{op:Int}{r:Bool}(h:(decide (1≤op)&&decide (op≤4))=r):EC Tryz.prog 205 0 [CI op] [] (CB r) [] 0:=by
 subst h
 refine (seat [] []).PU (mkM true []) (fn:=Tryz.f205) ⟨by kernel_rfl,by kernel_rfl,rfl⟩ (mkEs [eInt 10 op]) noLps [] [xInt 10] rfl (fun _=>?_)
 conv=>arg 4;cbv
 simp only [go_sem,Nat.reduceEqDiff,Nat.reduceAdd,Nat.reduceBEq,Int.reduceToNat]
theorem do_guard{op:Int}{a b:ItvItv}(h:¬((itvOk a&&itvOk b)=false∨(decide (1≤op)&&decide (op≤4))=false)):itvOk a=true∧itvOk b=true∧1≤op∧op≤4:=by
 simp only [not_or,Bool.not_eq_false,Bool.and_eq_true,decide_eq_true_eq] at h
 exact ⟨h.1.1,h.1.2,h.2⟩
theorem res_end{op k:Int}{a b:ItvItv}{l:List Int}(h2:¬op=2)(hJ:0≤k∧k≤(pairs2 a (secs op b)).length∧l=unwL op ((pairs2 a (secs op b)).take k.toNat))(hk:¬k<(pairs2 a (secs op b)).length):l=resL op a b:=by
 rw [hJ.2.2,tk_end (by omega),resL,if_neg h2]
theorem pair_num{op k:Int}{a b:ItvItv}(oa:itvOk a=true)(ob:itvOk b=true)(h0:0≤k)(hk:k<(pairs2 a (secs op b)).length):
 (-32768≤((pairs2 a (secs op b)).getD k.toNat zItvItv).Lo∧((pairs2 a (secs op b)).getD k.toNat zItvItv).Lo≤32767) ∧
 (-32768≤((pairs2 a (secs op b)).getD k.toNat zItvItv).Hi∧((pairs2 a (secs op b)).getD k.toNat zItvItv).Hi≤32767)∧(op=4→((pairs2 a (secs op b)).getD k.toNat zItvItv).Hi≠0):=by
 obtain ⟨a1,a2,a3⟩:=itv_nums oa
 obtain ⟨b1,b2,b3⟩:=itv_nums ob
 rw [numOk_iff] at a1 a2 b1 b2
 have hm:(pairs2 a (secs op b)).getD k.toNat zItvItv∈pairs2 a (secs op b):=by
  rw [List.getD_eq_getElem?_getD,List.getElem?_eq_getElem (by omega)];exact List.getElem_mem _
 generalize (pairs2 a (secs op b)).getD k.toNat zItvItv=c at hm
 unfold pairs2 at hm
 obtain ⟨n,hn,hc⟩:=List.mem_flatMap.1 hm
 have hs:(-32768≤n∧n≤32767)∧(op=4→n≠0):=by
  unfold secs at hn
  split at hn
  · obtain ⟨h1,h2⟩:=List.mem_filter.1 hn
    simp only [Bool.and_eq_true,bne_iff_ne] at h2
    have:=h2.2
    rw [has_iff] at this
    exact ⟨by omega,fun _=>h2.1⟩
  · rename_i h4
    simp only [List.mem_cons,List.not_mem_nil,or_false] at hn
    exact ⟨by omega,fun h=>absurd h h4⟩
 simp only [List.mem_cons,List.not_mem_nil,or_false] at hc
 rcases hc with rfl|rfl
 · exact ⟨a1,hs.1,hs.2⟩
 · exact ⟨a2,hs.1,hs.2⟩
theorem iItvDo_e{op:Int}{a0:Int}{a1:Int}{b0:Int}{b1:Int}{r0:ItvItv}{r1:Bool}(h0:((doV op (⟨a0,a1⟩:ItvItv) (⟨b0,b1⟩:ItvItv),doOk op (⟨a0,a1⟩:ItvItv) (⟨b0,b1⟩:ItvItv))).1=r0)(h1:((doV op (⟨a0,a1⟩:ItvItv) (⟨b0,b1⟩:ItvItv),doOk op (⟨a0,a1⟩:ItvItv) (⟨b0,b1⟩:ItvItv))).2=r1):EC Tryz.prog 191 0 [CI op,.agg [CI a0,CI a1],.agg [CI b0,CI b1]] [] (.tup [.agg [CI r0.Lo,CI r0.Hi],CB r1]) [] 0:=by
 subst h0 h1
 refine (seat [] []).PU (mkM true [3,1,5,1,3,1,1,10,1,3,3,36,3,13]) (fn:=Tryz.f191) ⟨by kernel_rfl,by kernel_rfl,rfl⟩ (mkEs [eInt 10 op,eItvItv 30 ⟨a0,a1⟩,eItvItv 50 ⟨b0,b1⟩,eB 112000 (itvOk (⟨a0,a1⟩:ItvItv)&&itvOk (⟨b0,b1⟩:ItvItv)),eB 116000 (decide (1≤op)&&decide (op≤4)),eLItvItv 513000 (pairs2 (⟨a0,a1⟩:ItvItv) (secs op (⟨b0,b1⟩:ItvItv)))]) (consL ⟨Int×List Int,fun ee x=>match x with|⟨k,l⟩=>0≤k∧k≤(pairs2 (⟨a0,a1⟩:ItvItv) (secs op (⟨b0,b1⟩:ItvItv))).length∧l=unwL op ((pairs2 (⟨a0,a1⟩:ItvItv) (secs op (⟨b0,b1⟩:ItvItv))).take k.toNat),fun ee x=>match x with|⟨k,l⟩=>mkEs [eI 1 k,eLInt 3 l,eI 816000 (unwV op ((pairs2 (⟨a0,a1⟩:ItvItv) (secs op (⟨b0,b1⟩:ItvItv))).getD k.toNat zItvItv).Lo ((pairs2 (⟨a0,a1⟩:ItvItv) (secs op (⟨b0,b1⟩:ItvItv))).getD k.toNat zItvItv).Hi)],fun ee x=>match x with|⟨k,l⟩=>(9-k).toNat⟩ (consL ⟨Int×Int×Int,fun ee x=>match x with|⟨k,lo,hi⟩=>0≤k∧k≤(resL op (⟨a0,a1⟩:ItvItv) (⟨b0,b1⟩:ItvItv)).length∧lo=minL ((resL op (⟨a0,a1⟩:ItvItv) (⟨b0,b1⟩:ItvItv)).take k.toNat) (sel (resL op (⟨a0,a1⟩:ItvItv) (⟨b0,b1⟩:ItvItv)) 0)∧hi=maxL ((resL op (⟨a0,a1⟩:ItvItv) (⟨b0,b1⟩:ItvItv)).take k.toNat) (sel (resL op (⟨a0,a1⟩:ItvItv) (⟨b0,b1⟩:ItvItv)) 0),fun ee x=>match x with|⟨k,lo,hi⟩=>mkEs [eI 1 k,eI 2 lo,eI 3 hi,eLInt 4 (resL op (⟨a0,a1⟩:ItvItv) (⟨b0,b1⟩:ItvItv)),eItvItv 2012000 (itvFold lo hi)],fun ee x=>match x with|⟨k,lo,hi⟩=>(9-k).toNat⟩ noLps)) [(1,fun s=>(0,((((s.kl (mkM true [3,1,5,1,3,1,1,10,1,3,3,36,3,13])).upd [(31,xi 100000001)]).new 8 kInt (.rws kInt 100000003 .nil)).gc 0))),(3,fun s=>(1,(((s.kl (mkM true [3,1,5,1,3,1,1,10,1,3,3,36,3,13])).upd [(8,.dead),(68,xLInt 200000004),(70,xi 200000001),(11,xi 200000002),(12,xi 200000003)]).gc 0)))] [xInt 10,xItvItv 30,xItvItv 50] rfl (fun _=>?_)
 conv=>arg 4;cbv
 simp (maxSteps:=4000000) only [go_sem,Nat.reduceEqDiff,Nat.reduceAdd,Nat.reduceBEq,Int.reduceToNat,Nat.reduceDiv,Nat.reduceMod,lput,consL]
 repeat' (first|with_reducible apply And.intro|intro _)
 all_goals (try simp (disch:=omega) only [wrapI] at *)
 all_goals first|omega|(simp;done)|exact bothOk_e rfl|exact iArith_e rfl|exact .inr (iArith_e rfl)|exact iCorners_e rfl|exact iItvFold_e rfl|exact ⟨0,[],⟨by omega,by omega,rfl⟩,rfl,rfl,rfl⟩|skip
 · rename_i hg
   have e:doOk op ⟨a0,a1⟩ ⟨b0,b1⟩=false:=by
    rw [Bool.eq_false_iff];intro hc
    simp only [doOk,Bool.and_eq_true] at hc
    rcases hg with hg|hg
    · simp [hc.1.1.1.1,hc.1.1.1.2] at hg
    · simp [hc.1.1.2,hc.1.2] at hg
   simp only [doV,e];rfl
 all_goals obtain ⟨oa,ob,ho⟩:=do_guard ‹_›
 · rename_i h2;subst h2;exact ⟨0,_,_,⟨by omega,by omega,rfl,rfl⟩,rfl,rfl,rfl,rfl⟩
 · rename_i h2 k lo hi hJ hk;subst h2;exact hk
 · rename_i h2 k lo hi hJ hk;subst h2;exact mm_back hJ hk res_len rfl
 · rename_i h2 k lo hi hJ hk
   have h3:(resL op ⟨a0,a1⟩ ⟨b0,b1⟩).length≤k:=by subst h2;exact Int.not_lt.1 hk
   rw [tk_end h3] at hJ
   obtain ⟨e1,e2⟩:=res_fold oa ob ho (by subst h2;exact List.cons_ne_nil _ _) hJ.2.2.1 hJ.2.2.2
   rw [e1,e2]
 · rename_i h2 k l hJ hk;exact iUnw_e ho (pair_num oa ob (by omega) hk).1 (pair_num oa ob (by omega) hk).2.1 (pair_num oa ob (by omega) hk).2.2 rfl
 · rename_i h2 k l hJ hk
   have h1:=@secs_len op ⟨b0,b1⟩
   have h3:=@pairs_len ⟨a0,a1⟩ (secs op ⟨b0,b1⟩)
   rw [hJ.2.2,unwL,List.length_map,List.length_take];omega
 · rename_i h2 k l hJ hk
   have h1:=@secs_len op ⟨b0,b1⟩
   have h3:=@pairs_len ⟨a0,a1⟩ (secs op ⟨b0,b1⟩)
   refine ⟨k+1,_,⟨by omega,by omega,rfl⟩,by omega,?_,by rw [wrapI]<;>omega,?_⟩
   · rw [unw_next hJ.1 hk,←hJ.2.2,List.length_append];rfl
   · rw [unw_next hJ.1 hk,←hJ.2.2]
 · rename_i h2 k l hJ hk hl
   have e:=res_end h2 hJ hk
   have e2:doOk op ⟨a0,a1⟩ ⟨b0,b1⟩=false:=res_none (by rw [←e];exact List.length_eq_zero_iff.1 (by omega))
   simp only [doV,e2];rfl
 · rename_i h2 k l hJ hk hl
   have e:=res_end h2 hJ hk
   exact ⟨0,_,_,⟨by omega,by omega,rfl,rfl⟩,by rw [e];rfl,by rw [e];rfl,e,rfl⟩
 · rename_i h2 k l hJ hk hl k2 lo hi hJ2 hk2;rw [←res_end h2 hJ hk];exact hk2
 · rename_i h2 k l hJ hk hl k2 lo hi hJ2 hk2
   have h8:=@res_len op ⟨a0,a1⟩ ⟨b0,b1⟩
   rw [res_end h2 hJ hk] at hk2
   exact mm_back hJ2 hk2 h8 (by rw [wrapI]<;>omega)
 · rename_i h2 k l hJ hk hl k2 lo hi hJ2 hk2
   have e:=res_end h2 hJ hk
   rw [e] at hk2 hl
   rw [tk_end (by omega)] at hJ2
   obtain ⟨e1,e2⟩:=res_fold oa ob ho (by intro h;rw [h] at hl;exact hl rfl) hJ2.2.2.1 hJ2.2.2.2
   rw [e1,e2]
end Go.Proofs.YtjakhnhnjhafgaaGreat.Wk
