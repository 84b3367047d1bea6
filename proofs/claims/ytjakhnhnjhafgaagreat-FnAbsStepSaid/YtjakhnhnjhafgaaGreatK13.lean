/- A part of the proof. -/
import Derived.Test.YtjakhnhnjhafgaaGreatK12
import Derived.Test.YtjakhnhnjhafgaaGreatK11
set_option linter.unusedVariables false
set_option linter.unusedSimpArgs false
namespace Ow
open Go Go.RowKit Go.Deep
inductive OX where
 | val (c x:X) (pre:List Nat)
 | mem (c x:X) (t:Tch) (H:List XB) (n:Nat)
 | no
def setX(T:List X)(d:Option Nat)(x:X):List X:=match d with|some d=>T.set d x|none=>T
theorem setX_den{e:Env}{T:List X}{d:Option Nat}{x:X}:(setX T d x).map (X.den e)=setD (T.map (X.den e)) d (x.den e):=by
 cases d<;>simp [setX,setD,List.map_set]
def Sx.strip(g:X)(s:Sx):Sx:=⟨s.T.map (X.strip g),s.H,s.n⟩
theorem Sx.strip_den{e:Env}{g:X}{s:Sx}(hb:g.isB=true)(h:g.tr e):(s.strip g).den e=s.den e:=by
 simp only [Sx.den,Sx.strip,List.map_map,St.mk.injEq,and_true]
 exact List.map_congr_left fun x _=>X.strip_den hb h
theorem Sx.strip_set{e:Env}{g:X}{s:Sx}{d:Option Nat}{x:X}{H:List XB}{n:Nat}(hb:g.isB=true)(h:g.tr e):(⟨setX (s.strip g).T d x,H,n⟩:Sx).den e=(⟨setX s.T d x,H,n⟩:Sx).den e:=by
 have:(s.strip g).T.map (X.den e)=s.T.map (X.den e):=congrArg St.T (Sx.strip_den (e:=e) (s:=s) hb h)
 simp only [Sx.den,setX_den,this]
def R.mkSide(c:X)(r:R):R:=match c with | .bool true=>r|c=>.side c r
def X.mkImp(g c:X):X:=match c with | .bool true=>.bool true|c=>X.mkOr (X.mkNot g) c
def dstL(l:List Oper)(j:Nat):Option Nat:=(l[j]?).bind (·.dst)
def gw(g:X)(want:Bool):X:=if want then g else g.mkNot
theorem gw_isB{g:X}{want:Bool}(h:g.isB=true):(gw g want).isB=true:=by cases want;exact X.isB_not;exact h
theorem gw_tr{e:Env}{g:X}{want:Bool}:(gw g want).tr e↔boolOf (g.den e)=want:=by
 cases want
 · simp only [gw,Bool.false_eq_true,if_false]
   rw [X.tr_not,X.tr];simp
 · simp only [gw,if_true,X.tr]
structure Sb where
 d : Nat
 l : Nat
 c : Nat
 m : Nat
def bitsOf(xs:List Nat):Nat:=xs.foldl (fun s e=>s ||| 2 ^ e) 0
def sbOf(x:Sum1):Sb:=⟨match x.dst with|some d=>2 ^ d|none=>0,bitsOf x.looks,bitsOf x.chg,bitsOf x.dom⟩
def indepF(x y:Sb):Bool:=x.d &&& (y.l ||| y.d)==0&&y.d &&& x.l==0&&x.c &&& y.m==0&&y.c &&& x.m==0
def pairsF : Nat→List Nat→List Sb→List (Nat×Sb)→Bool
 | k,m::ms,y::ys,prev=>prev.all (fun p=>m.testBit p.1||indepF p.2 y)&&pairsF (k+1) ms ys ((k,y)::prev)
 | _,_,_,_=>true
def edgesF : Nat→List Sum1→Bool
 | _,[]=>true
 | k,x::xs=>x.after.all (fun e=>Nat.blt e k)&&edgesF (k+1) xs
theorem bits_fold(xs:List Nat)(i:Nat):∀s:Nat,(xs.foldl (fun s e=>s ||| 2 ^ e) s).testBit i=(s.testBit i||xs.contains i):=by
 induction xs with
 | nil=>intro s;simp
 | cons e xs ih=>
   intro s
   rw [List.foldl_cons,ih,Nat.testBit_or,Nat.testBit_two_pow,List.contains_cons,Bool.or_assoc]
   have hd:(i==e)=decide (e=i):=by rw [Bool.eq_iff_iff,beq_iff_eq,decide_eq_true_iff];exact eq_comm
   rw [hd]
theorem bitsOf_bit(xs:List Nat)(i:Nat):(bitsOf xs).testBit i=xs.contains i:=by
 unfold bitsOf;rw [bits_fold,Nat.zero_testBit,Bool.false_or]
theorem and_bits{a b:Nat}(h:(a &&& b==0)=true)(i:Nat)(ha:a.testBit i=true):b.testBit i=false:=by
 have:=congrArg (fun n=>Nat.testBit n i) (beq_iff_eq.1 h)
 simp only [Nat.testBit_and,ha,Bool.true_and,Nat.zero_testBit] at this
 exact this
theorem indepF_ok{x y:Sum1}(h:indepF (sbOf x) (sbOf y)=true):indep x y=true:=by
 simp only [indepF,Bool.and_eq_true] at h
 obtain ⟨⟨⟨h1,h2⟩,h3⟩,h4⟩:=h
 have dj_of:∀{a b:List Nat},(bitsOf a &&& bitsOf b==0)=true→dj a b=true:=fun {a b} h=>by
  unfold dj
  rw [List.all_eq_true]
  intro e he
  have:=and_bits h e (by rw [bitsOf_bit];simpa using he)
  rw [bitsOf_bit] at this
  rw [this];rfl
 simp only [indep,Bool.and_eq_true]
 refine ⟨⟨⟨?_,?_⟩,dj_of h3⟩,dj_of h4⟩
 · cases hx:x.dst with
   | none=>rfl
   | some d=>
     have:=and_bits h1 d (by simp [sbOf,hx])
     rw [Nat.testBit_or,Bool.or_eq_false_iff] at this
     obtain ⟨g1,g2⟩:=this
     have g1':y.looks.contains d=false:=by rw [←bitsOf_bit];exact g1
     simp only [g1',Bool.not_false,Bool.true_and]
     cases hy:y.dst with
     | none=>rfl
     | some d'=>
       simp only [sbOf,hy,Nat.testBit_two_pow,decide_eq_false_iff_not] at g2
       simp [g2]
 · cases hy:y.dst with
   | none=>rfl
   | some d=>
     have:=and_bits h2 d (by simp [sbOf,hy])
     have g1':x.looks.contains d=false:=by rw [←bitsOf_bit];exact this
     simp only [g1',Bool.not_false]
theorem pairsF_ok : ∀{ms:List Nat} {ys:List Sb} {k:Nat} {prev:List (Nat×Sb)},pairsF k ms ys prev=true→∀(j:Nat) (m:Nat) (y:Sb),ms[j]? = some m→ys[j]? = some y →
 (∀p∈prev,m.testBit p.1=true∨indepF p.2 y=true)∧∀(i:Nat) (x:Sb),i<j→ys[i]? = some x→m.testBit (k+i)=true∨indepF x y=true:=by
 intro ms
 induction ms with
 | nil=>intro ys k prev _ j m y hm;simp at hm
 | cons m0 ms ih=>
   intro ys k prev h j m y hm hy
   cases ys with
   | nil=>simp at hy
   | cons y0 ys=>
     simp only [pairsF,Bool.and_eq_true,List.all_eq_true,Bool.or_eq_true] at h
     cases j with
     | zero=>
       cases hm;cases hy
       exact ⟨h.1,fun i x hi=>by omega⟩
     | succ j=>
       obtain ⟨g1,g2⟩:=ih h.2 j m y hm hy
       refine ⟨fun p hp=>g1 p (List.mem_cons_of_mem _ hp),fun i x hi hx=>?_⟩
       cases i with
       | zero=>cases hx;exact g1 (k,_) (List.mem_cons_self ..)
       | succ i=>
         have:=g2 i x (by omega) hx
         rw [show k+(i+1)=k+1+i by omega];exact this
theorem masks_len : ∀(l:List Sum1) (acc:List Nat),(masks l acc).length=acc.length+l.length:=by
 intro l
 induction l with
 | nil=>intro acc;rfl
 | cons x l ih=>intro acc;rw [masks,ih,List.length_append,List.length_singleton,List.length_cons];omega
theorem edgesF_ok : ∀{l:List Sum1} {k:Nat},edgesF k l=true→∀(j:Nat) (x:Sum1),l[j]? = some x→∀e∈x.after,e<k+j:=by
 intro l
 induction l with
 | nil=>intro k _ j x hx;simp at hx
 | cons y l ih=>
   intro k h j x hx e he
   simp only [edgesF,Bool.and_eq_true,List.all_eq_true] at h
   cases j with
   | zero=>cases hx;exact Eq.mp Nat.blt_eq (h.1 e he)
   | succ j=>have:=ih h.2 j x hx e he;omega
def regCkF(l:List Sum1):Bool:=edgesF 0 l&&pairsF 0 (masks l []) (l.map sbOf) []
theorem regCkF_ok{l:List Sum1}(h:regCkF l=true):regCk l=true:=by
 simp only [regCkF,Bool.and_eq_true] at h
 simp only [regCk,Bool.and_eq_true,edgesOk,pairsOk,List.all_eq_true,List.mem_range]
 refine ⟨fun j hj=>?_,fun j hj i hi=>?_⟩
 · rw [List.getElem?_eq_getElem hj]
   simp only [List.all_eq_true,decide_eq_true_eq]
   intro e he
   have:=edgesF_ok h.1 j _ (List.getElem?_eq_getElem hj) e he
   omega
 · have hi':i<l.length:=by omega
   have hm:j<(masks l []).length:=by rw [masks_len];simpa using hj
   rw [List.getElem?_eq_getElem hj,List.getElem?_eq_getElem hi',List.getD_eq_getElem?_getD,List.getElem?_eq_getElem hm]
   obtain ⟨-,g⟩:=pairsF_ok h.2 j _ (sbOf l[j]) (List.getElem?_eq_getElem hm) (by rw [List.getElem?_map,List.getElem?_eq_getElem hj];rfl)
   have:=g i (sbOf l[i]) hi (by rw [List.getElem?_map,List.getElem?_eq_getElem hi'];rfl)
   rw [Nat.zero_add] at this
   rw [Bool.or_eq_true]
   exact this.imp id indepF_ok
def ordCk(d:Bool)(l:List Oper)(acc:List Tch):Bool:=match d with
 | false=>true
 | true=>regCkF (sums l.toArray l acc)
theorem ordCk_ok{d:Bool}{l:List Oper}{acc:List Tch}(h:ordCk d l acc=true)(ht:d=true):regCk (sums l.toArray l acc)=true:=by subst ht;exact regCkF_ok h
theorem X.bool_tr{e:Env}{b:Bool}:(X.bool b).tr e↔b=true:=by cases b<;>simp [X.tr,X.den,boolOf_b]
abbrev Cko := Option (Bool→List Oper→List Tch→Bool)
def CkOk(ck:Cko):Prop:=∀c,ck=some c→∀d l acc,c d l acc=true→ordCk d l acc=true
def ckR(ck:Cko)(d:Bool)(l:List Oper)(acc:List Tch)(s:Sx):R:=match ck with
 | none=>if ordCk d l acc=true then .out .nrm s else .stuck [] s
 | some c=>match d with|false=>.out .nrm s|true=>.side (.bool (c true l acc)) (.out .nrm s)
def execOps(ck:Cko)(ox:Nat→Oper→Sx→OX)(l:List Oper)(d:Bool):Nat→List Oper→List Tch→Sx→R
 | _,[],acc,s=>ckR ck d l acc.reverse s
 | q, o :: os,acc,s=>match o.guard with
   | none=>match ox q o s with
     | .val c x pre=>.mkSide c (execOps ck ox l d (q+1) os ((pre,[])::acc) ⟨setX s.T o.dst x,s.H,s.n⟩)
     | .mem c x t H n=>.mkSide c (execOps ck ox l d (q+1) os (t::acc) ⟨setX s.T o.dst x,H,n⟩)
     | .no=>.stuck (o::os) s
   | some (j,want)=>match dstL l j with
     | none=>.stuck (o::os) s
     | some dd=>match gw (s.T.getD dd .dead) want with
       | .bool true=>(match ox q o s with
         | .val c x pre=>.mkSide c (execOps ck ox l d (q+1) os ((pre,[])::acc) ⟨setX s.T o.dst x,s.H,s.n⟩)
         | .mem c x t H n=>.mkSide c (execOps ck ox l d (q+1) os (t::acc) ⟨setX s.T o.dst x,H,n⟩)
         | .no=>.stuck (o::os) s)
       | .bool false=>execOps ck ox l d (q+1) os (([],[])::acc) ⟨setX s.T o.dst .dead,s.H,s.n⟩
       | g=>if (s.T.getD dd .dead).isB then
         match ox q o (s.strip g) with
         | .val c x []=>.mkSide (X.mkImp g c) (execOps ck ox l d (q+1) os (([],[])::acc) ⟨setX s.T o.dst (X.mkIte g x .dead),s.H,s.n⟩)
         | .val c x pre=>.br g (.mkSide c (execOps ck ox l d (q+1) os ((pre,[])::acc) ⟨setX (s.strip g).T o.dst x,s.H,s.n⟩)) (execOps ck ox l d (q+1) os (([],[])::acc) ⟨setX (s.strip g.mkNot).T o.dst .dead,s.H,s.n⟩)
         | .mem c x t H n=>.br g (.mkSide c (execOps ck ox l d (q+1) os (t::acc) ⟨setX (s.strip g).T o.dst x,H,n⟩)) (execOps ck ox l d (q+1) os (([],[])::acc) ⟨setX (s.strip g.mkNot).T o.dst .dead,s.H,s.n⟩)
         | .no=>.stuck (o::os) s
       else .stuck (o::os) s
def OxOk(P:Program)(e:Env)(ox:Oper→Sx→OX):Prop:=∀(o:Oper) (s:Sx),
 (∀c x pre,ox o s=.val c x pre→c.tr e→∃r,Does P o (s.den e) r s.n∧r.val=x.den e∧r.chg=[]∧r.pre.map (·.1)=pre) ∧
 (∀c x t H n,ox o s=.mem c x t H n→c.tr e→∃r,Does P o (s.den e) r n∧((⟨setX s.T o.dst x,H,n⟩:Sx).den e).ab=(s.den e).ab.app o.dst (some r)∧(r.dom,r.chg)=t)
section
variable {P:Program} {m:Nat} {e:Env} {cx:List Cx} {ox:Nat→Oper→Sx→OX}
theorem R.holds_mkSide{c:X}{r:R}{Q:Post}:(mkSide c r).Holds m e cx Q→c.tr e∧r.Holds m e cx Q:=by
 unfold R.mkSide
 split
 · intro h;exact ⟨X.tr_true,h⟩
 · intro h;exact ⟨h.1,h.2 h.1⟩
theorem R.excl_mkSide{c:X}{r:R}(h:r.excl e):(mkSide c r).excl e:=by
 unfold R.mkSide;split<;>exact h
theorem X.tr_imp{g c:X}(h:(X.mkImp g c).tr e)(hg:g.tr e):c.tr e:=by
 unfold X.mkImp at h
 split at h
 · exact X.tr_true
 · rw [X.tr_or,X.tr_not] at h;exact h.resolve_left (fun h=>h hg)
theorem execOps_excl(ck:Cko)(l:List Oper)(d:Bool):∀(os:List Oper) (q:Nat) (acc:List Tch) (s:Sx),(execOps ck ox l d q os acc s).excl e:=by
 intro os
 induction os with
 | nil=>
   intro q acc s
   unfold execOps ckR
   split
   · split<;>trivial
   · split<;>trivial
 | cons o os ih=>
   intro q acc s
   have one:∀s',(match ox q o s' with
    | .val c x pre=>R.mkSide c (execOps ck ox l d (q+1) os ((pre,[])::acc) ⟨setX s.T o.dst x,s.H,s.n⟩)
    | .mem c x t H n=>R.mkSide c (execOps ck ox l d (q+1) os (t::acc) ⟨setX s.T o.dst x,H,n⟩)
    | .no=>R.stuck (o::os) s).excl e:=by
    intro s'
    split
    · exact R.excl_mkSide (ih _ _ _)
    · exact R.excl_mkSide (ih _ _ _)
    · trivial
   unfold execOps
   split
   · exact one s
   · split
     · trivial
     · split
       · exact one s
       · exact ih _ _ _
       · split
         · split
           · exact R.excl_mkSide (ih _ _ _)
           · exact ⟨fun _=>R.excl_mkSide (ih _ _ _),fun _=>ih _ _ _⟩
           · exact ⟨fun _=>R.excl_mkSide (ih _ _ _),fun _=>ih _ _ _⟩
           · trivial
         · trivial
theorem getD_map_den{T:List X}{d:Nat}:(T.map (X.den e)).getD d .dead=(T.getD d .dead).den e:=by
 simp only [List.getD_eq_getElem?_getD,List.getElem?_map]
 cases T[d]? <;> rfl
theorem execOps_ok{ck:Cko}(hck:CkOk ck)(hox:∀q,OxOk P e (ox q))(l:List Oper)(d:Bool){Q:Post}:∀(os:List Oper) (q:Nat) (acc:List Tch) (s:Sx),(execOps ck ox l d q os acc s).Holds m e cx Q →
 EOps P l.toArray os (s.den e) acc.reverse (fun acc s'=>(d=true→regCk (sums l.toArray l acc)=true)∧Q .normal s'):=by
 intro os
 induction os with
 | nil =>
   intro q acc s h
   unfold execOps ckR at h
   split at h
   · split at h
     · rename_i hd
       exact EOps.nil ⟨fun ht=>ordCk_ok hd ht,h⟩
     · exact h.elim
   · rename_i c
     split at h
     · exact EOps.nil ⟨fun ht=>(by cases ht),h⟩
     · exact EOps.nil ⟨fun ht=>ordCk_ok (hck c rfl _ _ _ (X.bool_tr.1 h.1)) rfl,h.2 h.1⟩
 | cons o os ih =>
   intro q acc s h
   have ih2:=fun q x acc s h=>(List.reverse_cons:(x::acc).reverse=acc.reverse++[x])▸ih q (x::acc) s h
   have one:∀(s':Sx),s'.den e=s.den e→s'.H=s.H→s'.n=s.n→∀(gd:o.guard=none∨∃j want dd,o.guard=some (j,want)∧(l.toArray[j]?).bind (·.dst)=some dd∧(s.den e).T[dd]? = some (.d (.lit (.bool want)))),
    (∀c x pre,ox q o s'=.val c x pre→c.tr e→EOps P l.toArray os ((⟨setX s.T o.dst x,s.H,s.n⟩:Sx).den e) (acc.reverse++[(pre,[])]) (fun acc s'=>(d=true→regCk (sums l.toArray l acc)=true)∧Q .normal s')→EOps P l.toArray (o::os) (s.den e) acc.reverse (fun acc s'=>(d=true→regCk (sums l.toArray l acc)=true)∧Q .normal s')) ∧
    (∀c x t H n,ox q o s'=.mem c x t H n→c.tr e→EOps P l.toArray os ((⟨setX s.T o.dst x,H,n⟩:Sx).den e) (acc.reverse++[t]) (fun acc s'=>(d=true→regCk (sums l.toArray l acc)=true)∧Q .normal s')→EOps P l.toArray (o::os) (s.den e) acc.reverse (fun acc s'=>(d=true→regCk (sums l.toArray l acc)=true)∧Q .normal s')):=by
    intro s' hs hH hn gd
    obtain ⟨T',H',n'⟩:=s'
    simp only at hH hn
    subst hH hn
    have hT:T'.map (X.den e)=s.T.map (X.den e):=by have:=congrArg St.T hs;exact this
    have hset:∀x:X,(setX T' o.dst x).map (X.den e)=(setX s.T o.dst x).map (X.den e):=fun x=>by rw [setX_den,setX_den,hT]
    refine ⟨fun c x pre hq hc k=>?_,fun c x t H n hq hc k=>?_⟩
    · obtain ⟨r,hd,hv,hch,hp⟩:=(hox q o _).1 c x pre hq hc
      rw [hs] at hd
      refine EOps.cons (some r) ((⟨setX s.T o.dst x,s.H,s.n⟩:Sx).den e) ⟨gd,hd.op,hd.sub,hd.new⟩ ?_ (Nat.le_refl _) (fun l hl=>by simp [chgOf,hch] at hl) (by rw [show tchOf (some r)=(pre,[]) by simp [tchOf,chgOf,Rec.dom,hch,hp]];exact k)
      simp only [St.ab,Ab.app,hch,List.contains_nil,Bool.false_eq_true,if_false,Sx.den,setX_den,hv]
    · obtain ⟨r,hd,hab,ht⟩:=(hox q o _).2 c x t H n hq hc
      rw [hs] at hd hab
      refine EOps.cons (some r) ((⟨setX s.T o.dst x,H,n⟩:Sx).den e) ⟨gd,hd.op,hd.sub,hd.new⟩ ?_ hd.le (fun l hl=>hd.lt l (by simpa [chgOf] using hl)) (by rw [show tchOf (some r)=t by rw [←ht];rfl];exact k)
      rw [←hab]
      simp only [Sx.den,hset]
   unfold execOps at h
   split at h
   · rename_i hg
     obtain ⟨o1,o2⟩:=one s rfl rfl rfl (.inl hg)
     split at h
     · rename_i c x pre hq
       obtain ⟨hc,h⟩:=R.holds_mkSide h
       exact o1 c x pre hq hc (ih2 _ _ _ _ h)
     · rename_i c x t H n hq
       obtain ⟨hc,h⟩:=R.holds_mkSide h
       exact o2 c x t H n hq hc (ih2 _ _ _ _ h)
     · exact h.elim
   · rename_i j want hg
     split at h
     · exact h.elim
     · rename_i dd hj
       have hj':(l.toArray[j]?).bind (·.dst)=some dd:=by rw [←hj];simp [dstL]
       have hgT:∀b,(s.T.getD dd .dead).den e=.d (.lit (.bool b))→(s.den e).T[dd]? = some (.d (.lit (.bool b))):=by
        intro b hb
        have:(s.den e).T.getD dd .dead=.d (.lit (.bool b)):=by show (s.T.map (X.den e)).getD dd .dead=_;rw [getD_map_den];exact hb
        rw [List.getD_eq_getElem?_getD] at this
        cases hx:(s.den e).T[dd]? with
        | none=>rw [hx] at this;cases this
        | some x=>rw [hx] at this;simp only [Option.getD_some] at this;rw [this]
       have no:(s.T.getD dd .dead).den e=.d (.lit (.bool !want))→EOps P l.toArray os ((⟨setX s.T o.dst .dead,s.H,s.n⟩:Sx).den e) (acc.reverse++[([],[])]) (fun acc s'=>(d=true→regCk (sums l.toArray l acc)=true)∧Q .normal s')→EOps P l.toArray (o::os) (s.den e) acc.reverse (fun acc s'=>(d=true→regCk (sums l.toArray l acc)=true)∧Q .normal s'):=by
        intro hb k
        refine EOps.cons none ((⟨setX s.T o.dst .dead,s.H,s.n⟩:Sx).den e) ⟨j,want,dd,!want,hg,hj',hgT _ hb,rfl⟩ ?_ (Nat.le_refl _) (by simp [chgOf]) k
        simp only [St.ab,Ab.app,Sx.den,setX_den];rfl
       have yes:(s.T.getD dd .dead).den e=.d (.lit (.bool want))→o.guard=none∨∃j want dd,o.guard=some (j,want)∧(l.toArray[j]?).bind (·.dst)=some dd∧(s.den e).T[dd]? = some (.d (.lit (.bool want))):=fun hb=>.inr ⟨j,want,dd,hg,hj',hgT _ hb⟩
       have lit:∀b,gw (s.T.getD dd .dead) want=.bool b→(s.T.getD dd .dead).den e=.d (.lit (.bool (b==want))):=by
        intro b hb
        generalize s.T.getD dd .dead=g at hb
        cases want
        · simp only [gw,Bool.false_eq_true,if_false,X.mkNot] at hb
          split at hb
          · cases hb;rename_i b';cases b'<;>rfl
          · split at hb
            · subst hb;cases b<;>rfl
            · cases hb
          · cases hb
        · simp only [gw,if_true] at hb;subst hb;cases b<;>rfl
       split at h
       · rename_i hgw
         have hb:=lit true hgw
         obtain ⟨o1,o2⟩:=one s rfl rfl rfl (yes (by rw [hb];cases want<;>rfl))
         split at h
         · rename_i c x pre hq
           obtain ⟨hc,h⟩:=R.holds_mkSide h
           exact o1 c x pre hq hc (ih2 _ _ _ _ h)
         · rename_i c x t H n hq
           obtain ⟨hc,h⟩:=R.holds_mkSide h
           exact o2 c x t H n hq hc (ih2 _ _ _ _ h)
         · exact h.elim
       · rename_i hgw
         exact no (by rw [lit false hgw];cases want<;>rfl) (ih2 _ _ _ _ h)
       · split at h
         · rename_i hb
           generalize hG:gw (s.T.getD dd .dead) want=G at h
           have hGB:G.isB=true:=hG▸gw_isB hb
           have hden:=X.isB_den (e:=e) hb
           have hGt:G.tr e↔boolOf ((s.T.getD dd .dead).den e)=want:=hG▸gw_tr
           have hyes:G.tr e→(s.T.getD dd .dead).den e=.d (.lit (.bool want)):=fun hg=>by rw [hden,hGt.1 hg]
           have hno:¬G.tr e→(s.T.getD dd .dead).den e=.d (.lit (.bool !want)):=fun hg=>by
            have h1:boolOf ((s.T.getD dd .dead).den e)≠want:=fun h=>hg (hGt.2 h)
            rw [hden];congr 3
            revert h1;cases want<;>cases boolOf ((s.T.getD dd .dead).den e)<;>simp
           by_cases hgt:G.tr e
           · obtain ⟨o1,o2⟩:=one (s.strip G) (Sx.strip_den hGB hgt) rfl rfl (yes (hyes hgt))
             split at h
             · rename_i c x hq
               obtain ⟨hc,h⟩:=R.holds_mkSide h
               refine o1 c x [] hq (X.tr_imp hc hgt) ?_
               have h2:=ih2 _ _ _ _ h
               simp only [Sx.den,setX_den,X.den_ite] at h2 ⊢
               rw [if_pos (show boolOf _=true from hgt)] at h2
               exact h2
             · rename_i c x pre _ hq
               obtain ⟨hc,h⟩:=R.holds_mkSide (h.1 hgt)
               have h2:=ih2 _ _ _ _ h
               rw [Sx.strip_set hGB hgt] at h2
               exact o1 c x pre hq hc h2
             · rename_i c x t H n hq
               obtain ⟨hc,h⟩:=R.holds_mkSide (h.1 hgt)
               have h2:=ih2 _ _ _ _ h
               rw [Sx.strip_set hGB hgt] at h2
               exact o2 c x t H n hq hc h2
             · exact h.elim
           · refine no (hno hgt) ?_
             split at h
             · obtain ⟨hc,h⟩:=R.holds_mkSide h
               have h2:=ih2 _ _ _ _ h
               simp only [Sx.den,setX_den,X.den_ite] at h2 ⊢
               rw [if_neg (show ¬boolOf _=true from hgt)] at h2
               exact h2
             · have h2:=ih _ _ _ (h.2 hgt)
               rw [Sx.strip_set X.isB_not (X.tr_not.2 hgt)] at h2
               rw [List.reverse_cons] at h2;exact h2
             · have h2:=ih _ _ _ (h.2 hgt)
               rw [Sx.strip_set X.isB_not (X.tr_not.2 hgt)] at h2
               rw [List.reverse_cons] at h2;exact h2
             · exact h.elim
         · exact h.elim
end
end Ow
namespace Ow
open Go Go.RowKit Go.Deep
def R.only(c:X)(r:R):R:=match c with | .bool true=>r|c=>.mkBr c r .none
def R.stepN(m:Nat)(k:Sx→R)(r r':R):R:=match r.ext m .nrm with
 | .none=>r
 | .one c s=>.mkEls (r.prune .nrm) (.only c (k s))
 | .many=>r'
def R.bindN(m:Nat)(k:Nat→Sx→R)(u:Nat):R→R
 | .out x s=>if x=.nrm then k u s else .out x s
 | .br b r1 r2=>.br b (match r1.ext m .nrm with | .none=>r1 | .one c s=>.mkEls (r1.prune .nrm) (.only c (k u s)) | .many=>r1.bindN m k u) (match r2.ext m .nrm with | .none=>r2 | .one c s=>.mkEls (r2.prune .nrm) (.only c (k u s)) | .many=>r2.bindN m k u)
 | .side c r=>.side c (r.bindN m k u)
 | .els r1 r2=>.els (match r1.ext m .nrm with | .none=>r1 | .one c s=>.mkEls (r1.prune .nrm) (.only c (k u s)) | .many=>r1.bindN m k u) (match r2.ext m .nrm with | .none=>r2 | .one c s=>.mkEls (r2.prune .nrm) (.only c (k u s)) | .many=>r2.bindN m k u)
 | .lp j s h r=>.lp j s h (match r.ext m .nrm with | .none=>r | .one c s=>.mkEls (r.prune .nrm) (.only c (k (j+1) s)) | .many=>r.bindN m k (j+1))
 | r=>r
def R.andThen(m:Nat)(k:Nat→Sx→R)(u:Nat)(r:R):R:=match r.ext m .nrm with
 | .none=>r
 | .one c s=>.mkEls (r.prune .nrm) (.only c (k u s))
 | .many=>r.bindN m k u
def R.rename(id:Nat):R→R
 | .out x s=>if x=.exit id then .out .nrm s else .out x s
 | .br b r1 r2=>.br b (r1.rename id) (r2.rename id)
 | .side c r=>.side c (r.rename id)
 | .els r1 r2=>.els (r1.rename id) (r2.rename id)
 | .lp j s h r=>.lp j s h (r.rename id)
 | r=>r
def R.loopEnd(j:Nat):R→R
 | .out x s=>if x=.nrm then .back j s else .out x s
 | .br b r1 r2=>.br b (r1.loopEnd j) (r2.loopEnd j)
 | .side c r=>.side c (r.loopEnd j)
 | .els r1 r2=>.els (r1.loopEnd j) (r2.loopEnd j)
 | .lp j' s h r=>if j'=j then .stuck [] s else .lp j' s h (r.loopEnd j)
 | r=>r
def skip4 : List X→List X
 | _::_::_::_::l=>l
 | _=>[]
def skip16(l:List X):List X:=skip4 (skip4 (skip4 (skip4 l)))
def dropN : Nat→List X→List X
 | 0,l=>l
 | n+1,l=>dropN n (skip16 l)
def getT(T:List X)(t:Nat):X:=(dropN (t / 16) T).getD (t % 16) .dead
theorem skip4_eq : ∀l:List X,skip4 l=l.drop 4
 | []=>rfl
 | [_]=>rfl
 | [_,_]=>rfl
 | [_,_,_]=>rfl
 | _::_::_::_::_=>rfl
theorem dropN_eq : ∀(n:Nat) (l:List X),dropN n l=l.drop (16*n)
 | 0,l=>rfl
 | n + 1,l=>by
   rw [dropN,dropN_eq n,skip16,skip4_eq,skip4_eq,skip4_eq,skip4_eq,List.drop_drop,List.drop_drop,List.drop_drop,List.drop_drop]
   congr 1;omega
theorem getT_eq(T:List X)(t:Nat):getT T t=T.getD t .dead:=by
 unfold getT
 rw [dropN_eq,List.getD_eq_getElem?_getD,List.getD_eq_getElem?_getD,List.getElem?_drop,Nat.div_add_mod]
def evX(T:List X):Operand→X
 | .tmp t=>getT T t
 | .const v=>match v with
   | .int k n=>.int k n
   | .bool b=>.bool b
   | .string s=>.str s.data.toList
   | .nilIface=>.nilI
   | .nilFunc=>.nilF
   | .slice none 0 0=>.nilS
   | .pointer none=>.nilP
   | _=>.dead
 | .func f=>.fn f .nil .nil
 | .global _=>.dead
structure Ms where
 m : List Bool
 fz:Nat→Sx→Sx
 ok:∀i s e k,Ent k (s.den e) ((fz i s).den e)
 ck:Cko
 cok:CkOk ck
structure Lp where
 hd:Nat→Sx→Option (Nat×Sx)
 ms:Ms
def klO : List Bool→List X→List X
 | b::bs,x::xs=>(match b with|true=>x|false=>.dead)::klO bs xs
 | _,xs=>xs
def klT : List Bool→List X→List X
 | false::false::false::false::false::false::false::false::bs,_::_::_::_::_::_::_::_::xs=>.dead::.dead::.dead::.dead::.dead::.dead::.dead::.dead::klT bs xs
 | b::bs,x::xs=>(match b with|true=>x|false=>.dead)::klT bs xs
 | _,xs=>xs
theorem klT_eq(ms:List Bool)(T:List X):klT ms T=klO ms T:=by
 fun_induction klT ms T with
 | case1 bs a0 a1 a2 a3 a4 a5 a6 a7 xs ih=>rw [ih];rfl
 | case2 b bs x xs h ih=>rw [ih];rfl
 | case3 ms T h1 h2=>cases ms with
   | nil=>rfl
   | cons b bs=>cases T with
     | nil=>rfl
     | cons x xs=>exact absurd rfl (h2 b bs x xs rfl)
def R.klm(ms:List Bool):R→R
 | .out x s=>if x=.nrm then .out .nrm ⟨klT ms s.T,s.H,s.n⟩ else .out x s
 | .br b r1 r2=>.br b (r1.klm ms) (r2.klm ms)
 | .side c r=>.side c (r.klm ms)
 | .els r1 r2=>.els (r1.klm ms) (r2.klm ms)
 | .lp j s h r=>.lp j s h (r.klm ms)
 | r=>r
def R.kl(ms:List Bool)(r:R):R:=match ms with
 | []=>r
 | b::bs=>r.klm (b::bs)
def exec(m:Nat)(ox:Nat→Oper→Sx→OX)(lp:Lp):Nat→Nat→Code→Sx→R
 | _,_,.skip,s=>.out .nrm s
 | _,_,.label _,s=>.out .nrm s
 | u,_,.region id ops d,s=>execOps lp.ms.ck ox ops.toList d (u*100000+id*100+10) ops.toList [] (lp.ms.fz id s)
 | u,i,.seq a b,s=>(exec m ox lp u i a s).andThen m (fun u s=>exec m ox lp u i b s) u
 | u,i,.cond c x y,s=>match evX s.T c with
   | .bool true=>exec m ox lp u i x s
   | .bool false=>exec m ox lp u i y s
   | b=>if b.isB then .br b ((exec m ox lp u i x s).kl lp.ms.m) ((exec m ox lp u i y s).kl lp.ms.m) else .stuck [] s
 | u,_,.block id c,s=>(exec m ox lp u id c s).rename id
 | u,i,.loop c,s=>match lp.hd i s with
   | some (j,h)=>.lp j s h ((exec m ox lp (j+1) i c h).loopEnd j)
   | none=>.stuck [] s
 | _,_,.exit id,s=>.out (.exit id) s
 | _,_,.ret,s=>.out .ret s
 | _,_,_,s=>.stuck [] s
section
variable {P:Program} {m:Nat} {lps:Nat→LpI} {ox:Nat→Oper→Sx→OX} {lp:Lp}
theorem evX_den{e:Env}{T:List X}{x:Operand}:(evX T x).den e=evC (T.map (X.den e)) x∨(evX T x).den e=.dead:=by
 cases x with
 | tmp t=>exact .inl (by show (getT T t).den e=_;rw [getT_eq];exact getD_map_den.symm)
 | const v=>
   unfold evX
   split
   · rename_i h;cases h
   · rename_i w h
     cases h
     split<;>first|exact .inl rfl|exact .inr rfl
   · rename_i h;cases h
   · rename_i h;cases h
 | func f=>exact .inl rfl
 | global g=>exact .inl rfl
theorem OpT.of_dead{o:Oper}{ev ev':Operand→C}{r:Rec}(h:OpT P o ev' r)(hv:∀x,ev' x=ev x∨ev' x=.dead):OpT P o ev r:=
 fun m ρ F RO w a hs hn hr next Q hk=>h m ρ F RO w a hs hn (fun x hx=>(hv x).elim (fun e=>e▸hr x hx) (fun e=>e▸.dead _)) next Q hk
theorem thenP_ne{kQ:St→Prop}{Q:Post}{y:Ex}(hy:y≠.nrm){t:St}(h:Q y.to t):thenP kQ Q y.to t:=by
 cases y with
 | nrm=>exact absurd rfl hy
 | ret=>exact h
 | exit id=>exact h
theorem R.rename_live{e:Env}{id:Nat}{r:R}:(r.rename id).live e↔r.live e:=by
 induction r with
 | out x s=>unfold R.rename;split<;>exact Iff.rfl
 | br b r1 r2 h1 h2=>simp only [R.rename,R.live,h1,h2]
 | side c r h=>simp only [R.rename,R.live,h]
 | els r1 r2 h1 h2=>simp only [R.rename,R.live,h1,h2]
 | _=>exact Iff.rfl
theorem R.rename_excl{id:Nat}{r:R}:∀{e:Env},r.excl e→(r.rename id).excl e:=by
 induction r with
 | out x s=>intro e h;unfold R.rename;split<;>exact h
 | br b r1 r2 h1 h2=>intro e h;exact ⟨fun hb=>h1 (h.1 hb),fun hb=>h2 (h.2 hb)⟩
 | side c r ih=>intro e h;exact ih h
 | els r1 r2 h1 h2=>intro e h;exact ⟨h1 h.1,h2 h.2.1,by rw [R.rename_live,R.rename_live];exact h.2.2⟩
 | lp j s g r ih=>intro e h e';exact ih (h e')
 | _=>intro e h;exact h
theorem R.rename_holds{id:Nat}{Q:Post}{r:R}:∀{e:Env} {cx:List Cx},(r.rename id).Holds m e cx Q→r.Holds m e cx (blockP id Q):=by
 induction r with
 | out x s=>
   intro e cx h
   unfold R.rename at h
   split at h
   · rename_i hx;subst hx;simp only [R.Holds,Ex.to,blockP,if_true];exact h
   · rename_i hx
     cases x with
     | nrm=>exact h
     | ret=>exact h
     | exit id'=>simp only [R.Holds,Ex.to,blockP];rw [if_neg (fun e=>hx (by rw [e]))];exact h
 | br b r1 r2 h1 h2=>intro e cx h;exact ⟨fun hb=>h1 (h.1 hb),fun hb=>h2 (h.2 hb)⟩
 | side c r ih=>intro e cx h;exact ⟨h.1,fun hc=>ih (h.2 hc)⟩
 | els r1 r2 h1 h2=>intro e cx h;exact ⟨h1 h.1,h2 h.2⟩
 | lp j s g r ih=>intro e cx h;obtain ⟨K,a,b⟩:=h;exact ⟨K,a,fun w n hx=>ih (b w n hx)⟩
 | _=>intro e cx h;exact h
theorem R.loopEnd_live{e:Env}{j:Nat}{r:R}(h:(r.loopEnd j).live e):r.live e:=by
 induction r with
 | br b r1 r2 h1 h2=>exact h.imp (fun h=>⟨h.1,h1 h.2⟩) (fun h=>⟨h.1,h2 h.2⟩)
 | side c r ih=>exact ih h
 | els r1 r2 h1 h2=>exact h.imp h1 h2
 | none=>exact h
 | _=>exact trivial
theorem R.loopEnd_excl{j:Nat}{r:R}:∀{e:Env},r.excl e→(r.loopEnd j).excl e:=by
 induction r with
 | out x s=>intro e h;unfold R.loopEnd;split<;>trivial
 | br b r1 r2 h1 h2=>intro e h;exact ⟨fun hb=>h1 (h.1 hb),fun hb=>h2 (h.2 hb)⟩
 | side c r ih=>intro e h;exact ih h
 | els r1 r2 h1 h2=>intro e h;exact ⟨h1 h.1,h2 h.2.1,fun a b=>h.2.2 (loopEnd_live a) (loopEnd_live b)⟩
 | lp j s g r ih=>intro e h;unfold R.loopEnd;split;exact trivial;exact fun e'=>ih (h e')
 | _=>intro e h;exact h
theorem R.loopEnd_holds{j:Nat}{Q:Post}{c:Cx}{r:R}:∀{e:Env} {cx:List Cx},cx.find? (fun c=>c.j==j)=some c→(r.loopEnd j).Holds m e cx Q →
 r.Holds m e cx (thenP (fun s'=>∃w n,c.K w n∧n<c.μ∧Ent m s' (c.h.den (c.e.over (j+1) w))) Q):=by
 induction r with
 | out x s=>
   intro e cx hf h
   unfold R.loopEnd at h
   split at h
   · rename_i hx
     subst hx
     obtain ⟨c',hc,hx⟩:=h
     rw [hf] at hc;cases hc
     exact hx
   · rename_i hx;exact thenP_ne hx h
 | br b r1 r2 h1 h2=>intro e cx hf h;exact ⟨fun hb=>h1 hf (h.1 hb),fun hb=>h2 hf (h.2 hb)⟩
 | side c r ih=>intro e cx hf h;exact ⟨h.1,fun hc=>ih hf (h.2 hc)⟩
 | els r1 r2 h1 h2=>intro e cx hf h;exact ⟨h1 hf h.1,h2 hf h.2⟩
 | lp j' s g r ih=>
   intro e cx hf h
   unfold R.loopEnd at h
   split at h
   · exact h.elim
   · rename_i hj
     obtain ⟨K,a,b⟩:=h
     refine ⟨K,a,fun w n hx=>ih ?_ (b w n hx)⟩
     rw [List.find?_cons_of_neg (by simpa using hj)]
     exact hf
 | _=>intro e cx hf h;exact h
theorem R.only_holds{e:Env}{cx:List Cx}{c:X}{r:R}{Q:Post}(h:(only c r).Holds m e cx Q)(hc:c.tr e):r.Holds m e cx Q:=by
 unfold R.only at h
 split at h
 · exact h
 · rw [R.holds_mkBr] at h;exact h.1 hc
theorem R.only_live{e:Env}{c:X}{r:R}(h:(only c r).live e):c.tr e:=by
 unfold R.only at h
 split at h
 · exact X.tr_true
 · rw [R.live_mkBr] at h
   rcases h with h|h
   · exact h.1
   · exact h.2.elim
theorem R.only_excl{e:Env}{c:X}{r:R}(h:r.excl e):(only c r).excl e:=by
 unfold R.only
 split
 · exact h
 · rw [R.excl_mkBr];exact ⟨fun _=>h,fun _=>trivial⟩
theorem R.prune_holds{e:Env}{cx:List Cx}{x:Ex}{r:R}{Q:Post}(h:r.Holds m e cx Q):(r.prune x).Holds m e cx Q:=by
 induction r with
 | out y s=>unfold R.prune;split;trivial;exact h
 | br b r1 r2 h1 h2=>rw [R.prune,R.holds_mkBr];exact ⟨fun hb=>h1 (h.1 hb),fun hb=>h2 (h.2 hb)⟩
 | side c r ih=>exact ⟨h.1,fun hc=>ih (h.2 hc)⟩
 | els r1 r2 h1 h2=>rw [R.prune,R.holds_mkEls];exact ⟨h1 h.1,h2 h.2⟩
 | _=>exact h
section
variable {k:Sx→R} {Q:Post} {kQ:St→Prop}
theorem R.stepN_holds{e0:Env}(hW:∀t t',Dw m t t'→kQ t'→kQ t)(hk:∀s e cx,Like e0 e→(k s).Holds m e cx Q→kQ (s.den e)){e:Env}{cx:List Cx}{r r':R}(hl:Like e0 e)(hr:r.excl e)
 (h':r'.Holds m e cx Q→r.Holds m e cx (thenP kQ Q)) (h:(stepN m k r r').Holds m e cx Q):r.Holds m e cx (thenP kQ Q):=by
 unfold R.stepN at h
 split at h
 · rename_i hx
   exact ((R.ext_ok hr).1 hx).1 cx Q _ (fun y hy t ht=>thenP_ne hy ht) (R.prune_holds h)
 · rename_i c s hx
   rw [R.holds_mkEls] at h
   exact ((R.ext_ok hr).2 c s hx).2 cx Q _ (fun y hy t ht=>thenP_ne hy ht) (fun t t' h h'=>hW t t' h h') h.1 (fun hc=>hk s e cx hl (R.only_holds h.2 hc))
 · exact h' h
theorem R.bindN_holds{e0:Env}(hW:∀t t',Dw m t t'→kQ t'→kQ t){k:Nat→Sx→R}(hk:∀u s e cx,Like e0 e→(k u s).Holds m e cx Q→kQ (s.den e)){r:R}:∀{u:Nat} {e:Env} {cx:List Cx},Like e0 e→r.excl e→(r.bindN m k u).Holds m e cx Q→r.Holds m e cx (thenP kQ Q):=by
 induction r with
 | out x s=>
   intro u e cx hl _ h
   unfold R.bindN at h
   split at h
   · rename_i hx;subst hx;exact hk u s e cx hl h
   · rename_i hx;exact thenP_ne hx h
 | br b r1 r2 h1 h2=>intro u e cx hl hx h;exact ⟨fun hb=>stepN_holds hW (hk _) hl (hx.1 hb) (h1 hl (hx.1 hb)) (h.1 hb),fun hb=>stepN_holds hW (hk _) hl (hx.2 hb) (h2 hl (hx.2 hb)) (h.2 hb)⟩
 | side c r ih=>intro u e cx hl hx h;exact ⟨h.1,fun hc=>ih hl hx (h.2 hc)⟩
 | els r1 r2 h1 h2=>intro u e cx hl hx h;exact ⟨stepN_holds hW (hk _) hl hx.1 (h1 hl hx.1) h.1,stepN_holds hW (hk _) hl hx.2.1 (h2 hl hx.2.1) h.2⟩
 | lp j s g r ih=>intro u e cx hl hx h;obtain ⟨K,a,b⟩:=h;exact ⟨K,a,fun w n hj=>stepN_holds hW (hk _) hl.over (hx _) (ih hl.over (hx _)) (b w n hj)⟩
 | _=>intro u e cx _ _ h;exact h
theorem R.andThen_holds{e0:Env}(hW:∀t t',Dw m t t'→kQ t'→kQ t){k:Nat→Sx→R}(hk:∀u s e cx,Like e0 e→(k u s).Holds m e cx Q→kQ (s.den e)){r:R}{u:Nat}{e:Env}{cx:List Cx}(hl:Like e0 e)(hr:r.excl e)(h:(r.andThen m k u).Holds m e cx Q):r.Holds m e cx (thenP kQ Q):=
 stepN_holds hW (hk _) hl hr (bindN_holds hW hk hl hr) h
end
section
variable {k:Sx→R}
theorem R.stepN_live{e:Env}{r r':R}(hr:r.excl e)(h':r'.live e→r.live e)(h:(stepN m k r r').live e):r.live e:=by
 unfold R.stepN at h
 split at h
 · exact h
 · rename_i c s hx
   rw [R.live_mkEls] at h
   rcases h with h|h
   · exact prune_live h
   · exact (((R.ext_ok hr).2 c s hx).1 (only_live h)).1
 · exact h' h
theorem R.bindN_live{k:Nat→Sx→R}{r:R}:∀{u:Nat} {e:Env},r.excl e→(r.bindN m k u).live e→r.live e:=by
 induction r with
 | br b r1 r2 h1 h2=>intro u e hx h;exact h.elim (fun h=>.inl ⟨h.1,stepN_live (hx.1 h.1) (h1 (hx.1 h.1)) h.2⟩) (fun h=>.inr ⟨h.1,stepN_live (hx.2 h.1) (h2 (hx.2 h.1)) h.2⟩)
 | side c r ih=>intro u e hx h;exact ih hx h
 | els r1 r2 h1 h2=>intro u e hx h;exact h.imp (stepN_live hx.1 (h1 hx.1)) (stepN_live hx.2.1 (h2 hx.2.1))
 | none=>intro u e _ h;exact h
 | _=>intro u e _ _;exact trivial
theorem R.stepN_excl(hk:∀s e,(k s).excl e){e:Env}{r r':R}(hr:r.excl e)(h':r'.excl e):(stepN m k r r').excl e:=by
 unfold R.stepN
 split
 · exact hr
 · rename_i c s hx
   rw [R.excl_mkEls]
   exact ⟨R.prune_excl hr,R.only_excl (hk s e),fun h1 h2=>(((R.ext_ok hr).2 c s hx).1 (R.only_live h2)).2 h1⟩
 · exact h'
theorem R.bindN_excl{k:Nat→Sx→R}(hk:∀u s e,(k u s).excl e){r:R}:∀{u:Nat} {e:Env},r.excl e→(r.bindN m k u).excl e:=by
 induction r with
 | out x s=>intro u e h;unfold R.bindN;split;exact hk u s e;exact h
 | br b r1 r2 h1 h2=>intro u e h;exact ⟨fun hb=>stepN_excl (hk _) (h.1 hb) (h1 (h.1 hb)),fun hb=>stepN_excl (hk _) (h.2 hb) (h2 (h.2 hb))⟩
 | side c r ih=>intro u e h;exact ih h
 | els r1 r2 h1 h2=>
   intro u e h
   exact ⟨stepN_excl (hk _) h.1 (h1 h.1),stepN_excl (hk _) h.2.1 (h2 h.2.1),fun a b=>h.2.2 (stepN_live h.1 (bindN_live h.1) a) (stepN_live h.2.1 (bindN_live h.2.1) b)⟩
 | lp j s g r ih=>intro u e h e';exact stepN_excl (hk _) (h e') (ih (h e'))
 | _=>intro u e h;exact h
theorem R.andThen_excl{k:Nat→Sx→R}(hk:∀u s e,(k u s).excl e){e:Env}{r:R}{u:Nat}(h:r.excl e):(r.andThen m k u).excl e:=stepN_excl (hk _) h (bindN_excl hk h)
end
theorem R.has_mono'{Q Q':Post}(hQ:∀y t,Q y t→Q' y t){r:R}:∀{e:Env} {cx:List Cx},r.Holds m e cx Q→r.Holds m e cx Q':=by
 induction r with
 | out x s=>intro e cx h;exact hQ _ _ h
 | br b r1 r2 h1 h2=>intro e cx h;exact ⟨fun hb=>h1 (h.1 hb),fun hb=>h2 (h.2 hb)⟩
 | side c r ih=>intro e cx h;exact ⟨h.1,fun hc=>ih (h.2 hc)⟩
 | els r1 r2 h1 h2=>intro e cx h;exact ⟨h1 h.1,h2 h.2⟩
 | lp j s g r ih=>intro e cx h;obtain ⟨K,a,b⟩:=h;exact ⟨K,a,fun w n hx=>ih (b w n hx)⟩
 | none=>intro e cx h;trivial
 | stuck os s=>intro e cx h;exact h
 | back j s=>intro e cx h;exact h
theorem klO_ok{e:Env}:∀{ms:List Bool} {T:List X} (i:Nat) (a f:C),(T.map (X.den e))[i]? = some a→((klO ms T).map (X.den e))[i]? = some f→f=.dead∨f=a:=by
 intro ms
 induction ms with
 | nil=>intro T i a f ha hf;unfold klO at hf;rw [ha] at hf;cases hf;exact .inr rfl
 | cons b bs ih=>
   intro T i a f ha hf
   cases T with
   | nil=>simp at ha
   | cons x xs=>
     cases i with
     | zero=>
       simp only [klO,List.map_cons,List.getElem?_cons_zero,Option.some.injEq] at ha hf
       subst ha hf
       cases b
       · exact .inl rfl
       · exact .inr rfl
     | succ i=>simp only [klO,List.map_cons,List.getElem?_cons_succ] at ha hf;exact ih i a f ha hf
theorem klO_len : ∀{ms:List Bool} {T:List X},(klO ms T).length=T.length:=by
 intro ms
 induction ms with
 | nil=>intro T;rfl
 | cons b bs ih=>intro T;cases T with
   | nil=>rfl
   | cons x xs=>simp [klO,ih]
theorem klT_ok{e:Env}{ms:List Bool}{T:List X}(i:Nat)(a f:C)(ha:(T.map (X.den e))[i]? = some a)(hf:((klT ms T).map (X.den e))[i]? = some f):f=.dead∨f=a:=klO_ok i a f ha (by rw [klT_eq] at hf;exact hf)
theorem klT_len{ms:List Bool}{T:List X}:(klT ms T).length=T.length:=by rw [klT_eq];exact klO_len
theorem kl_ent{e:Env}{m:Nat}{ms:List Bool}{s:Sx}:Ent m (s.den e) ((⟨klT ms s.T,s.H,s.n⟩:Sx).den e):=fun ρ F RO w vs hA=>⟨ρ,F,RO,.refl hA.sim,⟨hA.sim,⟨by rw [hA.rel.len];simp [Sx.den,klT_len],fun i c v hc hv=>by
 have hlt:=(List.getElem?_eq_some_iff.1 hc).1
 have:i<(s.T.map (X.den e)).length:=by simpa [Sx.den,klT_len] using hlt
 rcases klT_ok i _ _ (List.getElem?_eq_getElem this) hc with rfl|rfl
 · exact .dead v
 · exact hA.rel.rel i _ v (List.getElem?_eq_getElem this) hv⟩,hA.dom,hA.le⟩⟩
def wkP(m:Nat)(Q:Post):Post:=fun e s=>match e with | .normal=>∃s',Ent m s s'∧Q .normal s'|e=>Q e s
theorem EWP.weak{c:Code}{s:St}{Q:Post}(h:EWP P m c s (wkP m Q)):EWP P m c s Q:=fun ρ F RO w vs hA ds K hK=>h ρ F RO w vs hA ds K (fun e s' ρ' F' RO' w' vs' hQ hE hA'=>by
 cases e with
 | normal=>
   obtain ⟨s2,he,hq⟩:=hQ
   obtain ⟨ρ2,F2,RO2,e2,a2⟩:=he ρ' F' RO' w' vs' hA'
   exact hK _ s2 ρ2 F2 RO2 w' vs' hq (hE.trans e2) a2
 | _=>exact hK _ s' ρ' F' RO' w' vs' hQ hE hA')
theorem R.klm_live{e:Env}{ms:List Bool}{r:R}:(r.klm ms).live e↔r.live e:=by
 induction r with
 | out x s=>unfold R.klm;split<;>exact Iff.rfl
 | br b r1 r2 h1 h2=>simp only [R.klm,R.live,h1,h2]
 | side c r h=>simp only [R.klm,R.live,h]
 | els r1 r2 h1 h2=>simp only [R.klm,R.live,h1,h2]
 | lp j s h r ih=>simp only [R.klm,R.live]
 | _=>exact Iff.rfl
theorem R.klm_excl{ms:List Bool}{r:R}:∀{e:Env},r.excl e→(r.klm ms).excl e:=by
 induction r with
 | out x s=>intro e h;unfold R.klm;split<;>trivial
 | br b r1 r2 h1 h2=>intro e h;exact ⟨fun hb=>h1 (h.1 hb),fun hb=>h2 (h.2 hb)⟩
 | side c r ih=>intro e h;exact ih h
 | els r1 r2 h1 h2=>intro e h;exact ⟨h1 h.1,h2 h.2.1,fun a b=>h.2.2 (R.klm_live.1 a) (R.klm_live.1 b)⟩
 | lp j s g r ih=>intro e h e';exact ih (h e')
 | _=>intro e h;trivial
theorem R.klm_holds{ms:List Bool}{Q:Post}{r:R}:∀{e:Env} {cx:List Cx},(r.klm ms).Holds m e cx Q→r.Holds m e cx (wkP m Q):=by
 induction r with
 | out x s=>
   intro e cx h
   unfold R.klm at h
   split at h
   · rename_i hx;subst hx;exact ⟨_,kl_ent,h⟩
   · rename_i hx
     cases x with
     | nrm=>exact absurd rfl hx
     | ret=>exact h
     | exit id=>exact h
 | br b r1 r2 h1 h2=>intro e cx h;exact ⟨fun hb=>h1 (h.1 hb),fun hb=>h2 (h.2 hb)⟩
 | side c r ih=>intro e cx h;exact ⟨h.1,fun hc=>ih (h.2 hc)⟩
 | els r1 r2 h1 h2=>intro e cx h;exact ⟨h1 h.1,h2 h.2⟩
 | lp j s g r ih=>intro e cx h;obtain ⟨K,a,b⟩:=h;exact ⟨K,a,fun w n hx=>ih (b w n hx)⟩
 | none=>intro e cx h;trivial
 | stuck os s=>intro e cx h;exact h
 | back j s=>intro e cx h;exact h
theorem R.kl_excl{ms:List Bool}{r:R}{e:Env}(h:r.excl e):(r.kl ms).excl e:=by
 unfold R.kl
 split
 · exact h
 · exact R.klm_excl h
theorem R.kl_holds{ms:List Bool}{Q:Post}{r:R}{e:Env}{cx:List Cx}(h:(r.kl ms).Holds m e cx Q):r.Holds m e cx (wkP m Q):=by
 unfold R.kl at h
 split at h
 · refine R.has_mono' ?_ h
   intro e s hq
   cases e with
   | normal=>exact ⟨s,Ent.refl _ _,hq⟩
   | _=>exact hq
 · exact R.klm_holds h
theorem exec_ok(hm:P.follows .mixedOrders=true){e0:Env}(hox:∀e,Like e0 e→∀q,OxOk P e (ox q)):∀(c:Code) (u i:Nat) (s:Sx),(∀e,(exec m ox lp u i c s).excl e)∧∀e cx Q,Like e0 e→(exec m ox lp u i c s).Holds m e cx Q→EWP P m c (s.den e) Q:=by
 intro c
 induction c with
 | skip=>intro u i s;exact ⟨fun _=>trivial,fun e cx Q hl h=>EWP.skip h⟩
 | label l=>intro u i s;exact ⟨fun _=>trivial,fun e cx Q hl h=>EWP.label h⟩
 | exit id=>intro u i s;exact ⟨fun _=>trivial,fun e cx Q hl h=>EWP.exit h⟩
 | ret=>intro u i s;exact ⟨fun _=>trivial,fun e cx Q hl h=>EWP.ret h⟩
 | region id ops d=>
   intro u i s
   unfold exec
   refine ⟨fun _=>execOps_excl _ _ _ _ _ _ _,fun e cx Q hl h=>?_⟩
   have h1:=execOps_ok (P:=P) lp.ms.cok (hox e hl) ops.toList d ops.toList _ [] (lp.ms.fz id s) h
   refine EWP.ent (lp.ms.ok id s e m) ?_
   cases d with
   | false=>
     refine EWP.region (l:=ops.toList) ?_
     obtain ⟨rs,s',h2,h3⟩:=h1
     exact ⟨rs,s',h2,h3.2⟩
   | true=>
     refine EWP.draw (l:=ops.toList) hm ?_
     obtain ⟨rs,s',h2,h3⟩:=h1
     exact ⟨rs,s',h2,h3.1 rfl,h3.2⟩
 | seq a b iha ihb=>
   intro u i s
   unfold exec
   refine ⟨fun e=>R.andThen_excl (fun u s e=>(ihb u i s).1 e) ((iha u i s).1 e),fun e cx Q hl h=>?_⟩
   exact EWP.seq ((iha u i s).2 e cx _ hl (R.andThen_holds (fun t t' hd h=>EWP.ent hd h) (fun u s e cx hl h=>(ihb u i s).2 e cx Q hl h) hl ((iha u i s).1 e) h))
 | cond c x y ihx ihy=>
   intro u i s
   unfold exec
   have hev:∀e b,(evX s.T c).den e=.d (.lit (.bool b))→evC (s.den e).T c=.d (.lit (.bool b)):=fun e b h=>by
    rcases evX_den (e:=e) (T:=s.T) (x:=c) with h1|h1
    · exact h1.symm.trans h
    · rw [h] at h1;cases h1
   split
   · rename_i hc
     exact ⟨(ihx u i s).1,fun e cx Q hl h=>EWP.cond true (hev e true (by rw [hc];rfl)) (fun _=>(ihx u i s).2 e cx Q hl h) (fun h=>by cases h)⟩
   · rename_i hc
     exact ⟨(ihy u i s).1,fun e cx Q hl h=>EWP.cond false (hev e false (by rw [hc];rfl)) (fun h=>by cases h) (fun _=>(ihy u i s).2 e cx Q hl h)⟩
   · split
     · rename_i hb
       refine ⟨fun e=>⟨fun _=>R.kl_excl ((ihx u i s).1 e),fun _=>R.kl_excl ((ihy u i s).1 e)⟩,fun e cx Q hl h=>?_⟩
       exact EWP.cond _ (hev e _ (X.isB_den hb)) (fun h1=>((ihx u i s).2 e cx _ hl (R.kl_holds (h.1 h1))).weak) (fun h1=>((ihy u i s).2 e cx _ hl (R.kl_holds (h.2 (by unfold X.tr;rw [h1];simp)))).weak)
     · exact ⟨fun _=>trivial,fun e cx Q hl h=>h.elim⟩
 | block id c ih=>
   intro u i s
   unfold exec
   exact ⟨fun e=>R.rename_excl ((ih u id s).1 e),fun e cx Q hl h=>EWP.block ((ih u id s).2 e cx _ hl (R.rename_holds h))⟩
 | loop c ih=>
   intro u i s
   unfold exec
   split
   · rename_i j g _
     refine ⟨fun e e'=>R.loopEnd_excl ((ih (j+1) i g).1 e'),fun e cx Q hl h=>?_⟩
     obtain ⟨K,⟨w0,n0,hJ,hE⟩,hr⟩:=h
     refine EWP.loop (X:=Env×Nat) (fun x=>K x.1 x.2) (fun x=>g.den (e.over (j+1) x.1)) (fun x=>x.2) (w0,n0) hJ hE (fun x hx=>?_)
     refine ((ih (j+1) i g).2 _ _ _ hl.over (R.loopEnd_holds (c:=⟨j,e,K,x.2,g⟩) (by simp) (hr x.1 x.2 hx))).mono (fun e s h=>?_)
     cases e with
     | normal=>obtain ⟨w,n,a1,a2,a3⟩:=h;exact ⟨(w,n),a1,a2,a3⟩
     | _=>exact h
   · exact ⟨fun _=>trivial,fun e cx Q hl h=>h.elim⟩
 | _=>intro u i s;exact ⟨fun _=>trivial,fun e cx Q hl h=>h.elim⟩
end
end Ow
namespace Ow
open Go Go.RowKit Go.Deep
def taT(P:Program)(t:TypeId):Bool:=(match P.underlying t with|some (.struct _)=>true|_=>false)&&(match (P.info? t).bind (·.zero) with|some (.agg _)=>true|_=>false)
def ifT(P:Program)(t:TypeId):Bool:=match P.underlying t with|some (.interface _)=>true|_=>false
def ptT(P:Program)(t:TypeId):Bool:=match P.underlying t with|some (.pointer _)=>true|_=>false
def MtIs(P:Program)(t:TypeId)(n:String)(f:FuncId):Prop:=∀v args w,(callMethod (.iface t v) n args).run P w=(callFunc f (#[v]++args)).run P w
section
variable {P:Program} {o:Oper} {ev:Operand→C}
theorem run_zeroT{t:TypeId}{zs:List C}{w:World}{ρ:Pl}{RO:Nat→Prop}(h:taT P t=true)(hz:zeroC P t=some zs):∃v,(zeroValue t).run P w=.ok v w∧RelC ρ RO w (.agg zs) v:=by
 unfold taT at h
 simp only [Bool.and_eq_true] at h
 unfold zeroC at hz
 cases hi:P.info? t with
 | none=>rw [hi] at hz;cases hz
 | some ti=>
   rw [hi] at hz h
   simp only [Option.bind_some] at hz h
   cases hz0:ti.zero with
   | none=>rw [hz0] at hz;cases hz
   | some z=>
     rw [hz0] at hz h
     simp only [Option.bind_some] at hz
     have hr:=(RelC.lit' (ρ:=ρ) (RO:=RO) (w:=w) z).cells hz
     have hz2:=h.2
     cases z with
     | agg vs=>exact ⟨.agg vs,by simp [zeroValue,typeInfo,hi,hz0],by have:=RelC.agg (ρ:=ρ) (RO:=RO) (w:=w) zs vs.toList hr.len (fun v hv=>hr.one v hv) (fun i c v hc hv=>hr.rel i c v hc hv);simpa using this⟩
     | _=>cases hz2
theorem run_taT{t:TypeId}(h:taT P t=true)(w:World):∃fs,(underlying t).run P w=.ok (.struct fs) w:=by
 unfold taT at h
 simp only [Bool.and_eq_true] at h
 have h1:=h.1
 split at h1
 · rename_i fs hu;exact ⟨fs,run_underlying hu w⟩
 · cases h1
theorem OpT.tAssert{x:Operand}{xt t:TypeId}{v:C}(ho:o.op=.typeAssert x xt t true)(hx:ev x=.ifc t v)(ht:taT P t=true):OpT P o ev ⟨[],[],[],.tup [v,.d (.lit (.bool true))]⟩:=
 .read [] _ fun ρ F RO w a _ hr=>by
  have h1:=hx▸hr x (by rw [ho];simp [Op.operands])
  generalize ha:a.eval x=u at h1
  cases h1 with
  | ifc _ _ u h=>
    obtain ⟨fs,hu⟩:=run_taT ht w
    refine ⟨.tuple #[u,.bool true],?_,by have:=RelC.tup (ρ:=ρ) (RO:=RO) (w:=w) [v,.d (.lit (.bool true))] [u,.bool true] rfl (fun i c z hc hz=>by
     match i,hc,hz with
     | 0,hc,hz=>cases hc;cases hz;exact h
     | 1,hc,hz=>cases hc;cases hz;exact .lit' _);simpa using this⟩
    unfold execOp;rw [ho]
    simp [ha,Instr.typeAssert,hu]
theorem OpT.tOther{x:Operand}{xt t t':TypeId}{v:C}{zs:List C}(ho:o.op=.typeAssert x xt t true)(hx:ev x=.ifc t' v∨ev x=.d (.lit .nilIface))(hne:ev x=.ifc t' v→t'≠t)(ht:taT P t=true)(hz:zeroC P t=some zs):OpT P o ev ⟨[],[],[],.tup [.agg zs,.d (.lit (.bool false))]⟩:=
 .read [] _ fun ρ F RO w a _ hr=>by
  have h1:=hr x (by rw [ho];simp [Op.operands])
  obtain ⟨fs,hu⟩:=run_taT ht w
  obtain ⟨z,hz1,hz2⟩:=run_zeroT (ρ:=ρ) (RO:=RO) (w:=w) ht hz
  refine ⟨.tuple #[z,.bool false],?_,by have:=RelC.tup (ρ:=ρ) (RO:=RO) (w:=w) [.agg zs,.d (.lit (.bool false))] [z,.bool false] rfl (fun i c z hc hz=>by
   match i,hc,hz with
   | 0,hc,hz=>cases hc;cases hz;exact hz2
   | 1,hc,hz=>cases hc;cases hz;exact .lit' _);simpa using this⟩
  unfold execOp;rw [ho]
  rcases hx with hx|hx
  · have hne:=hne hx
    rw [hx] at h1
    generalize ha:a.eval x=u at h1
    cases h1 with
    | ifc _ _ u h=>simp [ha,Instr.typeAssert,hu,hne,hz1]
  · rw [hx] at h1
    have e1:=RelC.lit_eq h1
    simp [e1,Instr.typeAssert,hu,hz1]
theorem run_binE{t:TypeId}{x y:Value}{b:Bool}{w:World}(hq:∀d,(Op.equalIn (d+1) t x y).run P w=.ok b w)(he:binOp .eql t x y=(do pure (.bool (←Op.equal t x y)))):(binOp .eql t x y).run P w=.ok (.bool b) w:=by
 have h:(Op.equalIn 10000 t x y).run P w=.ok b w:=hq 9999
 rw [he]
 simp only [Op.equal,Op.maxDepth,Sem.run_bind,h,Result.andThen_ok,Sem.run_pure]
theorem run_binN{t:TypeId}{x y:Value}{b:Bool}{w:World}(hq:∀d,(Op.equalIn (d+1) t x y).run P w=.ok b w)(he:binOp .neq t x y=(do pure (.bool (!(←Op.equal t x y))))):(binOp .neq t x y).run P w=.ok (.bool (!b)) w:=by
 have h:(Op.equalIn 10000 t x y).run P w=.ok b w:=hq 9999
 rw [he]
 simp only [Op.equal,Op.maxDepth,Sem.run_bind,h,Result.andThen_ok,Sem.run_pure]
theorem OpT.nilEq{x y:Operand}{t t':TypeId}{op:BinOp}{b:Bool}(ho:o.op=.binOp op t x y t')(hy:(ev y=.d (.lit .nilIface)∧ifT P t=true∧∃u v,ev x=.ifc u v)∨(ev y=.d (.lit (.pointer none))∧ptT P t=true∧((∃l sz i j,ev x=.ptr l sz i j)∨∃cs,ev x=.d (.ep cs))))
 (hb:op=.eql∧b=false∨op=.neq∧b=true):OpT P o ev ⟨[],[],[],.d (.lit (.bool b))⟩:=
 .read [] _ fun ρ F RO w a _ hr=>by
  have h1:=hr x (by rw [ho];simp [Op.operands])
  have h2:=hr y (by rw [ho];simp [Op.operands])
  refine ⟨.bool b,?_,.lit' _⟩
  unfold execOp;rw [ho]
  rcases hy with ⟨hy,ht,u,v,hx⟩|⟨hy,ht,hx⟩
  · rw [hy] at h2
    rw [hx] at h1
    have e2:=RelC.lit_eq h2
    unfold ifT at ht
    split at ht
    · rename_i ms hu
      generalize ha:a.eval x=z at h1
      cases h1 with
      | ifc _ _ z h=>
        rcases hb with ⟨rfl,rfl⟩|⟨rfl,rfl⟩<;>simp [ha,e2,eqGuard,run_binE (P:=P) (w:=w) (t:=t) (x:=.iface u z) (y:=.nilIface) (b:=false) (fun d=>by simp [Op.equalIn,run_underlying hu]) rfl,run_binN (P:=P) (w:=w) (t:=t) (x:=.iface u z) (y:=.nilIface) (b:=false) (fun d=>by simp [Op.equalIn,run_underlying hu]) rfl]
    · cases ht
  · rw [hy] at h2
    have e2:=RelC.lit_eq h2
    unfold ptT at ht
    split at ht
    · rename_i ms hu
      generalize ha:a.eval x=z at h1
      have:∃p,z=.pointer (some p):=by
       rcases hx with ⟨l,sz,i,j,hx⟩|⟨cs,hx⟩
       · rw [hx] at h1;cases h1;exact ⟨_,rfl⟩
       · rw [hx] at h1;cases h1 with|d x v h=>cases h;exact ⟨_,rfl⟩
      obtain ⟨p,rfl⟩:=this
      rcases hb with ⟨rfl,rfl⟩|⟨rfl,rfl⟩<;>simp [ha,e2,eqGuard,run_binE (P:=P) (w:=w) (t:=t) (x:=.pointer (some p)) (y:=.pointer none) (b:=false) (fun d=>by simp [Op.equalIn,run_underlying hu]) rfl,run_binN (P:=P) (w:=w) (t:=t) (x:=.pointer (some p)) (y:=.pointer none) (b:=false) (fun d=>by simp [Op.equalIn,run_underlying hu]) rfl]
    · cases ht
theorem OpT.nilNil{x y:Operand}{t t':TypeId}{op:BinOp}{b:Bool}(ho:o.op=.binOp op t x y t')(hy:(ev y=.d (.lit (.pointer none))∧ptT P t=true∧ev x=.d (.lit (.pointer none)))∨(y=.const .nilIface∧ev y=.d (.lit .nilIface)∧ifT P t=true∧ev x=.d (.lit .nilIface)))
 (hb:op=.eql∧b=true∨op=.neq∧b=false):OpT P o ev ⟨[],[],[],.d (.lit (.bool b))⟩:=
 .read [] _ fun ρ F RO w a _ hr=>by
  have h1:=hr x (by rw [ho];simp [Op.operands])
  have h2:=hr y (by rw [ho];simp [Op.operands])
  refine ⟨.bool b,?_,.lit' _⟩
  unfold execOp;rw [ho]
  rcases hy with ⟨hy,ht,hx⟩|⟨rfl,hy,ht,hx⟩
  · rw [hy] at h2
    rw [hx] at h1
    have e2:=RelC.lit_eq h2
    have e1:=RelC.lit_eq h1
    unfold ptT at ht
    split at ht
    · rename_i ms hu
      rcases hb with ⟨rfl,rfl⟩|⟨rfl,rfl⟩<;>simp [e1,e2,eqGuard,run_binE (P:=P) (w:=w) (t:=t) (x:=.pointer none) (y:=.pointer none) (b:=true) (fun d=>by simp [Op.equalIn,run_underlying hu]) rfl,run_binN (P:=P) (w:=w) (t:=t) (x:=.pointer none) (y:=.pointer none) (b:=true) (fun d=>by simp [Op.equalIn,run_underlying hu]) rfl]
    · cases ht
  · rw [hy] at h2
    rw [hx] at h1
    have e2:=RelC.lit_eq h2
    have e1:=RelC.lit_eq h1
    unfold ifT at ht
    split at ht
    · rename_i ms hu
      rcases hb with ⟨rfl,rfl⟩|⟨rfl,rfl⟩<;>simp [e1,e2,eqGuard,run_binE (P:=P) (w:=w) (t:=t) (x:=.nilIface) (y:=.nilIface) (b:=true) (fun d=>by simp [Op.equalIn,run_underlying hu]) rfl,run_binN (P:=P) (w:=w) (t:=t) (x:=.nilIface) (y:=.nilIface) (b:=true) (fun d=>by simp [Op.equalIn,run_underlying hu]) rfl]
    · cases ht
theorem OpT.mkFunc{fn:Fn}{us ys:Array Operand}(ho:o.op=.makeFunc fn us ys):OpT P o ev ⟨[],[],[],.fn fn (us.toList.map ev) (ys.toList.map ev)⟩:=
 .read [] _ fun ρ F RO w a _ hr=>by
  have key:∀zs:Array Operand,(∀z∈zs,RelC ρ RO w (ev z) (a.eval z))→(zs.map a.eval).toList.length=(zs.toList.map ev).length∧∀(i:Nat) (c:C) (v:Value),(zs.toList.map ev)[i]? = some c→(zs.map a.eval).toList[i]? = some v→RelC ρ RO w c v:=fun zs hz=>by
   refine ⟨by simp,fun i c v hc hv=>?_⟩
   rw [Array.toList_map,List.getElem?_map] at hv
   rw [List.getElem?_map] at hc
   cases hg:zs.toList[i]? with
   | none=>rw [hg] at hc;cases hc
   | some z=>
     rw [hg] at hc hv
     cases hc;cases hv
     exact hz z (by rw [←Array.mem_toList_iff];exact List.mem_of_getElem? hg)
  obtain ⟨l1,r1⟩:=key us (fun z hz=>hr z (by rw [ho];simp [Op.operands,hz]))
  obtain ⟨l2,r2⟩:=key ys (fun z hz=>hr z (by rw [ho];simp [Op.operands,hz]))
  refine ⟨.func fn (us.map a.eval) (ys.map a.eval),?_,by have:=RelC.fn (ρ:=ρ) (RO:=RO) (w:=w) fn _ _ (us.map a.eval).toList (ys.map a.eval).toList l1 l2 r1 r2;simpa only [Array.toArray_toList] using this⟩
  unfold execOp;rw [ho];simp [Instr.makeFunc]
theorem Enters.meth{f:FuncId}{x:Operand}{n:String}{xs:Array Operand}{ts:Array TypeId}{t:TypeId}{v:C}(ho:o.op=.call { callee:=.invoke x n,args:=xs,argTypes:=ts })(hx:ev x=.ifc t v)(hm:MtIs P t n f)(hf:FnOk P f):Enters P o ev f (v::xs.toList.map ev):=by
 intro ρ RO w a hr
 have h1:=hx▸hr x (by rw [ho];simp [Op.operands,Call.operands])
 generalize ha:a.eval x=u at h1
 cases h1 with
 | ifc _ _ u h=>
   refine ⟨#[u]++xs.map a.eval,?_,⟨by simp;omega,fun i c z hc hz=>?_⟩⟩
   · unfold execOp;rw [ho]
     have:=hm u (xs.map a.eval) w
     rw [run_callF hf] at this
     have e:((#[Value.iface t u]++xs.map a.eval).extract 1 (#[Value.iface t u]++xs.map a.eval).size)=xs.map a.eval:=by
      apply Array.toList_inj.1;simp [List.extract];exact List.take_of_length_le (by simp)
     simp only [resolve,invoke,ha,Sem.run_bind,Sem.run_pure,Result.andThen_ok]
     have e0:(#[Value.iface t u]++xs.map a.eval)[0]? = some (.iface t u):=by rw [Array.getElem?_append_left (by simp)];rfl
     simp only [e0,e]
     exact this
   · cases i with
     | zero=>cases hc;rw [Array.getElem?_append_left (by simp)] at hz;cases hz;exact h
     | succ i=>
       rw [List.getElem?_cons_succ,List.getElem?_map,Array.getElem?_toList] at hc
       rw [Array.getElem?_append] at hz
       simp only [List.size_toArray,List.length_cons,List.length_nil,Nat.zero_add] at hz
       rw [if_neg (by omega),Nat.add_sub_cancel,Array.getElem?_map] at hz
       cases hx2:xs[i]? with
       | none=>rw [hx2] at hc;cases hc
       | some y=>
         rw [hx2] at hc hz
         simp only [Option.map_some,Option.some.injEq] at hc hz
         subst hc hz
         exact hr y (by rw [ho];simp [Op.operands,Call.operands,Array.mem_of_getElem? hx2])
end
end Ow
