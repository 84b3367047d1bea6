/- A part of the proof. -/
import Derived.Test.YtjakhnhnjhafgaaGreatK15
import Derived.Test.YtjakhnhnjhafgaaGreatK13
set_option linter.unusedVariables false
set_option linter.unusedSimpArgs false
namespace Ow
open Go Go.RowKit Go.Deep
abbrev Ctrs := List (FuncId×(List X→Option (X×X)))
def CtrOk(P:Program)(e:Env)(ct:Ctrs):Prop:=∀f g,(f,g)∈ct→∀xs c r,g xs=some (c,r)→c.tr e→EC P f 0 (xs.map (X.den e)) [] (r.den e) [] 0
def X.bare : X→Bool
 | .nil=>true | .dead=>true | .nilI=>true | .nilF=>true | .nilP=>true
 | .cons a b=>a.bare&&b.bare
 | .agg a=>a.bare | .tup a=>a.bare | .ifc _ a=>a.bare
 | .ite c x y=>(match (X.ite c x y).kd with|some (.sl _)=>false|some _=>true|none=>x.bare&&y.bare)
 | x=>match x.kd with|some (.sl _)=>false|some _=>true|none=>false
theorem kd_lit{e:Env}{x:X}{k:Ki}(h:x.kd=some k)(hk:∀cs,k≠.sl cs):PureC (x.den e)∧tupOf (x.den e)=[]:=by
 obtain ⟨h1,-,h3⟩:=kd_ok (e:=e) h
 generalize x.den e=u at h3
 rw [h3]
 cases k<;>first|exact ⟨.d _ (.lit _),rfl⟩|exact absurd rfl (hk _)|cases h1
theorem X.bare_ok{e:Env}{x:X}(h:x.bare=true):PureC (x.den e)∧∀c∈tupOf (x.den e),PureC c:=by
 have kk:∀{x:X},(match x.kd with|some (.sl _)=>false|some _=>true|none=>false)=true→PureC (x.den e)∧∀c∈tupOf (x.den e),PureC c:=by
  intro x h
  split at h
  · cases h
  · rename_i k hk hx
    obtain ⟨h1,h2⟩:=kd_lit (e:=e) hx (fun cs e=>by subst e;exact hk cs rfl)
    exact ⟨h1,by rw [h2];simp⟩
  · cases h
 induction x with
 | nil=>exact ⟨.tup _ (by simp),by simp [X.den,tupOf]⟩
 | dead=>exact ⟨.dead,by simp [X.den,tupOf]⟩
 | cons a b iha ihb=>
   simp only [X.bare,Bool.and_eq_true] at h
   have:∀c∈tupOf ((X.cons a b).den e),PureC c:=fun c hc=>by
    rcases List.mem_cons.1 hc with rfl|hc
    · exact (iha h.1).1
    · exact (ihb h.2).2 c hc
   exact ⟨.tup _ this,this⟩
 | agg a ih=>exact ⟨.agg _ (ih h).2,by simp [X.den,tupOf]⟩
 | tup a ih=>exact ⟨.tup _ (ih h).2,(ih h).2⟩
 | ifc t a ih=>exact ⟨.ifc _ _ (ih h).1,by simp [X.den,tupOf]⟩
 | ite c x y _ ihx ihy=>
   unfold X.bare at h
   split at h
   · cases h
   · rename_i k hk hx
     obtain ⟨h1,h2⟩:=kd_lit (e:=e) hx (fun cs e=>by subst e;exact hk cs rfl)
     exact ⟨h1,by rw [h2];simp⟩
   · simp only [Bool.and_eq_true] at h
     simp only [X.den]
     split
     · exact ihx h.1
     · exact ihy h.2
 | _=>first|exact ⟨.d _ (.lit _),by simp [X.den,tupOf]⟩|exact kk h
def hbOf(s:Sx)(e:Env)(ids:List Nat):Hp:=ids.filterMap (fun l=>(getX s.H l).map (fun b=>(l,Blk.c b.cs.len (rowsC (b.rows.den e)))))
theorem hbOf_get{s:Sx}{e:Env}{ids:List Nat}(l:Nat):(hbOf s e ids).get l=if l∈ids then (s.den e).H.get l else none:=by
 have hH:(s.den e).H.get l=(getX s.H l).map (fun b=>.c b.cs.len (rowsC (b.rows.den e))):=getX_den s.H l
 induction ids with
 | nil=>rfl
 | cons a ids ih=>
   unfold hbOf at ih ⊢
   rw [List.filterMap_cons]
   cases ha:getX s.H a with
   | none=>
     simp only [Option.map_none,ih,List.mem_cons]
     by_cases h:l=a
     · subst h;simp [hH,ha]
     · simp [h]
   | some b=>
     simp only [Option.map_some,Hp.get_cons,ih,List.mem_cons]
     by_cases h:l=a
     · subst h;simp [hH,ha]
     · simp [h]
theorem hbOf_ids{s:Sx}{e:Env}{ids:List Nat}(h:∀l∈ids,(getX s.H l).isSome=true):(hbOf s e ids).map (·.1)=ids:=by
 induction ids with
 | nil=>rfl
 | cons a ids ih=>
   unfold hbOf at ih ⊢
   have ha:=h a List.mem_cons_self
   rw [List.filterMap_cons]
   cases hg:getX s.H a with
   | none=>rw [hg] at ha;cases ha
   | some b=>simp only [Option.map_some,List.map_cons,ih (fun l hl=>h l (List.mem_cons_of_mem _ hl))]
def kisOf(rk:Tb (List Ki))(ts:List TypeId):Option (List (List Ki)):=ts.mapM (fun t=>lookT t rk)
def callX(ct:Ctrs)(rk:Tb (List Ki))(s:Sx)(f:FuncId)(xs:List X)(ts:List TypeId):OX:=match look f ct,kisOf rk ts with
 | some g,some ks=>match cvRs s ks xs with
   | some (ys,ids)=>match g ys with
     | some (c,r)=>if r.ids 0=true∧(ids=[]∨r.bare=true)∧ids.all (fun l=>(getX s.H l).isSome)=true then .val c r ids else .no
     | none=>.no
   | none=>.no
 | _,_=>.no
theorem ren_self{e:Env}{x:X}(h:x.ids 0=true):renC id (x.den e)=x.den e∧renCs id (tupOf (x.den e))=tupOf (x.den e):=by
 have all:∀c:C,renC id c=c:=by
  intro c
  have:∀c:C,renC id c=c∧True:=fun c=>⟨by
   induction c using C.rec (motive_2:=fun cs=>renCs id cs=cs) with
   | d x=>rfl
   | ptr l sz i j=>rfl
   | osl l sz s n=>rfl
   | agg cs ih=>simp only [renC];rw [ih]
   | tup cs ih=>simp only [renC];rw [ih]
   | ifc t x ih=>simp only [renC];rw [ih]
   | fn f xs ys ih1 ih2=>simp only [renC];rw [ih1,ih2]
   | dead=>rfl
   | nil=>rfl
   | cons c cs ih1 ih2=>simp only [renCs];rw [ih1,ih2],trivial⟩
  exact (this c).1
 exact ⟨all _,by
  induction tupOf (x.den e) with
  | nil=>rfl
  | cons c cs ih=>simp only [renCs];rw [all,ih]⟩
section
variable {P:Program} {e:Env} {ct:Ctrs} {rk:Tb (List Ki)} {s:Sx} {c r:X} {pre:List Nat} {o:Oper}
theorem callX_ok(hct:CtrOk P e ct){f:FuncId}{az:Array Operand}{ts:Array TypeId}(ho:o.op=.call { callee:=.value (.func f),args:=az,argTypes:=ts })(h:callX ct rk s f (az.toList.map (evX s.T)) ts.toList=.val c r pre):OvOk P e o s c r pre:=by
 unfold callX at h
 split at h
 · rename_i g ks hg hks
   split at h
   · rename_i ys ids hcv
     split at h
     · rename_i c' r' hgy
       split at h
       · rename_i hh
         cases h
         intro hc
         have he:=hct f g (look_mem hg) ys c r hgy hc
         have hids:∀l∈pre,(getX s.H l).isSome=true:=fun l hl=>List.all_eq_true.1 hh.2.2 l hl
         obtain ⟨e1,e2⟩:=cvRs_ok (e:=e) (σ:=id) (n:=0) (hv:=(hbOf s e pre).get) hcv (fun l hl=>by rw [hbOf_get,if_pos hl])
         have hsub:∀l B,(hbOf s e pre).get l=some B→(s.den e).H.get l=some B:=fun l B hB=>by
          rw [hbOf_get] at hB
          split at hB
          · exact hB
          · cases hB
         refine ⟨hbOf s e pre,?_,hsub,hbOf_ids hids⟩
         have hm:(az.toList.map (fun y=>(evX s.T y).den e))=(az.toList.map (evX s.T)).map (X.den e):=by rw [List.map_map];rfl
         have:=OpT.call (ev:=fun y=>(evX s.T y).den e) he (.func ho he.1) (σ:=id) (ids:=[]) (hb:=hbOf s e pre) (pre:=hbOf s e pre)
          ⟨by rw [hm];simpa using e1,fun i a f h1 h2=>by rw [hm] at h1;exact e2 i a f h1 h2,
            (fun l B h=>by cases h),(fun l B h=>h),(fun l B h=>by cases h),(fun l B h=>by cases h),(fun l h1 h2=>by omega),(fun l h=>by cases h),(fun l h=>by cases h),(fun l h=>by cases h),(fun l h=>by cases h),(fun l h=>by cases h),(fun x B h=>.inl h),by
            rcases hh.2.1 with h1|h1
            · exact .inl (by rw [h1];rfl)
            · exact .inr ⟨(X.bare_ok h1).1,fun l B h=>by cases h⟩⟩
         rw [(ren_self hh.1).1] at this
         simpa using this
       · cases h
     · cases h
   · cases h
 · cases h
end
end Ow
namespace Ow
open Go Go.RowKit Go.Deep
theorem Vw.more{hv hv':Nat→Option Blk}(hh:∀l B,hv l=some B→hv' l=some B){c:C}{x:D}(h:Vw hv c x):Vw hv' c x:=by
 induction h with
 | d x=>exact .d x
 | osl l sz s n rows X cc h hl hx hr h1 h2 ih=>exact .osl l sz s n rows X cc (hh _ _ h) hl hx hr h1 ih
 | ptr l sz i j rows row r cc h hi h1 h2 ih=>exact .ptr l sz i j rows row r cc (hh _ _ h) hi h1 ih
 | agg cs xs hl h ih=>exact .agg cs xs hl ih
 | nil sz=>exact .nil sz
 | ifc t c x h ih=>exact .ifc t c x ih
theorem Arg.more{σ:Nat→Nat}{k:Nat}{hv hv':Nat→Option Blk}(hh:∀l B,hv l=some B→hv' l=some B){a f:C}(h:Arg σ k hv a f):Arg σ k hv' a f:=by
 induction h with
 | vw a x h=>exact .vw a x (h.more hh)
 | ptr l sz i j h=>exact .ptr l sz i j h
 | osl l sz s n h=>exact .osl l sz s n h
 | agg cs fs hl h ih=>exact .agg cs fs hl ih
 | tup cs fs hl h ih=>exact .tup cs fs hl ih
 | ifc t a f h ih=>exact .ifc t a f ih
 | fn g xs ys xs' ys' hl hl' h h' ih ih'=>exact .fn g xs ys xs' ys' hl hl' ih ih'
 | dead a=>exact .dead a
theorem renCs_map(σ:Nat→Nat)(cs:List C):renCs σ cs=cs.map (renC σ):=by
 induction cs with
 | nil=>rfl
 | cons c cs ih=>simp only [renCs,List.map_cons,ih]
theorem tupOf_ren(σ:Nat→Nat)(c:C):tupOf (renC σ c)=(tupOf c).map (renC σ):=by
 cases c<;>first|rfl|(simp only [renC,tupOf];exact renCs_map σ _)
theorem ren_tot{e:Env}{σ:Nat→Nat}(x:X):(x.ren (fun l=>some (σ l))).den e=renC σ (x.den e):=by
 have dd:∀(l:List D),(l.map C.d).map (renC σ)=l.map C.d:=fun l=>by rw [List.map_map];rfl
 induction x with
 | cons a b iha ihb=>
   show C.tup (_::tupOf _)=renC σ (.tup (_::tupOf _))
   simp only [renC,renCs,iha,ihb,tupOf_ren,renCs_map]
 | agg xs ih=>simp only [X.ren,X.den,renC,ih,tupOf_ren,renCs_map]
 | tup xs ih=>simp only [X.ren,X.den,renC,ih,tupOf_ren,renCs_map]
 | ifc t x ih=>simp only [X.ren,X.den,renC,ih]
 | fn g a b iha ihb=>simp only [X.ren,X.den,renC,iha,ihb,tupOf_ren,renCs_map]
 | ite c x y _ ihx ihy=>simp only [X.ren,X.den];split<;>assumption
 | app a b iha ihb=>simp only [X.ren,X.den,renC,iha,ihb,tupOf_ren,renCs_map,List.map_append]
 | upd r i j v ihr _ ihv=>
   simp only [X.ren,X.den,renC,ihr,ihv,tupOf_ren,renCs_map]
   congr 1
   apply List.ext_getElem?
   intro k
   simp only [List.getElem?_modify,List.getElem?_map]
   cases (tupOf (r.den e))[k]? with
   | none=>rfl
   | some c=>
     by_cases hk:(intOf (i.den e)).toNat=k
     · simp [hk,renC,tupOf_ren,renCs_map,List.map_set]
     · simp [hk]
 | rws cs j az=>
   simp only [X.ren,X.den,renC,renCs_map,List.map_map,Function.comp_def]
 | rof y=>
   simp only [X.ren,X.den,renC,renCs_map,List.map_map,Function.comp_def]
 | nil=>rfl
 | ptr l sz i j=>rfl
 | osl l sz s n=>rfl
 | _=>rfl
theorem rowsC_ren(σ:Nat→Nat)(c:C):rowsC (renC σ c)=(rowsC c).map (renCs σ):=by
 simp only [rowsC,tupOf_ren,List.map_map]
 refine List.map_congr_left fun x _=>?_
 simp only [Function.comp,tupOf_ren,renCs_map]
structure Bc where
 k : Nat
 k':Nat
 sg:List Nat
 args:List X
 h : List XB
 c : X
 v : X
 h':List XB
abbrev Btrs := List (FuncId×(Sx→List X→Option Bc))
def BtrOk(P:Program)(e:Env)(bt:Btrs):Prop:=∀f g,(f,g)∈bt→∀s xs b,g s xs=some b→b.c.tr e→EC P f b.k (b.args.map (X.den e)) (b.h.map (XB.den e)) (b.v.den e) (b.h'.map (XB.den e)) b.k'
def sgF(sg:List Nat)(k n0 l:Nat):Nat:=if l<k then sg.getD l 0 else n0+(l-k)
def sgI(sg:List Nat)(l:Nat):Option Nat:=sg.findIdx? (fun x=>x==l)
def acX(s:Sx)(sg:List Nat)(ks:List Ki)(x y:X):Option (List Nat):=if x.ren (sgI sg)==y then some [] else match cvR s ks x with
 | some (y',ids)=>if y'==y then some ids else none
 | none=>none
def acXs(s:Sx)(sg:List Nat):List (List Ki)→List X→List X→Option (List Nat)
 | [],[],[]=>some []
 | k::ks,x::xs,y::ys=>(acX s sg k x y).bind (fun p=>(acXs s sg ks xs ys).map (p++·))
 | _,_,_=>none
def blOk(s:Sx)(sg:List Nat)(b:XB):Bool:=match sg[b.l]? with
 | some a=>match getX s.H a with
   | some p=>decide (p.cs.len=b.cs.len)&&(p.rows.ren (sgI sg)==b.rows)&&rkIs b.cs b.rows
   | none=>false
 | none=>false
def bcOk(s:Sx)(ids:List Nat)(b:Bc):Bool:=decide (b.sg.length=b.k)&&decide (b.k≤b.k')&&nd b.sg&&b.sg.all (fun l=>decide (l<s.n)&&(getX s.H l).isSome&&!ids.contains l)&&ids.all (fun l=>decide (l<s.n)&&(getX s.H l).isSome) &&
 (b.h.map (·.l)==List.range b.k)&&b.h.all (blOk s b.sg)&&b.h'.all (fun q=>decide (q.l<b.k'))&&(ids==[]||(b.v.bare&&b.h'.all (fun q=>q.rows.bare)))
def callB(bt:Btrs)(rk:Tb (List Ki))(s:Sx)(f:FuncId)(xs:List X)(ts:List TypeId):OX:=match look f bt,kisOf rk ts with
 | some g,some ks=>match g s xs with
   | some b=>match acXs s b.sg ks xs b.args with
     | some ids=>if bcOk s ids b then .mem b.c (b.v.ren (fun l=>some (sgF b.sg b.k s.n l))) (ids++b.sg++(List.range b.k').map (sgF b.sg b.k s.n),(List.range b.k').map (sgF b.sg b.k s.n))
        (b.h'.map (fun q=>⟨sgF b.sg b.k s.n q.l,q.cs,q.rows.ren (fun l=>some (sgF b.sg b.k s.n l))⟩)++s.H.filter (fun q=>!((List.range b.k').map (sgF b.sg b.k s.n)).contains q.l)) (s.n+(b.k'-b.k)) else .no
     | none=>.no
   | none=>.no
 | _,_=>.no
section
variable {P:Program} {e:Env} {s:Sx} {o:Oper} {rk:Tb (List Ki)} {bt:Btrs} {c x:X} {t:Tch} {H:List XB} {n:Nat}
theorem sgI_ok{sg:List Nat}{k n0:Nat}(hk:sg.length=k){l l':Nat}(h:sgI sg l=some l'):sgF sg k n0 l'=l∧l'<k:=by
 obtain ⟨hl,hp,-⟩:=List.findIdx?_eq_some_iff_getElem.1 h
 have hlt:l'<k:=by rw [←hk];exact hl
 refine ⟨?_,hlt⟩
 unfold sgF
 rw [if_pos hlt,List.getD_eq_getElem?_getD,List.getElem?_eq_getElem hl]
 exact beq_iff_eq.1 hp
theorem acX_ok{sg:List Nat}{k n0:Nat}(hk:sg.length=k){ks:List Ki}{x y:X}{ids:List Nat}{hv:Nat→Option Blk}(h:acX s sg ks x y=some ids)(hh:∀l∈ids,hv l=(s.den e).H.get l):Arg (sgF sg k n0) k hv (x.den e) (y.den e):=by
 unfold acX at h
 split at h
 · rename_i hx
   rw [←beq_iff_eq.1 hx]
   exact (X.ren_ok (fun l l' hl=>sgI_ok hk hl) x).1.more (fun l B h=>by cases h)
 · split at h
   · rename_i y' ids' hc
     split at h
     · rename_i hy
       cases h
       rw [←beq_iff_eq.1 hy]
       exact cvR_ok hc hh
     · cases h
   · cases h
theorem acXs_ok{sg:List Nat}{k n0:Nat}(hk:sg.length=k){hv:Nat→Option Blk}:∀{ks:List (List Ki)} {xs ys:List X} {ids:List Nat},acXs s sg ks xs ys=some ids→(∀l∈ids,hv l=(s.den e).H.get l)→xs.length=ys.length∧∀(i:Nat) (a f:C),(xs.map (X.den e))[i]? = some a→(ys.map (X.den e))[i]? = some f→Arg (sgF sg k n0) k hv a f:=by
 intro ks
 induction ks with
 | nil=>intro xs ys ids h _;cases xs<;>cases ys<;>first|(cases h;done)|exact ⟨rfl,by simp⟩
 | cons k0 ks ih=>
   intro xs ys ids h hh
   cases xs with
   | nil=>cases ys<;>cases h
   | cons x xs=>
     cases ys with
     | nil=>cases h
     | cons y ys=>
       simp only [acXs,Option.bind_eq_some_iff,Option.map_eq_some_iff] at h
       obtain ⟨p,h1,q,h2,rfl⟩:=h
       obtain ⟨e1,e2⟩:=ih h2 (fun l hl=>hh l (List.mem_append_right _ hl))
       refine ⟨by simp [e1],fun i a f ha hf=>?_⟩
       cases i with
       | zero=>simp only [List.map_cons,List.getElem?_cons_zero,Option.some.injEq] at ha hf;subst ha hf;exact acX_ok hk h1 (fun l hl=>hh l (List.mem_append_left _ hl))
       | succ i=>simp only [List.map_cons,List.getElem?_cons_succ] at ha hf;exact e2 i a f ha hf
theorem bare_blk{q:XB}(h:q.rows.bare=true):PureB (.c q.cs.len (rowsC (q.rows.den e))):=by
 refine .c _ _ (fun r hr y hy=>?_)
 simp only [rowsC,List.mem_map] at hr
 obtain ⟨r0,hr0,rfl⟩:=hr
 have:=(X.bare_ok (e:=e) h).2 r0 hr0
 cases this with
 | tup xs h=>exact h y hy
 | _=>cases hy
set_option maxHeartbeats 1000000 in
theorem callB_ok (hbt:BtrOk P e bt) {f:FuncId} {az:Array Operand} {ts:Array TypeId} (ho:o.op=.call { callee:=.value (.func f),args:=az,argTypes:=ts }) (h:callB bt rk s f (az.toList.map (evX s.T)) ts.toList=.mem c x t H n):OmOk P e o s c x t H n:=by
 unfold callB at h
 split at h
 · rename_i g ks hg hks
   split at h
   · rename_i b hb
     split at h
     · rename_i ids hac
       split at h
       · rename_i hok
         cases h
         intro hc
         unfold bcOk at hok
         simp only [Bool.and_eq_true,List.all_eq_true,decide_eq_true_eq,beq_iff_eq,Bool.not_eq_true',List.contains_eq_mem,decide_eq_false_iff_not] at hok
         obtain ⟨⟨⟨⟨⟨⟨⟨⟨q1,q2⟩,q3⟩,q4⟩,q5⟩,q6⟩,q7⟩,q8⟩,q9⟩:=hok
         have he:=hbt f g (look_mem hg) s _ b hb hc
         generalize hσ:sgF b.sg b.k s.n=σ
         have hσo:∀l,l<b.k→∃hl:l<b.sg.length,σ l=b.sg[l]:=fun l hl=>by
          have hl':l<b.sg.length:=by rw [q1];exact hl
          exact ⟨hl',by rw [←hσ];unfold sgF;rw [if_pos hl,List.getD_eq_getElem?_getD,List.getElem?_eq_getElem hl'];rfl⟩
         have hσn:∀l,b.k≤l→σ l=s.n+(l-b.k):=fun l hl=>by rw [←hσ];unfold sgF;rw [if_neg (by omega)]
         have hsgm:∀l,l<b.k→σ l∈b.sg:=fun l hl=>by obtain ⟨hl',e1⟩:=hσo l hl;rw [e1];exact List.getElem_mem hl'
         have hpre:∀l,(hbOf s e (ids++b.sg)).get l=if l∈ids++b.sg then (s.den e).H.get l else none:=fun l=>hbOf_get l
         have hhb:∀l,(hbOf s e ids).get l=if l∈ids then (s.den e).H.get l else none:=fun l=>hbOf_get l
         have hm:(az.toList.map (fun y=>(evX s.T y).den e))=(az.toList.map (evX s.T)).map (X.den e):=by rw [List.map_map];rfl
         obtain ⟨e1,e2⟩:=acXs_ok (e:=e) (n0:=s.n) q1 (hv:=(hbOf s e ids).get) hac (fun l hl=>by rw [hhb,if_pos hl])
         rw [hσ] at e2
         have hHs:∀l,l∈b.sg→∃p,getX s.H l=some p∧(s.den e).H.get l=some (.c p.cs.len (rowsC (p.rows.den e))):=fun l hl=>by
          have:=(q4 l hl).1.2
          cases hg:getX s.H l with
          | none=>rw [hg] at this;cases this
          | some p=>exact ⟨p,rfl,getX_H hg⟩
         have hget:∀l B,Hp.get (b.h.map (XB.den e)) l=some B→l<b.k∧∃q∈b.h,q.l=l∧B=.c q.cs.len (rowsC (q.rows.den e)):=fun l B hB=>by
          obtain ⟨q,hq,hl,hB'⟩:=Hp.get_den hB
          have:q.l∈b.h.map (·.l):=List.mem_map_of_mem hq
          rw [q6,List.mem_range] at this
          exact ⟨by rw [←hl];exact this,q,hq,hl,hB'⟩
         have hpass:Pass σ b.k b.k' (List.range b.k') (hbOf s e ids) (hbOf s e (ids++b.sg)) (az.toList.map (fun y=>(evX s.T y).den e)) (b.args.map (X.den e)) (b.h.map (XB.den e)) (b.h'.map (XB.den e)) (b.v.den e):=by
          refine ⟨by rw [hm];simpa using e1,fun i a f h1 h2=>by rw [hm] at h1;exact e2 i a f h1 h2,fun l B hB=>?_,fun l B hB=>?_,fun l B hB=>?_,fun l B hB=>?_,fun l h1 h2=>List.mem_range.2 h2,fun l hl=>List.mem_range.1 hl,fun l hl hlk=>?_,fun l hl l' hl' he'=>?_,fun l hl hkl=>?_,fun l hl=>?_,fun y B hB=>?_,?_⟩
          · obtain ⟨hlk,q,hq,rfl,rfl⟩:=hget l B hB
            have hbl:=q7 q hq
            obtain ⟨hl',e3⟩:=hσo q.l hlk
            obtain ⟨p,hp,hHp⟩:=hHs _ (hsgm q.l hlk)
            refine ⟨hlk,_,by rw [hpre,if_pos (List.mem_append_right _ (hsgm q.l hlk)),hHp],?_⟩
            unfold blOk at hbl
            rw [List.getElem?_eq_getElem hl'] at hbl
            rw [e3] at hp
            simp only [hp,Bool.and_eq_true,decide_eq_true_eq,beq_iff_eq] at hbl
            obtain ⟨⟨b1,b2⟩,b3⟩:=hbl
            have hren:=X.ren_ok (f:=sgI b.sg) (σ:=σ) (n:=b.k) (fun l l' hl=>by rw [←hσ];exact sgI_ok q1 hl) (e:=e) p.rows
            rw [b2] at hren
            obtain ⟨-,-,r1,r2⟩:=hren
            rw [b1]
            have hEach:∀i j f,at2 (rowsC (q.rows.den e)) i j=some f→∃a,at2 (rowsC (p.rows.den e)) i j=some a∧Arg σ b.k (hbOf s e ids).get a f:=fun i j f hf=>by
             obtain ⟨hi,hj,rfl⟩:=at2_lt hf
             have hi2:i<(tupOf (q.rows.den e)).length:=by simpa [rowsC] using hi
             have hi1:i<(tupOf (p.rows.den e)).length:=by rw [r1];exact hi2
             have hE:=r2 i _ _ (List.getElem?_eq_getElem hi1) (List.getElem?_eq_getElem hi2)
             have g1:(rowsC (q.rows.den e))[i]=tupOf (tupOf (q.rows.den e))[i]:=by simp [rowsC]
             have g2:(rowsC (p.rows.den e))[i]'(by simpa [rowsC] using hi1)=tupOf (tupOf (p.rows.den e))[i]:=by simp [rowsC]
             have hj2:j<(tupOf (tupOf (q.rows.den e))[i]).length:=by rw [←g1];exact hj
             have hj1:j<(tupOf (tupOf (p.rows.den e))[i]).length:=by rw [hE.1];exact hj2
             refine ⟨_,at2_of (by simpa [rowsC] using hi1) (by rw [g2];exact hj1),?_⟩
             have:=hE.2 j _ _ (List.getElem?_eq_getElem hj1) (List.getElem?_eq_getElem hj2)
             have this:=this.more (hv':=(hbOf s e ids).get) (fun l B h=>by cases h)
             simpa [g1,g2] using this
            refine .c _ _ _ (fun i j=>(at2 (rowsC (p.rows.den e)) i j).getD .dead) (by simp [rowsC,r1]) (fun r hr=>(rkIs_ok b3 r hr).1) (fun i j f hf=>?_) (fun i j f hf=>?_)
            · obtain ⟨a,ha,-⟩:=hEach i j f hf;rw [ha];rfl
            · obtain ⟨a,ha,hA⟩:=hEach i j f hf;rw [ha];exact hA
          · rw [hhb] at hB
            split at hB
            · rename_i hl;rw [hpre,if_pos (List.mem_append_left _ hl)];exact hB
            · cases hB
          · exact List.mem_range.2 (Nat.lt_of_lt_of_le (hget l B hB).1 q2)
          · obtain ⟨q,hq,hl,-⟩:=Hp.get_den hB
            exact List.mem_range.2 (by rw [←hl];exact q8 q hq)
          · have:l∈b.h.map (·.l):=by rw [q6];exact List.mem_range.2 hlk
            have hne:=Hp.get_of_mem (h:=b.h.map (XB.den e)) (l:=l) (by rw [List.map_map];exact this)
            cases hg:Hp.get (b.h.map (XB.den e)) l with
            | none=>exact absurd hg hne
            | some B=>exact ⟨B,rfl⟩
          · by_cases h1:l<b.k
            · obtain ⟨a1,a2⟩:=hσo l h1
              by_cases h2:l'<b.k
              · obtain ⟨a3,a4⟩:=hσo l' h2
                rw [a2,a4] at he'
                exact (List.getElem_inj (nd_ok q3)).1 he'
              · have:=(q4 _ (hsgm l h1)).1.1;rw [he',hσn l' (by omega)] at this;omega
            · by_cases h2:l'<b.k
              · have:=(q4 _ (hsgm l' h2)).1.1;rw [←he',hσn l (by omega)] at this;omega
              · rw [hσn l (by omega),hσn l' (by omega)] at he';omega
          · rw [hpre,if_neg]
            intro hmem
            rw [hσn l hkl] at hmem
            rcases List.mem_append.1 hmem with hmem|hmem
            · have:=(q5 _ hmem).1;omega
            · have:=(q4 _ hmem).1.1;omega
          · rw [hhb,if_neg]
            intro hmem
            by_cases h1:l<b.k
            · exact (q4 _ (hsgm l h1)).2 hmem
            · rw [hσn l (by omega)] at hmem;have:=(q5 _ hmem).1;omega
          · rw [hpre] at hB
            split at hB
            · rename_i hy
              rcases List.mem_append.1 hy with hy|hy
              · exact .inl (by rw [hhb,if_pos hy];exact hB)
              · refine .inr ?_
                obtain ⟨i,hi,rfl⟩:=List.getElem_of_mem hy
                have hik:i<b.k:=by rw [←q1];exact hi
                obtain ⟨hi2,a2⟩:=hσo i hik
                rw [show b.sg[i]=σ i from a2.symm]
                exact List.mem_map_of_mem (List.mem_range.2 (Nat.lt_of_lt_of_le hik q2))
            · cases hB
          · simp only [Bool.or_eq_true,beq_iff_eq,Bool.and_eq_true,List.all_eq_true] at q9
            rcases q9 with h1|h1
            · exact .inl (by rw [h1];rfl)
            · refine .inr ⟨(X.bare_ok h1.1).1,fun l B hB=>?_⟩
              obtain ⟨q,hq,-,rfl⟩:=Hp.get_den hB
              exact bare_blk (h1.2 q hq)
         have hop:=OpT.call (ev:=fun y=>(evX s.T y).den e) he (.func ho he.1) hpass
         have hchg:∀l∈(List.range b.k').map σ,l<s.n+(b.k'-b.k)∧((hbOf s e (ids++b.sg)).get l=none→s.n≤l):=by
          intro l hl
          obtain ⟨i,hi,rfl⟩:=List.mem_map.1 hl
          have hi:=List.mem_range.1 hi
          by_cases h1:i<b.k
          · refine ⟨by have:=(q4 _ (hsgm i h1)).1.1;omega,fun hn=>?_⟩
            obtain ⟨p,-,hHp⟩:=hHs _ (hsgm i h1)
            rw [hpre,if_pos (List.mem_append_right _ (hsgm i h1)),hHp] at hn
            cases hn
          · rw [hσn i (by omega)];exact ⟨by omega,fun _=>Nat.le_add_right _ _⟩
         have hpost:(b.h'.map (XB.den e)).map (fun x=>(σ x.1,renB σ x.2))=(b.h'.map (fun q=>(⟨σ q.l,q.cs,q.rows.ren (fun l=>some (σ l))⟩:XB))).map (XB.den e):=by
          rw [List.map_map,List.map_map]
          refine List.map_congr_left fun q _=>?_
          simp only [Function.comp,XB.den,renB,ren_tot,rowsC_ren]
         rw [hpost,←ren_tot] at hop
         have hpm:(hbOf s e (ids++b.sg)).map (·.1)=ids++b.sg:=hbOf_ids (fun l hl=>by
          rcases List.mem_append.1 hl with hl|hl
          · exact (q5 l hl).2
          · exact (q4 l hl).1.2)
         refine OmOk.of (c:=.bool true) (pre:=hbOf s e (ids++b.sg)) (chg:=(List.range b.k').map σ) (by rw [hpm]) (fun _=>hop) (fun l B hB=>?_) (fun l hl hn=>(hchg l hl).2 hn) (fun l hl=>(hchg l hl).1) (Nat.le_add_right _ _) (fun l B hB=>?_) (fun l=>?_) X.tr_true
         · rw [hpre] at hB
           split at hB
           · exact hB
           · cases hB
         · obtain ⟨q,hq,rfl,-⟩:=Hp.get_den hB
           obtain ⟨q0,hq0,rfl⟩:=List.mem_map.1 hq
           exact List.mem_map_of_mem (List.mem_range.2 (q8 q0 hq0))
         · rw [List.map_append,Hp.get_app]
           have hfil:∀(p:Nat→Bool),Hp.get ((s.H.filter (fun q=>p q.l)).map (XB.den e)) l=if p l then (s.den e).H.get l else none:=by
            intro p
            have:(s.H.filter (fun q=>p q.l)).map (XB.den e)=(s.H.map (XB.den e)).filter (fun x=>p x.1):=by rw [List.filter_map];rfl
            rw [this,Hp.get_filter];rfl
           rw [hfil (fun l=>!((List.range b.k').map σ).contains l)]
           by_cases hl:((List.range b.k').map σ).contains l=true
           · rw [if_pos hl]
             simp only [hl,Bool.not_true,Bool.false_eq_true,if_false,Option.or_none]
           · rw [if_neg hl]
             have hnone:Hp.get ((b.h'.map (fun q=>(⟨σ q.l,q.cs,q.rows.ren (fun l=>some (σ l))⟩:XB))).map (XB.den e)) l=none:=by
              cases hg:Hp.get ((b.h'.map (fun q=>(⟨σ q.l,q.cs,q.rows.ren (fun l=>some (σ l))⟩:XB))).map (XB.den e)) l with
              | none=>rfl
              | some B=>
                obtain ⟨q,hq,rfl,-⟩:=Hp.get_den hg
                obtain ⟨q0,hq0,rfl⟩:=List.mem_map.1 hq
                exact absurd (by simpa using ⟨q0.l,q8 q0 hq0,rfl⟩) hl
             rw [hnone,Option.none_or]
             simp only [Bool.not_eq_true] at hl
             simp only [hl,Bool.not_false,if_true]
       · cases h
     · cases h
   · cases h
 · cases h
end
end Ow
namespace Ow
open Go Go.RowKit Go.Deep
section
variable {P:Program} {o:Oper} {ev:Operand→C}
def isBit : BinOp→Bool | .and=>true | .or=>true | .xor=>true | .andNot=>true|_=>false
theorem OpT.bits{op:BinOp}{t t':TypeId}{x y:Operand}{k:IntKind}{p q:Int}(hb:isBit op=true)(ho:o.op=.binOp op t x y t')(hx:ev x=.d (.lit (.int k p)))(hy:ev y=.d (.lit (.int k q))):
 OpT P o ev ⟨[],[],[],.d (.lit (.int k (arI op k p q)))⟩:=
 .read [] _ fun ρ F RO w a _ hr=>by
  have h1:=(hx▸hr x (by rw [ho];simp [Op.operands])).lit_eq
  have h2:=(hy▸hr y (by rw [ho];simp [Op.operands])).lit_eq
  refine ⟨_,?_,.lit' _⟩
  unfold execOp
  rw [ho]
  simp only [h1,h2]
  cases op<;>first|(cases hb;done)|simp [eqGuard,binOp,Op.intBits,arI,bitI]
theorem OpT.shift{op:BinOp}{t t':TypeId}{x y:Operand}{k k':IntKind}{p q:Int}(hb:op=.shl∨op=.shr)(ho:o.op=.binOp op t x y t')(hx:ev x=.d (.lit (.int k p)))(hy:ev y=.d (.lit (.int k' q)))(h0:0≤q):
 OpT P o ev ⟨[],[],[],.d (.lit (.int k (arI op k p q)))⟩:=
 .read [] _ fun ρ F RO w a _ hr=>by
  have h1:=(hx▸hr x (by rw [ho];simp [Op.operands])).lit_eq
  have h2:=(hy▸hr y (by rw [ho];simp [Op.operands])).lit_eq
  refine ⟨_,?_,.lit' _⟩
  unfold execOp
  rw [ho]
  simp only [h1,h2]
  have:¬q<0:=by omega
  rcases hb with rfl|rfl<;>simp [eqGuard,binOp,Op.shift,arI,bitI,this]
theorem OpT.conv{s t:TypeId}{x:Operand}{k k':IntKind}{n:Int}(ho:o.op=.convert s t x)(hx:ev x=.d (.lit (.int k' n)))(hs:P.underlying s=some (.int k'))(ht:P.underlying t=some (.int k)):
 OpT P o ev ⟨[],[],[],.d (.lit (.int k (k.wrap n)))⟩:=
 .read [] _ fun ρ F RO w a _ hr=>by
  have h1:=(hx▸hr x (by rw [ho];simp [Op.operands])).lit_eq
  refine ⟨_,?_,.lit' _⟩
  unfold execOp
  rw [ho]
  simp [h1,convert,run_underlying hs,run_underlying ht,Conv.intToInt]
theorem OpT.six{t:TypeId}{x y:Operand}{ki:IntKind}{z:Int}{b:ByteArray}(ho:o.op=.index t x y)(hx:ev x=.d (.lit (.string b)))(hy:ev y=.d (.lit (.int ki z)))(ht:lenT P t=some true)(h0:0≤z)(h1:z<b.size):
 OpT P o ev ⟨[],[],[],.d (.lit (.int .u8 (b.data.getD z.toNat 0).toNat))⟩:=
 .read [] _ fun ρ F RO w a _ hr=>by
  have e1:=(hx▸hr x (by rw [ho];simp [Op.operands])).lit_eq
  have e2:=(hy▸hr y (by rw [ho];simp [Op.operands])).lit_eq
  refine ⟨_,?_,.lit' _⟩
  have hu:P.underlying t=some .string:=by
   unfold lenT at ht
   split at ht
   · cases ht
   · assumption
   · cases ht
  have hz:z.toNat<b.size:=by omega
  have hz2:z.toNat<b.data.size:=hz
  have hg:b[z.toNat]? = some (b.data.getD z.toNat 0):=by
   rw [getElem?_pos b z.toNat hz]
   congr 1
   simp only [Array.getD,hz2,dif_pos]
   rfl
  unfold execOp
  rw [ho]
  simp [e1,e2,Instr.index,asIntOf,run_underlying hu,h0,hg]
def optI(ev:Operand→C)(d:Int):Option Operand→Option Int
 | none=>some d
 | some x=>match ev x with | .d (.lit (.int _ n))=>some n|_=>none
theorem run_bounds{isS:Bool}{len cap:Nat}{w:World}{lo hi:Option Value}{l h:Int}(h1:lo=none∧l=0∨∃k,lo=some (.int k l))(h2:hi=none∧h=len∨∃k,hi=some (.int k h))(h0:0≤l)(hlh:l≤h)(hh:h≤len)(hc:len≤cap):
 (Instr.sliceBounds isS len cap lo hi none).run P w=.ok (l.toNat,h.toNat,cap) w:=by
 have e1:h≤(cap:Int):=by omega
 have e2:0≤h:=by omega
 have e3:l≤(h.toNat:Int):=by omega
 rcases h1 with ⟨rfl,rfl⟩|⟨k,rfl⟩<;>rcases h2 with ⟨rfl,rfl⟩|⟨k',rfl⟩<;>simp [Instr.sliceBounds,Instr.sliceBound,asIntOf,e1,e2,e3,h0]
 all_goals omega
theorem OpT.ssub{t:TypeId}{x:Operand}{lo hi:Option Operand}{b:ByteArray}{l h:Int}(ho:o.op=.slice t x lo hi none)(hx:ev x=.d (.lit (.string b)))(ht:lenT P t=some true)(hl:optI ev 0 lo=some l)(hh:optI ev b.size hi=some h)(h0:0≤l)(h1:l≤h)(h2:h≤b.size):
 OpT P o ev ⟨[],[],[],.d (.lit (.string (b.extract l.toNat h.toNat)))⟩:=
 .read [] _ fun ρ F RO w a _ hr=>by
  have e1:=(hx▸hr x (by rw [ho];simp [Op.operands])).lit_eq
  refine ⟨_,?_,.lit' _⟩
  have hu:P.underlying t=some .string:=by
   unfold lenT at ht
   split at ht
   · cases ht
   · assumption
   · cases ht
  have g : ∀(d:Int) (z:Option Operand) (n:Int),z=lo∨z=hi→optI ev d z=some n→(z.map a.eval=none∧n=d∨∃k,z.map a.eval=some (.int k n)):=by
   intro d z n hz hq
   cases z with
   | none=>cases hq;exact .inl ⟨rfl,rfl⟩
   | some y=>
     simp only [optI] at hq
     split at hq
     · rename_i k m hy
       cases hq
       have:=(hy▸hr y (by rw [ho];rcases hz with hz|hz<;>simp [Op.operands,←hz])).lit_eq
       exact .inr ⟨k,by rw [Option.map_some,this]⟩
     · cases hq
  unfold execOp
  rw [ho]
  have:=run_bounds (P:=P) (w:=w) (isS:=false) (cap:=b.size) (g 0 lo l (.inl rfl) hl) (g b.size hi h (.inr rfl) hh) h0 h1 h2 (Nat.le_refl _)
  simp [e1,Instr.sliceAt,Instr.slice,run_underlying hu,this]
theorem OpT.sub{t sz:Nat}{x:Operand}{lo hi:Option Operand}{els:List (List D)}{l h:Int}(ho:o.op=.slice t x lo hi none)(hx:ev x=.d (.sl sz els))(ht:elT P t=some sz)(hl:optI ev 0 lo=some l)(hh:optI ev els.length hi=some h)(h0:0≤l)(h1:l≤h)(h2:h≤els.length):
 OpT P o ev ⟨[],[],[],.d (.sl sz ((els.drop l.toNat).take (h.toNat-l.toNat)))⟩:=
 .read [] _ fun ρ F RO w a _ hr=>by
  have e1:=hx▸hr x (by rw [ho];simp [Op.operands])
  obtain ⟨e,i,hu,hi',hs⟩:=elT_spec ht
  have g : ∀(d:Int) (z:Option Operand) (n:Int),z=lo∨z=hi→optI ev d z=some n→(z.map a.eval=none∧n=d∨∃k,z.map a.eval=some (.int k n)):=by
   intro d z n hz hq
   cases z with
   | none=>cases hq;exact .inl ⟨rfl,rfl⟩
   | some y=>
     simp only [optI] at hq
     split at hq
     · rename_i k m hy
       cases hq
       have:=(hy▸hr y (by rw [ho];rcases hz with hz|hz<;>simp [Op.operands,←hz])).lit_eq
       exact .inr ⟨k,by rw [Option.map_some,this]⟩
     · cases hq
  have hb:=fun cap hc=>run_bounds (P:=P) (w:=w) (isS:=true) (cap:=cap) (g 0 lo l (.inl rfl) hl) (g els.length hi h (.inr rfl) hh) h0 h1 h2 hc
  generalize ha:a.eval x=u at e1
  have hrun:∀A n cap,(∀(c:(Instr.sliceBounds true n cap (lo.map a.eval) (hi.map a.eval) none).run P w=.ok (l.toNat,h.toNat,cap) w),u=.slice A n cap→(execOp a.eval o).run P w=.ok (.value (.slice (if cap=l.toNat then A else A.map (·.add (l.toNat*sz))) (h.toNat-l.toNat) (cap-l.toNat))) w):=by
   intro A n cap hc hu'
   unfold execOp
   rw [ho]
   simp [ha,hu',Instr.sliceAt,Instr.slice,run_underlying hu,hc,Go.sizeOf,typeInfo,hi',hs]
  cases e1 with
  | d x u hd=>cases hd with
    | nil sz A cap hcap=>
      have hl0:l=0:=by simp at h2;omega
      have hh0:h=0:=by simp at h2;omega
      subst hl0 hh0
      refine ⟨_,hrun A 0 cap (hb cap (Nat.zero_le _)) rfl,.d _ _ ?_⟩
      simpa using RelD.nil (RO:=RO) (w:=w) sz (if cap=0 then A else A.map (·.add (0*sz))) cap hcap
    | sl sz els b off cap U hbR hn hc hrow cell one rel=>
      refine ⟨_,hrun _ els.length cap (hb cap hn) rfl,.d _ _ ?_⟩
      by_cases hcl:cap=l.toNat
      · have e3:h.toNat-l.toNat=0:=by omega
        rw [e3,if_pos hcl]
        simpa using RelD.nil (RO:=RO) (w:=w) sz (some ⟨b,off,none⟩) (cap-l.toNat) (by omega)
      · rw [if_neg hcl]
        have hlen:((els.drop l.toNat).take (h.toNat-l.toNat)).length=h.toNat-l.toNat:=by simp;omega
        have hat:∀i j x,at2 ((els.drop l.toNat).take (h.toNat-l.toNat)) i j=some x→at2 els (l.toNat+i) j=some x:=by
         intro i j x hx
         unfold at2 at hx ⊢
         rw [List.getElem?_take] at hx
         split at hx
         · rwa [List.getElem?_drop] at hx
         · cases hx
        have:=RelD.sl (RO:=RO) (w:=w) sz ((els.drop l.toNat).take (h.toNat-l.toNat)) b (off+l.toNat*sz) (cap-l.toNat) (fun i j=>U (l.toNat+i) j) hbR (by rw [hlen];omega) (by omega) (fun r hr=>hrow r (List.mem_of_mem_drop (List.mem_of_mem_take hr)))
         (fun i j x hx=>by have:=cell _ _ _ (hat i j x hx);rw [Nat.add_mul] at this;rw [←this];congr 2;omega) (fun i j x hx=>one _ _ _ (hat i j x hx)) (fun i j x hx=>rel _ _ _ (hat i j x hx))
        rw [hlen] at this
        simpa [addr_add] using this
theorem OpT.osub{t sz l s n:Nat}{x:Operand}{hi:Option Operand}{h:Int}(ho:o.op=.slice t x none hi none)(hx:ev x=.osl l sz s n)(ht:elT P t=some sz)(hh:optI ev n hi=some h)(h1:0≤h)(h2:h≤n):
 OpT P o ev ⟨[],[],[],.osl l sz s h.toNat⟩:=
 .read [] _ fun ρ F RO w a _ hr=>by
  have e1:=hx▸hr x (by rw [ho];simp [Op.operands])
  obtain ⟨e,i,hu,hi',hs⟩:=elT_spec ht
  have g : hi.map a.eval=none∧h=n∨∃k,hi.map a.eval=some (.int k h):=by
   cases hz:hi with
   | none=>rw [hz] at hh;cases hh;exact .inl ⟨rfl,rfl⟩
   | some y=>
     rw [hz] at hh
     simp only [optI] at hh
     split at hh
     · rename_i k m hy
       cases hh
       have:=(hy▸hr y (by rw [ho,hz];simp [Op.operands])).lit_eq
       exact .inr ⟨k,by rw [Option.map_some,this]⟩
     · cases hh
  have hb:=fun cap hc=>run_bounds (P:=P) (w:=w) (isS:=true) (cap:=cap) (lo:=none) (l:=0) (.inl ⟨rfl,rfl⟩) g (Int.le_refl 0) h1 h2 hc
  generalize ha:a.eval x=u at e1
  have hrun:∀A n cap,(∀(c:(Instr.sliceBounds true n cap none (hi.map a.eval) none).run P w=.ok (0,h.toNat,cap) w),u=.slice A n cap→(execOp a.eval o).run P w=.ok (.value (.slice A h.toNat cap)) w):=by
   intro A n cap hc hu'
   unfold execOp
   rw [ho]
   cases A<;>simp [ha,hu',Instr.sliceAt,Instr.slice,run_underlying hu,hc,Go.sizeOf,typeInfo,hi',hs,Addr.add]
  cases e1 with
  | osl l sz s n cap p hp hn hc hm=>
    exact ⟨_,hrun _ n cap (hb cap hn) rfl,.osl l sz s h.toNat cap p hp (by omega) hc hm⟩
  | osln l sz s A=>
    have hh0:h=0:=by simp at h2;omega
    subst hh0
    exact ⟨_,hrun A 0 0 (hb 0 (Nat.le_refl _)) rfl,.osln l sz s A⟩
end
def bitX(o:BinOp)(a b:X):OX:=match a.kd,b.kd with
 | some (.int k),some (.int k')=>if (isBit o&&(k==k')) then .val (.bool true) (mkBin o k a b) [] else if (o==.shl||o==.shr) then .val (mkCmp .leq (.int k' 0) b) (mkBin o k a b) [] else .no
 | _,_=>.no
def convX(tab:Tab)(s t:TypeId)(a:X):OX:=match a.kd,lookT s tab.ik,lookT t tab.ik with
 | some (.int k),some k',some k2=>if k=k' then .val (.bool true) (match a with | .int _ n=>.int k2 (k2.wrap n)|a=>.conv k2 a) [] else .no
 | _,_,_=>.no
def sixX(tab:Tab)(t:TypeId)(a i:X):OX:=match a.kd,i.kd with
 | some .str,some (.int _)=>if lookT t tab.len=some true then .val (X.mkAnd (mkCmp .leq (.int .i64 0) i) (.cmp .lss i (.len a))) (.six a i) [] else .no
 | _,_=>.no
def optX(s:Sx)(d:X):Option Operand→Option X
 | none=>some d
 | some y=>match (evX s.T y).kd with|some (.int _)=>some (evX s.T y)|_=>none
def subX(tab:Tab)(s:Sx)(t:TypeId)(a:X)(lo hi:Option Operand):OX:=match optX s (.int .i64 0) lo,optX s (.len a) hi with
 | some l,some h=>match a.kd with
   | some .str=>if lookT t tab.len=some true then .val (X.mkAnd (mkCmp .leq (.int .i64 0) l) (X.mkAnd (mkCmp .leq l h) (mkCmp .leq h (.len a)))) (.ssub a l h) [] else .no
   | some (.sl cs)=>if lookT t tab.el=some cs.len then .val (X.mkAnd (mkCmp .leq (.int .i64 0) l) (X.mkAnd (mkCmp .leq l h) (mkCmp .leq h (.len a)))) (.sub a l h) [] else .no
   | _=>.no
 | _,_=>.no
def oslX(tab:Tab)(s:Sx)(t l sz:Nat)(a m:X)(hi:Option Operand):OX:=match optX s m hi with
 | some h=>if lookT t tab.el=some sz then .val (X.mkAnd (mkCmp .leq (.int .i64 0) h) (mkCmp .leq h m)) (.osl l sz a h) [] else .no
 | none=>.no
def slcX(tab:Tab)(s:Sx)(t:TypeId)(a:X)(lo hi:Option Operand):OX:=match a,lo with
 | .osl l sz b m,none=>oslX tab s t l sz b m hi
 | a,lo=>subX tab s t a lo hi
def eqXs : List X→List X→X
 | a::l,b::m=>X.mkAnd (match a.kd with|some .bool=>.eqb a b|some .str=>.eqs a b|_=>mkCmp .eql a b) (eqXs l m)
 | _,_=>.bool true
def Ki.sc : Ki→Bool | .int _=>true | .bool=>true | .str=>true|_=>false
def sqX(tab:Tab)(op:BinOp)(t:TypeId)(a b:X):OX:=match a,b,lookT t tab.sq with
 | .agg l,.agg m,some ks=>match isL l&&isL m&&ks.all Ki.sc&&(toL l).map X.kd==ks.map some&&(toL m).map X.kd==ks.map some with
   | true=>match op with
     | .eql=>.val (.bool true) (eqXs (toL l) (toL m)) []
     | .neq=>.val (.bool true) (X.mkNot (eqXs (toL l) (toL m))) []
     | _=>.no
   | false=>.no
 | _,_,_=>.no
def moreX(tab:Tab)(o:Oper)(s:Sx):OX:=match o.op with
 | .binOp op t x y _=>match bitX op (evX s.T x) (evX s.T y) with
   | .no=>sqX tab op t (evX s.T x) (evX s.T y)
   | r=>r
 | .convert t u x=>convX tab t u (evX s.T x)
 | .index t x y=>sixX tab t (evX s.T x) (evX s.T y)
 | .slice t x lo hi none=>slcX tab s t (evX s.T x) lo hi
 | _=>.no
section
variable {P:Program} {e:Env} {tab:Tab} {s:Sx} {c r:X} {pre:List Nat} {o:Oper}
theorem bitX_ok{op:BinOp}{t u:TypeId}{x y:Operand}(ho:o.op=.binOp op t x y u)(h:bitX op (evX s.T x) (evX s.T y)=.val c r pre):OvOk P e o s c r pre:=by
 unfold bitX at h
 split at h
 · rename_i k k' h1 h2
   split at h
   · rename_i hc
     rw [Bool.and_eq_true,beq_iff_eq] at hc
     obtain ⟨hc,rfl⟩:=hc
     cases h
     refine .of fun _=>?_
     rw [mkBin_den]
     exact .bits hc ho (kd_int h1) (kd_int h2)
   · split at h
     · rename_i hc
       cases h
       refine .of fun hp=>?_
       rw [mkBin_den]
       rw [mkCmp_tr] at hp
       exact .shift (by simpa using hc) ho (kd_int h1) (kd_int h2) (of_decide_eq_true hp)
     · cases h
 · cases h
theorem convX_ok(ht:TabOk P tab){t u:TypeId}{x:Operand}(ho:o.op=.convert t u x)(h:convX tab t u (evX s.T x)=.val c r pre):OvOk P e o s c r pre:=by
 unfold convX at h
 split at h
 · rename_i k k' k2 h1 h2 h3
   split at h
   · rename_i hk
     subst hk
     cases h
     refine .of fun _=>?_
     have:=OpT.conv (P:=P) (ev:=fun y=>(evX s.T y).den e) ho (kd_int h1) (ht.ik _ _ h2) (ht.ik _ _ h3)
     split
     · rename_i hx;rw [hx] at this;exact this
     · exact this
   · cases h
 · cases h
theorem sixX_ok(ht:TabOk P tab){t:TypeId}{x y:Operand}(ho:o.op=.index t x y)(h:sixX tab t (evX s.T x) (evX s.T y)=.val c r pre):OvOk P e o s c r pre:=by
 unfold sixX at h
 split at h
 · rename_i h1 h2
   split at h
   · rename_i hl
     cases h
     refine .of fun hc=>?_
     rw [X.tr_and,mkCmp_tr] at hc
     obtain ⟨c1,c2⟩:=hc
     have c1:0≤intOf ((evX s.T y).den e):=of_decide_eq_true c1
     have c2:intOf ((evX s.T y).den e)<((lenOf ((evX s.T x).den e):Nat):Int):=of_decide_eq_true c2
     have e1:lenOf ((evX s.T x).den e)=(strOf ((evX s.T x).den e)).size:=by generalize hz:strOf ((evX s.T x).den e)=z;rw [kd_str h1,hz];rfl
     rw [e1] at c2
     exact .six ho (kd_str h1) (kd_int h2) (ht.len _ _ hl) c1 c2
   · cases h
 · cases h
theorem optX_ok{d x:X}{z:Option Operand}{n:Int}(hd:intOf (d.den e)=n)(h:optX s d z=some x):optI (fun y=>(evX s.T y).den e) n z=some (intOf (x.den e)):=by
 unfold optX at h
 split at h
 · cases h;simp only [optI,hd]
 · split at h
   · rename_i hk;cases h;simp only [optI];rw [kd_int hk];rfl
   · cases h
theorem subX_ok(ht:TabOk P tab){t:TypeId}{x:Operand}{lo hi:Option Operand}(ho:o.op=.slice t x lo hi none)(h:subX tab s t (evX s.T x) lo hi=.val c r pre):OvOk P e o s c r pre:=by
 unfold subX at h
 split at h
 · rename_i l hh hl hhi
   have el:=optX_ok (e:=e) (n:=0) rfl hl
   have eh:=optX_ok (e:=e) (n:=((lenOf ((evX s.T x).den e):Nat):Int)) rfl hhi
   have cond:(X.mkAnd (mkCmp .leq (.int .i64 0) l) (X.mkAnd (mkCmp .leq l hh) (mkCmp .leq hh (.len (evX s.T x))))).tr e→0≤intOf (l.den e)∧intOf (l.den e)≤intOf (hh.den e)∧intOf (hh.den e)≤((lenOf ((evX s.T x).den e):Nat):Int):=by
    intro hc
    rw [X.tr_and,X.tr_and,mkCmp_tr,mkCmp_tr,mkCmp_tr] at hc
    exact ⟨of_decide_eq_true hc.1,of_decide_eq_true hc.2.1,of_decide_eq_true hc.2.2⟩
   split at h
   · rename_i h1
     split at h
     · rename_i hlen
       cases h
       refine .of fun hc=>?_
       obtain ⟨c1,c2,c3⟩:=cond hc
       have e1:lenOf ((evX s.T x).den e)=(strOf ((evX s.T x).den e)).size:=by generalize hz:strOf ((evX s.T x).den e)=z;rw [kd_str h1,hz];rfl
       rw [e1] at eh c3
       exact .ssub ho (kd_str h1) (ht.len _ _ hlen) el eh c1 c2 c3
     · cases h
   · rename_i cs h1
     split at h
     · rename_i hlen
       cases h
       refine .of fun hc=>?_
       obtain ⟨c1,c2,c3⟩:=cond hc
       obtain ⟨-,-,k3,-⟩:=kd_sl (e:=e) h1
       have e1:lenOf ((evX s.T x).den e)=(elsOf ((evX s.T x).den e)).length:=by generalize hz:elsOf ((evX s.T x).den e)=z;rw [k3,hz];rfl
       rw [e1] at eh c3
       have:=OpT.sub (P:=P) (ev:=fun y=>(evX s.T y).den e) ho k3 (ht.el _ _ hlen) el eh c1 c2 c3
       have e2:szD (dOf ((evX s.T x).den e))=cs.len:=by rw [k3];rfl
       simp only [X.den,e2]
       exact this
     · cases h
   · cases h
 · cases h
theorem oslX_ok(ht:TabOk P tab){t l sz:Nat}{a m:X}{x:Operand}{hi:Option Operand}(ho:o.op=.slice t x none hi none)(hx:evX s.T x=.osl l sz a m)(h:oslX tab s t l sz a m hi=.val c r pre):OvOk P e o s c r pre:=by
 unfold oslX at h
 split at h
 · rename_i hh hhi
   split at h
   · rename_i hlen
     cases h
     refine .of fun hc=>?_
     rw [X.tr_and,mkCmp_tr,mkCmp_tr] at hc
     have c1:0≤intOf (hh.den e):=of_decide_eq_true hc.1
     have c2:intOf (hh.den e)≤intOf (m.den e):=of_decide_eq_true hc.2
     have eh:=optX_ok (e:=e) (n:=intOf (m.den e)) rfl hhi
     have e3:(((intOf (m.den e)).toNat:Nat):Int)=intOf (m.den e):=Int.toNat_of_nonneg (by omega)
     rw [←e3] at eh c2
     exact OpT.osub (P:=P) (ev:=fun y=>(evX s.T y).den e) ho (by show (evX s.T x).den e=_;rw [hx];rfl) (ht.el _ _ hlen) eh c1 c2
   · cases h
 · cases h
theorem slcX_ok(ht:TabOk P tab){t:TypeId}{x:Operand}{lo hi:Option Operand}(ho:o.op=.slice t x lo hi none)(h:slcX tab s t (evX s.T x) lo hi=.val c r pre):OvOk P e o s c r pre:=by
 unfold slcX at h
 split at h
 · rename_i hx
   exact oslX_ok ht ho hx h
 · exact subX_ok ht ho h
theorem mkAnd_lit{a b:X}{p q:Bool}(ha:a.den e=.d (.lit (.bool p)))(hb:b.den e=.d (.lit (.bool q))):(X.mkAnd a b).den e=.d (.lit (.bool (p&&q))):=by
 unfold X.mkAnd
 split
 · have hp:p=true:=by cases ha;rfl
   rw [hp,hb];rfl
 · have hp:p=false:=by cases ha;rfl
   rw [hp];rfl
 · have hq:q=true:=by cases hb;rfl
   rw [hq,ha,Bool.and_true]
 · have hq:q=false:=by cases hb;rfl
   rw [hq,Bool.and_false];rfl
 · simp only [X.den,ha,hb,boolOf_b]
theorem eqXs_den : ∀{l m:List X} {ks:List Ki},ks.all Ki.sc=true→l.map X.kd=ks.map some→m.map X.kd=ks.map some→(eqXs l m).den e=.d (.lit (.bool (eqcs (l.map (X.den e)) (m.map (X.den e)))))∧Fit ks (l.map (X.den e))∧Fit ks (m.map (X.den e)):=by
 intro l
 induction l with
 | nil=>
   intro m ks hs hl hm
   cases ks with
   | nil=>cases m with
     | nil=>exact ⟨rfl,⟨rfl,fun i k c hk=>by cases hk⟩,⟨rfl,fun i k c hk=>by cases hk⟩⟩
     | cons _ _=>cases hm
   | cons _ _=>cases hl
 | cons a l ih=>
   intro m ks hs hl hm
   cases ks with
   | nil=>cases hl
   | cons k ks=>cases m with
     | nil=>cases hm
     | cons b m=>
       simp only [List.map_cons,List.cons.injEq] at hl hm
       simp only [List.all_cons,Bool.and_eq_true] at hs
       obtain ⟨h1,h2,h3⟩:=ih hs.2 hl.2 hm.2
       have key:(match a.kd with|some .bool=>X.eqb a b|some .str=>.eqs a b|_=>mkCmp .eql a b).den e=.d (.lit (.bool (eqc (a.den e) (b.den e))))∧fitC k (a.den e)∧fitC k (b.den e):=by
        rw [hl.1]
        cases k with
        | int q=>
          rw [kd_int hl.1,kd_int hm.1]
          refine ⟨?_,⟨_,rfl⟩,⟨_,rfl⟩⟩
          show (mkCmp .eql a b).den e=_
          rw [mkCmp_den];rfl
        | bool=>rw [kd_bool hl.1,kd_bool hm.1];exact ⟨rfl,⟨_,rfl⟩,⟨_,rfl⟩⟩
        | str=>rw [kd_str hl.1,kd_str hm.1];exact ⟨rfl,⟨_,rfl⟩,⟨_,rfl⟩⟩
        | _=>cases hs.1
       have cons:∀{c:C} {cs:List C},fitC k c→Fit ks cs→Fit (k::ks) (c::cs):=fun hc hf=>⟨by simp [hf.1],fun i k' c' hk hc'=>by
        cases i with
        | zero=>cases hk;cases hc';exact hc
        | succ i=>exact hf.2 i k' c' hk hc'⟩
       exact ⟨mkAnd_lit key.1 h1,cons key.2.1 h2,cons key.2.2 h3⟩
theorem sqX_ok(ht:TabOk P tab){op:BinOp}{t u:TypeId}{x y:Operand}(ho:o.op=.binOp op t x y u)(h:sqX tab op t (evX s.T x) (evX s.T y)=.val c r pre):OvOk P e o s c r pre:=by
 have key:pre=[]→binC P op t ((evX s.T x).den e) ((evX s.T y).den e)=.val True [] (r.den e)→OvOk P e o s c r pre:=by
  intro hpre hq
  subst hpre
  exact .of fun hc=>(OpT.binC (ev:=fun y=>(evX s.T y).den e) ho hq trivial).2
 revert h key
 generalize evX s.T x=a
 generalize evX s.T y=b
 intro h key
 unfold sqX at h
 split at h
 · rename_i l m ks hk
   split at h
   · rename_i hc
     simp only [Bool.and_eq_true,beq_iff_eq] at hc
     obtain ⟨⟨⟨⟨c1,c2⟩,c3⟩,c4⟩,c5⟩:=hc
     obtain ⟨h1,h2,h3⟩:=eqXs_den (e:=e) c3 c4 c5
     have hs:=ht.sq _ _ hk
     unfold sqT at hs
     split at hs
     · rename_i hT
       have hq:=eqK_ok 50 t ks hs _ _ h2 h3
       have hb:binC P op t ((X.agg l).den e) ((X.agg m).den e)=aggQ P op t (.agg ((toL l).map (X.den e))) (.agg ((toL m).map (X.den e))):=by
        simp only [X.den,toL_den c1,toL_den c2];rfl
       rw [hb] at key
       simp only [aggQ,aggC,hT,if_true,hq] at key
       split at h
       · cases h;exact key rfl (by rw [h1])
       · cases h;exact key rfl (by rw [X.mkNot_den,h1,boolOf_b])
       · cases h
     · cases hs
   · cases h
 · cases h
theorem moreX_ok(ht:TabOk P tab)(h:moreX tab o s=.val c r pre):OvOk P e o s c r pre:=by
 unfold moreX at h
 generalize hop:o.op=op at h
 split at h
 · split at h
   · exact sqX_ok ht hop h
   · exact bitX_ok hop h
 · exact convX_ok ht hop h
 · exact sixX_ok ht hop h
 · exact slcX_ok ht hop h
 · cases h
theorem moreX_mem{t:Tch}{x:X}{H:List XB}{n:Nat}(h:moreX tab o s=.mem c x t H n):False:=by
 unfold moreX at h
 split at h
 · split at h
   · unfold sqX at h;(repeat' split at h)<;>cases h
   · unfold bitX at h;(repeat' split at h)<;>cases h
 · unfold convX at h;(repeat' split at h)<;>cases h
 · unfold sixX at h;(repeat' split at h)<;>cases h
 · unfold slcX at h;split at h<;>(first|unfold oslX at h|unfold subX at h)<;>(repeat' split at h)<;>cases h
 · cases h
end
end Ow
namespace Ow
open Go Go.RowKit Go.Deep
structure Kb where
 tab:Tab
 ct:Ctrs
 bt:Btrs
 zr:Zrs
 rk:Tb (List Ki)
 ni:List Nat
 rt:Tb (List Nat):=.lf
 ow:List Nat:=[]
 oh:List Nat:=[]
 pn:List (Nat×List Ki):=[]
 ta:List Nat:=[]
 it:List Nat:=[]
 pt:List Nat:=[]
 mt:List (Nat×String×Nat):=[]
 md:List (Nat×(List X→Option X)):=[]
structure KbOk (P:Program) (kb:Kb):Prop where
 tab:TabOk P kb.tab
 zr:ZrOk P kb.zr
 ta:∀t,kb.ta.contains t=true→taT P t=true
 it:∀t,kb.it.contains t=true→ifT P t=true
 pt:∀t,kb.pt.contains t=true→ptT P t=true
 mt:∀t n f,(t,n,f)∈kb.mt→MtIs P t n f
def opX0(kb:Kb)(o:Oper)(s:Sx):OX:=match o.op with
 | .move x=>.val (.bool true) (evX s.T x) []
 | .assign x=>.val (.bool true) (evX s.T x) []
 | .pick c x y=>pickX (evX s.T c) (evX s.T x) (evX s.T y)
 | .binOp op t x y _=>binX kb.tab op t (evX s.T x) (evX s.T y)
 | .unOp u _ x=>unX u (evX s.T x)
 | .extract x i=>extX (evX s.T x) i
 | .nilCheck x=>nilX (evX s.T x)
 | .fieldAddr t x f=>fldX kb.tab t f (evX s.T x)
 | .indexAddr t x y=>idxX kb.tab t (evX s.T x) (evX s.T y)
 | .load t x=>ldX kb.tab s t (evX s.T x)
 | .box _ x=>boxX s (evX s.T x)
 | .alloc t=>match lookT t kb.zr with|some zs=>newX s zs|none=>.no
 | .store t x y=>stX kb.tab s t (evX s.T x) (evX s.T y)
 | .build t ps=>litX kb.tab kb.zr t (ps.toList.map (fun p=>(p.1,evX s.T p.2)))
 | .buildSlice t n ps=>bsX kb.tab kb.zr s t n (ps.toList.map (fun p=>(p.1,evX s.T p.2)))
 | .call { callee:=.builtin b,args:=az,argTypes:=ts }=>match b,az.toList,ts.toList with
   | .len,[x],[t]=>lenX kb.tab t (evX s.T x)
   | .max,[x,y],_=>mmX true (evX s.T x) (evX s.T y)
   | .min,[x,y],_=>mmX false (evX s.T x) (evX s.T y)
   | .append,[x,y],[t,t']=>if t'=t then apX kb.tab s t (evX s.T x) (evX s.T y) else .no
   | _,_,_=>.no
 | .call { callee:=.value (.func f),args:=az,argTypes:=ts }=>match callX kb.ct kb.rk s f (az.toList.map (evX s.T)) ts.toList with
   | .no=>callB kb.bt kb.rk s f (az.toList.map (evX s.T)) ts.toList
   | r=>r
 | _=>.no
theorem opX0_ok {P : Program} {e:Env} {kb:Kb} (hk:KbOk P kb) (hct:CtrOk P e kb.ct) (hbt:BtrOk P e kb.bt):OxOk P e (opX0 kb):=by
 intro o s
 refine ⟨fun c x pre h hc=>?_,fun c x t H n h hc=>?_⟩
 · refine OvOk.does (c:=c) ?_ hc
   unfold opX0 at h
   generalize hop:o.op=op at h
   split at h
   · cases h;exact .of fun _=>.move hop
   · cases h;exact .of fun _=>.assign hop
   · exact pickX_ok hop h
   · exact binX_ok hk.tab hop h
   · exact unX_ok hop h
   · exact extX_ok hop h
   · exact nilX_ok hop h
   · exact fldX_ok hk.tab hop h
   · exact idxX_ok hk.tab hop h
   · exact ldX_ok hk.tab hop h
   · unfold boxX newX at h;split at h<;>cases h
   · unfold newX at h;split at h<;>cases h
   · unfold stX at h;split at h<;>(try cases h);split at h<;>(try cases h);split at h<;>(try cases h);split at h<;>(try cases h);split at h<;>(split at h<;>(try cases h));split at h<;>cases h
   · exact litX_ok hk.tab hk.zr hop h
   · unfold bsX at h;split at h<;>(try cases h);split at h<;>(try cases h);split at h<;>(try cases h);split at h<;>(try cases h);split at h<;>(try cases h);split at h<;>cases h
   · rename_i b az ts
     split at h
     · rename_i x t h1 h2
       have e1:az=#[x]:=by rw [←Array.toArray_toList (xs:=az),h1]
       have e2:ts=#[t]:=by rw [←Array.toArray_toList (xs:=ts),h2]
       subst e1 e2
       exact lenX_ok hk.tab hop h
     · rename_i x y h1
       have e1:az=#[x,y]:=by rw [←Array.toArray_toList (xs:=az),h1]
       subst e1
       exact mmX_ok (mx:=true) hop h
     · rename_i x y h1
       have e1:az=#[x,y]:=by rw [←Array.toArray_toList (xs:=az),h1]
       subst e1
       exact mmX_ok (mx:=false) hop h
     · split at h
       · unfold apX at h;split at h<;>(try cases h);split at h<;>(try cases h);split at h<;>(try cases h);split at h<;>cases h
       · cases h
     · cases h
   · split at h
     · unfold callB at h;split at h<;>(try cases h);split at h<;>(try cases h);split at h<;>(try cases h);split at h<;>cases h
     · exact callX_ok hct hop h
   · cases h
 · have fin : OmOk P e o s c x t H n→∃r,Does P o (s.den e) r n∧((⟨setX s.T o.dst x,H,n⟩:Sx).den e).ab=(s.den e).ab.app o.dst (some r)∧(r.dom,r.chg)=t:=fun h=>h hc
   refine fin ?_
   unfold opX0 at h
   generalize hop:o.op=op at h
   split at h<;>(try cases h)
   · unfold pickX at h;split at h;cases h;split at h<;>cases h
   · unfold binX at h
     split at h
     · split at h
       · unfold intX at h;split at h<;>cases h
       · cases h
     · split at h
       · unfold boolX at h;split at h<;>cases h
       · cases h
     · unfold strX at h;split at h<;>cases h
     · cases h
   · unfold unX at h;split at h<;>cases h
   · unfold extX at h;split at h;split at h;split at h<;>cases h;cases h;cases h
   · unfold nilX at h;split at h<;>cases h
   · unfold fldX at h;split at h;split at h;cases h;split at h<;>cases h;cases h;cases h
   · unfold idxX at h
     split at h
     · split at h
       · split at h<;>cases h
       · split at h
         · split at h<;>cases h
         · cases h
     · cases h
   · unfold ldX at h
     split at h
     · split at h
       · split at h
         · split at h
           · split at h
             · split at h<;>cases h
             · cases h
           · split at h<;>cases h
         · cases h
       · split at h
         · split at h
           · split at h
             · split at h
               · split at h
                 · split at h<;>cases h
                 · split at h<;>cases h
               · cases h
             · split at h
               · split at h
                 · split at h<;>cases h
                 · cases h
               · cases h
           · cases h
         · cases h
       · cases h
     · cases h
   · exact boxX_ok hop h
   · split at h
     · rename_i hl;exact alX_ok hk.zr hop hl h
     · cases h
   · exact stX_ok hk.tab hop h
   · unfold litX at h;split at h;split at h<;>cases h;cases h
   · exact bsX_ok hk.tab hk.zr hop h
   · rename_i b az ts
     split at h
     · unfold lenX at h;split at h;split at h<;>cases h;split at h<;>cases h;split at h;split at h<;>cases h;split at h<;>cases h;cases h
     · unfold mmX at h;split at h;split at h<;>cases h;cases h
     · unfold mmX at h;split at h;split at h<;>cases h;cases h
     · rename_i x y t1 t2 h1 h2
       split at h
       · rename_i ht
         have e1:az=#[x,y]:=by rw [←Array.toArray_toList (xs:=az),h1]
         have e2:ts=#[t1,t2]:=by rw [←Array.toArray_toList (xs:=ts),h2]
         subst e1 e2
         exact apX_ok hk.tab ht hop h
       · cases h
     · cases h
   · split at h
     · exact callB_ok hbt hop h
     · unfold callX at h
       split at h
       · split at h
         · split at h
           · split at h<;>cases h
           · cases h
         · cases h
       · cases h
def opX(kb:Kb)(o:Oper)(s:Sx):OX:=match opX0 kb o s with
 | .no=>moreX kb.tab o s
 | r=>r
theorem opX_ok{P:Program}{e:Env}{kb:Kb}(hk:KbOk P kb)(hct:CtrOk P e kb.ct)(hbt:BtrOk P e kb.bt):OxOk P e (opX kb):=by
 have h0:=opX0_ok hk hct hbt
 intro o s
 refine ⟨fun c x pre h hc=>?_,fun c x t H n h hc=>?_⟩
 · unfold opX at h
   split at h
   · exact OvOk.does (c:=c) (moreX_ok hk.tab h) hc
   · exact (h0 o s).1 c x pre h hc
 · unfold opX at h
   split at h
   · exact (moreX_mem h).elim
   · exact (h0 o s).2 c x t H n h hc
end Ow
