/- A part of the proof. -/
import Derived.Test.YtjakhnhnjhafgaaGreatK14
set_option linter.unusedVariables false
set_option linter.unusedSimpArgs false
namespace Ow
open Go Go.RowKit Go.Deep
def X.isR : X→Bool
 | .ptr _ _ _ _=>true | .osl _ _ _ _=>true | .fn _ _ _=>true | .ifc _ _=>true | .nilI=>true | .nilF=>true | .nilS=>true | .nilP=>true
 | x=>x.isD
def cellY : X→Option (List X)
 | .agg xs=>if isL xs then some (toL xs) else none
 | x=>if x.isR then some [x] else none
theorem cellY_den{e:Env}{y:X}{ys:List X}(h:cellY y=some ys):cellsC (y.den e)=some (ys.map (X.den e)):=by
 unfold cellY at h
 split at h
 · split at h
   · rename_i hl;cases h;simp only [X.den,toL_den hl];rfl
   · cases h
 · split at h
   · rename_i hr
     cases h
     have hd:y.isD=true→cellsC (y.den e)=some ([y].map (X.den e)):=by
      intro hd
      unfold X.isD at hd
      cases hk:y.kd with
      | none=>rw [hk] at hd;cases hd
      | some k=>
        obtain ⟨h1,-,h3⟩:=kd_ok (e:=e) hk
        rw [List.map_cons,List.map_nil]
        generalize y.den e=u at h3
        rw [h3]
        cases k<;>first|rfl|cases h1
     cases y<;>first|rfl|exact hd hr
   · cases h
def anyK : Nat→Ki|0=>.nil|n+1=>.cons .any (anyK n)
theorem anyK_len(n:Nat):(anyK n).len=n:=by induction n<;>simp_all [anyK,Ki.len]
def OmOk(P:Program)(e:Env)(o:Oper)(s:Sx)(c x:X)(t:Tch)(H:List XB)(n:Nat):Prop:=
 c.tr e→∃r,Does P o (s.den e) r n∧((⟨setX s.T o.dst x,H,n⟩:Sx).den e).ab=(s.den e).ab.app o.dst (some r)∧(r.dom,r.chg)=t
section
variable {P:Program} {e:Env} {tab:Tab} {s:Sx} {c x:X} {t:Tch} {H:List XB} {n:Nat} {o:Oper}
theorem OmOk.of{pre:Hp}{chg:List Nat}{post:Hp}(ht:(pre.map (·.1)++chg,chg)=t)(hop:c.tr e→OpT P o (fun y=>(evX s.T y).den e) ⟨pre,chg,post,x.den e⟩)(hsub:∀l B,pre.get l=some B→(s.den e).H.get l=some B)
 (hnew:∀l∈chg,pre.get l=none→s.n≤l) (hlt:∀l∈chg,l<n) (hle:s.n≤n) (hpost:∀l B,post.get l=some B→l∈chg)
 (hH:∀l,Hp.get (H.map (XB.den e)) l=if chg.contains l then post.get l else (s.den e).H.get l):OmOk P e o s c x t H n:=fun hc=>by
 refine ⟨⟨pre,chg,post,x.den e⟩,⟨(hop hc).of_dead (fun x=>evX_den),hsub,hnew,hlt,hle,hpost⟩,?_,ht⟩
 have:(Hp.get (H.map (XB.den e)))=fun l=>if chg.contains l then post.get l else (s.den e).H.get l:=funext hH
 simp only [St.ab,Ab.app,Sx.den,setX_den]
 rw [this];rfl
theorem OmOk.new{cs:Ki}{rows:X}(hop:c.tr e→OpT P o (fun y=>(evX s.T y).den e) ⟨[],[s.n],[(s.n,.c cs.len (rowsC (rows.den e)))],x.den e⟩):OmOk P e o s c x ([s.n],[s.n]) (⟨s.n,cs,rows⟩::s.H) (s.n+1):=by
 refine .of (pre:=[]) rfl hop (fun l B h=>by cases h) (fun l hl _=>by simp at hl;omega) (fun l hl=>by simp at hl;omega) (Nat.le_succ _) (fun l B h=>?_) (fun l=>?_)
 · rw [Hp.get_cons] at h
   split at h
   · rename_i hl;simp [hl]
   · cases h
 · rw [List.map_cons,Hp.get_cons]
   show (if l=s.n then _ else _)=_
   by_cases hl:l=s.n
   · rw [if_pos hl,hl];simp [Hp.get_cons,XB.den]
   · rw [if_neg hl,if_neg (by simpa using hl)];rfl
def putX : List XB→Nat→X→List XB
 | [],_,_=>[]
 | b::H,l,r=>if l=b.l then ⟨b.l,b.cs,r⟩::H else b::putX H l r
theorem putX_get{b:XB}{r:X}:∀{H:List XB} {l:Nat},getX H l=some b→∀y,Hp.get ((putX H l r).map (XB.den e)) y=if y=l then some (.c b.cs.len (rowsC (r.den e))) else Hp.get (H.map (XB.den e)) y:=by
 intro H
 induction H with
 | nil=>intro l h;cases h
 | cons b' H ih=>
   intro l h y
   simp only [getX] at h
   simp only [putX]
   by_cases hl:l=b'.l
   · rw [if_pos hl] at h ⊢
     cases h
     rw [List.map_cons,List.map_cons,Hp.get_cons,Hp.get_cons]
     show (if y=b.l then _ else _)=if y=l then _ else if y=b.l then _ else _
     rw [hl]
     by_cases hy:y=b.l
     · rw [if_pos hy,if_pos hy];rfl
     · rw [if_neg hy,if_neg hy,if_neg hy]
   · rw [if_neg hl] at h ⊢
     rw [List.map_cons,List.map_cons,Hp.get_cons,Hp.get_cons,ih h]
     show (if y=b'.l then _ else _)=if y=l then _ else if y=b'.l then _ else _
     by_cases hy:y=b'.l
     · rw [if_pos hy,if_pos hy,if_neg (fun e=>hl (by rw [←e,hy]))]
     · rw [if_neg hy,if_neg hy]
theorem OmOk.upd{l:Nat}{b:XB}{rows:X}(hb:getX s.H l=some b)(hl:l<s.n)(hop:c.tr e→OpT P o (fun y=>(evX s.T y).den e) ⟨[(l,.c b.cs.len (rowsC (b.rows.den e)))],[l],[(l,.c b.cs.len (rowsC (rows.den e)))],x.den e⟩):
 OmOk P e o s c x ([l,l],[l]) (putX s.H l rows) s.n:=by
 refine .of (pre:=[(l,.c b.cs.len (rowsC (b.rows.den e)))]) rfl hop (fun l' B h=>?_) (fun l' hl' hn=>?_) (fun l' hl'=>?_) (Nat.le_refl _) (fun l' B h=>?_) (fun l'=>?_)
 · rw [Hp.get_cons] at h
   split at h
   · rename_i e1;rw [e1,getX_H hb];exact h
   · cases h
 · simp only [List.mem_singleton] at hl'
   rw [hl',Hp.get_cons,if_pos rfl] at hn;cases hn
 · simp only [List.mem_singleton] at hl';rw [hl'];exact hl
 · rw [Hp.get_cons] at h
   split at h
   · rename_i e1;simp [e1]
   · cases h
 · rw [putX_get hb]
   by_cases h1:l'=l
   · rw [if_pos h1,if_pos (by simp [h1]),Hp.get_cons,if_pos h1]
   · rw [if_neg h1,if_neg (by simpa using h1)];rfl
def newX(s:Sx)(ys:List X):OX:=.mem (.bool true) (.ptr s.n ys.length (.int .i64 0) 0) ([s.n],[s.n]) (⟨s.n,anyK ys.length,.cons (ofL ys) .nil⟩::s.H) (s.n+1)
def boxX(s:Sx)(y:X):OX:=match cellY y with|some ys=>newX s ys|none=>.no
abbrev Zrs := Tb (List X)
def ZrOk(P:Program)(zr:Zrs):Prop:=∀t zs,lookT t zr=some zs→∀e:Env,zeroC P t=some (zs.map (X.den e))
theorem boxX_ok{u:TypeId}{y:Operand}(ho:o.op=.box u y)(h:boxX s (evX s.T y)=.mem c x t H n):OmOk P e o s c x t H n:=by
 unfold boxX at h
 split at h
 · rename_i ys hy
   unfold newX at h
   cases h
   refine .new fun _=>?_
   have:=OpT.box (P:=P) (o:=o) (ev:=fun y=>(evX s.T y).den e) s.n ho (cellY_den hy)
   simpa [anyK_len,X.den,rowsC,tupOf_t,ofL_den,intOf_i] using this
 · cases h
theorem alX_ok{zr:Zrs}(hz:ZrOk P zr){u:TypeId}{zs:List X}(ho:o.op=.alloc u)(hl:lookT u zr=some zs)(h:newX s zs=.mem c x t H n):OmOk P e o s c x t H n:=by
 unfold newX at h
 cases h
 refine .new fun _=>?_
 have hz:=hz u zs hl e
 unfold zeroC at hz
 cases hi:(P.info? u).bind (·.zero) with
 | none=>rw [hi] at hz;cases hz
 | some z=>
   rw [hi] at hz
   have:=OpT.alloc (P:=P) (o:=o) (ev:=fun y=>(evX s.T y).den e) s.n ho hi hz
   simpa [anyK_len,X.den,rowsC,tupOf_t,ofL_den,intOf_i] using this
def putRowX(row:List X)(j:Nat)(ys:List X):List X:=row.take j++ys++row.drop (j+ys.length)
def updX(i:X)(cs:List Ki):X→Nat→List X→Option X
 | r,_,[]=>some r
 | r,j,y::ys=>match cs[j]? with
   | some k=>if k==.any||y.kd==some k then updX i cs (.upd r i j y) (j+1) ys else none
   | none=>none
def stX (tab:Tab) (s:Sx) (u:TypeId) (x y:X):OX:=match lookT u tab.sz,x,cellY y with
 | some n,.ptr l sz i j,some ys=>if ys.length=n∧l<s.n∧0<n then (match getX s.H l with
   | some b=>if b.cs.len=sz then (match (litI i).bind (fun i=>(nthX b.rows i).map (i,·)) with
     | some (i',row)=>if isL row=true∧j+ys.length≤(toL row).length then .mem (.bool true) .dead ([l,l],[l]) (putX s.H l (setNth b.rows i' (ofL (putRowX (toL row) j ys)))) s.n else .no
     | none=>if rkIs b.cs b.rows then (match updX i b.cs.ls b.rows j ys with
       | some r=>.mem (X.mkAnd (mkCmp .leq (.int .i64 0) i) (mkCmp .lss i (.rln b.rows))) .dead ([l,l],[l]) (putX s.H l r) s.n
       | none=>.no) else .no) else .no
   | none=>.no) else .no
 | _,_,_=>.no
theorem modify_set{α:Type}(l:List α)(i:Nat)(f:α→α){x:α}(h:l[i]? = some x):l.modify i f=l.set i (f x):=by
 obtain ⟨hl,rfl⟩:=List.getElem?_eq_some_iff.1 h
 apply List.ext_getElem?
 intro k
 rw [List.getElem?_modify,List.getElem?_set]
 by_cases hk:i=k
 · subst hk
   simp [hl]
 · simp [hk]
theorem putRow_cons{row:List C}{j:Nat}{y:C}{ys:List C}(h:j+(ys.length+1)≤row.length):putRow row j (y::ys)=putRow (row.set j y) (j+1) ys:=by
 apply List.ext_getElem?
 intro k
 rw [putRow_get (by simpa using h),putRow_get (by rw [List.length_set];omega),List.length_cons]
 by_cases h1:k<j
 · rw [if_pos h1,if_pos (by omega),List.getElem?_set_ne (by omega)]
 · by_cases h2:k=j
   · subst h2
     rw [if_neg h1,if_pos (by omega),if_pos (by omega),Nat.sub_self,List.getElem?_cons_zero,List.getElem?_set_self (by omega)]
   · rw [if_neg h1,if_neg (show ¬k<j+1 by omega)]
     by_cases h3:k<j+(ys.length+1)
     · rw [if_pos h3,if_pos (by omega),show k-j=(k-(j+1))+1 by omega,List.getElem?_cons_succ]
     · rw [if_neg h3,if_neg (by omega),List.getElem?_set_ne (by omega)]
theorem updX_den{cs:Ki}{i:X}:∀{ys:List X} {r r':X} {j:Nat} {row:List C},updX i cs.ls r j ys=some r'→(rowsC (r.den e))[(intOf (i.den e)).toNat]? = some row→row.length=cs.len →
 j + ys.length≤row.length∨ys=[]→rowsC (r'.den e)=(rowsC (r.den e)).set (intOf (i.den e)).toNat (putRow row j (ys.map (X.den e))):=by
 intro ys
 induction ys with
 | nil=>
   intro r r' j row h hr _ _
   simp only [updX,Option.some.injEq] at h
   subst h
   have e1:putRow row j (([]:List X).map (X.den e))=row:=by simp [putRow]
   rw [e1]
   obtain ⟨hi,rfl⟩:=List.getElem?_eq_some_iff.1 hr
   exact (List.set_getElem_self hi).symm
 | cons y ys ih=>
   intro r r' j row h hr hl hj
   have hj:j+(ys.length+1)≤row.length:=by rcases hj with hj|hj;exact hj;cases hj
   simp only [updX] at h
   split at h
   · split at h
     · have hm:rowsC ((X.upd r i j y).den e)=(rowsC (r.den e)).set (intOf (i.den e)).toNat (row.set j (y.den e)):=by
        simp only [rowsC,List.getElem?_map,Option.map_eq_some_iff] at hr
        obtain ⟨q,hq,rfl⟩:=hr
        simp only [rowsC,X.den,tupOf_t]
        rw [modify_set _ _ _ hq,List.map_set];rfl
       have hi:(intOf (i.den e)).toNat<(rowsC (r.den e)).length:=(List.getElem?_eq_some_iff.1 hr).1
       have:=ih h (row:=row.set j (y.den e)) (by rw [hm,List.getElem?_set_self hi]) (by rw [List.length_set];exact hl) (by rw [List.length_set];exact .inl (by omega))
       rw [this,hm,List.set_set,List.map_cons,putRow_cons (by simpa using hj)]
     · cases h
   · cases h
theorem updX_len{cs:List Ki}{i:X}:∀{ys:List X} {r r':X} {j:Nat},updX i cs r j ys=some r'→ys≠[]→j+ys.length≤cs.length:=by
 intro ys
 induction ys with
 | nil=>intro r r' j _ h;exact absurd rfl h
 | cons y ys ih=>
   intro r r' j h _
   simp only [updX] at h
   split at h
   · rename_i k hk
     split at h
     · have hj:=(List.getElem?_eq_some_iff.1 hk).1
       cases ys with
       | nil=>simp only [List.length_cons,List.length_nil];omega
       | cons y' ys=>have:=ih h (by simp);simp only [List.length_cons] at this ⊢;omega
     · cases h
   · cases h
theorem stX_spec(ht:TabOk P tab){u:TypeId}{y z:Operand}{a:X}(ho:o.op=.store u y z)(ha:(evX s.T y).den e=a.den e)(h:stX tab s u a (evX s.T z)=.mem c x t H n):
 ∃ (l:Nat) (b:XB) (rows:X),getX s.H l=some b∧l<s.n∧H=putX s.H l rows∧t=([l,l],[l])∧x=.dead∧n=s.n∧(c.tr e→OpT P o (fun y=>(evX s.T y).den e) ⟨[(l,.c b.cs.len (rowsC (b.rows.den e)))],[l],[(l,.c b.cs.len (rowsC (rows.den e)))],.dead⟩):=by
 unfold stX at h
 split at h
 · rename_i n0 l sz i j ys hsz hy
   split at h
   · rename_i hc0
     split at h
     · rename_i b hb
       split at h
       · rename_i hbs
         subst hbs
         have hx':(evX s.T y).den e=.ptr l b.cs.len (intOf (i.den e)).toNat j:=ha
         have key:=fun (row:List C) (hr:(rowsC (b.rows.den e))[(intOf (i.den e)).toNat]? = some row) (hj:j+ys.length≤row.length)=>
          OpT.store (P:=P) (o:=o) (ev:=fun y=>(evX s.T y).den e) ho hx' (cellY_den hy) (ht.sz u n0 hsz) (by rw [List.length_map];exact hc0.1) hr (by rw [List.length_map];exact hj)
         split at h
         · rename_i i' row hrow
           rw [Option.bind_eq_some_iff] at hrow
           obtain ⟨i0,hi0,hrow⟩:=hrow
           rw [Option.map_eq_some_iff] at hrow
           obtain ⟨row',hrow,hpair⟩:=hrow
           cases hpair
           split at h
           · rename_i hl
             cases h
             refine ⟨l,b,_,hb,hc0.2.1,rfl,rfl,rfl,rfl,fun _=>?_⟩
             have hi:=litI_den (e:=e) hi0
             have hR:(rowsC (b.rows.den e))[(intOf (i.den e)).toNat]? = some ((toL row).map (X.den e)):=by
              rw [hi,rowsC,List.getElem?_map,nthX_den hrow,Option.map_some,toL_den hl.1]
             have:=key _ hR (by rw [List.length_map];exact hl.2)
             have e2:rowsC ((setNth b.rows i' (ofL (putRowX (toL row) j ys))).den e)=(rowsC (b.rows.den e)).set (intOf (i.den e)).toNat (putRow ((toL row).map (X.den e)) j (ys.map (X.den e))):=by
              rw [hi,rowsC,setNth_den hrow,List.map_set,ofL_den]
              congr 1
              simp [putRowX,putRow,List.map_take,List.map_drop]
             rw [e2];exact this
           · cases h
         · split at h
           · rename_i hk
             split at h
             · rename_i r hr
               cases h
               refine ⟨l,b,_,hb,hc0.2.1,rfl,rfl,rfl,rfl,fun hc=>?_⟩
               rw [X.tr_and,mkCmp_tr,mkCmp_tr] at hc
               have c1:(0:Int)≤intOf (i.den e):=of_decide_eq_true hc.1
               have c2:intOf (i.den e)<(((tupOf (b.rows.den e)).length:Nat):Int):=of_decide_eq_true hc.2
               have hi:(intOf (i.den e)).toNat<(rowsC (b.rows.den e)).length:=by simp only [rowsC,List.length_map];omega
               have hrl:=(rkIs_ok hk _ (List.getElem_mem hi)).1
               have hys:ys≠[]:=fun h=>by have:=hc0.1;have:=hc0.2.2;rw [h] at *;simp at *;omega
               have hjl:j+ys.length≤(rowsC (b.rows.den e))[(intOf (i.den e)).toNat].length:=by rw [hrl,←ls_len];exact updX_len hr hys
               have:=key _ (List.getElem?_eq_getElem hi) hjl
               rw [updX_den hr (List.getElem?_eq_getElem hi) hrl (.inl hjl)]
               exact this
             · cases h
           · cases h
       · cases h
     · cases h
   · cases h
 · cases h
theorem stX_ok(ht:TabOk P tab){u:TypeId}{y z:Operand}(ho:o.op=.store u y z)(h:stX tab s u (evX s.T y) (evX s.T z)=.mem c x t H n):OmOk P e o s c x t H n:=by
 obtain ⟨l,b,rows,hb,hl,rfl,rfl,rfl,rfl,hop⟩:=stX_spec (e:=e) ht ho rfl h
 exact .upd hb hl hop
end
end Ow
namespace Ow
open Go Go.RowKit Go.Deep
theorem X.ren_none{x:X}(h:x.ids 0=true):x.ren (fun _=>none)=x:=by
 induction x<;>simp_all [X.ids,X.ren]
def mtG(y x:X):Option (List (X×X)):=if x==.nilS then (match y.kd with|some (.sl cs)=>some [(.fz cs .nil,y)]|_=>if y==.nilS then some [] else none) else if y.ids 0 then some [(x,y)] else none
def X.flat : X→Bool
 | .cons _ _=>false | .tup _=>false | .rws _ _ _=>false | .app _ _=>false | .upd _ _ _ _=>false | .rof _=>false
 | .ite _ x y=>x.flat&&y.flat
 | _=>true
theorem X.flat_den{e:Env}{x:X}(h:x.flat=true):tupOf (x.den e)=[]:=by
 induction x with
 | ite c x y _ ihx ihy=>
   simp only [X.flat,Bool.and_eq_true] at h
   simp only [X.den]
   split
   · exact ihx h.1
   · exact ihy h.2
 | _=>first|rfl|cases h
def mt(f:Nat→Option Nat):X→X→Option (List (X×X))
 | .dead,x=>if x.flat then some [] else none
 | .cons b b',x=>match x with
   | .cons a a'=>(mt f b a).bind (fun l=>(mt f b' a').map (l++·))
   | x=>mtG (.cons b b') x
 | .agg b,x=>match x with | .agg a=>mt f b a|x=>mtG (.agg b) x
 | .tup b,x=>match x with | .tup a=>mt f b a|x=>mtG (.tup b) x
 | .ifc t b,x=>match x with | .ifc t' a=>if t=t' then mt f b a else none|x=>mtG (.ifc t b) x
 | .fn g b b',x=>match x with | .fn g' a a'=>if g=g' then (mt f b a).bind (fun l=>(mt f b' a').map (l++·)) else none|_=>none
 | .ptr l sz i j,x=>match x with | .ptr l' sz' i' j'=>if f l'=some l∧sz=sz'∧j=j' then some [(i',i)] else none|_=>none
 | .osl l sz s n,x=>match x with
   | .osl l' sz' s' n'=>if f l'=some l∧sz=sz' then some [(s',s),(n',n)] else none
   | .nilS=>some [(.int .i64 0,n)]
   | _=>none
 | y,x=>mtG y x
section
variable {f:Nat→Option Nat} {σ:Nat→Nat} {n:Nat} {e e':Env}
def MtAll(σ:Nat→Nat)(n:Nat)(a b:C):Prop:=Mt σ n a b∧Each (Mt σ n) (tupOf a) (tupOf b)∧Each (fun u v=>Each (Mt σ n) (tupOf u) (tupOf v)) (tupOf a) (tupOf b)
theorem MtAll.flat{a b:C}(h:Mt σ n a b)(ha:tupOf a=[])(hb:tupOf b=[]):MtAll σ n a b:=⟨h,by rw [ha,hb];exact .nil,by rw [ha,hb];exact ⟨rfl,by simp⟩⟩
theorem mtG_ok{y x:X}{eqs:List (X×X)}(h:mtG y x=some eqs)(hq:∀p∈eqs,p.1.den e=p.2.den e'):MtAll σ n (x.den e) (y.den e'):=by
 unfold mtG at h
 split at h
 · rename_i hx
   have hx:=beq_iff_eq.1 hx
   subst hx
   split at h
   · rename_i cs hk
     cases h
     have h1:=hq _ (List.mem_singleton_self _)
     simp only at h1
     rw [←h1]
     exact .flat (.arg _ _ (.vw _ _ (.nil _))) rfl rfl
   · split at h
     · rename_i hy
       cases h
       rw [beq_iff_eq.1 hy]
       exact .flat (.arg _ _ (.vw _ _ (.d _))) rfl rfl
     · cases h
 · split at h
   · rename_i hy
     cases h
     have h1:=hq _ (List.mem_singleton_self _)
     simp only at h1
     rw [h1]
     have:=X.ren_ok (f:=fun _=>none) (σ:=σ) (n:=n) (fun l l' h=>by cases h) (e:=e') y
     rw [X.ren_none hy] at this
     exact ⟨.arg _ _ this.1,this.2.1.mono fun _ _ h=>.arg _ _ h,this.2.2.mono fun _ _ h=>h.mono fun _ _ h=>.arg _ _ h⟩
   · cases h
theorem mt_two{f1 f2:Option (List (X×X))}{eqs:List (X×X)}(h:f1.bind (fun l=>f2.map (l++·))=some eqs)(hq:∀p∈eqs,p.1.den e=p.2.den e'):
 ∃ l1 l2,f1=some l1∧f2=some l2∧(∀p∈l1,p.1.den e=p.2.den e')∧∀p∈l2,p.1.den e=p.2.den e':=by
 rw [Option.bind_eq_some_iff] at h
 obtain ⟨l1,h1,h2⟩:=h
 rw [Option.map_eq_some_iff] at h2
 obtain ⟨l2,h2,rfl⟩:=h2
 exact ⟨l1,l2,h1,h2,fun p hp=>hq p (List.mem_append_left _ hp),fun p hp=>hq p (List.mem_append_right _ hp)⟩
theorem mt_ok(hf:∀l l',f l=some l'→σ l'=l∧l'<n):∀(y x:X) (eqs:List (X×X)),mt f y x=some eqs→(∀p∈eqs,p.1.den e=p.2.den e')→MtAll σ n (x.den e) (y.den e'):=by
 intro y
 induction y with
 | dead=>
   intro x eqs h hq
   simp only [mt] at h
   split at h
   · rename_i hx;exact .flat (.arg _ _ (.dead _)) (X.flat_den hx) rfl
   · cases h
 | cons b b' ihb ihb'=>
   intro x eqs h hq
   cases x with
   | cons a a'=>
     obtain ⟨l1,l2,h1,h2,q1,q2⟩:=mt_two h hq
     obtain ⟨m1,m2,m3⟩:=ihb a l1 h1 q1
     obtain ⟨n1,n2,n3⟩:=ihb' a' l2 h2 q2
     have k1:=Each.cons m1 n2
     exact ⟨.tup _ _ k1.1 k1.2,k1,Each.cons (A:=fun u v=>Each (Mt σ n) (tupOf u) (tupOf v)) m2 n3⟩
   | _=>exact mtG_ok h hq
 | agg b ih=>
   intro x eqs h hq
   cases x with
   | agg a=>
     obtain ⟨m1,m2,m3⟩:=ih a eqs h hq
     exact .flat (.agg _ _ m2.1 m2.2) rfl rfl
   | _=>exact mtG_ok h hq
 | tup b ih=>
   intro x eqs h hq
   cases x with
   | tup a=>
     obtain ⟨m1,m2,m3⟩:=ih a eqs h hq
     exact ⟨.tup _ _ m2.1 m2.2,m2,m3⟩
   | _=>exact mtG_ok h hq
 | ifc t b ih=>
   intro x eqs h hq
   cases x with
   | ifc t' a=>
     simp only [mt] at h
     split at h
     · rename_i ht;subst ht;exact .flat (.ifc _ _ _ (ih a eqs h hq).1) rfl rfl
     · cases h
   | _=>exact mtG_ok h hq
 | fn g b b' ihb ihb'=>
   intro x eqs h hq
   cases x with
   | fn g' a a'=>
     simp only [mt] at h
     split at h
     · rename_i hg
       subst hg
       obtain ⟨l1,l2,h1,h2,q1,q2⟩:=mt_two h hq
       obtain ⟨m1,m2,m3⟩:=ihb a l1 h1 q1
       obtain ⟨n1,n2,n3⟩:=ihb' a' l2 h2 q2
       exact .flat (.fn _ _ _ _ _ m2.1 n2.1 m2.2 n2.2) rfl rfl
     · cases h
   | _=>cases h
 | ptr l sz i j=>
   intro x eqs h hq
   cases x with
   | ptr l' sz' i' j'=>
     simp only [mt] at h
     split at h
     · rename_i hc
       obtain ⟨h1,rfl,rfl⟩:=hc
       cases h
       obtain ⟨hl,hn⟩:=hf l' l h1
       have hi:=hq _ (List.mem_singleton_self _)
       simp only at hi
       subst hl
       simp only [X.den,hi]
       exact .flat (.arg _ _ (.ptr l sz _ j hn)) rfl rfl
     · cases h
   | _=>cases h
 | osl l sz s k=>
   intro x eqs h hq
   cases x with
   | osl l' sz' s' k'=>
     simp only [mt] at h
     split at h
     · rename_i hc
       obtain ⟨h1,rfl⟩:=hc
       cases h
       obtain ⟨hl,hn⟩:=hf l' l h1
       have hs:=hq (s',s) (by simp)
       have hk:=hq (k',k) (by simp)
       simp only at hs hk
       subst hl
       simp only [X.den,hs,hk]
       exact .flat (.arg _ _ (.osl l sz _ _ hn)) rfl rfl
     · cases h
   | nilS=>
     simp only [mt,Option.some.injEq] at h
     subst h
     have hk:=hq _ (List.mem_singleton_self _)
     simp only at hk
     have:(intOf (k.den e')).toNat=0:=by rw [←hk];rfl
     simp only [X.den,this]
     exact .flat (.nil l sz _) rfl rfl
   | _=>cases h
 | _=>intro x eqs h hq;exact mtG_ok h hq
def mtL(f:Nat→Option Nat):List X→List X→Option (List (X×X))
 | [],[]=>some []
 | y :: ys,x::xs=>match y with
   | .dead=>mtL f ys xs
   | y=>(mt f y x).bind (fun l=>(mtL f ys xs).map (l++·))
 | _,_=>none
theorem mtL_ok(hf:∀l l',f l=some l'→σ l'=l∧l'<n):∀{ys xs:List X} {eqs:List (X×X)},mtL f ys xs=some eqs→(∀p∈eqs,p.1.den e=p.2.den e')→Each (Mt σ n) (xs.map (X.den e)) (ys.map (X.den e')):=by
 intro ys
 induction ys with
 | nil=>intro xs eqs h hq;cases xs with|nil=>exact .nil|cons x xs=>cases h
 | cons y ys ih=>
   intro xs eqs h hq
   cases xs with
   | nil=>cases h
   | cons x xs=>
     simp only [mtL] at h
     split at h
     · exact Each.cons (.arg _ _ (.dead _)) (ih h hq)
     · obtain ⟨l1,l2,h1,h2,q1,q2⟩:=mt_two h hq
       exact Each.cons (mt_ok hf _ x l1 h1 q1).1 (ih h2 q2)
def pairOf(acc:List (Nat×Nat))(l:Nat):Option Nat:=(acc.find? (fun p=>p.2==l)).map (·.1)
def nameOf(acc:List (Nat×Nat))(l:Nat):Option Nat:=match (acc.find? (fun p=>p.1==l)).map (·.2) with
 | some l'=>if pairOf acc l'=some l then some l' else none
 | none=>none
def sigOf(acc:List (Nat×Nat))(n0:Nat)(l:Nat):Nat:=match pairOf acc l with|some a=>a|none=>n0+l
def mtHs(acc:List (Nat×Nat))(s:List XB):List XB→Option (List (X×X))
 | []=>some []
 | b :: bs=>match pairOf acc b.l with
   | some a=>match getX s a with
     | some p=>if p.cs.len=b.cs.len∧nameOf acc a=some b.l then (mt (nameOf acc) b.rows p.rows).bind (fun l=>(mtHs acc s bs).map (l++·)) else none
     | none=>none
   | none=>(some [(.nil,b.rows)]).bind (fun l=>(mtHs acc s bs).map (l++·))
def mtS(m:Nat)(s h:Sx):Option (List (X×X)):=
 let acc:=pairs m s h
 if m≤h.n∧(List.range m).all (fun l=>pairOf acc l==some l)=true∧h.H.all (fun b=>decide (b.l<h.n))=true∧acc.all (fun p=>decide (p.2<h.n))=true
 then (mtL (nameOf acc) h.T s.T).bind (fun l=>(mtHs acc s.H h.H).map (l++·)) else none
theorem MtAll.rows{a b:C}(h:MtAll σ n a b):(rowsC a).length=(rowsC b).length∧∀(i:Nat) (r r':List C),(rowsC a)[i]? = some r→(rowsC b)[i]? = some r'→Each (Mt σ n) r r':=by
 obtain ⟨-,-,h1,h2⟩:=h
 refine ⟨by simp [rowsC,h1],fun i r r' hr hr'=>?_⟩
 simp only [rowsC,List.getElem?_map,Option.map_eq_some_iff] at hr hr'
 obtain ⟨q,hq,rfl⟩:=hr
 obtain ⟨q',hq',rfl⟩:=hr'
 exact h2 i q q' hq hq'
theorem mtHs_ok{acc:List (Nat×Nat)}{s:List XB}(hf:∀l l',nameOf acc l=some l'→σ l'=l∧l'<n):∀{bs:List XB} {eqs:List (X×X)},mtHs acc s bs=some eqs→(∀p∈eqs,p.1.den e=p.2.den e')→∀b∈bs,
 (pairOf acc b.l=none∧rowsC (b.rows.den e')=[])∨∃a p,pairOf acc b.l=some a∧getX s a=some p∧p.cs.len=b.cs.len∧nameOf acc a=some b.l∧MtAll σ n (p.rows.den e) (b.rows.den e'):=by
 intro bs
 induction bs with
 | nil=>intro eqs _ _ b hb;cases hb
 | cons b0 bs ih=>
   intro eqs h hq b hb
   simp only [mtHs] at h
   split at h
   · rename_i a ha
     split at h
     · rename_i p hp
       split at h
       · rename_i hc
         obtain ⟨l1,l2,h1,h2,q1,q2⟩:=mt_two h hq
         rcases List.mem_cons.1 hb with rfl|hb
         · exact .inr ⟨a,p,ha,hp,hc.1,hc.2,mt_ok hf _ _ l1 h1 q1⟩
         · exact ih h2 q2 b hb
       · cases h
     · cases h
   · rename_i ha
     obtain ⟨l1,l2,h1,h2,q1,q2⟩:=mt_two h hq
     rcases List.mem_cons.1 hb with rfl|hb
     · cases h1
       have:=q1 _ (List.mem_singleton_self _)
       simp only at this
       exact .inl ⟨ha,by rw [←this];rfl⟩
     · exact ih h2 q2 b hb
theorem mtS_ok{m:Nat}{s h:Sx}{eqs:List (X×X)}(hm:mtS m s h=some eqs)(hq:∀p∈eqs,p.1.den e=p.2.den e'):Ent m (s.den e) (h.den e'):=by
 unfold mtS at hm
 simp only at hm
 generalize pairs m s h=acc at hm
 split at hm
 · rename_i hc
   obtain ⟨c1,c2,c3,c4⟩:=hc
   simp only [List.all_eq_true,beq_iff_eq,List.mem_range,decide_eq_true_eq] at c2 c3 c4
   obtain ⟨l1,l2,h1,h2,q1,q2⟩:=mt_two hm hq
   have hf:∀l l',nameOf acc l=some l'→sigOf acc s.n l'=l∧l'<h.n:=by
    intro l l' hn
    unfold nameOf at hn
    split at hn
    · rename_i l0 hl0
      split at hn
      · rename_i hp
        cases hn
        rw [Option.map_eq_some_iff] at hl0
        obtain ⟨p,hp0,rfl⟩:=hl0
        exact ⟨by unfold sigOf;rw [hp],c4 p (List.mem_of_find?_eq_some hp0)⟩
      · cases hn
    · cases hn
   have hT:=mtL_ok hf h1 q1
   have hB:=mtHs_ok hf h2 q2
   refine Ent.renV (sigOf acc s.n) (fun l=>(pairOf acc l).isNone) ?_ (fun i a b ha hb=>hT.2 i a b ha hb) (fun l B hB'=>?_) (fun l l' B B' hl hl' hv hv' he=>?_) (fun l hl=>?_) (fun l hv=>?_) c1
   · have:=hT.1;simpa [Sx.den] using this
   · obtain ⟨b,hb,rfl,rfl⟩:=Hp.get_den hB'
     refine ⟨c3 b hb,?_⟩
     rcases hB b hb with ⟨k1,k2⟩|⟨a,p,k1,k2,k3,k4,k5⟩
     · exact .inl ⟨by rw [k1];rfl,_,by rw [k2]⟩
     · refine .inr ⟨by rw [k1];rfl,_,rowsC (p.rows.den e),_,?_,rfl,k5.rows⟩
       show Hp.get (s.H.map (XB.den e)) _=_
       rw [show sigOf acc s.n b.l=a by unfold sigOf;rw [k1],getX_den,k2,Option.map_some,k3]
   · obtain ⟨b,hb,rfl,rfl⟩:=Hp.get_den hl
     obtain ⟨b',hb',rfl,rfl⟩:=Hp.get_den hl'
     rcases hB b hb with ⟨k1,-⟩|⟨a,p,k1,-,-,k4,-⟩
     · rw [k1] at hv;cases hv
     · rcases hB b' hb' with ⟨k1',-⟩|⟨a',p',k1',-,-,k4',-⟩
       · rw [k1'] at hv';cases hv'
       · unfold sigOf at he
         rw [k1,k1'] at he
         have he:a=a':=he
         subst he
         rw [k4] at k4'
         exact Option.some.inj k4'
   · have:=c2 l hl
     exact ⟨by unfold sigOf;rw [this],by rw [this];rfl⟩
   · unfold sigOf
     cases hp:pairOf acc l with
     | none=>exact Nat.le_add_right _ _
     | some a=>rw [hp] at hv;cases hv
 · cases hm
end
end Ow
namespace Ow
open Go Go.RowKit Go.Deep
def fillX(place:Nat→Option (Nat×Nat))(cells:List X):List (Nat×X)→Option (List X)
 | []=>some cells
 | (i,y)::rest=>match place i,cellY y with
   | some (off,size),some ys=>if ys.length=size∧off+ys.length≤cells.length then fillX place (putRowX cells off ys) rest else none
   | _,_=>none
theorem putRowX_den{e:Env}{row:List X}{j:Nat}{ys:List X}:(putRowX row j ys).map (X.den e)=putRow (row.map (X.den e)) j (ys.map (X.den e)):=by
 simp [putRowX,putRow,List.map_take,List.map_drop]
theorem fillX_den{e:Env}{place:Nat→Option (Nat×Nat)}:∀{ps:List (Nat×X)} {cells res:List X},fillX place cells ps=some res→fillC place (cells.map (X.den e)) (ps.map (fun p=>(p.1,p.2.den e)))=some (res.map (X.den e)):=by
 intro ps
 induction ps with
 | nil=>intro cells res h;cases h;rfl
 | cons p ps ih=>
   intro cells res h
   obtain ⟨i,y⟩:=p
   simp only [fillX] at h
   split at h
   · rename_i off size ys hp hy
     split at h
     · rename_i hc
       have:=ih h
       simp only [List.map_cons,fillC,hp,cellY_den hy,List.length_map,if_pos hc]
       rw [putRowX_den] at this
       exact this
     · cases h
   · cases h
def rowsOfX(sz:Nat):Nat→List X→X
 | 0,_=>.nil
 | n+1,ys=>.cons (ofL (ys.take sz)) (rowsOfX sz n (ys.drop sz))
theorem rowsOfX_den{e:Env}{sz:Nat}:∀(n:Nat) (ys:List X),rowsC ((rowsOfX sz n ys).den e)=rowsOf sz n (ys.map (X.den e)):=by
 intro n
 induction n with
 | zero=>intro ys;rfl
 | succ n ih=>
   intro ys
   have h1:rowsC ((rowsOfX sz (n+1) ys).den e)=tupOf ((ofL (ys.take sz)).den e)::rowsC ((rowsOfX sz n (ys.drop sz)).den e):=rfl
   rw [h1,ih,ofL_den,rowsOf,List.map_take,List.map_drop]
def repX(n:Nat)(zs:List X):List X:=(List.replicate n zs).flatten
theorem repX_den{e:Env}(n:Nat)(zs:List X):(repX n zs).map (X.den e)=rep n (zs.map (X.den e)):=by
 simp [repX,rep,List.map_flatten]
def mkRln : X→X
 | .nil=>.int .i64 0
 | .cons a b=>match mkRln b with | .int _ n=>.int .i64 (n+1)|_=>.rln (.cons a b)
 | .upd r _ _ _=>mkRln r
 | .ite c a b=>match mkRln a==mkRln b with|true=>mkRln a|false=>.rln (.ite c a b)
 | r=>.rln r
theorem mkRln_den{e:Env}{r:X}:(mkRln r).den e=.d (.lit (.int .i64 (tupOf (r.den e)).length)):=by
 induction r with
 | nil=>rfl
 | cons a b _ ih=>
   simp only [mkRln]
   split
   · rename_i k n h
     rw [h] at ih
     have:n=(tupOf (b.den e)).length:=by have:=congrArg intOf ih;exact this
     simp only [X.den,tupOf_t,List.length_cons]
     rw [this];rfl
   · rfl
 | upd r i j v ih _ _=>
   simp only [mkRln,ih,X.den,tupOf_t,List.length_modify]
 | ite c a b _ iha ihb=>
   simp only [mkRln]
   split
   · rename_i h
     have h:=beq_iff_eq.1 h
     simp only [X.den]
     split
     · exact iha
     · rw [h];exact ihb
   · rfl
 | _=>rfl
def mkApp : X→X→X
 | .nil,b=>b
 | .cons a a',b=>.cons a (mkApp a' b)
 | a,.nil=>a
 | a,b=>.app a b
theorem mkApp_den{e:Env}{a b:X}:tupOf ((mkApp a b).den e)=tupOf (a.den e)++tupOf (b.den e):=by
 induction a with
 | nil=>rfl
 | cons x a _ ih=>
   show x.den e::tupOf ((mkApp a b).den e)=(x.den e::tupOf (a.den e))++_
   rw [ih];rfl
 | _=>cases b<;>first|rfl|exact (List.append_nil _).symm
def dropX(H:List XB)(l:Nat):List XB:=H.filter (fun b=>b.l != l)
theorem dropX_get{e:Env}(H:List XB)(l y:Nat):Hp.get ((dropX H l).map (XB.den e)) y=if y=l then none else Hp.get (H.map (XB.den e)) y:=by
 induction H with
 | nil=>simp [dropX,Hp.get]
 | cons b H ih=>
   by_cases hb:b.l=l
   · have h1:dropX (b::H) l=dropX H l:=by simp [dropX,hb]
     rw [h1,ih,List.map_cons,Hp.get_cons]
     show _=if y=l then none else if y=b.l then _ else _
     by_cases hy:y=l
     · rw [if_pos hy,if_pos hy]
     · rw [if_neg hy,if_neg hy,if_neg (fun e=>hy (by rw [e,hb]))]
   · have h1:dropX (b::H) l=b::dropX H l:=by simp [dropX,hb]
     rw [h1,List.map_cons,List.map_cons,Hp.get_cons,Hp.get_cons,ih]
     show (if y=b.l then _ else _)=if y=l then none else if y=b.l then _ else _
     by_cases hy:y=b.l
     · rw [if_pos hy,if_pos hy,if_neg (fun e=>hb (by rw [←hy,e]))]
     · rw [if_neg hy,if_neg hy]
def litX(tab:Tab)(zr:Zrs)(t:TypeId)(ps:List (Nat×X)):OX:=match lookT t tab.pl,lookT t zr with
 | some l,some zs=>match fillX (fun i=>l[i]?) zs ps with
   | some res=>.val (.bool true) (.agg (ofL res)) []
   | none=>.no
 | _,_=>.no
def bsX (tab:Tab) (zr:Zrs) (s:Sx) (t:TypeId) (n:Nat) (ps:List (Nat×X)):OX:=match lookT t tab.se with
 | some u=>match lookT u tab.sz,lookT u zr with
   | some sz,some zs=>if zs.length=sz∧0<sz∧n*sz≤16777216 then (match fillX (fun i=>some (i*sz,sz)) (repX n zs) ps with
     | some res=>if res.length=n*sz then
        (if ((lookT t tab.ki).getD (anyK sz)).len=sz then .mem (.bool true) (.osl s.n sz (.int .i64 0) (.int .i64 n)) ([s.n],[s.n]) (⟨s.n,(lookT t tab.ki).getD (anyK sz),rowsOfX sz n res⟩::s.H) (s.n+1) else .no) else .no
     | none=>.no) else .no
   | _,_=>.no
 | none=>.no
def srcX(s:Sx)(l sz:Nat)(x:X):Option (X×List Nat×X):=match x with
 | .nilS=>some (.nil,[],.bool true)
 | .osl l2 sz2 (.int _ 0) n2=>if sz2=sz∧l2≠l then (match getX s.H l2 with
   | some b=>if b.cs.len=sz then some (b.rows,[l2],mkCmp .eql n2 (mkRln b.rows)) else none
   | none=>none) else none
 | x=>match x.kd with
   | some (.sl cs)=>if cs.len=sz then some (.rof x,[],.bool true) else none
   | _=>none
def apX (tab:Tab) (s:Sx) (t:TypeId) (x y:X):OX:=match lookT t tab.ap,x with
 | some (sz,by_),.osl l sz' (.int _ 0) n=>if sz'=sz then (match getX s.H l,srcX s l sz y with
   | some b,some (rs,pre,c)=>if b.cs.len=sz∧l<s.n∧pre.all (fun l2=>decide (l2<s.n))=true then
      .mem (X.mkAnd (mkCmp .eql n (mkRln b.rows)) (X.mkAnd c (X.mkAnd (mkCmp .leq n (.int .i64 (70368744177664 / by_))) (mkCmp .leq (mkRln rs) (.int .i64 (70368744177664 / by_))))))
       (.osl s.n sz (.int .i64 0) (mkRln (mkApp b.rows rs))) (l::pre++[l,s.n],[l,s.n]) (⟨s.n,b.cs,mkApp b.rows rs⟩::dropX s.H l) (s.n+1) else .no
   | _,_=>.no) else .no
 | _,_=>.no
theorem fillC_more{p q:Nat→Option (Nat×Nat)}(h:∀i x,p i=some x→q i=some x):∀{ps:List (Nat×C)} {cells res:List C},fillC p cells ps=some res→fillC q cells ps=some res:=by
 intro ps
 induction ps with
 | nil=>intro cells res h1;exact h1
 | cons y ps ih=>
   intro cells res h1
   obtain ⟨i,c⟩:=y
   simp only [fillC] at h1 ⊢
   split at h1
   · rename_i off size cs hp hc
     rw [h i _ hp,hc]
     split at h1
     · rename_i hk;simp only [if_pos hk];exact ih h1
     · cases h1
   · cases h1
section
variable {P:Program} {e:Env} {tab:Tab} {zr:Zrs} {s:Sx} {c x:X} {t:Tch} {H:List XB} {n:Nat} {o:Oper}
theorem litX_ok(ht:TabOk P tab)(hz:ZrOk P zr){u:TypeId}{ps:Array (Nat×Operand)}{pre:List Nat}(ho:o.op=.build u ps)(h:litX tab zr u (ps.toList.map (fun p=>(p.1,evX s.T p.2)))=.val c x pre):OvOk P e o s c x pre:=by
 unfold litX at h
 split at h
 · rename_i l zs hl hzs
   split at h
   · rename_i res hf
     cases h
     refine .of fun _=>?_
     have h1:=fillX_den (e:=e) hf
     rw [List.map_map] at h1
     simp only [X.den,ofL_den]
     obtain ⟨p,hp,hq⟩:=plT_spec (ht.pl u l hl)
     exact .build ho hp (hz u zs hzs e) (fillC_more hq h1)
   · cases h
 · cases h
theorem bsX_ok(ht:TabOk P tab)(hz:ZrOk P zr){u:TypeId}{k:Nat}{ps:Array (Nat×Operand)}(ho:o.op=.buildSlice u k ps)(h:bsX tab zr s u k (ps.toList.map (fun p=>(p.1,evX s.T p.2)))=.mem c x t H n):OmOk P e o s c x t H n:=by
 unfold bsX at h
 split at h
 · rename_i v hv
   split at h
   · rename_i sz zs hsz hzs
     split at h
     · rename_i hc
       split at h
       · rename_i res hf
         split at h
         · rename_i hr
           split at h
           · rename_i hcs
             cases h
             refine .new fun _=>?_
             have h1:=fillX_den (e:=e) hf
             rw [List.map_map,repX_den] at h1
             have:=OpT.buildSlice (P:=P) (o:=o) (ev:=fun y=>(evX s.T y).den e) s.n ho (ht.se u v hv) (ht.sz v sz hsz) (hz v zs hzs e) (by rw [List.length_map];exact hc.1) hc.2.1 hc.2.2 h1 (by rw [List.length_map];exact hr)
             rw [rowsOfX_den,hcs]
             simpa [X.den,intOf_i] using this
           · cases h
         · cases h
       · cases h
     · cases h
   · cases h
 · cases h
theorem srcX_ok{l sz:Nat}{y:X}{rs:X}{pre:List Nat}{c:X}(h:srcX s l sz y=some (rs,pre,c))(hc:c.tr e):∃pre':Hp,Src pre' sz (y.den e) (rowsC (rs.den e))∧pre'.map (·.1)=pre∧(∀l' B,pre'.get l'=some B→(s.den e).H.get l'=some B)∧l∉pre:=by
 unfold srcX at h
 split at h
 · cases h;exact ⟨[],.nil,rfl,(fun l' B h=>by cases h),by simp⟩
 · rename_i l2 sz2 k0 n2
   split at h
   · rename_i hh
     obtain ⟨rfl,hl⟩:=hh
     split at h
     · rename_i b hb
       split at h
       · rename_i hcs
         cases h
         rw [mkCmp_tr,mkRln_den] at hc
         have hn:intOf (n2.den e)=((tupOf (b.rows.den e)).length:Int):=by simpa [cmpI,intOf_i] using hc
         refine ⟨[(l2,.c sz2 (rowsC (b.rows.den e)))],?_,rfl,fun l' B h'=>?_,by simpa using fun e=>hl e.symm⟩
         · have hlen:(rowsC (b.rows.den e)).length=(tupOf (b.rows.den e)).length:=by simp [rowsC]
           have:=Src.osl (pre:=[(l2,.c sz2 (rowsC (b.rows.den e)))]) (sz:=sz2) l2 0 (rowsC (b.rows.den e)).length (rowsC (b.rows.den e)) (by rw [Hp.get_cons,if_pos rfl]) (by omega)
           rw [List.drop_zero,List.take_length] at this
           simp only [X.den,intOf_i,hn,Int.toNat_natCast,←hlen]
           exact this
         · rw [Hp.get_cons] at h'
           split at h'
           · rename_i e1;rw [e1,getX_H hb,hcs];exact h'
           · cases h'
       · cases h
     · cases h
   · cases h
 · split at h
   · rename_i cs hk
     split at h
     · rename_i hcs
       cases h
       obtain ⟨-,-,k3,-⟩:=kd_sl (e:=e) hk
       refine ⟨[],?_,rfl,(fun l' B h=>by cases h),by simp⟩
       have h2:rowsC ((X.rof y).den e)=(elsOf (y.den e)).map (·.map .d):=by simp [X.den,rowsC,tupOf_t,List.map_map,Function.comp_def]
       rw [h2]
       generalize hz:elsOf (y.den e)=z at k3
       rw [k3,hcs]
       exact .sl z
     · cases h
   · cases h
theorem apX_ok(ht:TabOk P tab){u u':TypeId}{y z:Operand}(hu:u'=u)(ho:o.op=.call { callee:=.builtin .append,args:=#[y,z],argTypes:=#[u,u'] })(h:apX tab s u (evX s.T y) (evX s.T z)=.mem c x t H n):OmOk P e o s c x t H n:=by
 subst hu
 unfold apX at h
 split at h
 · rename_i sz by_ l sz' k0 n0 hap hy
   split at h
   · rename_i hsz
     subst hsz
     split at h
     · rename_i b rs pre c1 hb hsrc
       split at h
       · rename_i hc0
         cases h
         intro hc
         rw [X.tr_and,X.tr_and,X.tr_and,mkCmp_tr,mkCmp_tr,mkCmp_tr,mkRln_den,mkRln_den] at hc
         obtain ⟨d1,d2,d3,d4⟩:=hc
         obtain ⟨pre',p1,p2,p3,p4⟩:=srcX_ok (e:=e) hsrc d2
         have hn:intOf (n0.den e)=((tupOf (b.rows.den e)).length:Int):=by simpa [cmpI,intOf_i] using d1
         have hrl:∀r:X,(rowsC (r.den e)).length=(tupOf (r.den e)).length:=fun r=>by simp [rowsC]
         have hx':(evX s.T y).den e=.osl l sz' 0 (rowsC (b.rows.den e)).length:=by rw [hy,hrl];simp [X.den,intOf_i,hn]
         have hnot:∀q∈l::pre,q<s.n:=fun q hq=>by
          rcases List.mem_cons.1 hq with rfl|hq
          · exact hc0.2.1
          · have:=List.all_eq_true.1 hc0.2.2 q hq;simpa using this
         have hgn:Hp.get ((l,.c sz' (rowsC (b.rows.den e)))::pre') s.n=none:=by
          cases hg:Hp.get ((l,.c sz' (rowsC (b.rows.den e)))::pre') s.n with
          | none=>rfl
          | some B=>
            have:=Hp.mem_of_get hg
            rw [List.map_cons,p2] at this
            exact absurd (hnot _ this) (Nat.lt_irrefl _)
         have hbd:((rowsC (b.rows.den e)).length+(rowsC (rs.den e)).length)*by_≤140737488355328:=by
          rw [hrl,hrl]
          have e3:((tupOf (b.rows.den e)).length:Int)≤(((70368744177664 / by_:Nat)):Int):=by rw [←hn];exact of_decide_eq_true d3
          have e4:((tupOf (rs.den e)).length:Int)≤(((70368744177664 / by_:Nat)):Int):=of_decide_eq_true d4
          have e5:(70368744177664 / by_)*by_≤70368744177664:=Nat.div_mul_le_self _ _
          have e6:(tupOf (b.rows.den e)).length*by_≤(70368744177664 / by_)*by_:=Nat.mul_le_mul_right _ (by omega)
          have e7:(tupOf (rs.den e)).length*by_≤(70368744177664 / by_)*by_:=Nat.mul_le_mul_right _ (by omega)
          rw [Nat.add_mul];omega
         have hsrc':Src ((l,.c sz' (rowsC (b.rows.den e)))::pre') sz' ((evX s.T z).den e) (rowsC (rs.den e)):=by
          revert p1
          generalize (evX s.T z).den e=zz
          generalize rowsC (rs.den e)=rr
          intro p1
          cases p1 with
          | osl l2 st m rows hg hl=>
            have:l2≠l:=fun e1=>p4 (by rw [←p2,←e1];exact Hp.mem_of_get hg)
            exact .osl l2 st m rows (by rw [Hp.get_cons,if_neg this];exact hg) hl
          | sl els=>exact .sl els
          | nil=>exact .nil
         have key:=OpT.appendO (P:=P) (o:=o) (ev:=fun y=>(evX s.T y).den e) l s.n (pre:=(l,.c sz' (rowsC (b.rows.den e)))::pre') (rows:=rowsC (b.rows.den e)) ho hx' hsrc' (by rw [Hp.get_cons,if_pos rfl]) rfl hgn (ht.ap _ (sz',by_) hap) hbd
         have hrows:rowsC ((mkApp b.rows rs).den e)=rowsC (b.rows.den e)++rowsC (rs.den e):=by simp only [rowsC,mkApp_den,List.map_append]
         have hval:(X.osl s.n sz' (.int .i64 0) (mkRln (mkApp b.rows rs))).den e=.osl s.n sz' 0 ((rowsC (b.rows.den e)).length+(rowsC (rs.den e)).length):=by
          simp only [X.den,mkRln_den,intOf_i,Int.toNat_natCast,mkApp_den,List.length_append,hrl]
          try rfl
         refine OmOk.of (c:=.bool true) (pre:=(l,.c sz' (rowsC (b.rows.den e)))::pre') (chg:=[l,s.n]) (post:=[(s.n,.c sz' (rowsC (b.rows.den e)++rowsC (rs.den e)))]) (by rw [List.map_cons,p2]) (fun _=>by rw [hval];exact key) (fun l' B hB=>?_) (fun l' hl' hg=>?_) (fun l' hl'=>?_) (Nat.le_succ _) (fun l' B hB=>?_) (fun l'=>?_) X.tr_true
         · rw [Hp.get_cons] at hB
           split at hB
           · rename_i e1;rw [e1,getX_H hb,hc0.1];exact hB
           · exact p3 l' B hB
         · simp only [List.mem_cons,List.not_mem_nil,or_false] at hl'
           rcases hl' with rfl|rfl
           · rw [Hp.get_cons,if_pos rfl] at hg;cases hg
           · exact Nat.le_refl _
         · simp only [List.mem_cons,List.not_mem_nil,or_false] at hl'
           rcases hl' with rfl|rfl
           · exact Nat.lt_succ_of_lt hc0.2.1
           · exact Nat.lt_succ_self _
         · rw [Hp.get_cons] at hB
           split at hB
           · rename_i e1;simp [e1]
           · cases hB
         · rw [List.map_cons,Hp.get_cons,dropX_get]
           show (if l'=s.n then _ else _)=_
           by_cases h1:l'=s.n
           · rw [if_pos h1,if_pos (by simp [h1]),Hp.get_cons,if_pos h1]
             show some (Blk.c b.cs.len (rowsC ((mkApp b.rows rs).den e)))=_
             rw [hrows,hc0.1]
           · rw [if_neg h1]
             by_cases h2:l'=l
             · rw [if_pos h2,if_pos (by simp [h2]),Hp.get_cons,if_neg h1];rfl
             · rw [if_neg h2,if_neg (by simp [h1,h2])];rfl
       · cases h
     · cases h
   · cases h
 · cases h
end
end Ow
namespace Ow
open Go Go.RowKit Go.Deep
theorem X.free_ok{e:Env}{σ:Nat→Nat}{k:Nat}{hv:Nat→Option Blk}{x:X}(h:x.ids 0=true):Arg σ k hv (x.den e) (x.den e)∧∀c∈tupOf (x.den e),Arg σ k hv c c:=by
 have ls:∀{cs:List C},(∀c∈cs,Arg σ k hv c c)→∀(i:Nat) (a f:C),cs[i]? = some a→cs[i]? = some f→Arg σ k hv a f:=fun h i a f h1 h2=>by
  rw [h1] at h2;cases h2;exact h _ (List.mem_of_getElem? h1)
 have tp:∀{cs:List C},(∀c∈cs,Arg σ k hv c c)→Arg σ k hv (.tup cs) (.tup cs)∧∀c∈tupOf (.tup cs),Arg σ k hv c c:=fun h=>⟨.tup _ _ rfl (ls h),h⟩
 have oft:∀{c:C},Arg σ k hv c c→∀x∈tupOf c,Arg σ k hv x x:=by
  intro c h x hx
  cases c with
  | tup cs=>
    cases h with
    | tup _ _ hl h=>
      obtain ⟨i,hi,rfl⟩:=List.getElem_of_mem (show x∈cs from hx)
      exact h i _ _ (List.getElem?_eq_getElem hi) (List.getElem?_eq_getElem hi)
  | _=>cases hx
 induction x with
 | nil=>exact tp (by simp)
 | cons a b iha ihb=>
   simp only [X.ids,Bool.and_eq_true] at h
   refine tp (fun c hc=>?_)
   rcases List.mem_cons.1 hc with rfl|hc
   · exact (iha h.1).1
   · exact (ihb h.2).2 c hc
 | dead=>exact ⟨.dead _,fun c hc=>by cases hc⟩
 | ite c x y _ ihx ihy=>
   simp only [X.ids,Bool.and_eq_true] at h
   simp only [X.den]
   split
   · exact ihx h.1
   · exact ihy h.2
 | agg xs ih=>exact ⟨.agg _ _ rfl (ls (ih h).2),fun c hc=>by cases hc⟩
 | tup xs ih=>exact tp (ih h).2
 | ifc t x ih=>exact ⟨.ifc t _ _ (ih h).1,fun c hc=>by cases hc⟩
 | ptr l sz i j=>simp [X.ids] at h
 | osl l sz s k=>simp [X.ids] at h
 | fn f a b iha ihb=>
   simp only [X.ids,Bool.and_eq_true] at h
   exact ⟨.fn _ _ _ _ _ rfl rfl (ls (iha h.1).2) (ls (ihb h.2).2),fun c hc=>by cases hc⟩
 | app a b iha ihb=>
   simp only [X.ids,Bool.and_eq_true] at h
   refine tp (fun c hc=>?_)
   rcases List.mem_append.1 hc with hc|hc
   · exact (iha h.1).2 c hc
   · exact (ihb h.2).2 c hc
 | rws cs j az=>
   refine tp (fun c hc=>?_)
   obtain ⟨r,-,rfl⟩:=List.mem_map.1 hc
   refine (tp (fun c hc=>?_)).1
   obtain ⟨x,-,rfl⟩:=List.mem_map.1 hc
   exact .vw _ x (.d x)
 | rof x=>
   refine tp (fun c hc=>?_)
   obtain ⟨r,-,rfl⟩:=List.mem_map.1 hc
   refine (tp (fun c hc=>?_)).1
   obtain ⟨x,-,rfl⟩:=List.mem_map.1 hc
   exact .vw _ x (.d x)
 | upd r i j v ihr ihi ihv=>
   simp only [X.ids,Bool.and_eq_true] at h
   refine tp (fun c hc=>?_)
   obtain ⟨n,hn,rfl⟩:=List.getElem_of_mem hc
   rw [List.getElem_modify]
   have hm:=(ihr h.1).2 _ (List.getElem_mem (show n<(tupOf (r.den e)).length by simpa using hn))
   split
   · refine (tp (fun c hc=>?_)).1
     rcases List.mem_or_eq_of_mem_set hc with h1|h1
     · exact oft hm c h1
     · rw [h1];exact (ihv h.2).1
   · exact hm
 | _=>exact ⟨.vw _ _ (.d _),fun c hc=>by cases hc⟩
theorem vw_osl{hv:Nat→Option Blk}{cs:Ki}{l:Nat}{rows:List (List C)}(hl:hv l=some (.c cs.len rows))(h1:cs.flat=true)(h2:cs.ls.all (fun k=>k.one)=true)(hr:∀r∈rows,RowK cs r):
 Vw hv (.osl l cs.len 0 rows.length) (.sl cs.len (rows.map (fun r=>cs.row (r.map dOf)))):=by
 have key:∀i j x,at2 (rows.map (fun r=>cs.row (r.map dOf))) i j=some x→at2 rows i j=some (.d x):=by
  intro i j x hx
  unfold at2 at hx ⊢
  rw [List.getElem?_map] at hx
  cases hi:rows[i]? with
  | none=>rw [hi] at hx;cases hx
  | some r=>
    rw [hi] at hx
    have hx:(cs.row (r.map dOf))[j]? = some x:=hx
    have hK:=hr r (List.mem_of_getElem? hi)
    have hj:j<cs.ls.length:=by rw [ls_len,←row_len h1 (r.map dOf)];exact (List.getElem?_eq_some_iff.1 hx).1
    have hkj:=List.getElem?_eq_getElem hj
    rw [row_get h1 hkj] at hx
    have hjr:j<r.length:=by rw [hK.1,←ls_len];exact hj
    have hone:cs.ls[j].one=true:=by simpa using List.all_eq_true.1 h2 _ (List.getElem_mem hj)
    have hc:=hK.2 j _ r[j] hkj hone (List.getElem?_eq_getElem hjr)
    show r[j]? = some (.d x)
    rw [List.getElem?_eq_getElem hjr,hc]
    cases hx
    congr 2
    simp [List.getD_eq_getElem?_getD,hjr]
 have:=Vw.osl (hv:=hv) l cs.len 0 rows.length rows (rows.map (fun r=>cs.row (r.map dOf))) (fun i j=>(at2 rows i j).getD .dead) hl (by simp) (by simp) (fun r hr'=>by
  obtain ⟨r0,-,rfl⟩:=List.mem_map.1 hr'
  exact row_len h1 _) (fun i j x hx=>by rw [key i j x hx];rfl) (fun i j x hx=>by rw [key i j x hx];exact .d x)
 rw [List.drop_zero,show rows.length=(rows.map (fun r=>cs.row (r.map dOf))).length by simp,List.take_length] at this
 simpa using this
def cvX(s:Sx)(k:Ki)(x:X):Option (X×List Nat):=if x==.nilS then (match k with | .sl cs=>some (.fz cs .nil,[])|_=>none) else match x with
 | .osl l sz (.int _ 0) n=>match getX s.H l with
   | some b=>if b.cs.len=sz∧b.cs.flat=true∧b.cs.ls.all (fun k=>k.one)=true∧rkIs b.cs b.rows=true∧(n==mkRln b.rows)=true then some (.fz b.cs b.rows,[l]) else none
   | none=>none
 | x=>if x.ids 0 then some (x,[]) else none
def cvL(s:Sx):List Ki→List X→Option (List X×List Nat)
 | [],[]=>some ([],[])
 | k::ks,x::xs=>(cvX s k x).bind (fun p=>(cvL s ks xs).map (fun q=>(p.1::q.1,p.2++q.2)))
 | _,_=>none
def cvR(s:Sx)(ks:List Ki)(x:X):Option (X×List Nat):=match x with
 | .agg xs=>if isL xs then (cvL s ks (toL xs)).map (fun p=>(.agg (ofL p.1),p.2)) else none
 | x=>match ks with | [k]=>cvX s k x|_=>if x.ids 0 then some (x,[]) else none
def cvRs(s:Sx):List (List Ki)→List X→Option (List X×List Nat)
 | [],[]=>some ([],[])
 | k::ks,x::xs=>(cvR s k x).bind (fun p=>(cvRs s ks xs).map (fun q=>(p.1::q.1,p.2++q.2)))
 | _,_=>none
section
variable {e:Env} {s:Sx} {σ:Nat→Nat} {n:Nat} {hv:Nat→Option Blk}
theorem cvX_ok{k:Ki}{x y:X}{ids:List Nat}(h:cvX s k x=some (y,ids))(hh:∀l∈ids,hv l=(s.den e).H.get l):Arg σ n hv (x.den e) (y.den e):=by
 unfold cvX at h
 split at h
 · rename_i hx
   rw [beq_iff_eq.1 hx]
   split at h
   · cases h;exact .vw _ _ (.nil _)
   · cases h
 · split at h
   · rename_i l sz k0 m _
     split at h
     · rename_i b hb
       split at h
       · rename_i hc
         obtain ⟨rfl,h1,h2,h3,h4⟩:=hc
         cases h
         have hl:=(hh l (by simp)).trans (getX_H (e:=e) hb)
         have:=vw_osl hl h1 h2 (rkIs_ok h3)
         have hn:(intOf (m.den e)).toNat=(rowsC (b.rows.den e)).length:=by rw [beq_iff_eq.1 h4,mkRln_den];simp [intOf_i,rowsC]
         simp only [X.den,intOf_i,hn]
         refine .vw _ _ ?_
         simp only [rowsC,List.map_map] at this ⊢
         exact this
       · cases h
     · cases h
   · split at h
     · rename_i hx;cases h;exact (X.free_ok hx).1
     · cases h
theorem cvL_ok : ∀{ks:List Ki} {xs ys:List X} {ids:List Nat},cvL s ks xs=some (ys,ids)→(∀l∈ids,hv l=(s.den e).H.get l)→xs.length=ys.length∧∀(i:Nat) (a f:C),(xs.map (X.den e))[i]? = some a→(ys.map (X.den e))[i]? = some f→Arg σ n hv a f:=by
 intro ks
 induction ks with
 | nil=>intro xs ys ids h _;cases xs with|nil=>cases h;exact ⟨rfl,by simp⟩|cons x xs=>cases h
 | cons k ks ih=>
   intro xs ys ids h hh
   cases xs with
   | nil=>cases h
   | cons x xs=>
     simp only [cvL,Option.bind_eq_some_iff,Option.map_eq_some_iff] at h
     obtain ⟨p,h1,q,h2,h3⟩:=h
     cases h3
     obtain ⟨e1,e2⟩:=ih (ys:=q.1) (ids:=q.2) h2 (fun l hl=>hh l (List.mem_append_right _ hl))
     refine ⟨by simp [e1],fun i a f ha hf=>?_⟩
     cases i with
     | zero=>simp only [List.map_cons,List.getElem?_cons_zero,Option.some.injEq] at ha hf;subst ha hf;exact cvX_ok (ids:=p.2) h1 (fun l hl=>hh l (List.mem_append_left _ hl))
     | succ i=>simp only [List.map_cons,List.getElem?_cons_succ] at ha hf;exact e2 i a f ha hf
theorem cvR_ok{ks:List Ki}{x y:X}{ids:List Nat}(h:cvR s ks x=some (y,ids))(hh:∀l∈ids,hv l=(s.den e).H.get l):Arg σ n hv (x.den e) (y.den e):=by
 unfold cvR at h
 split at h
 · rename_i xs
   split at h
   · rename_i hl
     rw [Option.map_eq_some_iff] at h
     obtain ⟨p,h1,h2⟩:=h
     cases h2
     obtain ⟨e1,e2⟩:=cvL_ok (e:=e) (σ:=σ) (n:=n) (hv:=hv) (ys:=p.1) (ids:=p.2) h1 hh
     simp only [X.den,ofL_den,toL_den hl]
     exact .agg _ _ (by simp [e1]) e2
   · cases h
 · split at h
   · exact cvX_ok h hh
   · split at h
     · rename_i hx;cases h;exact (X.free_ok hx).1
     · cases h
theorem cvRs_ok : ∀{ks:List (List Ki)} {xs ys:List X} {ids:List Nat},cvRs s ks xs=some (ys,ids)→(∀l∈ids,hv l=(s.den e).H.get l)→xs.length=ys.length∧∀(i:Nat) (a f:C),(xs.map (X.den e))[i]? = some a→(ys.map (X.den e))[i]? = some f→Arg σ n hv a f:=by
 intro ks
 induction ks with
 | nil=>intro xs ys ids h _;cases xs with|nil=>cases h;exact ⟨rfl,by simp⟩|cons x xs=>cases h
 | cons k ks ih=>
   intro xs ys ids h hh
   cases xs with
   | nil=>cases h
   | cons x xs=>
     simp only [cvRs,Option.bind_eq_some_iff,Option.map_eq_some_iff] at h
     obtain ⟨p,h1,q,h2,h3⟩:=h
     cases h3
     obtain ⟨e1,e2⟩:=ih (ys:=q.1) (ids:=q.2) h2 (fun l hl=>hh l (List.mem_append_right _ hl))
     refine ⟨by simp [e1],fun i a f ha hf=>?_⟩
     cases i with
     | zero=>simp only [List.map_cons,List.getElem?_cons_zero,Option.some.injEq] at ha hf;subst ha hf;exact cvR_ok (ids:=p.2) h1 (fun l hl=>hh l (List.mem_append_left _ hl))
     | succ i=>simp only [List.map_cons,List.getElem?_cons_succ] at ha hf;exact e2 i a f ha hf
end
end Ow
