/- A part of the proof. -/
import Derived.Test.YtjakhnhnjhafgaaGreatK17
import Derived.IntWalk
set_option linter.unusedVariables false
set_option linter.unusedSimpArgs false
namespace Ow
open Go Go.RowKit Go.Deep
def fzOk(b:XB)(sz:Nat)(n:X):Bool:=decide (b.cs.len=sz)&&b.cs.flat&&b.cs.ls.all (fun k=>k.one)&&rkIs b.cs b.rows&&(n==mkRln b.rows)
def cellD(x:X):Bool:=match x with
 | .ep _=>true | .nilP=>true | .nilI=>true | .nilF=>true | .nilS=>true
 | x=>x.kd.isSome
theorem cellD_den{e:Env}{x:X}(h:cellD x=true):x.den e=.d (dOf (x.den e)):=by
 unfold cellD at h
 split at h
 · rfl
 · rfl
 · rfl
 · rfl
 · rfl
 · obtain ⟨k,hk⟩:=Option.isSome_iff_exists.1 h
   have:=(kd_ok (e:=e) hk).2.2
   generalize x.den e=u at this ⊢
   rw [this];rfl
def fzP(b:XB)(sz:Nat)(i:Int)(j:Nat):Option X:=match decide (b.cs.len=sz)&&isL b.rows,(toL b.rows)[i.toNat]? with
 | true,some row=>(match isL row&&(toL row).all cellD with|true=>some (.ep (ofL ((toL row).drop j)))|false=>none)
 | _,_=>none
def litQ(sz:Nat):X→Bool
 | .nil=>true
 | .cons r b=>isL r&&decide ((toL r).length=sz)&&(toL r).all cellD&&litQ sz b
 | .app a b=>litQ sz a&&litQ sz b
 | .ite _ a b=>litQ sz a&&litQ sz b
 | _=>false
def lnR : X→X
 | .ite c a b=>if lnR a==lnR b then lnR a else .ite c (lnR a) (lnR b)
 | x=>mkRln x
def fzL(b:XB)(sz:Nat)(n:X):Option X:=if b.cs.len=sz∧litQ sz b.rows=true∧(n==lnR b.rows)=true then some (.fz (anyK sz) b.rows) else none
def fzG(no:List Nat)(s:Sx)(x:X):X×List Nat:=match x with
 | .ptr l sz (.int _ i) j=>if no.contains l then (x,[]) else match getX s.H l with
   | some b=>(match fzP b sz i j with|some y=>(y,[l])|none=>(x,[]))
   | none=>(x,[])
 | .osl l sz (.int _ 0) n=>if no.contains l then (x,[]) else match getX s.H l with
   | some b=>if fzOk b sz n then (.fz b.cs b.rows,[l]) else (match fzL b sz n with|some y=>(y,[l])|none=>(x,[]))
   | none=>(x,[])
 | x=>(x,[])
def frA(no:List Nat)(s:Sx):X→X×List Nat
 | .cons a b=>(.cons (frA no s a).1 (frA no s b).1,(frA no s a).2++(frA no s b).2)
 | .app a b=>(.app (frA no s a).1 (frA no s b).1,(frA no s a).2++(frA no s b).2)
 | .agg a=>(.agg (frA no s a).1,(frA no s a).2)
 | .tup a=>(.tup (frA no s a).1,(frA no s a).2)
 | .ifc t a=>(.ifc t (frA no s a).1,(frA no s a).2)
 | x=>fzG no s x
def frX(no:List Nat)(s:Sx):X→X→X×List Nat
 | .dead,x=>(x,[])
 | .osl _ _ _ _,x=>(x,[])
 | .ptr _ _ _ _,x=>(x,[])
 | .fn _ _ _,x=>(x,[])
 | .cons b b',x=>match x with | .cons a a'=>(.cons (frX no s b a).1 (frX no s b' a').1,(frX no s b a).2++(frX no s b' a').2)|x=>(x,[])
 | .agg b,x=>match x with | .agg a=>(.agg (frX no s b a).1,(frX no s b a).2)|x=>(x,[])
 | .tup b,x=>match x with | .tup a=>(.tup (frX no s b a).1,(frX no s b a).2)|x=>(x,[])
 | .ifc _ b,x=>match x with | .ifc t a=>(.ifc t (frX no s b a).1,(frX no s b a).2)|x=>(x,[])
 | _,x=>frA no s x
def frL(no:List Nat)(s:Sx):List X→List X→List X×List Nat
 | y::ys,x::xs=>((frX no s y x).1::(frL no s ys xs).1,(frX no s y x).2++(frL no s ys xs).2)
 | _,xs=>(xs,[])
def frB(no:List Nat)(s:Sx)(g:XB→X×List Nat):List XB→List XB×List Nat
 | []=>([],[])
 | b::bs=>(⟨b.l,b.cs,(g b).1⟩::(frB no s g bs).1,(g b).2++(frB no s g bs).2)
def idsOk(s:Sx):Bool:=s.T.all (fun x=>x.ids s.n)&&s.H.all (fun b=>b.rows.ids s.n)
def frI(no sk:List Nat)(s:Sx):Sx:=if idsOk s then
 let p:=frB no s (fun b=>if sk.contains b.l then (b.rows,[]) else frA no s b.rows) s.H
 ⟨s.T,p.1.filter (fun b=>!p.2.contains b.l),s.n⟩
 else s
def frH(acc:List (Nat×Nat))(no:List Nat)(s h:Sx):Sx:=if idsOk s then
 let p:=frL no s h.T s.T
 let q:=frB no s (fun b=>match nameOf acc b.l with
  | some l'=>match getX h.H l' with|some b'=>frX no s b'.rows b.rows|none=>(b.rows,[])
  | none=>(b.rows,[])) s.H
 ⟨p.1,q.1.filter (fun b=>!(p.2++q.2).contains b.l),s.n⟩
 else s
def lvIds : List X→List X→List Nat
 | x::xs,y::ys=>(if y==.dead||y.ids 0 then [] else x.pids)++lvIds xs ys
 | _,_=>[]
def lvAll : List X→List X→List Nat
 | x::xs,y::ys=>(if y==.dead then [] else x.pids)++lvAll xs ys
 | _,_=>[]
def frS(m:Nat)(s h:Sx):Sx:=let acc:=pairs m s h;let no:=acc.map (·.1)++lvAll s.T h.T;let sk:=acc.map (·.1)++lvIds s.T h.T;frH acc (acc.map (·.1)) (frI no sk (frI no sk s)) h
def FzAll(n:Nat)(hv:Nat→Option Blk)(a b:C):Prop:=Arg id n hv a b∧Each (Arg id n hv) (tupOf a) (tupOf b)∧Each (fun u v=>Each (Arg id n hv) (tupOf u) (tupOf v)) (tupOf a) (tupOf b)
theorem lnR_den{e:Env}:∀{r:X},(lnR r).den e=.d (.lit (.int .i64 (tupOf (r.den e)).length)):=by
 intro r
 induction r with
 | ite c a b _ iha ihb=>
   simp only [lnR]
   split
   · rename_i h
     rw [iha]
     have h2:=iha.symm.trans ((congrArg (X.den e) (beq_iff_eq.1 h)).trans ihb)
     simp only [X.den]
     split
     · rfl
     · exact h2
   · simp only [X.den]
     split
     · exact iha
     · exact ihb
 | _=>exact mkRln_den
theorem litQ_ok{e:Env}{sz:Nat}:∀{r:X},litQ sz r=true→∀c∈tupOf (r.den e),(tupOf c).length=sz∧∀d∈tupOf c,d=.d (dOf d):=by
 intro r
 induction r with
 | nil=>intro _ c hc;cases hc
 | cons a b _ ih=>
   intro h c hc
   simp only [litQ,Bool.and_eq_true,decide_eq_true_eq] at h
   obtain ⟨⟨⟨h1,h2⟩,h3⟩,h4⟩:=h
   simp only [X.den,tupOf_t,List.mem_cons] at hc
   rcases hc with rfl|hc
   · rw [toL_den h1]
     refine ⟨by rw [List.length_map];exact h2,fun d hd=>?_⟩
     obtain ⟨z,hz,rfl⟩:=List.mem_map.1 hd
     exact cellD_den (List.all_eq_true.1 h3 z hz)
   · exact ih h4 c hc
 | app a b iha ihb=>
   intro h c hc
   simp only [litQ,Bool.and_eq_true] at h
   simp only [X.den,tupOf_t,List.mem_append] at hc
   rcases hc with hc|hc
   · exact iha h.1 c hc
   · exact ihb h.2 c hc
 | ite x a b _ iha ihb=>
   intro h c hc
   simp only [litQ,Bool.and_eq_true] at h
   simp only [X.den] at hc
   split at hc
   · exact iha h.1 c hc
   · exact ihb h.2 c hc
 | _=>intro h;cases h
theorem anyK_row(n:Nat):∀{r:List D},r.length=n→(anyK n).row r=r:=by
 induction n with
 | zero=>intro r h;rw [List.length_eq_zero_iff.1 h];rfl
 | succ n ih=>
   intro r h
   match r,h with
   | a :: r,h=>
     have h2:r.length=n:=by simpa using h
     show (Ki.row .any (a::r)).headD dz::(anyK n).row r=a::r
     rw [ih h2];rfl
theorem vw_lit{hv:Nat→Option Blk}{l sz:Nat}{rows:List (List C)}(hl:hv l=some (.c sz rows))(h:∀r∈rows,r.length=sz∧∀c∈r,c=.d (dOf c)):
 Vw hv (.osl l sz 0 rows.length) (.sl sz (rows.map (fun r=>(anyK sz).row (r.map dOf)))):=by
 have e0:rows.map (fun r=>(anyK sz).row (r.map dOf))=rows.map (fun r=>r.map dOf):=List.map_congr_left fun r hr=>anyK_row _ (by rw [List.length_map];exact (h r hr).1)
 rw [e0]
 have key:∀i j x,at2 (rows.map (fun r=>r.map dOf)) i j=some x→at2 rows i j=some (.d x):=by
  intro i j x hx
  unfold at2 at hx ⊢
  rw [List.getElem?_map] at hx
  cases hi:rows[i]? with
  | none=>rw [hi] at hx;cases hx
  | some r=>
    rw [hi] at hx
    have hx:(r.map dOf)[j]? = some x:=hx
    rw [List.getElem?_map] at hx
    obtain ⟨c,hc,rfl⟩:=Option.map_eq_some_iff.1 hx
    show r[j]? = some (.d (dOf c))
    rw [hc,←(h r (List.mem_of_getElem? hi)).2 c (List.mem_of_getElem? hc)]
 have:=Vw.osl (hv:=hv) l sz 0 rows.length rows (rows.map (fun r=>r.map dOf)) (fun i j=>(at2 rows i j).getD .dead) hl (by simp) (by simp) (fun r hr'=>by
  obtain ⟨r0,h0,rfl⟩:=List.mem_map.1 hr'
  rw [List.length_map];exact (h r0 h0).1) (fun i j x hx=>by rw [key i j x hx];rfl) (fun i j x hx=>by rw [key i j x hx];exact .d x)
 rw [List.drop_zero,show rows.length=(rows.map (fun r=>r.map dOf)).length by simp,List.take_length] at this
 simpa using this
section
variable {e:Env} {s:Sx} {n:Nat} {hv:Nat→Option Blk} {no:List Nat}
theorem fzL_ok{b:XB}{l sz:Nat}{m y:X}(hb:getX s.H l=some b)(hl:hv l=(s.den e).H.get l)(h:fzL b sz m=some y):Vw hv (.osl l sz 0 (intOf (m.den e)).toNat) (dOf (y.den e))∧y.den e=.d (dOf (y.den e))∧tupOf (y.den e)=[]:=by
 unfold fzL at h
 split at h
 · rename_i hc
   obtain ⟨rfl,hq,hn⟩:=hc
   cases h
   have hk:=hl.trans (getX_H (e:=e) hb)
   have hm:(intOf (m.den e)).toNat=(rowsC (b.rows.den e)).length:=by
    rw [beq_iff_eq.1 hn,lnR_den];simp [intOf_i,rowsC]
   rw [hm]
   have:=vw_lit hk (fun r hr=>by
    obtain ⟨c,hc,rfl⟩:=List.mem_map.1 hr
    exact litQ_ok hq c hc)
   refine ⟨?_,rfl,rfl⟩
   simp only [X.den,dOf_d,anyK_len]
   simp only [rowsC,List.map_map] at this ⊢
   exact this
 · cases h
theorem FzAll.flat{a b:C}(h:Arg id n hv a b)(ha:tupOf a=[])(hb:tupOf b=[]):FzAll n hv a b:=⟨h,by rw [ha,hb];exact .nil,by rw [ha,hb];exact ⟨rfl,by simp⟩⟩
theorem X.ren_some{x:X}(h:x.ids n=true):x.ren (fun l=>if l<n then some l else none)=x:=by
 induction x<;>simp_all [X.ids,X.ren]
theorem FzAll.same{x:X}(h:x.ids n=true):FzAll n hv (x.den e) (x.den e):=by
 have:=X.ren_ok (f:=fun l=>if l<n then some l else none) (σ:=id) (n:=n) (fun l l' h=>by split at h<;>cases h;exact ⟨rfl,by assumption⟩) (e:=e) x
 rw [X.ren_some h] at this
 have mo:∀a b,ArgN id n a b→Arg id n hv a b:=fun a b h=>h.more (fun l B h=>by cases h)
 exact ⟨mo _ _ this.1,this.2.1.mono mo,this.2.2.mono fun _ _ h=>h.mono mo⟩
theorem fzG_ok {x:X} (hx:x.ids n=true) (hh:∀l∈(fzG no s x).2,hv l=(s.den e).H.get l):FzAll n hv (x.den e) ((fzG no s x).1.den e):=by
 unfold fzG at hh ⊢
 split
 · rename_i l sz q i j
   simp only at hh ⊢
   split
   · exact .same hx
   · rename_i hno
     rw [if_neg hno] at hh
     split
     · rename_i b hb
       rw [hb] at hh
       simp only at hh
       split
       · rename_i y hy
         rw [hy] at hh
         have hl:=(hh l (by simp)).trans (getX_H (e:=e) hb)
         unfold fzP at hy
         split at hy
         · rename_i row hc hr
           split at hy
           · rename_i hc2
             cases hy
             simp only [Bool.and_eq_true,decide_eq_true_eq] at hc hc2
             obtain ⟨rfl,h1⟩:=hc
             obtain ⟨h2,h3⟩:=hc2
             have hrow:tupOf (row.den e)=(toL row).map (X.den e):=toL_den h2
             have hrows:(rowsC (b.rows.den e))[i.toNat]? = some ((toL row).map (X.den e)):=by
              unfold rowsC
              rw [toL_den h1,List.map_map,List.getElem?_map,hr]
              simp [hrow]
             have e1:(toL row).map (X.den e)=((toL row).map (fun x=>dOf (x.den e))).map C.d:=by
              rw [List.map_map]
              exact List.map_congr_left fun x hx=>cellD_den (List.all_eq_true.1 h3 x hx)
             refine .flat ?_ rfl rfl
             simp only [X.den,intOf_i,ofL_den,List.map_map]
             have:=Vw.ptr (hv:=hv) l b.cs.len i.toNat j _ _ ((toL row).map (fun x=>dOf (x.den e))) (fun j=>(((toL row).map (X.den e))[j]?).getD .dead) hl hrows (fun k x hx=>by
              rw [e1,List.getElem?_map,hx];rfl) (fun k x hx=>by
              rw [e1,List.getElem?_map,hx];exact .d x)
             rw [←List.map_drop] at this
             exact .vw _ _ this
           · cases hy
         · cases hy
       · exact .same hx
     · exact .same hx
 · rename_i l sz k m
   simp only at hh ⊢
   split
   · exact .same hx
   · rename_i hno
     rw [if_neg hno] at hh
     split
     · rename_i b hb
       rw [hb] at hh
       simp only at hh
       split
       · rename_i hc
         rw [if_pos hc] at hh
         unfold fzOk at hc
         simp only [Bool.and_eq_true,decide_eq_true_eq] at hc
         obtain ⟨⟨⟨⟨rfl,h1⟩,h2⟩,h3⟩,h4⟩:=hc
         have hl:=(hh l (by simp)).trans (getX_H (e:=e) hb)
         have:=vw_osl hl h1 h2 (rkIs_ok h3)
         have hn:(intOf (m.den e)).toNat=(rowsC (b.rows.den e)).length:=by rw [beq_iff_eq.1 h4,mkRln_den];simp [intOf_i,rowsC]
         refine .flat ?_ rfl rfl
         simp only [X.den,intOf_i,hn]
         refine .vw _ _ ?_
         simp only [rowsC,List.map_map] at this ⊢
         exact this
       · rename_i hc
         rw [if_neg hc] at hh
         split
         · rename_i y hy
           rw [hy] at hh
           obtain ⟨h1,h2,h3⟩:=fzL_ok (e:=e) hb (hh l (by simp)) hy
           refine .flat ?_ rfl h3
           rw [h2]
           simp only [X.den,intOf_i]
           exact .vw _ _ h1
         · exact .same hx
     · exact .same hx
 · exact .same hx
theorem FzAll.cons{a b a' b':C}(h:FzAll n hv a a')(h2:FzAll n hv b b'):FzAll n hv (.tup (a::tupOf b)) (.tup (a'::tupOf b')):=by
 have k1:=Each.cons h.1 h2.2.1
 exact ⟨.tup _ _ k1.1 k1.2,k1,Each.cons (A:=fun u v=>Each (Arg id n hv) (tupOf u) (tupOf v)) h.2.1 h2.2.2⟩
theorem FzAll.app{a b a' b':C}(h:FzAll n hv a a')(h2:FzAll n hv b b'):FzAll n hv (.tup (tupOf a++tupOf b)) (.tup (tupOf a'++tupOf b')):=by
 have k1:=h.2.1.app h2.2.1
 exact ⟨.tup _ _ k1.1 k1.2,k1,h.2.2.app h2.2.2⟩
theorem frA_ok : ∀{x:X},x.ids n=true→(∀l∈(frA no s x).2,hv l=(s.den e).H.get l)→FzAll n hv (x.den e) ((frA no s x).1.den e):=by
 intro x
 induction x with
 | cons a b iha ihb=>
   intro hx hh
   simp only [X.ids,Bool.and_eq_true] at hx
   simp only [frA,List.mem_append] at hh
   exact .cons (iha hx.1 (fun l hl=>hh l (.inl hl))) (ihb hx.2 (fun l hl=>hh l (.inr hl)))
 | app a b iha ihb=>
   intro hx hh
   simp only [X.ids,Bool.and_eq_true] at hx
   simp only [frA,List.mem_append] at hh
   exact .app (iha hx.1 (fun l hl=>hh l (.inl hl))) (ihb hx.2 (fun l hl=>hh l (.inr hl)))
 | agg a ih=>intro hx hh;have:=ih hx hh;exact .flat (.agg _ _ this.2.1.1 this.2.1.2) rfl rfl
 | tup a ih=>intro hx hh;have:=ih hx hh;exact ⟨.tup _ _ this.2.1.1 this.2.1.2,this.2.1,this.2.2⟩
 | ifc t a ih=>intro hx hh;exact .flat (.ifc _ _ _ (ih hx hh).1) rfl rfl
 | _=>exact fzG_ok
theorem frX_ok : ∀{y x:X},x.ids n=true→(∀l∈(frX no s y x).2,hv l=(s.den e).H.get l)→FzAll n hv (x.den e) ((frX no s y x).1.den e):=by
 intro y
 induction y with
 | dead=>intro x hx _;exact .same hx
 | osl _ _ _ _=>intro x hx _;exact .same hx
 | ptr _ _ _ _=>intro x hx _;exact .same hx
 | fn _ _ _=>intro x hx _;exact .same hx
 | cons b b' ih ih'=>
   intro x hx hh
   cases x with
   | cons a a'=>
     simp only [X.ids,Bool.and_eq_true] at hx
     simp only [frX,List.mem_append] at hh
     exact .cons (ih hx.1 (fun l hl=>hh l (.inl hl))) (ih' hx.2 (fun l hl=>hh l (.inr hl)))
   | _=>exact .same hx
 | agg b ih=>
   intro x hx hh
   cases x with
   | agg a=>have:=ih (x:=a) hx hh;exact .flat (.agg _ _ this.2.1.1 this.2.1.2) rfl rfl
   | _=>exact .same hx
 | tup b ih=>
   intro x hx hh
   cases x with
   | tup a=>have:=ih (x:=a) hx hh;exact ⟨.tup _ _ this.2.1.1 this.2.1.2,this.2.1,this.2.2⟩
   | _=>exact .same hx
 | ifc t b ih=>
   intro x hx hh
   cases x with
   | ifc t a=>exact .flat (.ifc _ _ _ (ih (x:=a) hx hh).1) rfl rfl
   | _=>exact .same hx
 | _=>intro x;exact frA_ok
theorem frL_ok : ∀{ys xs:List X},xs.all (fun x=>x.ids n)=true→(∀l∈(frL no s ys xs).2,hv l=(s.den e).H.get l)→Each (Arg id n hv) (xs.map (X.den e)) ((frL no s ys xs).1.map (X.den e)):=by
 intro ys
 have same:∀{xs:List X},xs.all (fun x=>x.ids n)=true→Each (Arg id n hv) (xs.map (X.den e)) (xs.map (X.den e)):=fun h=>.refl (fun c hc=>by
  obtain ⟨x,hx,rfl⟩:=List.mem_map.1 hc
  exact (FzAll.same (List.all_eq_true.1 h x hx)).1)
 induction ys with
 | nil=>intro xs hx _;cases xs<;>exact same hx
 | cons y ys ih=>
   intro xs hx hh
   cases xs with
   | nil=>exact .nil
   | cons x xs=>
     simp only [List.all_cons,Bool.and_eq_true] at hx
     simp only [frL,List.mem_append] at hh
     exact Each.cons (frX_ok hx.1 (fun l hl=>hh l (.inl hl))).1 (ih hx.2 (fun l hl=>hh l (.inr hl)))
theorem frB_ok{g:XB→X×List Nat}{bs:List XB}(hg:∀b∈bs,(∀l∈(g b).2,hv l=(s.den e).H.get l)→FzAll n hv (b.rows.den e) ((g b).1.den e))(hh:∀l∈(frB no s g bs).2,hv l=(s.den e).H.get l)(l:Nat)(p:XB)(hp:getX (frB no s g bs).1 l=some p):
 ∃ b,getX bs l=some b∧p.cs=b.cs∧FzAll n hv (b.rows.den e) (p.rows.den e):=by
 induction bs with
 | nil=>cases hp
 | cons b bs ih=>
   simp only [frB,List.mem_append] at hh hp
   unfold getX at hp ⊢
   by_cases hl:l=b.l
   · rw [if_pos hl] at hp ⊢
     simp only [Option.some.injEq] at hp
     subst hp
     exact ⟨b,rfl,rfl,hg b (List.mem_cons_self ..) (fun l hl=>hh l (.inl hl))⟩
   · rw [if_neg hl] at hp ⊢
     exact ih (fun b hb=>hg b (List.mem_cons_of_mem _ hb)) (fun l hl=>hh l (.inr hl)) hp
end
theorem Ent.frz{m:Nat}{s:St}{T2:List C}{H2 hv:Hp}(hT:Each (Arg id s.n hv.get) s.T T2)
 (hH:∀l B,H2.get l=some B→hv.get l=none∧∃sz rows rows',s.H.get l=some (.c sz rows)∧B=.c sz rows'∧Each (fun u v=>Each (Arg id s.n hv.get) (tupOf u) (tupOf v)) (rows.map .tup) (rows'.map .tup))
 (hhv:∀l B,hv.get l=some B→s.H.get l=some B):Ent m s ⟨T2,H2,s.n⟩:=fun ρ F RO w vs hA=>by
 refine Ent.weak (hv:=hv) (s2:=⟨T2,H2,s.n⟩) ⟨hT.1,fun i a f h1 h2=>hT.2 i a f h1 h2,fun l B hB=>?_,hhv,hA.le⟩ ρ F RO w vs hA
 obtain ⟨h1,sz,rows,rows',h2,rfl,h3⟩:=hH l B hB
 obtain ⟨p,hp,hR⟩:=hA.sim.blk l _ h2
 have hlen:rows.length=rows'.length:=by simpa using h3.1
 have hrow:∀r∈rows,r.length=sz:=by
  generalize F l=G at hR
  cases hR with
  | c _ _ _ _ _ _ hr=>exact hr
  | v=>simp
 have hEach:∀i (h:i<rows.length) (h':i<rows'.length),Each (Arg id s.n hv.get) rows[i] rows'[i]:=fun i h h'=>by
  have:=h3.2 i (.tup rows[i]) (.tup rows'[i]) (by simp [h]) (by simp [h'])
  exact this
 have hat:∀i j f,at2 rows' i j=some f→∃a,at2 rows i j=some a∧Arg id s.n hv.get a f:=fun i j f hf=>by
  obtain ⟨hi,hj,rfl⟩:=at2_lt hf
  have hi0:i<rows.length:=by omega
  have hE:=hEach i hi0 hi
  have hj0:j<rows[i].length:=by rw [hE.1];exact hj
  exact ⟨_,at2_of hi0 hj0,hE.2 j _ _ (List.getElem?_eq_getElem hj0) (List.getElem?_eq_getElem hj)⟩
 refine ⟨hA.dom l (by rw [hp];simp),h1,_,h2,.c _ _ _ (fun i j=>(at2 rows i j).getD .dead) hlen (fun r hr=>?_) (fun i j f hf=>?_) (fun i j f hf=>?_)⟩
 · obtain ⟨i,hi,rfl⟩:=List.getElem_of_mem hr
   rw [←(hEach i (by omega) hi).1]
   exact hrow _ (List.getElem_mem _)
 · obtain ⟨a,ha,-⟩:=hat i j f hf;rw [ha];rfl
 · obtain ⟨a,ha,hA⟩:=hat i j f hf;rw [ha];exact hA
section
variable {e:Env} {s:Sx}
theorem frK_ok{m:Nat}{T':List X}{H':List XB}{ids:List Nat}(hT:Each (Arg id s.n (hbOf s e ids).get) (s.T.map (X.den e)) (T'.map (X.den e)))
 (hH:∀l p,getX H' l=some p→∃b,getX s.H l=some b∧p.cs=b.cs∧FzAll s.n (hbOf s e ids).get (b.rows.den e) (p.rows.den e)):Ent m (s.den e) ((⟨T',H'.filter (fun b=>!ids.contains b.l),s.n⟩:Sx).den e):=by
 refine Ent.frz (hv:=hbOf s e ids) hT (fun l B hB=>?_) (fun l B hB=>?_)
 · have hfil:Hp.get ((H'.filter (fun q=>!ids.contains q.l)).map (XB.den e)) l=if (!ids.contains l)=true then Hp.get (H'.map (XB.den e)) l else none:=by
    have:(H'.filter (fun q=>!ids.contains q.l)).map (XB.den e)=(H'.map (XB.den e)).filter (fun x=>(fun l=>!ids.contains l) x.1):=by rw [List.filter_map];rfl
    rw [this,Hp.get_filter _ _ (fun l=>!ids.contains l)]
   rw [hfil] at hB
   split at hB
   · rename_i hn
     rw [getX_den] at hB
     cases hg:getX H' l with
     | none=>rw [hg] at hB;cases hB
     | some p=>
       rw [hg] at hB
       cases hB
       obtain ⟨b,hb,hcs,hF⟩:=hH l p hg
       refine ⟨by rw [hbOf_get,if_neg];simpa using hn,_,_,_,getX_H hb,(by show Blk.c p.cs.len _=_;rw [hcs]),?_⟩
       have h2:=hF.2.2
       refine ⟨by simpa [rowsC] using h2.1,fun i u v hu hv=>?_⟩
       simp only [rowsC,List.map_map,List.getElem?_map,Option.map_eq_some_iff,Function.comp] at hu hv
       obtain ⟨u0,hu0,rfl⟩:=hu
       obtain ⟨v0,hv0,rfl⟩:=hv
       exact h2.2 i u0 v0 hu0 hv0
   · cases hB
 · rw [hbOf_get] at hB
   split at hB
   · exact hB
   · cases hB
theorem idsOk_ok(h:idsOk s=true):s.T.all (fun x=>x.ids s.n)=true∧∀b∈s.H,b.rows.ids s.n=true:=by
 unfold idsOk at h
 rw [Bool.and_eq_true] at h
 exact ⟨h.1,List.all_eq_true.1 h.2⟩
theorem hb_sub{ids ids':List Nat}(h:∀l∈ids,l∈ids'):∀l∈ids,(hbOf s e ids').get l=(s.den e).H.get l:=fun l hl=>by rw [hbOf_get,if_pos (h l hl)]
theorem frI_ok{m:Nat}{no sk:List Nat}:Ent m (s.den e) ((frI no sk s).den e):=by
 unfold frI
 split
 · rename_i hc
   obtain ⟨h1,h2⟩:=idsOk_ok hc
   refine frK_ok (.refl fun c hc=>?_) (fun l p hp=>frB_ok (s:=s) (no:=no) (fun b hb hh=>?_) (hb_sub fun l h=>h) l p hp)
   · obtain ⟨x,hx,rfl⟩:=List.mem_map.1 hc
     exact (FzAll.same (List.all_eq_true.1 h1 x hx)).1
   · split
     · exact .same (h2 b hb)
     · rename_i hn
       rw [if_neg hn] at hh
       exact frA_ok (h2 b hb) hh
 · exact .refl _ _
theorem frH_ok{m:Nat}{acc:List (Nat×Nat)}{no:List Nat}{h:Sx}:Ent m (s.den e) ((frH acc no s h).den e):=by
 unfold frH
 split
 · rename_i hc
   obtain ⟨h1,h2⟩:=idsOk_ok hc
   refine frK_ok (frL_ok (no:=no) h1 (hb_sub fun l h=>List.mem_append_left _ h)) (fun l p hp=>frB_ok (s:=s) (no:=no) (fun b hb hh=>?_) (hb_sub fun l h=>List.mem_append_right _ h) l p hp)
   revert hh
   split
   · split
     · exact frX_ok (h2 b hb)
     · exact fun _=>.same (h2 b hb)
   · exact fun _=>.same (h2 b hb)
 · exact .refl _ _
theorem frS_ok{m:Nat}{h:Sx}:Ent m (s.den e) ((frS m s h).den e):=(frI_ok.trans frI_ok).trans frH_ok
def mtZ(m:Nat)(s h:Sx):Option (List (X×X)):=match mtS m (frS m s h) h with
 | some eqs=>some eqs
 | none=>mtS m s h
theorem mtZ_ok{m:Nat}{e e':Env}{s h:Sx}{eqs:List (X×X)}(hm:mtZ m s h=some eqs)(hq:∀p∈eqs,p.1.den e=p.2.den e'):Ent m (s.den e) (h.den e'):=by
 unfold mtZ at hm
 split at hm
 · rename_i h1;cases hm;exact frS_ok.trans (mtS_ok h1 hq)
 · exact mtS_ok hm hq
end
end Ow
namespace Ow
open Go Go.RowKit Go.Deep
inductive V where
 | out (y:X)
 | fin (eqs:List (X×X))
 | br (b:X) (v1 v2:V)
 | side (c:X) (v:V)
 | els (v1 v2:V)
 | none
 | stuck (os:List Oper) (s:Sx)
 | lp (j:Nat) (eqs:List (X×X)) (v:V)
 | back (j:Nat) (eqs:List (X×X))
def eqAll(e e':Env):List (X×X)→Prop
 | []=>True
 | p::l=>p.1.den e=p.2.den e'∧eqAll e e' l
theorem eqAll_mem{e e':Env}:∀{l:List (X×X)},eqAll e e' l→∀p∈l,p.1.den e=p.2.den e':=by
 intro l
 induction l with
 | nil=>intro _ p hp;cases hp
 | cons q l ih=>
   intro h p hp
   rcases List.mem_cons.1 hp with rfl|hp
   · exact h.1
   · exact ih h.2 p hp
structure Cv where
 j : Nat
 e : Env
 μ : Nat
def cvFind(j:Nat):List Cv→Option Cv
 | []=>none
 | c::cs=>if c.j=j then some c else cvFind j cs
def V.Holds(lps:Nat→LpI)(val:C)(e0:Env):V→Env→List Cv→Prop
 | .out y,e,_=>y.den e=val
 | .fin eqs,e,_=>eqAll e e0 eqs
 | .br b v1 v2,e,cx=>(b.tr e→v1.Holds lps val e0 e cx)∧(¬b.tr e→v2.Holds lps val e0 e cx)
 | .side c v,e,cx=>c.tr e∧(c.tr e→v.Holds lps val e0 e cx)
 | .els v1 v2,e,cx=>v1.Holds lps val e0 e cx∧v2.Holds lps val e0 e cx
 | .none,_,_=>True
 | .stuck _ _,_,_=>False
 | .lp j eqs v,e,cx=>(∃x,(lps j).J e x∧eqAll e (lput lps j e x) eqs)∧∀x,(lps j).J e x→v.Holds lps val e0 (lput lps j e x) (⟨j,e,(lps j).μ e x⟩::cx)
 | .back j eqs,e,cx=>match cvFind j cx with
   | some c=>∃x,(lps j).J c.e x∧(lps j).μ c.e x<c.μ∧eqAll e (lput lps j c.e x) eqs
   | Option.none=>False
def resX(tab:Tab)(s:Sx):ResultVar→Option X
 | .tmp t=>some (s.T.getD t .dead)
 | .cell a t=>match ldX tab s t (s.T.getD a .dead) with | .val (.bool true) x _=>some x|_=>none
def oneX : List X→X
 | [x]=>x
 | xs=>.tup (ofL xs)
def resXs(tab:Tab)(s:Sx):List ResultVar→Option (List X)
 | []=>some []
 | r::rs=>(resX tab s r).bind (fun x=>(resXs tab s rs).map (x::·))
abbrev Hds := List (Nat×Sx)
def R.low(m:Nat)(lf:Sx→Option V):R→Hds→V
 | .out x s,_=>match x with
   | .exit _=>.stuck [] s
   | _=>match lf s with
     | some v=>v
     | Option.none=>.stuck [] s
 | .br b r1 r2,hs=>.br b (r1.low m lf hs) (r2.low m lf hs)
 | .side c r,hs=>.side c (r.low m lf hs)
 | .els r1 r2,hs=>.els (r1.low m lf hs) (r2.low m lf hs)
 | .none,_=>.none
 | .stuck os s,_=>.stuck os s
 | .lp j s h r,hs=>match mtZ m s h with
   | some eqs=>.lp j eqs (r.low m lf ((j,h)::hs))
   | Option.none=>.stuck [] s
 | .back j s,hs=>match look j hs with
   | some h=>match mtZ m s h with
     | some eqs=>.back j eqs
     | Option.none=>.stuck [] s
   | Option.none=>.stuck [] s
def pureLf(tab:Tab)(rs:List ResultVar)(ks:List (List Ki))(s:Sx):Option V:=((resXs tab s rs).bind (cvRs s ks)).map (fun p=>.out (oneX p.1))
section
variable {P:Program} {tab:Tab}
theorem resX_ok(ht:TabOk P tab){e:Env}{s:Sx}{rv:ResultVar}{x:X}(h:resX tab s rv=some x):resC P (s.den e) rv=some (x.den e):=by
 have hg:∀t,(s.den e).T.getD t .dead=(s.T.getD t .dead).den e:=fun t=>by show (s.T.map (X.den e)).getD t .dead=_;exact getD_map_den
 cases rv with
 | tmp t=>
   simp only [resX,Option.some.injEq] at h
   subst h
   simp only [resC,hg]
 | cell a t=>
   simp only [resX] at h
   split at h
   · rename_i y pre hl
     cases h
     obtain ⟨pre',h1,h2,-⟩:=ldX_load (e:=e) ht hl X.tr_true
     simp only [resC,hg]
     exact loadC_mono h2 h1
   · cases h
theorem mapM_nil'{α β:Type}(f:α→Option β):([]:List α).mapM f=some []:=rfl
theorem mapM_cons'{α β:Type}(f:α→Option β)(a:α)(l:List α):(a::l).mapM f=(f a).bind (fun b=>(l.mapM f).map (b::·)):=by
 rw [List.mapM_cons]
 cases f a with
 | none=>rfl
 | some b=>cases hm:l.mapM f<;>simp [hm]
theorem resXs_ok(ht:TabOk P tab){e:Env}{s:Sx}:∀{rs:List ResultVar} {xs:List X},resXs tab s rs=some xs→rs.mapM (resC P (s.den e))=some (xs.map (X.den e)):=by
 intro rs
 induction rs with
 | nil=>intro xs h;cases h;exact mapM_nil' _
 | cons r rs ih=>
   intro xs h
   simp only [resXs,Option.bind_eq_some_iff,Option.map_eq_some_iff] at h
   obtain ⟨x,h1,ys,h2,rfl⟩:=h
   rw [mapM_cons',resX_ok ht h1,ih h2];rfl
theorem oneX_den{e:Env}{xs:List X}:(oneX xs).den e=oneOf (xs.map (X.den e)):=by
 unfold oneX
 split
 · rfl
 · rename_i h
   match xs with
   | []=>rfl
   | [x]=>exact absurd rfl (h x)
   | x::y::zs=>simp only [X.den,ofL_den];rfl
def famK(lps:Nat→LpI)(j:Nat)(e:Env)(w:Env)(n:Nat):Prop:=∃x,(lps j).J e x∧w=(lps j).v e x∧n=(lps j).μ e x
def CxOk(lps:Nat→LpI)(cx:List Cx)(cv:List Cv)(hs:Hds):Prop:=∀j c h,cvFind j cv=some c→look j hs=some h→∃c',cx.find? (fun c=>c.j==j)=some c'∧c'.e=c.e∧c'.μ=c.μ∧c'.h=h∧c'.K=famK lps j c.e
def RetOk(P:Program)(fn:Func)(k k':Nat)(val:C)(h':Hp)(s:St):Prop:=∃cs,fn.results.toList.mapM (resC P s)=some cs∧Ent k ⟨[oneOf cs],s.H,s.n⟩ ⟨[val],h',k'⟩
theorem Back.ent{σ:Nat→Nat}{k k' n:Nat}{hv H h':Hp}{c val:C}(hb:Back σ k k' hv H c val h'):Ent k ⟨[c],H,n⟩ ⟨[val],h',k'⟩:=fun ρ F RO w vs hA=>by
 have hs:vs.size=1:=hA.rel.len
 obtain ⟨hx,hval⟩:=hb.ext hA.sim (hA.rel.rel 0 c vs[0] rfl (Array.getElem?_eq_getElem (by omega)))
 refine ⟨_,_,_,hx,hx.sim,⟨hs,fun i a v ha hv=>?_⟩,fun l hl=>Classical.byContradiction fun h1=>hl (by unfold plR;rw [if_neg h1]),hb.le⟩
 cases i with
 | zero=>
   cases ha
   rw [Array.getElem?_eq_getElem (by omega)] at hv
   cases hv
   exact hval
 | succ i=>cases ha
def blkLf(tab:Tab)(rs:List ResultVar)(k k':Nat)(v:X)(H':List XB)(s:Sx):Option V:=(resXs tab s rs).bind (fun xs=>(mtZ k ⟨[oneX xs],s.H,s.n⟩ ⟨[v],H',k'⟩).map .fin)
theorem blkLf_ok(ht:TabOk P tab){fn:Func}{rs:List ResultVar}{k k':Nat}{v0:X}{H':List XB}(hrs:fn.results.toList=rs){lps:Nat→LpI}{val:C}{e0 e:Env}{cv:List Cv}{s:Sx}{v:V}(hl:blkLf tab rs k k' v0 H' s=some v)(h:v.Holds lps val e0 e cv):RetOk P fn k k' (v0.den e0) (H'.map (XB.den e0)) (s.den e):=by
 unfold blkLf at hl
 simp only [Option.bind_eq_some_iff,Option.map_eq_some_iff] at hl
 obtain ⟨xs,h1,eqs,h2,rfl⟩:=hl
 have:=mtZ_ok (e:=e) (e':=e0) h2 (eqAll_mem h)
 refine ⟨_,by rw [hrs];exact resXs_ok ht h1,?_⟩
 rw [←oneX_den]
 exact this
def RetE(P:Program)(fn:Func)(k:Nat)(val:C)(h':Hp)(k':Nat):Post:=fun e s=>(e=.normal∨e=.ret)∧RetOk P fn k k' val h' s
theorem EC.enterE{f:FuncId}{fn:Func}{c:Code}{k k' nt:Nat}{args:List C}{h h':Hp}{val:C}(hf:P.funcs[f]? = some fn)(hn:(fn.name == "runtime.NumGoroutine")=false)(hb:fn.body=some c)(hnt:fn.ntmps=nt)(hkk:k≤k')
 (hwp:EWP P k c ⟨args++List.replicate (nt-args.length) .dead,h,k⟩ (RetE P fn k val h' k')):EC P f k args h val h' k':=by
 refine ⟨⟨fn,c,hf,hn,hb⟩,hkk,fun ρ F RO w vs hs hd hR=>?_⟩
 refine calls_of_wp hf hb ?_
 have hA:At k ⟨args++List.replicate (nt-args.length) .dead,h,k⟩ ρ F RO w (vs++Array.replicate (fn.ntmps-vs.size) undef):=by
  refine ⟨hs,⟨by simp [hR.len,hnt],fun i x v hx hv=>?_⟩,hd,Nat.le_refl k⟩
  rw [List.getElem?_append] at hx
  rw [Array.getElem?_append,hR.len] at hv
  split at hx
  · rename_i h1
    rw [if_pos h1] at hv
    exact hR.rel i x v hx hv
  · rw [List.getElem?_replicate] at hx
    split at hx
    · simp only [Option.some.injEq] at hx;subst hx;exact .dead v
    · cases hx
 refine hwp ρ F RO w _ hA [] _ (fun e s' ρ' F' RO' w' vs' hQ hE hA'=>?_)
 obtain ⟨he,cs,hres,hent⟩:=hQ
 obtain ⟨v,hrun,hrel⟩:=results_run hA' hres
 obtain ⟨ρ2,F2,RO2,hx,hA2⟩:=hent ρ' F' RO' w' #[v] ⟨hA'.sim,⟨rfl,fun i c u hc hu=>by
  cases i with
  | zero=>cases hc;cases hu;exact hrel
  | succ i=>cases hc⟩,hA'.dom,hA'.le⟩
 have hval:=hA2.rel.rel 0 val v rfl rfl
 have hfin:(⟨vs',[]⟩:Act).defers=[]∧∃v,(results fn vs').run P w'=.ok v w'∧(fun e w'=>∃ρ' F' RO' v,e=Ending.returned v∧Ext k ρ F RO h.get w ρ' F' RO' h'.get w'∧RelC ρ' RO' w' val v∧∀l,ρ' l≠none→l<k') (Ending.returned v) w':=
  ⟨rfl,v,hrun,_,_,_,v,rfl,hE.trans hx,hval,hA2.dom⟩
 rcases he with rfl|rfl
 · exact hfin
 · exact hfin
theorem pureLf_ok(ht:TabOk P tab){fn:Func}{rs:List ResultVar}{ks:List (List Ki)}(hrs:fn.results.toList=rs){lps:Nat→LpI}{val:C}{e0 e:Env}{cv:List Cv}{s:Sx}{v:V}(hl:pureLf tab rs ks s=some v)(h:v.Holds lps val e0 e cv):RetOk P fn 0 0 val [] (s.den e):=by
 unfold pureLf at hl
 rw [Option.map_eq_some_iff] at hl
 obtain ⟨p,h1,rfl⟩:=hl
 have h2:(oneX p.1).den e=val:=h
 rw [Option.bind_eq_some_iff] at h1
 obtain ⟨xs,h1,h3⟩:=h1
 obtain ⟨e1,e2⟩:=cvRs_ok (e:=e) (σ:=id) (n:=0) (hv:=(hbOf s e p.2).get) (ys:=p.1) (ids:=p.2) h3 (fun l hl=>by rw [hbOf_get,if_pos hl])
 refine ⟨_,by rw [hrs];exact resXs_ok ht h1,Back.ent (σ:=id) (hv:=hbOf s e p.2) ⟨?_,(fun l B h=>by cases h),(fun l B hB=>?_),(fun l l' B B' h=>by cases h),(fun l hl=>by omega),Nat.le_refl _⟩⟩
 · rw [←h2,oneX_den]
   revert e2
   generalize hA:xs.map (X.den e)=A
   generalize hB:p.1.map (X.den e)=B
   intro e2
   have hl:A.length=B.length:=by rw [←hA,←hB];simpa using e1
   match A,B,hl with
   | [],[],_=>exact .tup _ _ rfl (by simp)
   | [a],[b],_=>exact e2 0 a b rfl rfl
   | a::a'::az,b::b'::bs,hl=>exact .tup _ _ hl e2
 · rw [hbOf_get] at hB
   split at hB
   · exact hB
   · cases hB
theorem R.low_ok{m k':Nat}{fn:Func}{lps:Nat→LpI}{val:C}{h':Hp}{e0:Env}{lf:Sx→Option V}(hlf:∀s v e cv,lf s=some v→v.Holds lps val e0 e cv→RetOk P fn m k' val h' (s.den e)){r:R}:∀{e:Env} {cx:List Cx} {cv:List Cv} {hs:Hds},CxOk lps cx cv hs→(r.low m lf hs).Holds lps val e0 e cv →
 r.Holds m e cx (RetE P fn m val h' k'):=by
 induction r with
 | out x s=>
   intro e cx cv hs hcx h
   unfold R.low at h
   cases x with
   | exit id=>exact h.elim
   | nrm=>
     simp only at h
     split at h
     · rename_i v hv;exact ⟨.inl rfl,hlf s v e cv hv h⟩
     · exact h.elim
   | ret=>
     simp only at h
     split at h
     · rename_i v hv;exact ⟨.inr rfl,hlf s v e cv hv h⟩
     · exact h.elim
 | br b r1 r2 h1 h2=>intro e cx cv hs hcx h;exact ⟨fun hb=>h1 hcx (h.1 hb),fun hb=>h2 hcx (h.2 hb)⟩
 | side c r ih=>intro e cx cv hs hcx h;exact ⟨h.1,fun hc=>ih hcx (h.2 hc)⟩
 | els r1 r2 h1 h2=>intro e cx cv hs hcx h;exact ⟨h1 hcx h.1,h2 hcx h.2⟩
 | none=>intro e cx cv hs hcx h;exact h
 | stuck os s=>intro e cx cv hs hcx h;exact h
 | lp j s g r ih=>
   intro e cx cv hs hcx h
   unfold R.low at h
   split at h
   · rename_i eqs hm
     obtain ⟨⟨x,hJ,hq⟩,hr⟩:=h
     refine ⟨famK lps j e,⟨_,_,⟨x,hJ,rfl,rfl⟩,mtZ_ok hm (eqAll_mem hq)⟩,fun w n hK=>?_⟩
     obtain ⟨y,hy,rfl,rfl⟩:=hK
     refine ih (cv:=⟨j,e,(lps j).μ e y⟩::cv) (hs:=(j,g)::hs) (fun j' c h' hc hh=>?_) (hr y hy)
     simp only [cvFind] at hc
     simp only [look] at hh
     by_cases hj:j=j'
     · rw [if_pos hj] at hc hh
       cases hc;cases hh;subst hj
       exact ⟨⟨j,e,famK lps j e,(lps j).μ e y,g⟩,by rw [List.find?_cons_of_pos (by simp)],rfl,rfl,rfl,rfl⟩
     · rw [if_neg hj] at hc hh
       rw [List.find?_cons_of_neg (by simpa using hj)]
       exact hcx j' c h' hc hh
   · exact h.elim
 | back j s=>
   intro e cx cv hs hcx h
   unfold R.low at h
   split at h
   · rename_i g hg
     split at h
     · rename_i eqs hm
       simp only [V.Holds] at h
       split at h
       · rename_i c hc
         obtain ⟨c',k1,k2,k3,k4,k5⟩:=hcx j c g hc hg
         obtain ⟨x,a1,a2,a3⟩:=h
         exact ⟨c',k1,_,_,by rw [k5];exact ⟨x,a1,rfl,rfl⟩,by rw [k3];exact a2,by rw [k2,k4];exact mtZ_ok hm (eqAll_mem a3)⟩
       · exact h.elim
     · exact h.elim
   · exact h.elim
end
inductive WfD : D→Prop
 | lit (v:Value):WfD (.lit v)
 | sl (sz:Nat) (els:List (List D)) (h:els.length≤maxLen) (h2:∀r∈els,∀x∈r,WfD x):WfD (.sl sz els)
 | agg (xs:List D) (h:∀x∈xs,WfD x):WfD (.agg xs)
 | ifc (t:TypeId) (x:D) (h:WfD x):WfD (.ifc t x)
 | ep (xs:List D) (h:∀x∈xs,WfD x):WfD (.ep xs)
theorem RelD.wf{RO:Nat→Prop}{w:World}{x:D}{v:Value}(h:RelD RO w x v):WfD x:=by
 induction h with
 | lit v=>exact .lit v
 | nil sz A cap h=>exact .sl sz [] (Nat.zero_le _) (by simp)
 | sl sz els b off cap U hb hn hc hr cell one rel ih=>
   refine .sl sz els (Nat.le_trans hn hc) (fun r hr x hx=>?_)
   obtain ⟨i,hi,rfl⟩:=List.getElem_of_mem hr
   obtain ⟨j,hj,rfl⟩:=List.getElem_of_mem hx
   exact ih i j _ (at2_of hi hj)
 | agg cs vs hl one rel ih=>
   refine .agg cs (fun x hx=>?_)
   obtain ⟨i,hi,rfl⟩:=List.getElem_of_mem hx
   exact ih i _ (vs[i]'(by omega)) (List.getElem?_eq_getElem hi) (List.getElem?_eq_getElem (by omega))
 | ifc t x v h ih=>exact .ifc t x ih
 | ep cs b off U hb cell one rel ih=>
   refine .ep cs (fun x hx=>?_)
   obtain ⟨i,hi,rfl⟩:=List.getElem_of_mem hx
   exact ih i _ (List.getElem?_eq_getElem hi)
def wfC(c:C):Prop:=match c with | .d x=>WfD x | .agg cs=>∀x,.d x∈cs→WfD x | .osl _ _ _ n=>n≤maxLen|_=>True
theorem RelC.wf{ρ:Pl}{RO:Nat→Prop}{w:World}{c:C}{v:Value}(h:RelC ρ RO w c v):wfC c:=by
 cases h with
 | d x v h=>exact h.wf
 | agg cs vs hl one rel=>
   intro x hx
   obtain ⟨i,hi,e⟩:=List.getElem_of_mem hx
   have:=rel i _ (vs[i]'(by omega)) (List.getElem?_eq_getElem hi) (List.getElem?_eq_getElem (by omega))
   rw [e] at this
   cases this with
   | d x v h=>exact h.wf
 | osl l sz s n cap p hp hn hc hm=>exact Nat.le_trans hn hc
 | osln=>exact Nat.zero_le _
 | _=>trivial
theorem wrapI{n:Int}(h1:-9223372036854775808≤n)(h2:n≤9223372036854775807):IntKind.i64.wrap n=n:=IntWalk.i64_in n ⟨h1,h2⟩
theorem EC.runX{P:Program}{f:FuncId}{fn:Func}{c:Code}{nt k k':Nat}{args:List C}{val:C}{h h':Hp}(hm:P.follows .mixedOrders=true)(hf:P.funcs[f]? = some fn)(hn:(fn.name == "runtime.NumGoroutine")=false)(hb:fn.body=some c)(hnt:fn.ntmps=nt)(hkk:k≤k')
 (e:Env) (kb:Kb) (hk:KbOk P kb) (hct:∀e',Like e e'→EvOk P e'∧CtrOk P e' kb.ct∧BtrOk P e' kb.bt) (lps:Nat→LpI) (lp:Lp) (xs:List X) (H:List XB) (hx:xs.map (X.den e)=args) (hH:H.map (XB.den e)=h) (lf:Sx→Option V)
 (hlf:∀s v e' cv,lf s=some v→v.Holds lps val e e' cv→RetOk P fn k k' val h' (s.den e'))
 (hrun:(∀a∈args,wfC a)→((exec k (opG kb) lp 0 0 c ⟨xs++List.replicate (nt-xs.length) .dead,H,k⟩).low k lf []).Holds lps val e e []):EC P f k args h val h' k':=
 ⟨⟨fn, c,hf,hn,hb⟩,hkk,fun ρ F RO w vs hsm hd hR=>by
   refine (EC.enterE hf hn hb hnt hkk ?_).2.2 ρ F RO w vs hsm hd hR
   have h0:=hrun (fun a ha=>?_)
   · have h1:=(exec_ok (m:=k) (lp:=lp) hm (fun e h=>opG_ok hk (hct e h).1 (hct e h).2.1 (hct e h).2.2) c 0 0 _).2 e [] _ (Like.refl e) (R.low_ok (cx:=[]) (cv:=[]) (hs:=[]) hlf (fun j c h hc=>by cases hc) h0)
     have h2:(⟨xs++List.replicate (nt-xs.length) .dead,H,k⟩:Sx).den e=⟨args++List.replicate (nt-args.length) .dead,h,k⟩:=by
      subst hx hH
      simp only [Sx.den,List.map_append,List.map_replicate,X.den,List.length_map]
     rw [h2] at h1;exact h1
   · obtain ⟨j,hj,e⟩:=List.getElem_of_mem ha
     have hi:j<vs.size:=by rw [hR.len];exact hj
     exact (hR.rel j a vs[j] (by rw [←e];exact List.getElem?_eq_getElem hj) (Array.getElem?_eq_getElem hi)).wf⟩
theorem EC.pureX{P:Program}{f:FuncId}{fn:Func}{c:Code}{nt:Nat}{rs:List ResultVar}{args:List C}{val:C}(hm:P.follows .mixedOrders=true)(hf:P.funcs[f]? = some fn)(hn:(fn.name == "runtime.NumGoroutine")=false)(hb:fn.body=some c)(hnt:fn.ntmps=nt)(hrs:fn.results.toList=rs)
 (e:Env) (kb:Kb) (hk:KbOk P kb) (hct:∀e',Like e e'→EvOk P e'∧CtrOk P e' kb.ct∧BtrOk P e' kb.bt) (ks:List (List Ki)) (lps:Nat→LpI) (lp:Lp) (xs:List X) (hx:xs.map (X.den e)=args)
 (hrun:(∀a∈args,wfC a)→((exec 0 (opG kb) lp 0 0 c ⟨xs++List.replicate (nt-xs.length) .dead,[],0⟩).low 0 (pureLf kb.tab rs ks) []).Holds lps val e e []):EC P f 0 args [] val [] 0:=
 .runX hm hf hn hb hnt (Nat.le_refl _) e kb hk hct lps lp xs [] hx rfl _ (fun s v e' cv hl h=>pureLf_ok hk.tab hrs hl h) hrun
theorem EC.blkX{P:Program}{f:FuncId}{fn:Func}{c:Code}{nt k k':Nat}{rs:List ResultVar}{args:List C}{val:C}{h h':Hp}(hm:P.follows .mixedOrders=true)(hf:P.funcs[f]? = some fn)(hn:(fn.name == "runtime.NumGoroutine")=false)(hb:fn.body=some c)(hnt:fn.ntmps=nt)(hrs:fn.results.toList=rs)(hkk:k≤k')
 (e:Env) (kb:Kb) (hk:KbOk P kb) (hct:∀e',Like e e'→EvOk P e'∧CtrOk P e' kb.ct∧BtrOk P e' kb.bt) (lps:Nat→LpI) (lp:Lp) (xs:List X) (H:List XB) (hx:xs.map (X.den e)=args) (hH:H.map (XB.den e)=h) (v:X) (H':List XB) (hv:v.den e=val) (hH':H'.map (XB.den e)=h')
 (hrun:(∀a∈args,wfC a)→((exec k (opG kb) lp 0 0 c ⟨xs++List.replicate (nt-xs.length) .dead,H,k⟩).low k (blkLf kb.tab rs k k' v H') []).Holds lps val e e []):EC P f k args h val h' k':=by
 subst hv hH'
 exact .runX hm hf hn hb hnt hkk e kb hk hct lps lp xs H hx hH _ (fun s v e' cv hl h=>blkLf_ok hk.tab hrs hl h) hrun
end Ow
namespace Ow
open Go Go.RowKit Go.Deep
def X.isLit : X→Bool
 | .int _ _=>true | .bool _=>true | .str _=>true | .nilI=>true | .nilF=>true | .nilS=>true | .nilP=>true|_=>false
theorem X.lit_den{x:X}(h:x.isLit=true)(e e':Env):x.den e=x.den e':=by cases x<;>first|rfl|cases h
theorem Zrs.ok{P:Program}{zr:Zrs}(h:zr.toL.map (fun p=>zeroC P p.1)=zr.toL.map (fun p=>some (p.2.map (X.den env0))))(hl:zr.toL.all (fun p=>p.2.all X.isLit)=true):ZrOk P zr:=by
 intro t zs hz e
 have hm:=lookT_mem hz
 have h1:=List.map_inj_left.1 h _ hm
 rw [h1]
 refine congrArg some (List.map_congr_left fun x hx=>?_)
 exact X.lit_den (List.all_eq_true.1 (List.all_eq_true.1 hl _ hm) x hx) _ _
section
variable {e e':Env} {a b c:X}
@[go_sem] theorem tr_and' : (X.and a b).tr e↔a.tr e∧b.tr e:=by simp [X.tr,X.den,boolOf_b]
@[go_sem] theorem tr_or' : (X.or a b).tr e↔a.tr e∨b.tr e:=by simp [X.tr,X.den,boolOf_b]
@[go_sem] theorem tr_not' : (X.not a).tr e↔¬a.tr e:=by simp [X.tr,X.den,boolOf_b]
@[go_sem] theorem tr_bool'{t:Bool}:(X.bool t).tr e↔t=true:=Iff.rfl
@[go_sem] theorem tr_atb{j:Nat}{az:X}:(X.atb j az).tr e↔e.B j (tupOf (az.den e))=true:=Iff.rfl
@[go_sem] theorem tr_eqb : (X.eqb a b).tr e↔boolOf (a.den e)=boolOf (b.den e):=by simp [X.tr,X.den,boolOf_b]
@[go_sem] theorem tr_eql : (X.cmp .eql a b).tr e↔intOf (a.den e)=intOf (b.den e):=by simp [X.tr,X.den,boolOf_b,cmpI]
@[go_sem] theorem tr_neq : (X.cmp .neq a b).tr e↔intOf (a.den e)≠intOf (b.den e):=by simp [X.tr,X.den,boolOf_b,cmpI]
@[go_sem] theorem tr_lss : (X.cmp .lss a b).tr e↔intOf (a.den e)<intOf (b.den e):=by simp [X.tr,X.den,boolOf_b,cmpI]
@[go_sem] theorem tr_leq : (X.cmp .leq a b).tr e↔intOf (a.den e)≤intOf (b.den e):=by simp [X.tr,X.den,boolOf_b,cmpI]
@[go_sem] theorem tr_gtr : (X.cmp .gtr a b).tr e↔intOf (a.den e) > intOf (b.den e):=by simp [X.tr,X.den,boolOf_b,cmpI]
@[go_sem] theorem tr_geq : (X.cmp .geq a b).tr e↔intOf (a.den e)≥intOf (b.den e):=by simp [X.tr,X.den,boolOf_b,cmpI]
@[go_sem] theorem tr_ite' : (X.ite c a b).tr e↔(c.tr e∧a.tr e)∨(¬c.tr e∧b.tr e):=by unfold X.tr;simp only [X.den];cases boolOf (c.den e)<;>simp
@[go_sem] theorem tr_get{x i:X}{j:Nat}:(X.get .bool x i j).tr e↔boolD (((elsOf (x.den e)).getD (intOf (i.den e)).toNat []).getD j dz)=true:=Iff.rfl
@[go_sem] theorem tr_def : boolOf (a.den e)=true↔a.tr e:=Iff.rfl
end
@[go_sem] theorem cvFind_cons{j:Nat}{c:Cv}{cs:List Cv}:cvFind j (c::cs)=if c.j=j then some c else cvFind j cs:=rfl
@[go_sem] theorem eqAll_nil{e e':Env}:eqAll e e' []=True:=rfl
@[go_sem] theorem eqAll_cons{e e':Env}{p:X×X}{l:List (X×X)}:eqAll e e' (p::l)=(p.1.den e=p.2.den e'∧eqAll e e' l):=rfl
abbrev CI(n:Int):C:=.d (.lit (.int .i64 n))
abbrev CB(b:Bool):C:=.d (.lit (.bool b))
theorem map_row{α:Type}{cs:Ki}{f:α→List D}(h:∀a,cs.row (f a)=f a)(xs:List α):(xs.map f).map cs.row=xs.map f:=by
 rw [List.map_map];exact List.map_congr_left fun a _=>h a
@[go_sem] theorem over_I{e w:Env}{j i:Nat}{a:List C}:(e.over j w).I i a=if i / 100000000=j then w.I (i % 100000000) a else e.I i a:=by simp only [Env.over]
@[go_sem] theorem over_B{e w:Env}{j i:Nat}{a:List C}:(e.over j w).B i a=if i / 100000000=j then w.B (i % 100000000) a else e.B i a:=by simp only [Env.over]
@[go_sem] theorem over_L{e w:Env}{j i:Nat}{a:List C}:(e.over j w).L i a=if i / 100000000=j then w.L (i % 100000000) a else e.L i a:=by simp only [Env.over]
def updT : List X→List (Nat×X)→List X
 | T,[]=>T
 | T,(j,x)::u=>updT (T.set j x) u
def Sx.upd(s:Sx)(u:List (Nat×X)):Sx:=⟨updT s.T u,s.H,s.n⟩
def growX(l:Nat)(n:X):X→X
 | .cons a b=>.cons (growX l n a) (growX l n b)
 | .agg xs=>.agg (growX l n xs)
 | .tup xs=>.tup (growX l n xs)
 | .ifc t x=>.ifc t (growX l n x)
 | .osl l' sz s n'=>if l'=l then .osl l' sz s n else .osl l' sz s n'
 | .fn g a b=>.fn g (growX l n a) (growX l n b)
 | .app a b=>.app (growX l n a) (growX l n b)
 | x=>x
def Sx.grow(s:Sx)(l:Nat)(r:X):Sx:=⟨s.T.map (growX l (mkRln r)),s.H.map (fun b=>if b.l=l then ⟨b.l,b.cs,r⟩ else ⟨b.l,b.cs,growX l (mkRln r) b.rows⟩),s.n⟩
def Sx.cell(s:Sx)(l i j:Nat)(x:X):Sx:=⟨s.T,s.H.map (fun b=>if b.l=l then ⟨b.l,b.cs,match nthX b.rows i with|some row=>setNth b.rows i (setNth row j x)|none=>b.rows⟩ else b),s.n⟩
def heads : List (Nat×(Sx→Nat×Sx))→Nat→Sx→Option (Nat×Sx)
 | [],_,_=>none
 | p::ps,i,s=>if p.1=i then some (p.2 s) else heads ps i s
def noLps : Nat→LpI:=fun _=>⟨Unit,fun _ _=>False,fun e _=>e,fun _ _=>0⟩
def consL(L:LpI)(r:Nat→LpI):Nat→LpI
 | 0=>L
 | n+1=>r n
theorem ct_nil{P:Program}{e:Env}:CtrOk P e []:=fun _ _ h=>by cases h
theorem bt_nil{P:Program}{e:Env}:BtrOk P e []:=fun _ _ h=>by cases h
end Ow
namespace Ow
open Go Go.RowKit Go.Deep
def V.Ex{α:Type}(E:α→Prop)(en:α→Env):V→Env→Prop
 | .fin eqs,e=>∃a,E a∧eqAll e (en a) eqs
 | .br b v1 v2,e=>(b.tr e→v1.Ex E en e)∧(¬b.tr e→v2.Ex E en e)
 | .side c v,e=>c.tr e∧(c.tr e→v.Ex E en e)
 | .els v1 v2,e=>v1.Ex E en e∧v2.Ex E en e
 | .none,_=>True
 | _,_=>False
def R.lowD(lf:Sx→Option V):R→V
 | .out x s=>match x with
   | .exit _=>.stuck [] s
   | _=>match lf s with
     | some v=>v
     | Option.none=>.stuck [] s
 | .br b r1 r2=>.br b (r1.lowD lf) (r2.lowD lf)
 | .side c r=>.side c (r.lowD lf)
 | .els r1 r2=>.els (r1.lowD lf) (r2.lowD lf)
 | .none=>.none
 | .stuck os s=>.stuck os s
 | .lp _ s _ _=>.stuck [] s
 | .back _ s=>.stuck [] s
section
variable {P:Program} {tab:Tab}
theorem R.det{m k k':Nat}{fn:Func}{lps:Nat→LpI}{α:Type}{E:α→Prop}{en:α→Env}{v0:X}{H':List XB}{rs:List ResultVar}(ht:TabOk P tab)(hrs:fn.results.toList=rs){e:Env}{cx:List Cx}{r:R}:r.excl e→(r.lowD (blkLf tab rs k k' v0 H')).Ex E en e →
 (r.live e∧∃a,E a∧r.Holds m e cx (RetE P fn k (v0.den (en a)) (H'.map (XB.den (en a))) k'))∨(¬r.live e∧∀Q,r.Holds m e cx Q):=by
 induction r with
 | out x s=>
   intro hex h
   have key:∀x:Ex,(∀id,x≠.exit id)→(match blkLf tab rs k k' v0 H' s with|some v=>v|Option.none=>V.stuck [] s).Ex E en e→∃a,E a∧RetOk P fn k k' (v0.den (en a)) (H'.map (XB.den (en a))) (s.den e):=by
    intro x _ h
    split at h
    · rename_i v hv
      have hv':=hv
      unfold blkLf at hv'
      simp only [Option.bind_eq_some_iff,Option.map_eq_some_iff] at hv'
      obtain ⟨xs,h1,eqs,h2,rfl⟩:=hv'
      obtain ⟨e0,hE,hq⟩:=h
      exact ⟨e0,hE,blkLf_ok (lps:=lps) (val:=v0.den (en e0)) (cv:=[]) ht hrs hv hq⟩
    · exact h.elim
   unfold R.lowD at h
   cases x with
   | exit id=>exact h.elim
   | nrm=>obtain ⟨e0,hE,h1⟩:=key .nrm (by simp) h;exact .inl ⟨trivial,e0,hE,.inl rfl,h1⟩
   | ret=>obtain ⟨e0,hE,h1⟩:=key .ret (by simp) h;exact .inl ⟨trivial,e0,hE,.inr rfl,h1⟩
 | br b r1 r2 h1 h2=>
   intro hex h
   by_cases hb:b.tr e
   · rcases h1 (hex.1 hb) (h.1 hb) with ⟨hl,e0,hE,hh⟩|⟨hl,hh⟩
     · exact .inl ⟨.inl ⟨hb,hl⟩,e0,hE,fun _=>hh,fun hn=>absurd hb hn⟩
     · exact .inr ⟨fun hl'=>hl'.elim (fun h=>hl h.2) (fun h=>h.1 hb),fun Q=>⟨fun _=>hh Q,fun hn=>absurd hb hn⟩⟩
   · rcases h2 (hex.2 hb) (h.2 hb) with ⟨hl,e0,hE,hh⟩|⟨hl,hh⟩
     · exact .inl ⟨.inr ⟨hb,hl⟩,e0,hE,fun hn=>absurd hn hb,fun _=>hh⟩
     · exact .inr ⟨fun hl'=>hl'.elim (fun h=>hb h.1) (fun h=>hl h.2),fun Q=>⟨fun hn=>absurd hn hb,fun _=>hh Q⟩⟩
 | side c r ih=>
   intro hex h
   rcases ih hex (h.2 h.1) with ⟨hl,e0,hE,hh⟩|⟨hl,hh⟩
   · exact .inl ⟨hl,e0,hE,h.1,fun _=>hh⟩
   · exact .inr ⟨hl,fun Q=>⟨h.1,fun _=>hh Q⟩⟩
 | els r1 r2 h1 h2=>
   intro hex h
   rcases h1 hex.1 h.1 with ⟨hl1,e0,hE,hh1⟩|⟨hl1,hh1⟩<;>rcases h2 hex.2.1 h.2 with ⟨hl2,e0',hE',hh2⟩|⟨hl2,hh2⟩
   · exact absurd hl2 (hex.2.2 hl1)
   · exact .inl ⟨.inl hl1,e0,hE,hh1,hh2 _⟩
   · exact .inl ⟨.inr hl2,e0',hE',hh1 _,hh2⟩
   · exact .inr ⟨fun h=>h.elim hl1 hl2,fun Q=>⟨hh1 Q,hh2 Q⟩⟩
 | none=>intro hex h;exact .inr ⟨fun h=>h,fun Q=>trivial⟩
 | stuck os s=>intro hex h;exact h.elim
 | lp j s g r ih=>intro hex h;exact h.elim
 | back j s=>intro hex h;exact h.elim
theorem EC.exX{ms:Ms}{f:FuncId}{fn:Func}{c:Code}{nt k k':Nat}{rs:List ResultVar}{args:List C}{h:Hp}(hm:P.follows .mixedOrders=true)(hf:P.funcs[f]? = some fn)(hn:(fn.name == "runtime.NumGoroutine")=false)(hb:fn.body=some c)(hnt:fn.ntmps=nt)(hrs:fn.results.toList=rs)(hkk:k≤k')
 (e:Env) (kb:Kb) (hk:KbOk P kb) (hct:∀e',Like e e'→EvOk P e'∧CtrOk P e' kb.ct∧BtrOk P e' kb.bt) (xs:List X) (H:List XB) (hx:xs.map (X.den e)=args) (hH:H.map (XB.den e)=h) (v:X) (H':List XB) {α:Type} (E:α→Prop) (en:α→Env) (hE:∃a,E a)
 (hrun:((exec k (opG kb) ⟨heads [],ms⟩ 0 0 c ⟨xs++List.replicate (nt-xs.length) .dead,H,k⟩).lowD (blkLf kb.tab rs k k' v H')).Ex E en e):∃a,E a∧EC P f k args h (v.den (en a)) (H'.map (XB.den (en a))) k':=by
 have hex:=exec_ok (m:=k) (lp:=⟨heads [],ms⟩) hm (e0:=e) (fun e h=>opG_ok hk (hct e h).1 (hct e h).2.1 (hct e h).2.2) c 0 0 ⟨xs++List.replicate (nt-xs.length) .dead,H,k⟩
 have h2:(⟨xs++List.replicate (nt-xs.length) .dead,H,k⟩:Sx).den e=⟨args++List.replicate (nt-args.length) .dead,h,k⟩:=by
  subst hx hH
  simp only [Sx.den,List.map_append,List.map_replicate,X.den,List.length_map]
 have fin:∀e0,(exec k (opG kb) ⟨heads [],ms⟩ 0 0 c ⟨xs++List.replicate (nt-xs.length) .dead,H,k⟩).Holds k e [] (RetE P fn k (v.den e0) (H'.map (XB.den e0)) k')→EC P f k args h (v.den e0) (H'.map (XB.den e0)) k':=fun e0 hh=>by
  have:=hex.2 e [] _ (Like.refl e) hh
  rw [h2] at this
  exact EC.enterE hf hn hb hnt hkk this
 rcases R.det (m:=k) (lps:=noLps) (cx:=[]) hk.tab hrs (hex.1 e) hrun with ⟨-,e0,hE0,hh⟩|⟨-,hh⟩
 · exact ⟨e0,hE0,fin _ hh⟩
 · obtain ⟨e0,hE0⟩:=hE
   exact ⟨e0,hE0,fin _ (hh _)⟩
end
end Ow
