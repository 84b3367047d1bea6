/- A part of the proof. -/
import Derived.Test.YtjakhnhnjhafgaaGreatK11
set_option linter.unusedVariables false
set_option linter.unusedSimpArgs false
namespace Ow
open Go Go.RowKit Go.Deep
def X.isB(x:X):Bool:=x.kd==some .bool
theorem X.isB_den{e:Env}{x:X}(h:x.isB=true):x.den e=.d (.lit (.bool (boolOf (x.den e)))):=kd_bool (beq_iff_eq.1 h)
def X.mkAnd(a b:X):X:=match a,b with
 | .bool true,b=>b
 | .bool false,_=>.bool false
 | a,.bool true=>a
 | _,.bool false=>.bool false
 | a,b=>.and a b
def X.mkOr(a b:X):X:=match a,b with
 | .bool false,b=>b
 | .bool true,_=>.bool true
 | a,.bool false=>a
 | _,.bool true=>.bool true
 | a,b=>.or a b
def X.mkNot(a:X):X:=match a with
 | .bool b=>.bool (!b)
 | .not a=>if a.isB then a else .not (.not a)
 | a=>.not a
theorem X.mkNot_den{e:Env}{a:X}:(mkNot a).den e=.d (.lit (.bool (!boolOf (a.den e)))):=by
 unfold X.mkNot
 split
 · rfl
 · split
   · rename_i h;rw [X.isB_den h];simp [X.den,boolOf_b]
   · rfl
 · rfl
def X.tr(e:Env)(x:X):Prop:=boolOf (x.den e)=true
instance (e:Env) (x:X):Decidable (x.tr e):=inferInstanceAs (Decidable (_=_))
theorem X.tr_true{e:Env}:(X.bool true).tr e:=rfl
theorem X.tr_false{e:Env}:¬(X.bool false).tr e:=by simp [X.tr,X.den,boolOf_b]
theorem X.tr_and{e:Env}{a b:X}:(mkAnd a b).tr e↔a.tr e∧b.tr e:=by
 unfold X.mkAnd X.tr
 split<;>simp [X.den,boolOf_b]
theorem X.tr_or{e:Env}{a b:X}:(mkOr a b).tr e↔a.tr e∨b.tr e:=by
 unfold X.mkOr X.tr
 split<;>simp [X.den,boolOf_b]
theorem X.tr_not{e:Env}{a:X}:(mkNot a).tr e↔¬a.tr e:=by
 unfold X.tr
 rw [X.mkNot_den,boolOf_b]
 simp
def X.mkIf(b x y:X):X:=if x==b then X.mkOr b y else match x,y with
 | .bool true,y=>X.mkOr b y
 | .bool false,y=>X.mkAnd (X.mkNot b) y
 | x,.bool true=>X.mkOr (X.mkNot b) x
 | x,.bool false=>X.mkAnd b x
 | x,y=>.ite b x y
theorem X.tr_if{e:Env}{b x y:X}:(mkIf b x y).tr e↔(b.tr e∧x.tr e)∨(¬b.tr e∧y.tr e):=by
 unfold X.mkIf
 have h1:=@X.tr_true e
 have h2:=@X.tr_false e
 split
 · rename_i h
   rw [beq_iff_eq.1 h,X.tr_or]
   by_cases hb:b.tr e<;>simp [hb]
 · split
   · simp only [X.tr_or,h1,and_true];by_cases hb:b.tr e<;>simp [hb]
   · simp only [X.tr_and,X.tr_not,h2,and_false,false_or]
   · simp only [X.tr_or,X.tr_not,h1,and_true];by_cases hb:b.tr e<;>simp [hb]
   · simp only [X.tr_and,h2,and_false,or_false]
   · unfold X.tr;simp only [X.den];cases boolOf (b.den e)<;>simp
theorem X.isB_or{a b:X}(ha:a.isB=true)(hb:b.isB=true):(mkOr a b).isB=true:=by unfold X.mkOr;split<;>first|assumption|rfl
theorem X.isB_and{a b:X}(ha:a.isB=true)(hb:b.isB=true):(mkAnd a b).isB=true:=by unfold X.mkAnd;split<;>first|assumption|rfl
theorem X.isB_not{a:X}:(mkNot a).isB=true:=by
 unfold X.mkNot
 split
 · rfl
 · split
   · assumption
   · rfl
 · rfl
theorem X.isB_ite{b x y:X}(hx:x.isB=true)(hy:y.isB=true):(X.ite b x y).isB=true:=by
 unfold X.isB at *
 simp only [X.kd,beq_iff_eq.1 hx,beq_iff_eq.1 hy];rfl
theorem X.isB_if{b x y:X}(hb:b.isB=true)(hx:x.isB=true)(hy:y.isB=true):(mkIf b x y).isB=true:=by
 unfold X.mkIf
 split
 · exact isB_or hb hy
 · split
   · exact isB_or hb hy
   · exact isB_and isB_not hy
   · exact isB_or isB_not hx
   · exact isB_and hb hx
   · exact isB_ite hx hy
theorem X.den_if{e:Env}{b x y:X}(hb:b.isB=true)(hx:x.isB=true)(hy:y.isB=true):(mkIf b x y).den e=if boolOf (b.den e) then x.den e else y.den e:=by
 rw [X.isB_den (isB_if hb hx hy)]
 have h:=X.tr_if (e:=e) (b:=b) (x:=x) (y:=y)
 unfold X.tr at h
 by_cases hc:boolOf (b.den e)=true
 · rw [if_pos hc,X.isB_den hx]
   simp only [hc,true_and,not_true,false_and,or_false] at h
   rw [Bool.eq_iff_iff.2 h]
 · rw [if_neg hc,X.isB_den hy]
   simp only [hc,false_and,Bool.false_eq_true,not_false_iff,true_and,false_or] at h
   rw [Bool.eq_iff_iff.2 h]
def X.mkIte(c x y:X):X:=if x==y then x else if c.isB&&x.isB&&y.isB then X.mkIf c x y else match x,y with
 | .nil,.nil=>.nil
 | .cons a b,.cons a' b'=>.cons (mkIte c a a') (mkIte c b b')
 | .agg a,.agg a'=>.agg (mkIte c a a')
 | .tup a,.tup a'=>.tup (mkIte c a a')
 | .osl l sz a n,.osl l' sz' a' n'=>if (l==l'&&sz==sz'&&a==a') then .osl l sz a (mkIte c n n') else .ite c (.osl l sz a n) (.osl l' sz' a' n')
 | x,y=>.ite c x y
theorem X.den_ite{e:Env}{c:X}:∀{x y:X},(mkIte c x y).den e=if boolOf (c.den e) then x.den e else y.den e:=by
 have key:∀{x y z:X},(z.den e=if boolOf (c.den e) then x.den e else y.den e)→(if x==y then x else if c.isB&&x.isB&&y.isB then X.mkIf c x y else z).den e=if boolOf (c.den e) then x.den e else y.den e:=by
  intro x y z hz
  split
  · rename_i h;rw [beq_iff_eq.1 h];simp
  · split
    · rename_i h
      simp only [Bool.and_eq_true] at h
      exact X.den_if h.1.1 h.1.2 h.2
    · exact hz
 intro x
 induction x with
 | cons a b iha ihb=>
   intro y
   unfold X.mkIte
   refine key ?_
   cases y<;>simp only [X.den,iha,ihb]<;>split<;>rfl
 | agg a iha=>
   intro y
   unfold X.mkIte
   refine key ?_
   cases y<;>simp only [X.den,iha]<;>split<;>rfl
 | tup a iha=>
   intro y
   unfold X.mkIte
   refine key ?_
   cases y<;>simp only [X.den,iha]<;>split<;>rfl
 | osl l sz a n iha ihn=>
   intro y
   unfold X.mkIte
   refine key ?_
   cases y with
   | osl l' sz' a' n'=>
     dsimp only
     split
     · rename_i h
       simp only [Bool.and_eq_true,beq_iff_eq] at h
       obtain ⟨⟨rfl,rfl⟩,rfl⟩:=h
       simp only [X.den,ihn];split<;>rfl
     · rfl
   | _=>simp only [X.den]
 | nil=>
   intro y
   unfold X.mkIte
   refine key ?_
   cases y<;>simp [X.den]
 | _=>
   intro y
   unfold X.mkIte
   refine key ?_
   rfl
def X.notIs(g x:X):Bool:=match g with | .not a=>a==x|_=>false
def X.opp(g x:X):Bool:=x.isB&&(X.notIs g x||X.notIs x g)
theorem X.opp_den{e:Env}{g x:X}(h:g.tr e)(ho:X.opp g x=true):x.den e=.d (.lit (.bool false)):=by
 unfold X.opp at ho
 rw [Bool.and_eq_true,Bool.or_eq_true] at ho
 obtain ⟨hb,ho⟩:=ho
 rw [X.isB_den hb]
 have hf:boolOf (x.den e)=false:=by
  rcases ho with ho|ho
  · unfold X.notIs at ho
    split at ho
    · rename_i a
      rw [beq_iff_eq] at ho
      subst ho
      simpa [X.tr,X.den,boolOf_b] using h
    · cases ho
  · unfold X.notIs at ho
    split at ho
    · rename_i a
      rw [beq_iff_eq] at ho
      subst ho
      have:boolOf (a.den e)=true:=h
      simp [X.den,boolOf_b,this]
    · cases ho
 rw [hf]
def X.strip(g x:X):X:=match x with
 | .ite c a b=>if c==g then a else if X.opp g c then b else .ite c a b
 | x=>if x==g then .bool true else if X.opp g x then .bool false else x
theorem X.strip_den{e:Env}{g x:X}(hb:g.isB=true)(h:g.tr e):(X.strip g x).den e=x.den e:=by
 unfold X.strip
 split
 · split
   · rename_i hs;rw [←beq_iff_eq.1 hs] at h;simp only [X.den];rw [if_pos (show boolOf _=true from h)]
   · split
     · rename_i ho;simp only [X.den,X.opp_den h ho,boolOf_b];rfl
     · rfl
 · split
   · rename_i hs;rw [beq_iff_eq.1 hs,X.isB_den hb,show boolOf (g.den e)=true from h];rfl
   · split
     · rename_i ho;rw [X.opp_den h ho];rfl
     · rfl
structure XB where
 l : Nat
 cs:Ki
 rows:X
structure Sx where
 T : List X
 H : List XB
 n : Nat
def rowsC(c:C):List (List C):=(tupOf c).map tupOf
def XB.den(e:Env)(b:XB):Nat×Blk:=(b.l,.c b.cs.len (rowsC (b.rows.den e)))
def Sx.den(e:Env)(s:Sx):St:=⟨s.T.map (X.den e),s.H.map (XB.den e),s.n⟩
def IdC(n:Nat)(c:C):Prop:=Arg id n (fun _=>none) c c
def X.ids(n:Nat):X→Bool
 | .cons a b=>a.ids n&&b.ids n
 | .agg xs=>xs.ids n
 | .tup xs=>xs.ids n
 | .ifc _ x=>x.ids n
 | .ptr l _ _ _=>decide (l<n)
 | .osl l _ _ _=>decide (l<n)
 | .fn _ a b=>a.ids n&&b.ids n
 | .ite _ x y=>x.ids n&&y.ids n
 | .app a b=>a.ids n&&b.ids n
 | .upd r _ _ v=>r.ids n&&v.ids n
 | _=>true
def To(a f:C):Prop:=f=.dead∨a=f∨(a=.d (.lit (.slice none 0 0))∧∃sz,f=.d (.sl sz []))
theorem Ent.drop{m n2:Nat}{s:St}{T2:List C}{H2:Hp}(hl:s.T.length=T2.length)(hT:∀(i:Nat) (a f:C),s.T[i]? = some a→T2[i]? = some f→Arg id n2 (fun _=>none) a f)
 (hH:∀l B,H2.get l=some B→s.H.get l=some B∧l<n2∧∃sz rows,B=.c sz rows∧∀i j c,at2 rows i j=some c→IdC n2 c) (hm:m≤n2):Ent m s ⟨T2,H2,n2⟩:=fun ρ F RO w vs hA=>by
 have hro:roV F RO (fun _=>none)=RO:=by
  funext b
  refine propext ⟨fun h=>h.elim id (fun ⟨l,B,h,_⟩=>by cases h),.inl⟩
 have arg:∀{a f:C} {v:Value},Arg id n2 (fun _=>none) a f→RelC ρ RO w a v→RelC (plR ρ id n2) RO w f v:=fun {a f v} h hv=>by
  have:=h.rel (RO:=RO) hA.sim (fun l B h=>by cases h) v hv
  rwa [hro] at this
 have hblk:∀l B,H2.get l=some B→∃p,plR ρ id n2 l=some p∧RelB (plR ρ id n2) RO w p B (F l):=fun l B hB=>by
  obtain ⟨h1,h2,sz,rows,rfl,h3⟩:=hH l B hB
  obtain ⟨p,hp,hR⟩:=hA.sim.blk l _ h1
  refine ⟨p,by unfold plR;rw [if_pos h2];exact hp,?_⟩
  generalize F l=G at hR
  cases hR with
  | v sz hs=>exact .v sz hs
  | c sz rows cs t hb hs hr U cell one rel=>exact .c sz rows cs t hb hs hr U cell one (fun i j c hc=>arg (h3 i j c hc) (rel i j c hc))
 have hsim:Sim (plR ρ id n2) F RO H2.get w:=⟨hblk,fun l l' B B' hne hl hl'=>hA.sim.sep l l' B B' hne (hH _ _ hl).1 (hH _ _ hl').1,fun l B hl=>hA.sim.nro l B (hH _ _ hl).1,hA.sim.ro⟩
 refine ⟨plR ρ id n2,F,RO,⟨.refl _ _,fun l hl=>by unfold plR;rw [if_pos (Nat.lt_of_lt_of_le hl hm)];rfl,fun _ h=>h,fun _ h=>.inl h,hsim,fun b ⟨l,B,hl,hb⟩=>.inl ⟨l,B,(hH l B hl).1,hb⟩⟩,hsim,⟨hA.rel.len.trans hl,fun i c v hc hv=>?_⟩,fun l hl=>?_,hm⟩
 · have hi:i<s.T.length:=by rw [hl];exact (List.getElem?_eq_some_iff.1 hc).1
   exact arg (hT i _ c (List.getElem?_eq_getElem hi) hc) (hA.rel.rel i _ v (List.getElem?_eq_getElem hi) hv)
 · exact Classical.byContradiction fun h1=>hl (by unfold plR;rw [if_neg h1])
def Dw(m:Nat)(t t':St):Prop:=Ent m t t'
theorem Hp.get_den{e:Env}{H:List XB}{l:Nat}{B:Blk}(h:Hp.get (H.map (XB.den e)) l=some B):∃b∈H,b.l=l∧B=.c b.cs.len (rowsC (b.rows.den e)):=by
 induction H with
 | nil=>cases h
 | cons b H ih=>
   rw [List.map_cons,Hp.get_cons] at h
   split at h
   · rename_i hl;cases h;exact ⟨b,List.mem_cons_self,hl.symm,rfl⟩
   · obtain ⟨b',h1,h2⟩:=ih h
     exact ⟨b',List.mem_cons_of_mem _ h1,h2⟩
def X.ren(f:Nat→Option Nat):X→X
 | .cons a b=>.cons (a.ren f) (b.ren f)
 | .agg xs=>.agg (xs.ren f)
 | .tup xs=>.tup (xs.ren f)
 | .ifc t x=>.ifc t (x.ren f)
 | .ptr l sz i j=>match f l with|some l'=>.ptr l' sz i j|none=>.dead
 | .osl l sz s n=>match f l with|some l'=>.osl l' sz s n|none=>.dead
 | .fn g a b=>.fn g (a.ren f) (b.ren f)
 | .ite c x y=>.ite c (x.ren f) (y.ren f)
 | .app a b=>.app (a.ren f) (b.ren f)
 | .upd r i j v=>.upd (r.ren f) i j (v.ren f)
 | x=>x
def Each(A:C→C→Prop)(xs ys:List C):Prop:=xs.length=ys.length∧∀(i:Nat) (a b:C),xs[i]? = some a→ys[i]? = some b→A a b
theorem Each.nil{A:C→C→Prop}:Each A [] []:=⟨rfl,by simp⟩
theorem Each.cons{A:C→C→Prop}{x y:C}{xs ys:List C}(h:A x y)(h2:Each A xs ys):Each A (x::xs) (y::ys):=⟨by simp [h2.1],fun i a b ha hb=>by
 cases i with
 | zero=>simp at ha hb;subst ha hb;exact h
 | succ i=>exact h2.2 i a b (by simpa using ha) (by simpa using hb)⟩
theorem Each.app{A:C→C→Prop}{xs ys xs' ys':List C}(h:Each A xs ys)(h2:Each A xs' ys'):Each A (xs++xs') (ys++ys'):=⟨by simp [h.1,h2.1],fun i a b ha hb=>by
 by_cases hi:i<xs.length
 · rw [List.getElem?_append_left hi] at ha
   rw [List.getElem?_append_left (by rw [←h.1];exact hi)] at hb
   exact h.2 i a b ha hb
 · rw [List.getElem?_append_right (by omega)] at ha
   rw [List.getElem?_append_right (by rw [←h.1];omega),←h.1] at hb
   exact h2.2 _ a b ha hb⟩
theorem Each.refl{A:C→C→Prop}{xs:List C}(h:∀x∈xs,A x x):Each A xs xs:=⟨rfl,fun i a b ha hb=>by rw [ha] at hb;cases hb;exact h _ (List.mem_of_getElem? ha)⟩
theorem Each.set{A:C→C→Prop}{xs ys:List C}(h:Each A xs ys){x y:C}(hx:A x y)(j:Nat):Each A (xs.set j x) (ys.set j y):=⟨by simp [h.1],fun i a b ha hb=>by
 rw [List.getElem?_set] at ha hb
 split at ha
 · split at ha
   · rename_i hj hl
     rw [if_pos hj,if_pos (by rw [←h.1];exact hl)] at hb
     cases ha;cases hb;exact hx
   · cases ha
 · rename_i hj;rw [if_neg hj] at hb;exact h.2 i a b ha hb⟩
section
variable {f:Nat→Option Nat} {σ:Nat→Nat} {n:Nat}
abbrev ArgN(σ:Nat→Nat)(n:Nat):C→C→Prop:=Arg σ n (fun _=>none)
theorem ArgN.d(x:D):ArgN σ n (.d x) (.d x):=.vw _ x (.d x)
theorem X.ren_ok(hf:∀l l',f l=some l'→σ l'=l∧l'<n){e:Env}(x:X):ArgN σ n (x.den e) ((x.ren f).den e)∧Each (ArgN σ n) (tupOf (x.den e)) (tupOf ((x.ren f).den e)) ∧
 Each (fun u v=>Each (ArgN σ n) (tupOf u) (tupOf v)) (tupOf (x.den e)) (tupOf ((x.ren f).den e)):=by
 induction x with
 | nil=>exact ⟨.tup _ _ rfl (by simp),.nil,⟨rfl,by simp [X.den,tupOf]⟩⟩
 | cons a b iha ihb=>
   have h1:=Each.cons iha.1 ihb.2.1
   exact ⟨.tup _ _ h1.1 h1.2,h1,Each.cons (A:=fun u v=>Each (ArgN σ n) (tupOf u) (tupOf v)) iha.2.1 ihb.2.2⟩
 | agg xs ih=>exact ⟨.agg _ _ ih.2.1.1 ih.2.1.2,.nil,⟨rfl,by simp [X.den,X.ren,tupOf]⟩⟩
 | tup xs ih=>exact ⟨.tup _ _ ih.2.1.1 ih.2.1.2,ih.2.1,ih.2.2⟩
 | ifc t x ih=>exact ⟨.ifc t _ _ ih.1,.nil,⟨rfl,by simp [X.den,X.ren,tupOf]⟩⟩
 | ptr l sz i j=>
   simp only [X.ren]
   cases h:f l with
   | none=>exact ⟨.dead _,.nil,⟨rfl,by simp [X.den,tupOf]⟩⟩
   | some l'=>
     obtain ⟨h1,h2⟩:=hf l l' h
     refine ⟨?_,.nil,⟨rfl,by simp [X.den,tupOf]⟩⟩
     have:=Arg.ptr (σ:=σ) (k:=n) (hv:=fun _=>none) l' sz (intOf (i.den e)).toNat j h2
     rw [h1] at this;exact this
 | osl l sz s k=>
   simp only [X.ren]
   cases h:f l with
   | none=>exact ⟨.dead _,.nil,⟨rfl,by simp [X.den,tupOf]⟩⟩
   | some l'=>
     obtain ⟨h1,h2⟩:=hf l l' h
     refine ⟨?_,.nil,⟨rfl,by simp [X.den,tupOf]⟩⟩
     have:=Arg.osl (σ:=σ) (k:=n) (hv:=fun _=>none) l' sz (intOf (s.den e)).toNat (intOf (k.den e)).toNat h2
     rw [h1] at this;exact this
 | fn g a b iha ihb=>exact ⟨.fn _ _ _ _ _ iha.2.1.1 ihb.2.1.1 iha.2.1.2 ihb.2.1.2,.nil,⟨rfl,by simp [X.den,X.ren,tupOf]⟩⟩
 | ite c x y _ ihx ihy=>
   simp only [X.ren,X.den]
   split
   · exact ihx
   · exact ihy
 | app a b iha ihb=>
   have h1:=iha.2.1.app ihb.2.1
   exact ⟨.tup _ _ h1.1 h1.2,h1,iha.2.2.app ihb.2.2⟩
 | upd r i j v ihr _ ihv=>
   have hl:(tupOf (r.den e)).length=(tupOf ((r.ren f).den e)).length:=ihr.2.1.1
   have key : Each (fun u v=>Each (ArgN σ n) (tupOf u) (tupOf v)∧ArgN σ n u v) ((tupOf (r.den e)).modify (intOf (i.den e)).toNat (fun c=>.tup ((tupOf c).set j (v.den e)))) ((tupOf ((r.ren f).den e)).modify (intOf (i.den e)).toNat (fun c=>.tup ((tupOf c).set j ((v.ren f).den e)))):=by
    refine ⟨by simp [hl],fun k a b ha hb=>?_⟩
    rw [List.getElem?_modify] at ha hb
    cases ha0:(tupOf (r.den e))[k]? with
    | none=>rw [ha0] at ha;cases ha
    | some a0=>
      cases hb0:(tupOf ((r.ren f).den e))[k]? with
      | none=>rw [hb0] at hb;cases hb
      | some b0=>
        rw [ha0] at ha;rw [hb0] at hb
        have h1:=ihr.2.2.2 k a0 b0 ha0 hb0
        have h2:=ihr.2.1.2 k a0 b0 ha0 hb0
        simp only [Option.map_eq_map,Option.map_some,Option.some.injEq] at ha hb
        subst ha hb
        by_cases hk:(intOf (i.den e)).toNat=k
        · simp only [hk,if_true]
          have h3:=h1.set ihv.1 j
          exact ⟨h3,.tup _ _ h3.1 h3.2⟩
        · simp only [hk,if_false]
          exact ⟨h1,h2⟩
   have k1:Each (ArgN σ n) (tupOf ((X.upd r i j v).den e)) (tupOf (((X.upd r i j v).ren f).den e)):=⟨key.1,fun k a b ha hb=>(key.2 k a b ha hb).2⟩
   exact ⟨.tup _ _ k1.1 k1.2,k1,⟨key.1,fun k a b ha hb=>(key.2 k a b ha hb).1⟩⟩
 | dead=>exact ⟨.dead _,.nil,⟨rfl,by simp [X.den,X.ren,tupOf]⟩⟩
 | rws cs j az=>
   have hd:∀c∈tupOf ((X.rws cs j az).den e),ArgN σ n c c∧Each (ArgN σ n) (tupOf c) (tupOf c):=by
    intro c hc
    obtain ⟨r,-,rfl⟩:=List.mem_map.1 hc
    have:Each (ArgN σ n) ((cs.row r).map .d) ((cs.row r).map .d):=.refl (fun x hx=>by obtain ⟨d,-,rfl⟩:=List.mem_map.1 hx;exact .d d)
    exact ⟨.tup _ _ this.1 this.2,this⟩
   have h1:Each (ArgN σ n) (tupOf ((X.rws cs j az).den e)) (tupOf ((X.rws cs j az).den e)):=.refl (fun c hc=>(hd c hc).1)
   exact ⟨.tup _ _ h1.1 h1.2,h1,.refl (A:=fun u v=>Each (ArgN σ n) (tupOf u) (tupOf v)) (fun c hc=>(hd c hc).2)⟩
 | rof y=>
   have hd:∀c∈tupOf ((X.rof y).den e),ArgN σ n c c∧Each (ArgN σ n) (tupOf c) (tupOf c):=by
    intro c hc
    obtain ⟨r,-,rfl⟩:=List.mem_map.1 hc
    have:Each (ArgN σ n) (r.map .d) (r.map .d):=.refl (fun x hx=>by obtain ⟨d,-,rfl⟩:=List.mem_map.1 hx;exact .d d)
    exact ⟨.tup _ _ this.1 this.2,this⟩
   have h1:Each (ArgN σ n) (tupOf ((X.rof y).den e)) (tupOf ((X.rof y).den e)):=.refl (fun c hc=>(hd c hc).1)
   exact ⟨.tup _ _ h1.1 h1.2,h1,.refl (A:=fun u v=>Each (ArgN σ n) (tupOf u) (tupOf v)) (fun c hc=>(hd c hc).2)⟩
 | _=>exact ⟨.d _,.nil,⟨rfl,by simp [X.den,X.ren,tupOf]⟩⟩
end
inductive Mt (σ:Nat→Nat) (n:Nat):C→C→Prop
 | arg (a f:C) (h:ArgN σ n a f):Mt σ n a f
 | nil (l sz s:Nat):Mt σ n (.d (.lit (.slice none 0 0))) (.osl l sz s 0)
 | agg (cs fs:List C) (hl:cs.length=fs.length) (h:∀(i:Nat) (a f:C),cs[i]? = some a→fs[i]? = some f→Mt σ n a f):Mt σ n (.agg cs) (.agg fs)
 | tup (cs fs:List C) (hl:cs.length=fs.length) (h:∀(i:Nat) (a f:C),cs[i]? = some a→fs[i]? = some f→Mt σ n a f):Mt σ n (.tup cs) (.tup fs)
 | ifc (t:TypeId) (a f:C) (h:Mt σ n a f):Mt σ n (.ifc t a) (.ifc t f)
 | fn (g:Fn) (xs ys xs' ys':List C) (hl:xs.length=xs'.length) (hl':ys.length=ys'.length) (h:∀(i:Nat) (a f:C),xs[i]? = some a→xs'[i]? = some f→Mt σ n a f) (h':∀(i:Nat) (a f:C),ys[i]? = some a→ys'[i]? = some f→Mt σ n a f) :
    Mt σ n (.fn g xs ys) (.fn g xs' ys')
theorem Each.mono{A B:C→C→Prop}(h:∀a b,A a b→B a b){xs ys:List C}(hx:Each A xs ys):Each B xs ys:=⟨hx.1,fun i a b h1 h2=>h a b (hx.2 i a b h1 h2)⟩
theorem Ent.renV{m n2:Nat}{s:St}{T2:List C}{H2:Hp}(σ:Nat→Nat)(V:Nat→Bool)(hl:s.T.length=T2.length)(hT:∀(i:Nat) (a f:C),s.T[i]? = some a→T2[i]? = some f→Mt σ n2 a f)
 (hH:∀l B,H2.get l=some B→l<n2∧((V l=true∧∃sz,B=.c sz [])∨(V l=false∧∃sz rows rows',s.H.get (σ l)=some (.c sz rows)∧B=.c sz rows'∧rows.length=rows'.length∧∀(i:Nat) (r r':List C),rows[i]? = some r→rows'[i]? = some r'→Each (Mt σ n2) r r')))
 (inj:∀l l' B B',H2.get l=some B→H2.get l'=some B'→V l=false→V l'=false→σ l=σ l'→l=l') (hid:∀l,l<m→σ l=l∧V l=false) (hV:∀l,V l=true→s.n≤σ l) (hm:m≤n2):Ent m s ⟨T2,H2,n2⟩:=fun ρ F RO w vs hA=>by
 have hro:roV F RO (fun _=>none)=RO:=by
  funext b
  refine propext ⟨fun h=>h.elim id (fun ⟨l,B,h,_⟩=>by cases h),.inl⟩
 let ρ':Pl:=fun l=>if l<n2 then (if V l then some ⟨0,0⟩ else ρ (σ l)) else none
 let F':Nat→List Nat:=fun l=>if V l then [] else F (σ l)
 have hle:∀l p,plR ρ σ n2 l=some p→ρ' l=some p:=fun l p h=>by
  unfold plR at h
  simp only [ρ']
  split at h
  · rename_i hl
    rw [if_pos hl]
    cases hv:V l with
    | false=>simpa using h
    | true=>exact absurd (hA.dom (σ l) (by rw [h];simp)) (Nat.not_lt.2 (hV l hv))
  · cases h
 have arg:∀{a f:C} {v:Value},Mt σ n2 a f→RelC ρ RO w a v→RelC ρ' RO w f v:=fun {a f v} h=>by
  have sub:∀{us cs fs:List C} {vs:List Value},cs.length=fs.length→vs.length=cs.length→(∀(i:Nat) (a f:C),cs[i]? = some a→fs[i]? = some f→∀v,RelC ρ RO w a v→RelC ρ' RO w f v)→(∀(i:Nat) (x:C) (v:Value),cs[i]? = some x→vs[i]? = some v→RelC ρ RO w x v) →
   ∀ (i:Nat) (x:C) (v:Value),fs[i]? = some x→vs[i]? = some v→RelC ρ' RO w x v:=fun {us cs fs vs} hl hl' ih rel i x v hx hv=>by
   have hi:i<cs.length:=by rw [hl];exact (List.getElem?_eq_some_iff.1 hx).1
   exact ih i _ x (List.getElem?_eq_getElem hi) hx v (rel i _ v (List.getElem?_eq_getElem hi) hv)
  induction h generalizing v with
  | arg a f h=>
    intro hv
    have:=h.rel (RO:=RO) hA.sim (fun l B h=>by cases h) v hv
    rw [hro] at this
    exact this.mono hle (fun _ h=>h) (fun _ _=>rfl)
  | nil l sz s=>
    intro hv
    have:=hv.lit_eq
    subst this
    exact .osln l sz s none
  | agg cs fs hl h ih=>
    intro hv
    cases hv with
    | agg cs vs hl' one rel=>exact .agg fs vs (hl'.trans hl) one (sub (us:=[]) hl hl' (fun i a f h1 h2 v=>ih i a f h1 h2) rel)
  | tup cs fs hl h ih=>
    intro hv
    cases hv with
    | tup cs vs hl' rel=>exact .tup fs vs (hl'.trans hl) (sub (us:=[]) hl hl' (fun i a f h1 h2 v=>ih i a f h1 h2) rel)
  | ifc t a f h ih=>
    intro hv
    cases hv with
    | ifc t x v h=>exact .ifc t f v (ih h)
  | fn g xs ys xs' ys' hl hl' h h' ih ih'=>
    intro hv
    cases hv with
    | fn f xs ys us vs hu hv rel rel'=>exact .fn g xs' ys' us vs (hu.trans hl) (hv.trans hl') (sub (us:=[]) hl hu (fun i a f h1 h2 v=>ih i a f h1 h2) rel) (sub (us:=[]) hl' hv (fun i a f h1 h2 v=>ih' i a f h1 h2) rel')
 have hblk:∀l B,H2.get l=some B→∃p,ρ' l=some p∧RelB ρ' RO w p B (F' l):=fun l B hB=>by
  obtain ⟨h1,h2⟩:=hH l B hB
  rcases h2 with ⟨hv,sz,rfl⟩|⟨hv,sz,rows,rows',h2,rfl,h3,h4⟩
  · exact ⟨⟨0,0⟩,by simp only [ρ',if_pos h1,hv,if_true],by simp only [F',hv,if_true];exact .v sz rfl⟩
  · obtain ⟨p,hp,hR⟩:=hA.sim.blk (σ l) _ h2
    refine ⟨p,by simp only [ρ',if_pos h1,hv,Bool.false_eq_true,if_false];exact hp,?_⟩
    simp only [F',hv,Bool.false_eq_true,if_false]
    generalize F (σ l)=G at hR
    cases hR with
    | v sz hs=>
      cases rows' with
      | nil=>exact .v sz hs
      | cons r rs=>cases h3
    | c sz rows cs t hb hs hr U cell one rel=>
      have hat:∀i j f,at2 rows' i j=some f→∃a,at2 rows i j=some a∧Mt σ n2 a f:=fun i j f hf=>by
       obtain ⟨hi,hj,rfl⟩:=at2_lt hf
       have hi':i<rows.length:=by rw [h3];exact hi
       obtain ⟨e1,e2⟩:=h4 i _ _ (List.getElem?_eq_getElem hi') (List.getElem?_eq_getElem hi)
       have hj':j<rows[i].length:=by rw [e1];exact hj
       exact ⟨_,at2_of hi' hj',e2 j _ _ (List.getElem?_eq_getElem hj') (List.getElem?_eq_getElem hj)⟩
      refine .c sz rows' cs t hb hs (fun r hr'=>?_) U (fun i j f hf=>?_) (fun i j f hf=>?_) (fun i j f hf=>?_)
      · obtain ⟨i,hi,rfl⟩:=List.getElem_of_mem hr'
        have hi':i<rows.length:=by rw [h3];exact hi
        rw [←(h4 i _ _ (List.getElem?_eq_getElem hi') (List.getElem?_eq_getElem hi)).1]
        exact hr _ (List.getElem_mem hi')
      · obtain ⟨a,ha,-⟩:=hat i j f hf;exact cell i j a ha
      · obtain ⟨a,ha,-⟩:=hat i j f hf;exact one i j a ha
      · obtain ⟨a,ha,hA'⟩:=hat i j f hf;exact arg hA' (rel i j a ha)
 have old:∀l B b,H2.get l=some B→b∈F' l→V l=false∧b∈F (σ l)∧∃B',s.H.get (σ l)=some B':=fun l B b hB hb=>by
  obtain ⟨-,h2⟩:=hH l B hB
  simp only [F'] at hb
  rcases h2 with ⟨hv,-⟩|⟨hv,sz,rows,rows',h2,-⟩
  · rw [hv] at hb;cases hb
  · rw [hv] at hb;exact ⟨hv,hb,_,h2⟩
 have hsim:Sim ρ' F' RO H2.get w:=⟨hblk,fun l l' B B' hne hl hl' b hb hb'=>by
  obtain ⟨v1,b1,B1,h1⟩:=old l B b hl hb
  obtain ⟨v2,b2,B2,h2⟩:=old l' B' b hl' hb'
  exact hA.sim.sep (σ l) (σ l') B1 B2 (fun e=>hne (inj l l' B B' hl hl' v1 v2 e)) h1 h2 b b1 b2,fun l B hl b hb=>by
  obtain ⟨v1,b1,B1,h1⟩:=old l B b hl hb
  exact hA.sim.nro _ B1 h1 b b1,hA.sim.ro⟩
 refine ⟨ρ',F',RO,⟨.refl _ _,fun l hl=>by simp only [ρ',if_pos (Nat.lt_of_lt_of_le hl hm),(hid l hl).2,Bool.false_eq_true,if_false,(hid l hl).1],fun _ h=>h,fun _ h=>.inl h,hsim,fun b ⟨l,B,hl,hb⟩=>.inl (by obtain ⟨v1,b1,B1,h1⟩:=old l B b hl hb;exact ⟨σ l,B1,h1,b1⟩)⟩,hsim,⟨hA.rel.len.trans hl,fun i c v hc hv=>?_⟩,fun l hl=>?_,hm⟩
 · have hi:i<s.T.length:=by rw [hl];exact (List.getElem?_eq_some_iff.1 hc).1
   exact arg (hT i _ c (List.getElem?_eq_getElem hi) hc) (hA.rel.rel i _ v (List.getElem?_eq_getElem hi) hv)
 · exact Classical.byContradiction fun h1=>hl (by simp only [ρ'];rw [if_neg h1])
theorem Ent.ren{m n2:Nat}{s:St}{T2:List C}{H2:Hp}(σ:Nat→Nat)(hl:s.T.length=T2.length)(hT:∀(i:Nat) (a f:C),s.T[i]? = some a→T2[i]? = some f→ArgN σ n2 a f)
 (hH:∀l B,H2.get l=some B→l<n2∧∃sz rows rows',s.H.get (σ l)=some (.c sz rows)∧B=.c sz rows'∧rows.length=rows'.length∧∀(i:Nat) (r r':List C),rows[i]? = some r→rows'[i]? = some r'→Each (ArgN σ n2) r r')
 (inj:∀l l',l<n2→l'<n2→σ l=σ l'→l=l') (hid:∀l,l<m→σ l=l) (hm:m≤n2):Ent m s ⟨T2,H2,n2⟩:=
 .renV σ (fun _=>false) hl (fun i a f h1 h2=>.arg _ _ (hT i a f h1 h2)) (fun l B hB=>by
  obtain ⟨h1,sz,rows,rows',h2,h3,h4,h5⟩:=hH l B hB
  exact ⟨h1,.inr ⟨rfl,sz,rows,rows',h2,h3,h4,fun i r r' hr hr'=>(h5 i r r' hr hr').mono fun _ _ h=>.arg _ _ h⟩⟩)
  (fun l l' B B' hB hB' _ _ he=>inj l l' (hH l B hB).1 (hH l' B' hB').1 he) (fun l hl=>⟨hid l hl,rfl⟩) (fun l h=>by cases h) hm
end Ow
namespace Ow
open Go Go.RowKit Go.Deep
def getX : List XB→Nat→Option XB
 | [],_=>none
 | b::H,l=>if l=b.l then some b else getX H l
theorem getX_den{e:Env}(H:List XB)(l:Nat):Hp.get (H.map (XB.den e)) l=(getX H l).map (fun b=>.c b.cs.len (rowsC (b.rows.den e))):=by
 induction H with
 | nil=>rfl
 | cons b H ih=>
   have h1:Hp.get ((b::H).map (XB.den e)) l=if l=b.l then some (.c b.cs.len (rowsC (b.rows.den e))) else Hp.get (H.map (XB.den e)) l:=Hp.get_cons _ _ _
   rw [h1]
   simp only [getX]
   by_cases hl:l=b.l
   · rw [if_pos hl,if_pos hl];rfl
   · rw [if_neg hl,if_neg hl];exact ih
def X.mkIteK(c x y:X):X:=if x==.dead||y==.dead then .dead
 else if x==.nilS then (match y.kd with|some (.sl cs)=>.mkIte c (.fz cs .nil) y|_=>.mkIte c x y)
 else if y==.nilS then (match x.kd with|some (.sl cs)=>.mkIte c x (.fz cs .nil)|_=>.mkIte c x y)
 else .mkIte c x y
theorem nil_to{e:Env}{cs:Ki}:To (X.nilS.den e) ((X.fz cs .nil).den e):=.inr (.inr ⟨rfl,_,rfl⟩)
theorem To.refl{a:C}:To a a:=.inr (.inl rfl)
theorem X.mkIteK_to{e:Env}{c x y:X}:To (if boolOf (c.den e) then x.den e else y.den e) ((mkIteK c x y).den e):=by
 unfold X.mkIteK
 by_cases h1:(x==.dead||y==.dead)=true
 · rw [if_pos h1];exact .inl rfl
 · rw [if_neg h1]
   by_cases h2:(x==.nilS)=true
   · rw [if_pos h2]
     have h2:=beq_iff_eq.1 h2
     subst h2
     cases y.kd with
     | none=>simp only [X.den_ite];exact .refl
     | some k=>cases k<;>simp only [X.den_ite]<;>first|exact .refl|(split;exact nil_to;exact .refl)
   · rw [if_neg h2]
     by_cases h3:(y==.nilS)=true
     · rw [if_pos h3]
       have h3:=beq_iff_eq.1 h3
       subst h3
       cases x.kd with
       | none=>simp only [X.den_ite];exact .refl
       | some k=>cases k<;>simp only [X.den_ite]<;>first|exact .refl|(split;exact .refl;exact nil_to)
     · rw [if_neg h3,X.den_ite];exact .refl
def addP(a b:Nat)(acc:List (Nat×Nat)):List (Nat×Nat):=if acc.any (fun p=>p.1==a||p.2==b) then acc else acc++[(a,b)]
def prs : X→X→List (Nat×Nat)→List (Nat×Nat)
 | .cons a b,y,acc=>match y with | .cons a' b'=>prs b b' (prs a a' acc)|_=>acc
 | .agg a,y,acc=>match y with | .agg a'=>prs a a' acc|_=>acc
 | .tup a,y,acc=>match y with | .tup a'=>prs a a' acc|_=>acc
 | .ifc _ a,y,acc=>match y with | .ifc _ a'=>prs a a' acc|_=>acc
 | .fn _ a b,y,acc=>match y with | .fn _ a' b'=>prs b b' (prs a a' acc)|_=>acc
 | .ptr l _ _ _,y,acc=>match y with | .ptr l' _ _ _=>addP l l' acc|_=>acc
 | .osl l _ _ _,y,acc=>match y with | .osl l' _ _ _=>addP l l' acc|_=>acc
 | .app a b,y,acc=>match y with | .app a' b'=>prs b b' (prs a a' acc)|_=>acc
 | _,_,acc=>acc
def liveX(H:List XB):X→Bool
 | .ptr l _ _ _=>(getX H l).isSome
 | .osl l _ _ _=>(getX H l).isSome
 | .dead=>false
 | _=>true
def prsL(s t:List XB):List X→List X→List (Nat×Nat)→List (Nat×Nat)
 | .dead::.dead::.dead::.dead::.dead::.dead::.dead::.dead::xs,_::_::_::_::_::_::_::_::ys,acc=>prsL s t xs ys acc
 | .dead::xs,_::ys,acc=>prsL s t xs ys acc
 | x::xs,y::ys,acc=>prsL s t xs ys (if liveX s x&&liveX t y then prs x y acc else acc)
 | _,_,acc=>acc
def prsB(s t:List XB):Nat→Nat→List (Nat×Nat)→List (Nat×Nat)
 | 0,_,acc=>acc
 | f + 1,k,acc=>match acc[k]? with
   | none=>acc
   | some (a,b)=>prsB s t f (k+1) (match getX s a,getX t b with|some p,some q=>prs p.rows q.rows acc|_,_=>acc)
def pairs(m:Nat)(s t:Sx):List (Nat×Nat):=prsB s.H t.H (s.H.length+t.H.length+m+1) 0 (prsL s.H t.H s.T t.T ((List.range m).map (fun l=>(l,l))))
def nd : List Nat→Bool
 | []=>true
 | a::l=>!l.contains a&&nd l
theorem nd_ok : ∀{l:List Nat},nd l=true→l.Nodup:=by
 intro l
 induction l with
 | nil=>intro _;exact List.nodup_nil
 | cons a l ih=>
   intro h
   simp only [nd,Bool.and_eq_true,Bool.not_eq_true',List.contains_eq_mem,decide_eq_false_iff_not] at h
   exact List.nodup_cons.2 ⟨h.1,ih h.2⟩
def pairsCk(m:Nat)(acc:List (Nat×Nat)):Bool:=nd (acc.map (·.1))&&nd (acc.map (·.2))&&(List.range m).all (fun l=>acc[l]? == some (l,l))&&decide (m≤acc.length)
def fS(acc:List (Nat×Nat))(l:Nat):Option Nat:=acc.findIdx? (fun p=>p.1==l)
def fT(acc:List (Nat×Nat))(l:Nat):Option Nat:=acc.findIdx? (fun p=>p.2==l)
def sS(acc:List (Nat×Nat))(k:Nat):Nat:=(acc.getD k (0,0)).1
def sT(acc:List (Nat×Nat))(k:Nat):Nat:=(acc.getD k (0,0)).2
structure PairsOk (m:Nat) (acc:List (Nat×Nat)) (f:Nat→Option Nat) (σ:Nat→Nat):Prop where
 f : ∀l l',f l=some l'→σ l'=l∧l'<acc.length
 inj:∀l l',l<acc.length→l'<acc.length→σ l=σ l'→l=l'
 hid:∀l,l<m→σ l=l
 le:m≤acc.length
theorem nd_inj{g:Nat×Nat→Nat}{acc:List (Nat×Nat)}(h:(acc.map g).Nodup){l l':Nat}(hl:l<acc.length)(hl':l'<acc.length)(he:g (acc.getD l (0,0))=g (acc.getD l' (0,0))):l=l':=by
 have e1:acc.getD l (0,0)=acc[l]:=by simp [List.getD_eq_getElem?_getD,hl]
 have e2:acc.getD l' (0,0)=acc[l']:=by simp [List.getD_eq_getElem?_getD,hl']
 rw [e1,e2] at he
 have hp:=List.pairwise_iff_getElem.1 h
 rcases Nat.lt_trichotomy l l' with h1|h1|h1
 · exact absurd (by rw [List.getElem_map,List.getElem_map];exact he) (hp l l' (by simpa using hl) (by simpa using hl') h1)
 · exact h1
 · exact absurd (by rw [List.getElem_map,List.getElem_map];exact he.symm) (hp l' l (by simpa using hl') (by simpa using hl) h1)
theorem pairsCk_ok{m:Nat}{acc:List (Nat×Nat)}(h:pairsCk m acc=true):PairsOk m acc (fS acc) (sS acc)∧PairsOk m acc (fT acc) (sT acc):=by
 unfold pairsCk at h
 simp only [Bool.and_eq_true,List.all_eq_true,beq_iff_eq,List.mem_range,decide_eq_true_eq] at h
 obtain ⟨⟨⟨h1,h2⟩,h3⟩,h4⟩:=h
 have hid:∀l,l<m→acc.getD l (0,0)=(l,l):=fun l hl=>by rw [List.getD_eq_getElem?_getD,h3 l hl];rfl
 constructor
 · refine ⟨fun l l' hf=>?_,fun l l' hl hl' he=>nd_inj (nd_ok h1) hl hl' he,fun l hl=>by unfold sS;rw [hid l hl],h4⟩
   obtain ⟨hl,hp,-⟩:=List.findIdx?_eq_some_iff_getElem.1 hf
   refine ⟨?_,hl⟩
   unfold sS
   rw [List.getD_eq_getElem?_getD,List.getElem?_eq_getElem hl]
   exact beq_iff_eq.1 hp
 · refine ⟨fun l l' hf=>?_,fun l l' hl hl' he=>nd_inj (nd_ok h2) hl hl' he,fun l hl=>by unfold sT;rw [hid l hl],h4⟩
   obtain ⟨hl,hp,-⟩:=List.findIdx?_eq_some_iff_getElem.1 hf
   refine ⟨?_,hl⟩
   unfold sT
   rw [List.getD_eq_getElem?_getD,List.getElem?_eq_getElem hl]
   exact beq_iff_eq.1 hp
theorem To.argN{σ:Nat→Nat}{n:Nat}{a b f:C}(h:ArgN σ n a b)(ht:To b f):ArgN σ n a f:=by
 rcases ht with rfl|rfl|⟨rfl,sz,rfl⟩
 · exact .dead a
 · exact h
 · cases h with
   | vw a x h=>
     cases h with
     | d x=>exact .vw _ _ (.nil sz)
def X.isDead : X→Bool
 | .dead=>true
 | _=>false
def X.mkIteR(c:X)(f g:Nat→Option Nat)(x y:X):X:=match x.isDead with
 | true=>.dead
 | false=>match y.isDead with
   | true=>.dead
   | false=>X.mkIteK c (x.ren f) (y.ren g)
theorem X.mkIteR_to{e:Env}{c:X}{f g:Nat→Option Nat}{x y:X}:To (if boolOf (c.den e) then (x.ren f).den e else (y.ren g).den e) ((mkIteR c f g x y).den e):=by
 have hd:∀a:C,To a (X.dead.den e):=fun a=>.inl rfl
 unfold X.mkIteR
 generalize x.isDead=p
 generalize y.isDead=q
 cases p
 · cases q
   · exact X.mkIteK_to
   · exact hd _
 · exact hd _
def mrgT(c:X)(f g:Nat→Option Nat):List X→List X→List X
 | x::xs,y::ys=>X.mkIteR c f g x y::mrgT c f g xs ys
 | _,_=>[]
theorem mrgT_spec{e:Env}{c:X}{f g:Nat→Option Nat}:∀{xs ys:List X},xs.length=ys.length→(mrgT c f g xs ys).length=xs.length ∧
 ∀ (i:Nat) (x y z:X),xs[i]? = some x→ys[i]? = some y→(mrgT c f g xs ys)[i]? = some z→To (if boolOf (c.den e) then (x.ren f).den e else (y.ren g).den e) (z.den e):=by
 intro xs
 induction xs with
 | nil=>intro ys h;exact ⟨rfl,fun i x y z h1=>by simp at h1⟩
 | cons x xs ih=>
   intro ys h
   cases ys with
   | nil=>cases h
   | cons y ys=>
     obtain ⟨h1,h2⟩:=ih (Nat.succ.inj h)
     refine ⟨by simp [mrgT,h1],fun i x' y' z hx hy hz=>?_⟩
     cases i with
     | zero=>simp only [mrgT,List.getElem?_cons_zero,Option.some.injEq] at hx hy hz;subst hx hy hz;exact X.mkIteR_to
     | succ i=>simp only [mrgT,List.getElem?_cons_succ] at hx hy hz;exact h2 i x' y' z hx hy hz
def mrgH(c:X)(f g:Nat→Option Nat)(s t:List XB):Nat→List (Nat×Nat)→List XB
 | _,[]=>[]
 | k,(a,b)::ps=>match getX s a,getX t b with
   | some p,some q=>if p.cs==q.cs then ⟨k,p.cs,X.mkIte c (p.rows.ren f) (q.rows.ren g)⟩::mrgH c f g s t (k+1) ps else mrgH c f g s t (k+1) ps
   | _,_=>mrgH c f g s t (k+1) ps
theorem mrgH_spec{e:Env}{c:X}{f g:Nat→Option Nat}{s t:List XB}:∀(ps:List (Nat×Nat)) (k l:Nat) (B:Blk),Hp.get ((mrgH c f g s t k ps).map (XB.den e)) l=some B →
 ∃ i a b p q,l=k+i∧ps[i]? = some (a,b)∧getX s a=some p∧getX t b=some q∧p.cs=q.cs∧B=.c p.cs.len (rowsC ((X.mkIte c (p.rows.ren f) (q.rows.ren g)).den e)):=by
 intro ps
 induction ps with
 | nil=>intro k l B h;cases h
 | cons x ps ih=>
   intro k l B h
   obtain ⟨a,b⟩:=x
   have next:Hp.get ((mrgH c f g s t (k+1) ps).map (XB.den e)) l=some B→∃i a' b' p q,l=k+i∧((a,b)::ps)[i]? = some (a',b')∧getX s a'=some p∧getX t b'=some q∧p.cs=q.cs∧B=.c p.cs.len (rowsC ((X.mkIte c (p.rows.ren f) (q.rows.ren g)).den e)):=by
    intro h
    obtain ⟨i,a',b',p,q,h1,h2,h3⟩:=ih (k+1) l B h
    exact ⟨i+1,a',b',p,q,by omega,by simpa using h2,h3⟩
   simp only [mrgH] at h
   split at h
   · rename_i p q hp hq
     split at h
     · rename_i hc
       rw [List.map_cons,Hp.get_cons] at h
       split at h
       · rename_i hl
         cases h
         exact ⟨0,a,b,p,q,hl,rfl,hp,hq,beq_iff_eq.1 hc,rfl⟩
       · exact next h
     · exact next h
   · exact next h
def iteS(m:Nat)(c:X)(s t:Sx):Option Sx:=
 let acc:=pairs m s t
 if s.T.length=t.T.length∧pairsCk m acc=true then some ⟨mrgT c (fS acc) (fT acc) s.T t.T,mrgH c (fS acc) (fT acc) s.H t.H 0 acc,acc.length⟩ else none
theorem iteS_den{e:Env}{m:Nat}{c:X}{s t r:Sx}(h:iteS m c s t=some r):Dw m (if boolOf (c.den e) then s.den e else t.den e) (r.den e):=by
 unfold iteS at h
 simp only at h
 generalize pairs m s t=acc at h
 split at h
 · rename_i hc
   cases h
   obtain ⟨hS,hT⟩:=pairsCk_ok hc.2
   obtain ⟨h1,h2⟩:=mrgT_spec (e:=e) (c:=c) (f:=fS acc) (g:=fT acc) hc.1
   have h3:=mrgH_spec (e:=e) (c:=c) (f:=fS acc) (g:=fT acc) (s:=s.H) (t:=t.H) acc 0
   have key:∀(u:Sx) (f:Nat→Option Nat) (σ:Nat→Nat),PairsOk m acc f σ→u.T.length=s.T.length →
    (∀(i:Nat) (x z:X),u.T[i]? = some x→(mrgT c (fS acc) (fT acc) s.T t.T)[i]? = some z→To ((x.ren f).den e) (z.den e)) →
    (∀l B,Hp.get ((mrgH c (fS acc) (fT acc) s.H t.H 0 acc).map (XB.den e)) l=some B→l<acc.length∧∃p,getX u.H (σ l)=some p∧B=.c p.cs.len (rowsC ((p.rows.ren f).den e))) →
    Dw m (u.den e) ((⟨mrgT c (fS acc) (fT acc) s.T t.T,mrgH c (fS acc) (fT acc) s.H t.H 0 acc,acc.length⟩:Sx).den e):=by
    intro u f σ hP hlen hTo hHp
    refine Ent.ren σ (by simp only [Sx.den,List.length_map];omega) (fun i a b ha hb=>?_) (fun l B hB=>?_) hP.inj hP.hid hP.le
    · simp only [Sx.den,List.getElem?_map,Option.map_eq_some_iff] at ha hb
      obtain ⟨x,hx,rfl⟩:=ha
      obtain ⟨z,hz,rfl⟩:=hb
      exact To.argN (X.ren_ok hP.f x).1 (hTo i x z hx hz)
    · obtain ⟨hl,p,hp,rfl⟩:=hHp l B hB
      obtain ⟨e1,e2⟩:=(X.ren_ok hP.f (e:=e) p.rows).2.2
      refine ⟨hl,_,rowsC (p.rows.den e),_,by show Hp.get (u.H.map (XB.den e)) (σ l)=_;rw [getX_den,hp];rfl,rfl,by simp [rowsC,e1],fun i r r' hr hr'=>?_⟩
      simp only [rowsC,List.getElem?_map,Option.map_eq_some_iff] at hr hr'
      obtain ⟨q,hq,rfl⟩:=hr
      obtain ⟨q',hq',rfl⟩:=hr'
      exact e2 i q q' hq hq'
   have hsl:∀i a b,acc[i]? = some (a,b)→sS acc i=a∧sT acc i=b∧i<acc.length:=fun i a b hi=>by
    refine ⟨by unfold sS;rw [List.getD_eq_getElem?_getD,hi];rfl,by unfold sT;rw [List.getD_eq_getElem?_getD,hi];rfl,(List.getElem?_eq_some_iff.1 hi).1⟩
   cases hb:boolOf (c.den e)<;>simp only [hb,if_true,if_false,Bool.false_eq_true] at h2 ⊢
   · refine key t (fT acc) (sT acc) hT hc.1.symm (fun i y z hy hz=>?_) (fun l B hB=>?_)
     · have hi:i<s.T.length:=by rw [hc.1];exact (List.getElem?_eq_some_iff.1 hy).1
       exact h2 i _ y z (List.getElem?_eq_getElem hi) hy hz
     · obtain ⟨i,a,b,p,q,hl,hi,hp,hq,hcs,rfl⟩:=h3 l B hB
       rw [Nat.zero_add] at hl
       subst hl
       obtain ⟨e1,e2,e3⟩:=hsl _ _ _ hi
       refine ⟨e3,q,by rw [e2];exact hq,?_⟩
       rw [hcs,X.den_ite,hb];rfl
   · refine key s (fS acc) (sS acc) hS rfl (fun i x z hx hz=>?_) (fun l B hB=>?_)
     · have hi:i<t.T.length:=by rw [←hc.1];exact (List.getElem?_eq_some_iff.1 hx).1
       exact h2 i x _ z hx (List.getElem?_eq_getElem hi) hz
     · obtain ⟨i,a,b,p,q,hl,hi,hp,hq,hcs,rfl⟩:=h3 l B hB
       rw [Nat.zero_add] at hl
       subst hl
       obtain ⟨e1,e2,e3⟩:=hsl _ _ _ hi
       refine ⟨e3,p,by rw [e1];exact hp,?_⟩
       rw [X.den_ite,hb];rfl
 · cases h
inductive Ex where
 | nrm|ret|exit (id:Nat)
 deriving DecidableEq
def Ex.to : Ex→Exit | .nrm=>.normal | .ret=>.ret | .exit id=>.exit id
inductive R where
 | out (x:Ex) (s:Sx)
 | br (b:X) (r1 r2:R)
 | side (c:X) (r:R)
 | els (r1 r2:R)
 | none
 | stuck (os:List Oper) (s:Sx)
 | lp (j:Nat) (s h:Sx) (r:R)
 | back (j:Nat) (s:Sx)
structure LpI where
 X : Type
 J : Env→X→Prop
 v : Env→X→Env
 μ : Env→X→Nat
def Env.over(e:Env)(j:Nat)(w:Env):Env:=
 ⟨fun i az=>if i / 100000000=j then w.I (i % 100000000) az else e.I i az,fun i az=>if i / 100000000=j then w.B (i % 100000000) az else e.B i az,
  fun i az=>if i / 100000000=j then w.S (i % 100000000) az else e.S i az,fun i az=>if i / 100000000=j then w.L (i % 100000000) az else e.L i az⟩
def Like(e0 e:Env):Prop:=∀i,i<100000000→e.I i=e0.I i∧e.B i=e0.B i∧e.S i=e0.S i∧e.L i=e0.L i
def lput(lps:Nat→LpI)(j:Nat)(e:Env)(x:(lps j).X):Env:=e.over (j+1) ((lps j).v e x)
theorem Like.refl(e:Env):Like e e:=fun _ _=>⟨rfl,rfl,rfl,rfl⟩
theorem Like.over{j:Nat}{e0 e w:Env}(h:Like e0 e):Like e0 (e.over (j+1) w):=fun i hi=>by
 have hne:¬i / 100000000=j+1:=by omega
 have:=h i hi
 simp only [Env.over,hne,if_false]
 exact this
structure Cx where
 j : Nat
 e : Env
 K : Env→Nat→Prop
 μ : Nat
 h : Sx
section
variable (P:Program) (m:Nat) (lps:Nat→LpI)
def R.Holds : R→Env→List Cx→Post→Prop
 | .out x s,e,_,Q=>Q x.to (s.den e)
 | .br b r1 r2,e,cx,Q=>(b.tr e→r1.Holds e cx Q)∧(¬b.tr e→r2.Holds e cx Q)
 | .side c r,e,cx,Q=>c.tr e∧(c.tr e→r.Holds e cx Q)
 | .els r1 r2,e,cx,Q=>r1.Holds e cx Q∧r2.Holds e cx Q
 | .none,_,_,_=>True
 | .stuck _ _,_,_,_=>False
 | .lp j s h r,e,cx,Q=>∃K:Env→Nat→Prop,(∃w n,K w n∧Ent m (s.den e) (h.den (e.over (j+1) w)))∧∀w n,K w n→r.Holds (e.over (j+1) w) (⟨j,e,K,n,h⟩::cx) Q
 | .back j s,e,cx,_=>∃c,cx.find? (fun c=>c.j==j)=some c∧∃w n,c.K w n∧n<c.μ∧Ent m (s.den e) (c.h.den (c.e.over (j+1) w))
end
def R.live(e:Env):R→Prop
 | .br b r1 r2=>(b.tr e∧r1.live e)∨(¬b.tr e∧r2.live e)
 | .side _ r=>r.live e
 | .els r1 r2=>r1.live e∨r2.live e
 | .none=>False
 | _=>True
def R.excl(e:Env):R→Prop
 | .br b r1 r2=>(b.tr e→r1.excl e)∧(¬b.tr e→r2.excl e)
 | .side _ r=>r.excl e
 | .els r1 r2=>r1.excl e∧r2.excl e∧(r1.live e→¬r2.live e)
 | .lp _ _ _ r=>∀e',r.excl e'
 | _=>True
inductive Xt where
 | none
 | one (c:X) (s:Sx)
 | many
def Xt.br(m:Nat)(b:X):Xt→Xt→Xt
 | .none,.none=>.none
 | .one c s,.none=>.one (X.mkAnd b c) s
 | .none,.one c s=>.one (X.mkAnd (X.mkNot b) c) s
 | .one c1 s1,.one c2 s2=>match iteS m b s1 s2 with|some s=>.one (X.mkIf b c1 c2) s|Option.none=>.many
 | _,_=>.many
def Xt.els(m:Nat):Xt→Xt→Xt
 | .none,y=>y
 | x,.none=>x
 | .one c1 s1,.one c2 s2=>match iteS m c1 s1 s2 with|some s=>.one (X.mkOr c1 c2) s|Option.none=>.many
 | _,_=>.many
def R.has(x:Ex):R→Bool
 | .out y _=>y=x
 | .br _ r1 r2=>r1.has x||r2.has x
 | .side _ r=>r.has x
 | .els r1 r2=>r1.has x||r2.has x
 | .lp _ _ _ r=>r.has x
 | _=>false
def R.ext(m:Nat)(x:Ex):R→Xt
 | .out y s=>if y=x then .one (.bool true) s else .none
 | .br b r1 r2=>.br m b (r1.ext m x) (r2.ext m x)
 | .side _ r=>r.ext m x
 | .els r1 r2=>.els m (r1.ext m x) (r2.ext m x)
 | .lp _ _ _ r=>if r.has x then .many else .none
 | _=>.none
def R.mkBr(b:X)(r1 r2:R):R:=match r1,r2 with
 | .none,.none=>.none
 | r1,r2=>.br b r1 r2
def R.mkEls(r1 r2:R):R:=match r1,r2 with
 | .none,r=>r
 | r,.none=>r
 | r1,r2=>.els r1 r2
def R.prune(x:Ex):R→R
 | .out y s=>if y=x then .none else .out y s
 | .br b r1 r2=>.mkBr b (r1.prune x) (r2.prune x)
 | .side c r=>.side c (r.prune x)
 | .els r1 r2=>.mkEls (r1.prune x) (r2.prune x)
 | r=>r
section
variable {P:Program} {m:Nat} {lps:Nat→LpI} {e:Env} {cx:List Cx}
theorem R.holds_mkBr{b:X}{r1 r2:R}{Q:Post}:(mkBr b r1 r2).Holds m e cx Q↔(R.br b r1 r2).Holds m e cx Q:=by
 unfold R.mkBr;split<;>simp [R.Holds]
theorem R.live_mkBr{b:X}{r1 r2:R}:(mkBr b r1 r2).live e↔(R.br b r1 r2).live e:=by
 unfold R.mkBr;split<;>simp [R.live]
theorem R.excl_mkBr{b:X}{r1 r2:R}:(mkBr b r1 r2).excl e↔(R.br b r1 r2).excl e:=by
 unfold R.mkBr;split<;>simp [R.excl]
theorem R.holds_mkEls{r1 r2:R}{Q:Post}:(mkEls r1 r2).Holds m e cx Q↔(R.els r1 r2).Holds m e cx Q:=by
 unfold R.mkEls;split<;>simp [R.Holds]
theorem R.live_mkEls{r1 r2:R}:(mkEls r1 r2).live e↔(R.els r1 r2).live e:=by
 unfold R.mkEls;split<;>simp [R.live]
theorem R.excl_mkEls{r1 r2:R}:(mkEls r1 r2).excl e↔(R.els r1 r2).excl e:=by
 unfold R.mkEls;split<;>simp [R.excl,R.live]
theorem R.prune_live{x:Ex}{r:R}(h:(r.prune x).live e):r.live e:=by
 induction r with
 | br b r1 r2 ih1 ih2=>
   rw [R.prune,R.live_mkBr] at h
   rcases h with ⟨h1,h2⟩|⟨h1,h2⟩
   · exact .inl ⟨h1,ih1 h2⟩
   · exact .inr ⟨h1,ih2 h2⟩
 | side c r ih=>exact ih h
 | els r1 r2 ih1 ih2=>
   rw [R.prune,R.live_mkEls] at h
   rcases h with h|h
   · exact .inl (ih1 h)
   · exact .inr (ih2 h)
 | none=>exact h
 | _=>exact trivial
theorem R.prune_excl{x:Ex}{r:R}(h:r.excl e):(r.prune x).excl e:=by
 induction r with
 | out y s=>unfold R.prune;split<;>trivial
 | br b r1 r2 ih1 ih2=>rw [R.prune,R.excl_mkBr];exact ⟨fun hb=>ih1 (h.1 hb),fun hb=>ih2 (h.2 hb)⟩
 | side c r ih=>exact ih h
 | els r1 r2 ih1 ih2=>rw [R.prune,R.excl_mkEls];exact ⟨ih1 h.1,ih2 h.2.1,fun h1 h2=>h.2.2 (prune_live h1) (prune_live h2)⟩
 | _=>exact h
theorem R.has_mono{x:Ex}{Q Q':Post}(hQ:∀y:Ex,y≠x→∀t,Q y.to t→Q' y.to t){r:R}:∀{e:Env} {cx:List Cx},r.has x=false→r.Holds m e cx Q→r.Holds m e cx Q':=by
 induction r with
 | out y s=>intro e cx h h2;exact hQ y (by simpa [R.has] using h) _ h2
 | br b r1 r2 ih1 ih2=>intro e cx h h2;simp only [R.has,Bool.or_eq_false_iff] at h;exact ⟨fun hb=>ih1 h.1 (h2.1 hb),fun hb=>ih2 h.2 (h2.2 hb)⟩
 | side c r ih=>intro e cx h h2;exact ⟨h2.1,fun hc=>ih h (h2.2 hc)⟩
 | els r1 r2 ih1 ih2=>intro e cx h h2;simp only [R.has,Bool.or_eq_false_iff] at h;exact ⟨ih1 h.1 h2.1,ih2 h.2 h2.2⟩
 | lp j s g r ih=>intro e cx h h2;obtain ⟨K,a,b⟩:=h2;exact ⟨K,a,fun w n hx=>ih h (b w n hx)⟩
 | _=>intro e cx h h2;exact h2
def R.ExtOk(m:Nat)(e:Env)(r:R)(x:Ex)(c:X)(s:Sx):Prop:=
 (c.tr e→r.live e∧¬(r.prune x).live e) ∧
 ∀ (cx:List Cx) (Q Q':Post),(∀y:Ex,y≠x→∀t,Q y.to t→Q' y.to t)→(∀t t',Dw m t t'→Q' x.to t'→Q' x.to t)→(r.prune x).Holds m e cx Q→(c.tr e→Q' x.to (s.den e))→r.Holds m e cx Q'
def R.NoneOk(m:Nat)(e:Env)(r:R)(x:Ex):Prop:=
 ∀ (cx:List Cx) (Q Q':Post),(∀y:Ex,y≠x→∀t,Q y.to t→Q' y.to t)→(r.prune x).Holds m e cx Q→r.Holds m e cx Q'
theorem R.ext_ok{x:Ex}{r:R}:r.excl e→(r.ext m x=.none→R.NoneOk m e r x∧((r.prune x).live e↔r.live e))∧∀c s,r.ext m x=.one c s→R.ExtOk m e r x c s:=by
 induction r with
 | out y t=>
   intro _
   by_cases hy:y=x
   · subst hy
     simp only [R.ext,if_true]
     refine ⟨fun h=>(by cases h),fun c s h=>?_⟩
     cases h
     refine ⟨fun _=>⟨trivial,by simp [R.prune,R.live]⟩,fun cx Q Q' _ _ _ hq=>hq X.tr_true⟩
   · simp only [R.ext,if_neg hy]
     refine ⟨fun _=>⟨fun cx Q Q' hQ h=>?_,by simp [R.prune,hy,R.live]⟩,fun c s h=>(by cases h)⟩
     rw [R.prune,if_neg hy] at h
     exact hQ y hy _ h
 | br b r1 r2 ih1 ih2=>
   intro hx
   have a1:=fun h=>(ih1 (hx.1 h)).1
   have a2:=fun h=>(ih2 (hx.2 h)).1
   have b1:=fun h=>(ih1 (hx.1 h)).2
   have b2:=fun h=>(ih2 (hx.2 h)).2
   refine ⟨fun h=>?_,fun c s h=>?_⟩
   · simp only [R.ext] at h
     cases h1:r1.ext m x<;>cases h2:r2.ext m x<;>simp only [h1,h2,Xt.br,reduceCtorEq] at h
     · refine ⟨fun cx Q Q' hQ hp=>?_,?_⟩
       · rw [R.prune,R.holds_mkBr] at hp
         exact ⟨fun hb=>(a1 hb h1).1 cx Q Q' hQ (hp.1 hb),fun hb=>(a2 hb h2).1 cx Q Q' hQ (hp.2 hb)⟩
       · rw [R.prune,R.live_mkBr]
         by_cases hb:b.tr e
         · simp only [R.live,hb,true_and,not_true,false_and,or_false];exact (a1 hb h1).2
         · simp only [R.live,hb,false_and,not_false_eq_true,true_and,false_or];exact (a2 hb h2).2
     · split at h<;>cases h
   · simp only [R.ext] at h
     cases h1:r1.ext m x<;>cases h2:r2.ext m x<;>simp only [h1,h2,Xt.br,reduceCtorEq] at h
     · rename_i c2 s2
       cases h
       refine ⟨fun hc=>?_,fun cx Q Q' hQ hW hp hq=>?_⟩
       · rw [X.tr_and,X.tr_not] at hc
         obtain ⟨k1,k2⟩:=(b2 hc.1 c2 s h2).1 hc.2
         rw [R.prune,R.live_mkBr]
         exact ⟨.inr ⟨hc.1,k1⟩,by simp only [R.live,hc.1,false_and,false_or,not_and];exact fun _=>k2⟩
       · rw [R.prune,R.holds_mkBr] at hp
         exact ⟨fun hb=>(a1 hb h1).1 cx Q Q' hQ (hp.1 hb),fun hb=>(b2 hb c2 s h2).2 cx Q Q' hQ hW (hp.2 hb) (fun hc=>hq (by rw [X.tr_and,X.tr_not];exact ⟨hb,hc⟩))⟩
     · rename_i c1 s1
       cases h
       refine ⟨fun hc=>?_,fun cx Q Q' hQ hW hp hq=>?_⟩
       · rw [X.tr_and] at hc
         obtain ⟨k1,k2⟩:=(b1 hc.1 c1 s h1).1 hc.2
         rw [R.prune,R.live_mkBr]
         exact ⟨.inl ⟨hc.1,k1⟩,by simp only [R.live,hc.1,true_and,not_true,false_and,or_false];exact k2⟩
       · rw [R.prune,R.holds_mkBr] at hp
         exact ⟨fun hb=>(b1 hb c1 s h1).2 cx Q Q' hQ hW (hp.1 hb) (fun hc=>hq (by rw [X.tr_and];exact ⟨hb,hc⟩)),fun hb=>(a2 hb h2).1 cx Q Q' hQ (hp.2 hb)⟩
     · rename_i c1 s1 c2 s2
       split at h
       · rename_i s' hs
         cases h
         have hd:=iteS_den (e:=e) hs
         refine ⟨fun hc=>?_,fun cx Q Q' hQ hW hp hq=>?_⟩
         · rw [X.tr_if] at hc
           rw [R.prune,R.live_mkBr]
           rcases hc with ⟨hb,hc⟩|⟨hb,hc⟩
           · obtain ⟨k1,k2⟩:=(b1 hb c1 s1 h1).1 hc
             exact ⟨.inl ⟨hb,k1⟩,by simp only [R.live,hb,true_and,not_true,false_and,or_false];exact k2⟩
           · obtain ⟨k1,k2⟩:=(b2 hb c2 s2 h2).1 hc
             exact ⟨.inr ⟨hb,k1⟩,by simp only [R.live,hb,false_and,false_or,not_and];exact fun _=>k2⟩
         · rw [R.prune,R.holds_mkBr] at hp
           refine ⟨fun hb=>(b1 hb c1 s1 h1).2 cx Q Q' hQ hW (hp.1 hb) (fun hc=>?_),fun hb=>(b2 hb c2 s2 h2).2 cx Q Q' hQ hW (hp.2 hb) (fun hc=>?_)⟩
           · have:=hq (by rw [X.tr_if];exact .inl ⟨hb,hc⟩)
             rw [if_pos (show boolOf (b.den e)=true from hb)] at hd
             exact hW _ _ hd this
           · have:=hq (by rw [X.tr_if];exact .inr ⟨hb,hc⟩)
             rw [if_neg (show ¬boolOf (b.den e)=true from hb)] at hd
             exact hW _ _ hd this
       · cases h
 | side c0 r ih=>
   intro hx
   obtain ⟨a1,b1⟩:=ih hx
   refine ⟨fun h=>?_,fun c s h=>?_⟩
   · obtain ⟨k1,k2⟩:=a1 h
     exact ⟨fun cx Q Q' hQ hp=>⟨hp.1,fun hc=>k1 cx Q Q' hQ (hp.2 hc)⟩,k2⟩
   · obtain ⟨k1,k2⟩:=b1 c s h
     exact ⟨k1,fun cx Q Q' hQ hW hp hq=>⟨hp.1,fun hc=>k2 cx Q Q' hQ hW (hp.2 hc) hq⟩⟩
 | els r1 r2 ih1 ih2=>
   intro hx
   obtain ⟨a1,b1⟩:=ih1 hx.1
   obtain ⟨a2,b2⟩:=ih2 hx.2.1
   refine ⟨fun h=>?_,fun c s h=>?_⟩
   · simp only [R.ext] at h
     cases h1:r1.ext m x<;>cases h2:r2.ext m x<;>simp only [h1,h2,Xt.els,reduceCtorEq] at h
     · refine ⟨fun cx Q Q' hQ hp=>?_,?_⟩
       · rw [R.prune,R.holds_mkEls] at hp
         exact ⟨(a1 h1).1 cx Q Q' hQ hp.1,(a2 h2).1 cx Q Q' hQ hp.2⟩
       · rw [R.prune,R.live_mkEls]
         simp only [R.live,(a1 h1).2,(a2 h2).2]
     · split at h<;>cases h
   · simp only [R.ext] at h
     cases h1:r1.ext m x<;>cases h2:r2.ext m x<;>simp only [h1,h2,Xt.els,reduceCtorEq] at h
     · rename_i c2 s2
       cases h
       refine ⟨fun hc=>?_,fun cx Q Q' hQ hW hp hq=>?_⟩
       · obtain ⟨k1,k2⟩:=(b2 c s h2).1 hc
         rw [R.prune,R.live_mkEls]
         refine ⟨.inr k1,?_⟩
         rintro (k|k)
         · exact hx.2.2 ((a1 h1).2.1 k) k1
         · exact k2 k
       · rw [R.prune,R.holds_mkEls] at hp
         exact ⟨(a1 h1).1 cx Q Q' hQ hp.1,(b2 c s h2).2 cx Q Q' hQ hW hp.2 hq⟩
     · rename_i c1 s1
       cases h
       refine ⟨fun hc=>?_,fun cx Q Q' hQ hW hp hq=>?_⟩
       · obtain ⟨k1,k2⟩:=(b1 c s h1).1 hc
         rw [R.prune,R.live_mkEls]
         refine ⟨.inl k1,?_⟩
         rintro (k|k)
         · exact k2 k
         · exact hx.2.2 k1 ((a2 h2).2.1 k)
       · rw [R.prune,R.holds_mkEls] at hp
         exact ⟨(b1 c s h1).2 cx Q Q' hQ hW hp.1 hq,(a2 h2).1 cx Q Q' hQ hp.2⟩
     · rename_i c1 s1 c2 s2
       split at h
       · rename_i s' hs
         cases h
         have hd:=iteS_den (e:=e) hs
         refine ⟨fun hc=>?_,fun cx Q Q' hQ hW hp hq=>?_⟩
         · rw [X.tr_or] at hc
           rw [R.prune,R.live_mkEls]
           rcases hc with hc|hc
           · obtain ⟨k1,k2⟩:=(b1 c1 s1 h1).1 hc
             refine ⟨.inl k1,?_⟩
             rintro (k|k)
             · exact k2 k
             · exact hx.2.2 k1 (R.prune_live k)
           · obtain ⟨k1,k2⟩:=(b2 c2 s2 h2).1 hc
             refine ⟨.inr k1,?_⟩
             rintro (k|k)
             · exact hx.2.2 (R.prune_live k) k1
             · exact k2 k
         · rw [R.prune,R.holds_mkEls] at hp
           refine ⟨(b1 c1 s1 h1).2 cx Q Q' hQ hW hp.1 (fun hc=>?_),(b2 c2 s2 h2).2 cx Q Q' hQ hW hp.2 (fun hc=>?_)⟩
           · have:=hq (by rw [X.tr_or];exact .inl hc)
             rw [if_pos (show boolOf (c1.den e)=true from hc)] at hd
             exact hW _ _ hd this
           · have h0:¬c1.tr e:=fun h0=>hx.2.2 ((b1 c1 s1 h1).1 h0).1 ((b2 c2 s2 h2).1 hc).1
             have:=hq (by rw [X.tr_or];exact .inr hc)
             rw [if_neg (show ¬boolOf (c1.den e)=true from h0)] at hd
             exact hW _ _ hd this
       · cases h
 | lp j s g r ih=>
   intro hx
   simp only [R.ext]
   split
   · exact ⟨fun h=>(by cases h),fun c s h=>(by cases h)⟩
   · rename_i hr
     exact ⟨fun _=>⟨fun cx Q Q' hQ hp=>R.has_mono (r:=.lp j s g r) hQ (by simpa [R.has] using hr) hp,Iff.rfl⟩,fun c s h=>(by cases h)⟩
 | _=>intro _;exact ⟨fun _=>⟨fun cx Q Q' hQ hp=>R.has_mono (r:=_) hQ rfl hp,Iff.rfl⟩,fun c s h=>(by cases h)⟩
end
end Ow
