/- A part of the proof. -/
import Derived.Test.YtjakhnhnjhafgaaGreatK09
set_option linter.unusedVariables false
set_option linter.unusedSimpArgs false
namespace Ow
open Go Go.RowKit Go.Deep
inductive Vw (hv:Nat→Option Blk):C→D→Prop
 | d (x:D):Vw hv (.d x) x
 | osl (l sz s n:Nat) (rows:List (List C)) (X:List (List D)) (cc:Nat→Nat→C) (h:hv l=some (.c sz rows)) (hl:s+n≤X.length) (hx:X.length=rows.length) (hr:∀r∈X,r.length=sz)
    (h1:∀i j x,at2 X i j=some x→at2 rows i j=some (cc i j)) (h2:∀i j x,at2 X i j=some x→Vw hv (cc i j) x):Vw hv (.osl l sz s n) (.sl sz ((X.drop s).take n))
 | ptr (l sz i j:Nat) (rows:List (List C)) (row:List C) (r:List D) (cc:Nat→C) (h:hv l=some (.c sz rows)) (hi:rows[i]? = some row)
    (h1:∀(j:Nat) (x:D),r[j]? = some x→row[j]? = some (cc j)) (h2:∀(j:Nat) (x:D),r[j]? = some x→Vw hv (cc j) x):Vw hv (.ptr l sz i j) (.ep (r.drop j))
 | agg (cs:List C) (xs:List D) (hl:cs.length=xs.length) (h:∀(i:Nat) (c:C) (x:D),cs[i]? = some c→xs[i]? = some x→Vw hv c x):Vw hv (.agg cs) (.agg xs)
 | nil (sz:Nat):Vw hv (.d (.lit (.slice none 0 0))) (.sl sz [])
 | ifc (t:TypeId) (c:C) (x:D) (h:Vw hv c x):Vw hv (.ifc t c) (.ifc t x)
def roV(F:Nat→List Nat)(RO:Nat→Prop)(hv:Nat→Option Blk)(b:Nat):Prop:=RO b∨foot F hv b
theorem Vw.rel{hv:Nat→Option Blk}{c:C}{x:D}(h:Vw hv c x){ρ:Pl}{F:Nat→List Nat}{RO:Nat→Prop}{H:Nat→Option Blk}{w:World}(hs:Sim ρ F RO H w)(hsub:∀l B,hv l=some B→H l=some B):
 ∀ v,RelC ρ RO w c v→RelD (roV F RO hv) w x v:=by
 induction h with
 | d x=>
   intro v hv'
   cases hv' with
   | d x v h=>exact h.mono (fun _ h=>.inl h) (fun _ _=>rfl)
 | nil sz=>intro v hv';have:=hv'.lit_eq;subst this;exact .nil sz none 0 (Nat.zero_le _)
 | ifc t c x h ih=>
   intro v hv'
   cases hv' with
   | ifc t x v h=>exact .ifc t _ v (ih v h)
 | agg cs xs hl h ih=>
   intro v hv'
   cases hv' with
   | agg cs vs hl' one rel=>exact .agg xs vs (hl'.trans hl) one (fun i x v hx hv=>by
      have hi:i<cs.length:=by rw [←hl'];exact (List.getElem?_eq_some_iff.1 hv).1
      exact ih i _ x (List.getElem?_eq_getElem hi) hx v (rel i _ v (List.getElem?_eq_getElem hi) hv))
 | osl l sz s n rows X cc hB hl hx hr h1 h2 ih=>
   intro v hv'
   have hn:((X.drop s).take n).length=n:=by rw [List.length_take,List.length_drop];omega
   cases hv' with
   | osln l sz s A=>
     rw [List.take_zero]
     exact .nil sz A 0 (Nat.zero_le _)
   | osl l sz s n cap p hp hn' hc hm=>
     obtain ⟨p',hp',hRB⟩:=hs.blk l _ (hsub l _ hB)
     have:p'=p:=by rw [hp] at hp';injection hp' with e;exact e.symm
     subst this
     generalize hF:F l=G at hRB
     have hcell:=fun i j c hc=>hRB.cellAt (i:=i) (j:=j) (c:=c) hc
     cases hRB with
     | v sz hsz=>
       have:n=0:=by simp at hx;rw [hx] at hl;simp at hl;omega
       subst this
       rw [List.take_zero]
       exact .nil sz _ cap hc
     | c sz rows cs t hb hsz hrow U cell one rel=>
       have hfoot:foot F hv p'.blk:=⟨l,_,hB,by rw [hF];simp⟩
       have hsp:∀i j x,at2 ((X.drop s).take n) i j=some x→∃i',i'=s+i∧at2 X i' j=some x∧at2 rows i' j=some (cc i' j):=fun i j x hx=>by
        unfold at2 at hx
        rw [List.getElem?_take] at hx
        split at hx
        · rw [List.getElem?_drop] at hx
          exact ⟨s+i,rfl,hx,h1 _ _ x hx⟩
        · cases hx
       have:=RelD.sl (RO:=roV F RO hv) (w:=w) sz ((X.drop s).take n) p'.blk (s*sz) cap (fun i j=>U (s+i) j) (.inr hfoot) (by rw [hn];exact hn') hc (fun r hr'=>hr r (List.mem_of_mem_drop (List.mem_of_mem_take hr')))
        (fun i j x hx=>by obtain ⟨i',rfl,h3,h4⟩:=hsp i j x hx;rw [cell_of_row w p'.blk _ cs t (0,0) hb,←cell _ _ _ h4];congr 1;rw [Nat.add_mul])
        (fun i j x hx=>by obtain ⟨i',rfl,h3,h4⟩:=hsp i j x hx;exact one _ _ _ h4)
        (fun i j x hx=>by obtain ⟨i',rfl,h3,h4⟩:=hsp i j x hx;exact ih _ _ x h3 _ (rel _ _ _ h4))
       rw [hn] at this
       exact this
 | ptr l sz i j rows row r cc hB hi h1 h2 ih=>
   intro v hv'
   cases hv' with
   | ptr l sz i j p hp=>
     obtain ⟨p',hp',hRB⟩:=hs.blk l _ (hsub l _ hB)
     have:p'=p:=by rw [hp] at hp';injection hp' with e;exact e.symm
     subst this
     generalize hF:F l=G at hRB
     cases hRB with
     | v sz hsz=>simp at hi
     | c sz rows cs t hb hsz hrow U cell one rel=>
       have hfoot:foot F hv p'.blk:=⟨l,_,hB,by rw [hF];simp⟩
       have hsp:∀k x,(r.drop j)[k]? = some x→r[j+k]? = some x∧at2 rows i (j+k)=some (cc (j+k)):=fun k x hx=>by
        rw [List.getElem?_drop] at hx
        exact ⟨hx,by simp only [at2,hi,Option.bind_some];exact h1 _ x hx⟩
       exact .ep _ p'.blk (i*sz+j) (fun k=>U i (j+k)) (.inr hfoot)
        (fun k x hx=>by rw [cell_of_row w p'.blk _ cs t (0,0) hb,←cell _ _ _ (hsp k x hx).2,Nat.add_assoc])
        (fun k x hx=>one _ _ _ (hsp k x hx).2) (fun k x hx=>ih _ x (hsp k x hx).1 _ (rel _ _ _ (hsp k x hx).2))
inductive Arg (σ:Nat→Nat) (k:Nat) (hv:Nat→Option Blk):C→C→Prop
 | vw (a:C) (x:D) (h:Vw hv a x):Arg σ k hv a (.d x)
 | ptr (l sz i j:Nat) (h:l<k):Arg σ k hv (.ptr (σ l) sz i j) (.ptr l sz i j)
 | osl (l sz s n:Nat) (h:l<k):Arg σ k hv (.osl (σ l) sz s n) (.osl l sz s n)
 | agg (cs fs:List C) (hl:cs.length=fs.length) (h:∀(i:Nat) (a f:C),cs[i]? = some a→fs[i]? = some f→Arg σ k hv a f):Arg σ k hv (.agg cs) (.agg fs)
 | tup (cs fs:List C) (hl:cs.length=fs.length) (h:∀(i:Nat) (a f:C),cs[i]? = some a→fs[i]? = some f→Arg σ k hv a f):Arg σ k hv (.tup cs) (.tup fs)
 | ifc (t:TypeId) (a f:C) (h:Arg σ k hv a f):Arg σ k hv (.ifc t a) (.ifc t f)
 | fn (g:Fn) (xs ys xs' ys':List C) (hl:xs.length=xs'.length) (hl':ys.length=ys'.length) (h:∀(i:Nat) (a f:C),xs[i]? = some a→xs'[i]? = some f→Arg σ k hv a f) (h':∀(i:Nat) (a f:C),ys[i]? = some a→ys'[i]? = some f→Arg σ k hv a f) :
    Arg σ k hv (.fn g xs ys) (.fn g xs' ys')
 | dead (a:C):Arg σ k hv a .dead
def plR(ρ:Pl)(σ:Nat→Nat)(k:Nat):Pl:=fun l=>if l<k then ρ (σ l) else none
theorem Arg.rel{σ:Nat→Nat}{k:Nat}{hv:Nat→Option Blk}{a f:C}(h:Arg σ k hv a f){ρ:Pl}{F:Nat→List Nat}{RO:Nat→Prop}{H:Nat→Option Blk}{w:World}(hs:Sim ρ F RO H w)(hsub:∀l B,hv l=some B→H l=some B):
 ∀ v,RelC ρ RO w a v→RelC (plR ρ σ k) (roV F RO hv) w f v:=by
 induction h with
 | vw a x h=>intro v hv';exact .d _ _ (h.rel hs hsub v hv')
 | ptr l sz i j h=>
   intro v hv'
   cases hv' with
   | ptr _ sz i j p hp=>exact .ptr l sz i j p (by unfold plR;rw [if_pos h];exact hp)
 | osl l sz s n h=>
   intro v hv'
   cases hv' with
   | osl _ sz s n cap p hp hn hc hm=>exact .osl l sz s n cap p (by unfold plR;rw [if_pos h];exact hp) hn hc hm
   | osln _ sz s A=>exact .osln l sz s A
 | agg cs fs hl h ih=>
   intro v hv'
   cases hv' with
   | agg cs vs hl' one rel=>exact .agg fs vs (hl'.trans hl) one (fun i x v hx hv=>by
      have hi:i<cs.length:=by rw [←hl'];exact (List.getElem?_eq_some_iff.1 hv).1
      exact ih i _ x (List.getElem?_eq_getElem hi) hx v (rel i _ v (List.getElem?_eq_getElem hi) hv))
 | tup cs fs hl h ih=>
   intro v hv'
   cases hv' with
   | tup cs vs hl' rel=>exact .tup fs vs (hl'.trans hl) (fun i x v hx hv=>by
      have hi:i<cs.length:=by rw [←hl'];exact (List.getElem?_eq_some_iff.1 hv).1
      exact ih i _ x (List.getElem?_eq_getElem hi) hx v (rel i _ v (List.getElem?_eq_getElem hi) hv))
 | ifc t a f h ih=>
   intro v hv'
   cases hv' with
   | ifc t x v h=>exact .ifc t f v (ih v h)
 | fn g xs ys xs' ys' hl hl' h h' ih ih'=>
   intro v hv'
   cases hv' with
   | fn f xs ys us vs hu hv2 rel rel'=>
     refine .fn g xs' ys' us vs (hu.trans hl) (hv2.trans hl') (fun i x v hx hv=>?_) (fun i x v hx hv=>?_)
     · have hi:i<xs.length:=by rw [←hu];exact (List.getElem?_eq_some_iff.1 hv).1
       exact ih i _ x (List.getElem?_eq_getElem hi) hx v (rel i _ v (List.getElem?_eq_getElem hi) hv)
     · have hi:i<ys.length:=by rw [←hv2];exact (List.getElem?_eq_some_iff.1 hv).1
       exact ih' i _ x (List.getElem?_eq_getElem hi) hx v (rel' i _ v (List.getElem?_eq_getElem hi) hv)
 | dead a=>intro v _;exact .dead v
inductive BArg (σ:Nat→Nat) (k:Nat) (hv:Nat→Option Blk):Blk→Blk→Prop
 | c (sz:Nat) (rows rows':List (List C)) (cc:Nat→Nat→C) (hl:rows.length=rows'.length) (hr:∀r∈rows',r.length=sz) (h1:∀i j f,at2 rows' i j=some f→at2 rows i j=some (cc i j)) (h2:∀i j f,at2 rows' i j=some f→Arg σ k hv (cc i j) f) :
    BArg σ k hv (.c sz rows) (.c sz rows')
 | o (sz:Nat) (els:List (List D)):BArg σ k hv (.o sz els) (.o sz els)
theorem BArg.rel{σ:Nat→Nat}{k:Nat}{hv:Nat→Option Blk}{B B':Blk}(h:BArg σ k hv B B'){ρ:Pl}{F:Nat→List Nat}{RO:Nat→Prop}{H:Nat→Option Blk}{w:World}(hs:Sim ρ F RO H w)(hsub:∀l B,hv l=some B→H l=some B)
 {p:Place} {G:List Nat} (hB:RelB ρ RO w p B G):RelB (plR ρ σ k) (roV F RO hv) w p B' G:=by
 cases h with
 | c sz rows rows' cc hl hr h1 h2=>
   cases hB with
   | c sz rows cs t hb hsz hrow U cell one rel=>
     exact .c sz rows' cs t hb hsz hr U (fun i j f hf=>cell _ _ _ (h1 i j f hf)) (fun i j f hf=>one _ _ _ (h1 i j f hf)) (fun i j f hf=>(h2 i j f hf).rel hs hsub _ (rel _ _ _ (h1 i j f hf)))
   | v sz hsz=>
     have:rows'=[]:=List.eq_nil_of_length_eq_zero (by simpa using hl.symm)
     subst this
     exact .v sz hsz
 | o sz els=>
   cases hB with
   | o sz els F cs t hb hbF hs hr hlt U G cell one rel sub sep=>exact .o sz els _ cs t hb hbF hs hr hlt U G cell one rel sub sep
mutual
def renC(σ:Nat→Nat):C→C
 | .d x=>.d x
 | .ptr l sz i j=>.ptr (σ l) sz i j
 | .osl l sz s n=>.osl (σ l) sz s n
 | .agg cs=>.agg (renCs σ cs)
 | .tup cs=>.tup (renCs σ cs)
 | .ifc t x=>.ifc t (renC σ x)
 | .fn f xs ys=>.fn f (renCs σ xs) (renCs σ ys)
 | .dead=>.dead
def renCs(σ:Nat→Nat):List C→List C
 | []=>[]
 | c::cs=>renC σ c::renCs σ cs
end
theorem renCs_get(σ:Nat→Nat)(cs:List C)(i:Nat):(renCs σ cs)[i]? = (cs[i]?).map (renC σ):=by
 induction cs generalizing i with
 | nil=>rfl
 | cons c cs ih=>
   cases i with
   | zero=>rfl
   | succ i=>simpa [renCs] using ih i
theorem renCs_len(σ:Nat→Nat)(cs:List C):(renCs σ cs).length=cs.length:=by
 induction cs with
 | nil=>rfl
 | cons c cs ih=>simp [renCs,ih]
def renB(σ:Nat→Nat):Blk→Blk
 | .c sz rows=>.c sz (rows.map (renCs σ))
 | .o sz els=>.o sz els
theorem RelC.ren{ρ ρ':Pl}{RO RO':Nat→Prop}{w w':World}{σ:Nat→Nat}{c:C}{v:Value}(h:RelC ρ RO w c v)(hρ:∀l p,ρ l=some p→ρ' (σ l)=some p)(hR:∀x u,RelD RO w x u→RelD RO' w' x u):RelC ρ' RO' w' (renC σ c) v:=by
 induction h with
 | d x v h=>exact .d x v (hR x v h)
 | ptr l sz i j p hp=>exact .ptr _ sz i j p (hρ l p hp)
 | osl l sz s n cap p hp hn hc hm=>exact .osl _ sz s n cap p (hρ l p hp) hn hc hm
 | osln l sz s A=>exact .osln _ sz s A
 | agg cs vs hl one rel ih=>
   refine .agg _ vs (by rw [renCs_len];exact hl) one (fun i x v hx hv=>?_)
   rw [renCs_get] at hx
   cases hc:cs[i]? with
   | none=>rw [hc] at hx;cases hx
   | some c=>rw [hc] at hx;simp only [Option.map_some,Option.some.injEq] at hx;subst hx;exact ih i c v hc hv
 | tup cs vs hl rel ih=>
   refine .tup _ vs (by rw [renCs_len];exact hl) (fun i x v hx hv=>?_)
   rw [renCs_get] at hx
   cases hc:cs[i]? with
   | none=>rw [hc] at hx;cases hx
   | some c=>rw [hc] at hx;simp only [Option.map_some,Option.some.injEq] at hx;subst hx;exact ih i c v hc hv
 | ifc t x v h ih=>exact .ifc t _ v ih
 | fn f xs ys us vs hl hl' rel rel' ih ih'=>
   refine .fn f _ _ us vs (by rw [renCs_len];exact hl) (by rw [renCs_len];exact hl') (fun i x v hx hv=>?_) (fun i x v hx hv=>?_)
   · rw [renCs_get] at hx
     cases hc:xs[i]? with
     | none=>rw [hc] at hx;cases hx
     | some c=>rw [hc] at hx;simp only [Option.map_some,Option.some.injEq] at hx;subst hx;exact ih i c v hc hv
   · rw [renCs_get] at hx
     cases hc:ys[i]? with
     | none=>rw [hc] at hx;cases hx
     | some c=>rw [hc] at hx;simp only [Option.map_some,Option.some.injEq] at hx;subst hx;exact ih' i c v hc hv
 | dead v=>exact .dead v
theorem at2_renB{σ:Nat→Nat}{rows:List (List C)}{i j:Nat}{c:C}(h:at2 (rows.map (renCs σ)) i j=some c):∃c0,at2 rows i j=some c0∧c=renC σ c0:=by
 unfold at2 at h ⊢
 rw [List.getElem?_map] at h
 cases hr:rows[i]? with
 | none=>rw [hr] at h;cases h
 | some r=>
   rw [hr] at h
   simp only [Option.map_some,Option.bind_some,renCs_get] at h
   cases hc:r[j]? with
   | none=>rw [hc] at h;cases h
   | some c0=>rw [hc] at h;simp only [Option.map_some,Option.some.injEq] at h;exact ⟨c0,by simp [hc],h.symm⟩
theorem RelB.ren{ρ ρ':Pl}{RO RO':Nat→Prop}{w:World}{σ:Nat→Nat}{p:Place}{B:Blk}{G:List Nat}(h:RelB ρ RO w p B G)(hρ:∀l p,ρ l=some p→ρ' (σ l)=some p)(hR:∀x u,RelD RO w x u→RelD RO' w x u):RelB ρ' RO' w p (renB σ B) G:=by
 cases h with
 | c sz rows cs t hb hs hr U cell one rel=>
   refine .c sz _ cs t hb hs (fun r hr'=>?_) U (fun i j c hc=>?_) (fun i j c hc=>?_) (fun i j c hc=>?_)
   · obtain ⟨r0,h0,rfl⟩:=List.mem_map.1 hr'
     rw [renCs_len];exact hr r0 h0
   · obtain ⟨c0,h0,rfl⟩:=at2_renB hc
     exact cell i j c0 h0
   · obtain ⟨c0,h0,rfl⟩:=at2_renB hc
     exact one i j c0 h0
   · obtain ⟨c0,h0,rfl⟩:=at2_renB hc
     exact (rel i j c0 h0).ren hρ hR
 | v sz hs=>exact .v sz hs
 | o sz els F cs t hb hbF hs hr hlt U G cell one rel sub sep=>exact .o sz els _ cs t hb hbF hs hr hlt U G cell one rel sub sep
end Ow
namespace Ow
open Go Go.RowKit Go.Deep
def FnOk(P:Program)(f:FuncId):Prop:=∃fn c,P.funcs[f]? = some fn∧(fn.name == "runtime.NumGoroutine")=false∧fn.body=some c
def EC(P:Program)(f:FuncId)(k:Nat)(args:List C)(h:Hp)(val:C)(h':Hp)(k':Nat):Prop:=
 FnOk P f∧k≤k'∧∀ρ F RO w (vs:Array Value),Sim ρ F RO h.get w→(∀l,ρ l≠none→l<k)→RelT ρ RO w args vs →
  Calls P f vs w (fun e w'=>∃ρ' F' RO' v,e=.returned v∧Ext k ρ F RO h.get w ρ' F' RO' h'.get w'∧RelC ρ' RO' w' val v∧∀l,ρ' l≠none→l<k')
inductive PureD : D→Prop
 | lit (v:Value):PureD (.lit v)
 | agg (xs:List D) (h:∀x∈xs,PureD x):PureD (.agg xs)
 | ifc (t:TypeId) (x:D) (h:PureD x):PureD (.ifc t x)
theorem PureD.rel{x:D}(h:PureD x){RO RO':Nat→Prop}{w w':World}:∀v,RelD RO w x v→RelD RO' w' x v:=by
 induction h with
 | lit v=>intro u hu;cases hu;exact .lit _
 | agg xs h ih=>
   intro u hu
   cases hu with
   | agg cs vs hl one rel=>exact .agg _ vs hl one (fun i x v hx hv=>ih x (List.mem_of_getElem? hx) v (rel i x v hx hv))
 | ifc t x h ih=>
   intro u hu
   cases hu with
   | ifc t x v h=>exact .ifc t _ v (ih v h)
inductive PureC : C→Prop
 | d (x:D) (h:PureD x):PureC (.d x)
 | ptr (l sz i j:Nat):PureC (.ptr l sz i j)
 | osl (l sz s n:Nat):PureC (.osl l sz s n)
 | agg (xs:List C) (h:∀x∈xs,PureC x):PureC (.agg xs)
 | tup (xs:List C) (h:∀x∈xs,PureC x):PureC (.tup xs)
 | ifc (t:TypeId) (x:C) (h:PureC x):PureC (.ifc t x)
 | dead:PureC .dead
theorem PureC.rel{x:C}(h:PureC x){ρ:Pl}{RO RO':Nat→Prop}{w w':World}:∀v,RelC ρ RO w x v→RelC ρ RO' w' x v:=by
 induction h with
 | d x h=>intro v hv;cases hv with|d x v h'=>exact .d _ _ (h.rel v h')
 | ptr l sz i j=>intro v hv;cases hv with|ptr _ _ _ _ p hp=>exact .ptr l sz i j p hp
 | osl l sz s n=>intro v hv;cases hv with
   | osl _ _ _ _ cap p hp hn hc hm=>exact .osl l sz s n cap p hp hn hc hm
   | osln _ _ _ A=>exact .osln l sz s A
 | agg xs h ih=>intro v hv;cases hv with|agg cs vs hl one rel=>exact .agg _ vs hl one (fun i x v hx hv=>ih x (List.mem_of_getElem? hx) v (rel i x v hx hv))
 | tup xs h ih=>intro v hv;cases hv with|tup cs vs hl rel=>exact .tup _ vs hl (fun i x v hx hv=>ih x (List.mem_of_getElem? hx) v (rel i x v hx hv))
 | ifc t x h ih=>intro v hv;cases hv with|ifc t x v h=>exact .ifc t _ v (ih v h)
 | dead=>intro v _;exact .dead v
inductive PureB : Blk→Prop
 | c (sz:Nat) (rows:List (List C)) (h:∀r∈rows,∀x∈r,PureC x):PureB (.c sz rows)
 | o (sz:Nat) (els:List (List D)):PureB (.o sz els)
theorem PureB.rel{B:Blk}(h:PureB B){ρ:Pl}{RO RO':Nat→Prop}{w:World}{p:Place}{G:List Nat}(hB:RelB ρ RO w p B G):RelB ρ RO' w p B G:=by
 cases h with
 | c sz rows h=>
   cases hB with
   | c sz rows cs t hb hs hr U cell one rel=>
     exact .c sz rows cs t hb hs hr U cell one (fun i j c hc=>by
      obtain ⟨hi,hj,e⟩:=at2_lt hc
      exact (h _ (List.getElem_mem hi) c (by rw [←e];exact List.getElem_mem hj)).rel _ (rel i j c hc))
   | v sz hs=>exact .v sz hs
 | o sz els=>
   cases hB with
   | o sz els F cs t hb hbF hs hr hlt U G cell one rel sub sep=>exact .o sz els _ cs t hb hbF hs hr hlt U G cell one rel sub sep
theorem run_callF{P:Program}{f:FuncId}(h:FnOk P f)(args:Array Value)(w:World):(callFunc f args).run P w=.ok (.enter f args) w:=by
 obtain ⟨fn,c,hf,hname,hb⟩:=h
 have h1:fn.name ≠ "runtime.NumGoroutine":=by simpa using hname
 simp [callFunc,hf,h1,hb]
def Enters(P:Program)(o:Oper)(ev:Operand→C)(f:FuncId)(acts:List C):Prop:=
 ∀ ρ RO w (a:Act),(∀x∈o.op.operands,RelC ρ RO w (ev x) (a.eval x))→∃vs,(execOp a.eval o).run P w=.ok (.enter f vs) w∧RelT ρ RO w acts vs
theorem Enters.func{P:Program}{o:Oper}{ev:Operand→C}{f:FuncId}{xs:Array Operand}{ts:Array TypeId}(ho:o.op=.call { callee:=.value (.func f),args:=xs,argTypes:=ts })(hf:FnOk P f):Enters P o ev f (xs.toList.map ev):=by
 intro ρ RO w a hr
 refine ⟨xs.map a.eval,?_,⟨by simp,fun i c v hc hv=>?_⟩⟩
 · unfold execOp;rw [ho]
   simp [resolve,Deferred.ofValue,invoke,Act.eval,run_callF hf]
 · rw [List.getElem?_map,Array.getElem?_toList] at hc
   rw [Array.getElem?_map] at hv
   cases hx:xs[i]? with
   | none=>rw [hx] at hc;cases hc
   | some x=>
     rw [hx] at hc hv
     simp only [Option.map_some,Option.some.injEq] at hc hv
     subst hc hv
     exact hr x (by rw [ho];simp [Op.operands,Call.operands,Array.mem_of_getElem? hx])
theorem Enters.value{P:Program}{o:Oper}{ev:Operand→C}{f:FuncId}{g:Operand}{xs:Array Operand}{ts:Array TypeId}{us ys:List C}(ho:o.op=.call { callee:=.value g,args:=xs,argTypes:=ts })(hg:ev g=.fn (.func f) us ys)(hf:FnOk P f):Enters P o ev f (us++xs.toList.map ev++ys):=by
 intro ρ RO w a hr
 have hgv:=hg▸hr g (by rw [ho];simp [Op.operands,Call.operands])
 generalize ha:a.eval g=u at hgv
 cases hgv with
 | fn _ us ys us' ys' hl hl' rel rel'=>
   refine ⟨us'.toArray++xs.map a.eval++ys'.toArray,?_,⟨by simp [hl,hl'],fun i c v hc hv=>?_⟩⟩
   · unfold execOp;rw [ho]
     simp [resolve,Deferred.ofValue,invoke,ha,run_callF hf]
   · rw [List.append_assoc,List.getElem?_append] at hc
     rw [Array.append_assoc,Array.getElem?_append] at hv
     simp only [List.size_toArray,hl] at hv
     split at hc
     · rename_i h1
       rw [if_pos h1] at hv
       exact rel i c v hc (by simpa using hv)
     · rename_i h1
       rw [if_neg h1] at hv
       rw [List.getElem?_append] at hc
       rw [Array.getElem?_append] at hv
       simp only [List.length_map,Array.length_toList,Array.size_map] at hc hv
       split at hc
       · rename_i h2
         rw [if_pos h2] at hv
         rw [List.getElem?_map,Array.getElem?_toList] at hc
         rw [Array.getElem?_map] at hv
         cases hx:xs[i-us.length]? with
         | none=>rw [hx] at hc;cases hc
         | some x=>
           rw [hx] at hc hv
           simp only [Option.map_some,Option.some.injEq] at hc hv
           subst hc hv
           exact hr x (by rw [ho];simp [Op.operands,Call.operands,Array.mem_of_getElem? hx])
       · rename_i h2
         rw [if_neg h2] at hv
         exact rel' _ c v hc (by simpa using hv)
theorem Hp.get_map{σ:Nat→Nat}{h:Hp}{x:Nat}{B:Blk}(hg:Hp.get (h.map (fun y=>(σ y.1,renB σ y.2))) x=some B):∃l B0,h.get l=some B0∧σ l=x∧B=renB σ B0:=by
 induction h with
 | nil=>cases hg
 | cons y h ih=>
   rw [List.map_cons,Hp.get_cons] at hg
   split at hg
   · rename_i e
     simp only [Option.some.injEq] at hg
     exact ⟨y.1,y.2,by simp [Hp.get_cons],e.symm,hg.symm⟩
   · rename_i e
     obtain ⟨l,B0,h1,h2,h3⟩:=ih hg
     refine ⟨l,B0,?_,h2,h3⟩
     rw [Hp.get_cons,if_neg (fun e'=>e (by rw [←h2,e']))]
     exact h1
structure Pass (σ:Nat→Nat) (k k':Nat) (ids:List Nat) (hb pre:Hp) (acts args:List C) (h h':Hp) (val:C):Prop where
 len:acts.length=args.length
 arg:∀(i:Nat) (a f:C),acts[i]? = some a→args[i]? = some f→Arg σ k hb.get a f
 blk:∀l B,h.get l=some B→l<k∧∃B',pre.get (σ l)=some B'∧BArg σ k hb.get B' B
 hbs:∀l B,hb.get l=some B→pre.get l=some B
 ih:∀l B,h.get l=some B→l∈ids
 ih':∀l B,h'.get l=some B→l∈ids
 inew:∀l,k≤l→l<k'→l∈ids
 ilt:∀l∈ids,l<k'
 iold:∀l∈ids,l<k→∃B,h.get l=some B
 inj:∀l∈ids,∀l'∈ids,σ l=σ l'→l=l'
 new:∀l∈ids,k≤l→pre.get (σ l)=none
 hbn:∀l∈ids,hb.get (σ l)=none
 hpre:∀x B,pre.get x=some B→hb.get x=some B∨x∈ids.map σ
 hpure:hb=[]∨(PureC val∧∀l B,h'.get l=some B→PureB B)
theorem OpT.call{P:Program}{o:Oper}{ev:Operand→C}{f:FuncId}{acts args:List C}{k k':Nat}{h h':Hp}{val:C}(hc:EC P f k args h val h' k')(hent:Enters P o ev f acts){σ:Nat→Nat}{ids:List Nat}{hb pre:Hp}(hp:Pass σ k k' ids hb pre acts args h h' val):
 OpT P o ev ⟨pre,ids.map σ,h'.map (fun x=>(σ x.1,renB σ x.2)),renC σ val⟩:=by
 classical
 intro m ρ F RO w a hs hnw hr next Q hk
 obtain ⟨hfn,hkk,hC⟩:=hc
 obtain ⟨vs,hrun,hRT⟩:=hent ρ RO w a hr
 have hnw':∀l∈ids,k≤l→ρ (σ l)=none∧m≤σ l:=fun l hl hkl=>hnw (σ l) (List.mem_map_of_mem hl) (hp.new l hl hkl)
 have hsf:Sim (plR ρ σ k) (fun l=>F (σ l)) (roV F RO hb.get) h.get w:=by
  refine ⟨fun l B hl=>?_,fun l l' B B' hne hl hl'=>?_,fun l B hl b hbm hro=>?_,fun b hro=>?_⟩
  · obtain ⟨hlk,B',hB',hBA⟩:=hp.blk l B hl
    obtain ⟨p,hpp,hRB⟩:=hs.blk (σ l) B' hB'
    exact ⟨p,by unfold plR;rw [if_pos hlk];exact hpp,hBA.rel hs hp.hbs hRB⟩
  · obtain ⟨_,B1,hB1,_⟩:=hp.blk l B hl
    obtain ⟨_,B2,hB2,_⟩:=hp.blk l' B' hl'
    exact hs.sep _ _ B1 B2 (fun e=>hne (hp.inj l (hp.ih l B hl) l' (hp.ih l' B' hl') e)) hB1 hB2
  · obtain ⟨_,B1,hB1,_⟩:=hp.blk l B hl
    rcases hro with h1|⟨y,By,hy,hyb⟩
    · exact hs.nro _ B1 hB1 b hbm h1
    · exact hs.sep (σ l) y B1 By (fun e=>by rw [←e,hp.hbn l (hp.ih l B hl)] at hy;cases hy) hB1 (hp.hbs y By hy) b hbm hyb
  · rcases hro with h1|⟨y,By,hy,hyb⟩
    · exact hs.ro b h1
    · obtain ⟨p,-,hRB⟩:=hs.blk y By (hp.hbs y By hy)
      exact hRB.lt b hyb
 have hRTf:RelT (plR ρ σ k) (roV F RO hb.get) w args vs:=by
  refine ⟨hRT.len.trans hp.len,fun i c v hc hv=>?_⟩
  have hi:i<acts.length:=by rw [hp.len];exact (List.getElem?_eq_some_iff.1 hc).1
  exact (hp.arg i _ c (List.getElem?_eq_getElem hi) hc).rel hs hp.hbs v (hRT.rel i _ v (List.getElem?_eq_getElem hi) hv)
 have hcall:=hC _ _ _ w vs hsf (fun l hl=>Classical.byContradiction fun h1=>hl (by unfold plR;rw [if_neg h1])) hRTf
 unfold Oper.wp
 rw [hrun]
 refine hcall.mono (fun e w' hh=>?_)
 obtain ⟨ρf,Ff,ROf,v,rfl,hE,hv,hd⟩:=hh
 show next (a.put o.dst v) w'
 have hcl:∀x,(∃l,k≤l∧l<k'∧σ l=x)→∃l,k≤l∧l<k'∧σ l=x:=fun x h=>h
 let ρ':Pl:=fun x=>if hx:∃l,k≤l∧l<k'∧σ l=x then ρf (Classical.choose hx) else ρ x
 have hρn:∀l,k≤l→l<k'→ρ' (σ l)=ρf l:=fun l h1 h2=>by
  have hx:∃l0,k≤l0∧l0<k'∧σ l0=σ l:=⟨l,h1,h2,rfl⟩
  simp only [ρ']
  rw [dif_pos hx]
  obtain ⟨e1,e2,e3⟩:=Classical.choose_spec hx
  rw [hp.inj _ (hp.inew _ e1 e2) l (hp.inew l h1 h2) e3]
 have hρo:∀x,(¬ ∃l,k≤l∧l<k'∧σ l=x)→ρ' x=ρ x:=fun x hx=>by simp only [ρ'];rw [dif_neg hx]
 have hle:∀x p,ρ x=some p→ρ' x=some p:=fun x p hx=>by
  rw [hρo x (fun ⟨l,h1,h2,h3⟩=>by rw [←h3,(hnw' l (hp.inew l h1 h2) h1).1] at hx;cases hx)];exact hx
 have hρσ:∀l p,ρf l=some p→ρ' (σ l)=some p:=fun l p hl=>by
  have hlt:=hd l (by rw [hl];simp)
  by_cases hkl:k≤l
  · rw [hρn l hkl hlt];exact hl
  · have:=hE.base l (by omega)
    rw [hl] at this
    unfold plR at this
    rw [if_pos (by omega)] at this
    exact hle _ _ this.symm
 let F':Nat→List Nat:=fun x=>if hx:∃l,l∈ids∧σ l=x then Ff (Classical.choose hx) else F x
 have hFi:∀l∈ids,F' (σ l)=Ff l:=fun l hl=>by
  have hx:∃l0,l0∈ids∧σ l0=σ l:=⟨l,hl,rfl⟩
  simp only [F']
  rw [dif_pos hx]
  obtain ⟨e1,e2⟩:=Classical.choose_spec hx
  rw [hp.inj _ e1 l hl e2]
 have hFo:∀x,x∉ids.map σ→F' x=F x:=fun x hx=>by
  simp only [F']
  rw [dif_neg (fun ⟨l,h1,h2⟩=>hx (h2▸List.mem_map_of_mem h1))]
 have hkeep:=hE.keeps hsf
 have hRO':∀b,(ROf b∧¬foot F hb.get b)→ROf b:=fun b h=>h.1
 have hvR:RelC ρf (fun b=>ROf b∧¬foot F hb.get b) w' val v:=by
  rcases hp.hpure with h0|h0
  · exact hv.mono (fun _ _ h=>h) (fun b hb'=>⟨hb',fun ⟨y,By,hy,_⟩=>by rw [h0] at hy;cases hy⟩) (fun _ _=>rfl)
  · exact h0.1.rel _ hv
 have hBR:∀l B p G,h'.get l=some B→RelB ρf ROf w' p B G→RelB ρf (fun b=>ROf b∧¬foot F hb.get b) w' p B G:=by
  intro l B p G hl hB
  rcases hp.hpure with h0|h0
  · exact hB.mono (fun _ _ h=>h) (fun b hb'=>⟨hb',fun ⟨y,By,hy,_⟩=>by rw [h0] at hy;cases hy⟩) (fun _ _=>rfl) (fun _ _=>rfl)
  · exact (h0.2 l B hl).rel hB
 have hafter:∀x B,(Rec.after ⟨pre,ids.map σ,h'.map (fun x=>(σ x.1,renB σ x.2)),renC σ val⟩) x=some B→(∃l B0,h'.get l=some B0∧l∈ids∧σ l=x∧B=renB σ B0)∨(x∉ids.map σ∧hb.get x=some B):=by
  intro x B hx
  simp only [Rec.after] at hx
  by_cases hm:x∈ids.map σ
  · rw [if_pos (by simpa using hm)] at hx
    obtain ⟨l,B0,h1,h2,h3⟩:=Hp.get_map hx
    exact .inl ⟨l,B0,h1,hp.ih' l B0 h1,h2,h3⟩
  · rw [if_neg (by simpa using hm)] at hx
    exact .inr ⟨hm,(hp.hpre x B hx).resolve_right hm⟩
 have hfoot:∀b,foot (fun l=>F (σ l)) h.get b→foot F pre.get b:=fun b ⟨l,B,hl,hb'⟩=>by
  obtain ⟨_,B1,hB1,_⟩:=hp.blk l B hl
  exact ⟨σ l,B1,hB1,hb'⟩
 have hfar:∀x B,hb.get x=some B→∀b∈F x,roV F RO hb.get b:=fun x B hx b hb'=>.inr ⟨x,B,hx,hb'⟩
 have hnf:∀x B,hb.get x=some B→∀b∈F x,¬foot (fun l=>F (σ l)) h.get b:=fun x B hx b hb' ⟨l,B',hl,hbl⟩=>hsf.nro l B' hl b hbl (hfar x B hx b hb')
 have hlt:∀x B,hb.get x=some B→∀b∈F x,b<w.heap.size:=fun x B hx b hb'=>hsf.ro b (hfar x B hx b hb')
 refine hk ρ' F' (fun b=>ROf b∧¬foot F hb.get b) w' v ⟨hE.chg.mono (fun b hb'=>.inl (hfoot b hb')),fun l hl=>?_,fun b hb'=>⟨hE.ro b (.inl hb'),fun ⟨y,By,hy,hyb⟩=>hs.nro y By (hp.hbs y By hy) b hyb hb'⟩,fun b hb'=>?_,⟨?_,?_,?_,?_⟩,?_⟩ hle (fun x hx hx'=>?_) (hvR.ren hρσ (fun _ _ h=>h))
 · exact hρo l (fun ⟨l0,h1,h2,h3⟩=>by have:=(hnw' l0 (hp.inew l0 h1 h2) h1).2;omega)
 · rcases hE.ro' b hb'.1 with h1|h1|h1
   · rcases h1 with h1|h1
     · exact .inl h1
     · exact absurd h1 hb'.2
   · exact .inr (.inl (hfoot b h1))
   · exact .inr (.inr h1)
 · intro x B hx
   rcases hafter x B hx with ⟨l,B0,h1,h2,rfl,rfl⟩|⟨h1,h2⟩
   · obtain ⟨p,hpp,hRB⟩:=hE.sim.blk l B0 h1
     rw [hFi l h2]
     exact ⟨p,hρσ l p hpp,(hBR l B0 p _ h1 hRB).ren hρσ (fun _ _ h=>h)⟩
   · obtain ⟨p,hpp,hRB⟩:=hs.blk x B (hp.hbs x B h2)
     rw [hFo x h1]
     exact ⟨p,hle x p hpp,hRB.mono hle (fun b hb'=>⟨hE.ro b (.inl hb'),fun ⟨y,By,hy,hyb⟩=>hs.nro y By (hp.hbs y By hy) b hyb hb'⟩) (fun b hb'=>hkeep b (.inl hb')) (fun b hb'=>hkeep b (hfar x B h2 b hb'))⟩
 · intro x x' B B' hne hx hx' b hb'
   rcases hafter x B hx with ⟨l,B0,h1,h2,rfl,rfl⟩|⟨h1,h2⟩
   · rw [hFi l h2] at hb'
     rcases hafter x' B' hx' with ⟨l',B0',h1',h2',rfl,rfl⟩|⟨h1',h2'⟩
     · rw [hFi l' h2']
       exact hE.sim.sep l l' B0 B0' (fun e=>hne (by rw [e])) h1 h1' b hb'
     · rw [hFo x' h1']
       intro hb2
       rcases hE.new b ⟨l,B0,h1,hb'⟩ with h3|h3
       · exact hnf x' B' h2' b hb2 h3
       · exact absurd (hlt x' B' h2' b hb2) (Nat.not_lt.2 h3)
   · rw [hFo x h1] at hb'
     rcases hafter x' B' hx' with ⟨l',B0',h1',h2',rfl,rfl⟩|⟨h1',h2'⟩
     · rw [hFi l' h2']
       intro hb2
       rcases hE.new b ⟨l',B0',h1',hb2⟩ with h3|h3
       · exact hnf x B h2 b hb' h3
       · exact absurd (hlt x B h2 b hb') (Nat.not_lt.2 h3)
     · rw [hFo x' h1']
       exact hs.sep x x' B B' hne (hp.hbs _ _ h2) (hp.hbs _ _ h2') b hb'
 · intro x B hx b hb' hro
   rcases hafter x B hx with ⟨l,B0,h1,h2,rfl,rfl⟩|⟨h1,h2⟩
   · rw [hFi l h2] at hb'
     exact hE.sim.nro l B0 h1 b hb' hro.1
   · rw [hFo x h1] at hb'
     exact hro.2 ⟨x,B,h2,hb'⟩
 · intro b hb'
   exact hE.sim.ro b hb'.1
 · rintro b ⟨x,B,hx,hb'⟩
   rcases hafter x B hx with ⟨l,B0,h1,h2,rfl,rfl⟩|⟨h1,h2⟩
   · rw [hFi l h2] at hb'
     exact (hE.new b ⟨l,B0,h1,hb'⟩).imp (hfoot b) id
   · rw [hFo x h1] at hb'
     exact .inl ⟨x,B,hp.hbs x B h2,hb'⟩
 · rw [hρo x (fun ⟨l0,h1,h2,h3⟩=>hx' (h3▸List.mem_map_of_mem (hp.inew l0 h1 h2)))];exact hx
end Ow
namespace Ow
open Go Go.RowKit Go.Deep
def loadC(P:Program)(H:Nat→Option Blk)(t:TypeId):C→Option C
 | .ptr l sz i j=>match H l with
   | some (.c sz' rows)=>if sz'=sz then (match aggT P t with
     | some false=>at2 rows i j
     | some true=>match szT P t,rows[i]? with
       | some n,some row=>if j+n≤row.length then some (.agg ((row.drop j).take n)) else none
       | _,_=>none
     | none=>none) else none
   | _=>none
 | .d (.ep cs)=>match aggT P t with
   | some false=>(cs[0]?).map .d
   | some true=>match szT P t with
     | some n=>if n≤cs.length then some (.agg ((cs.take n).map .d)) else none
     | none=>none
   | none=>none
 | _=>none
section
variable {P:Program}
theorem loadC_run{ρ:Pl}{F:Nat→List Nat}{RO:Nat→Prop}{H:Nat→Option Blk}{w:World}{t:TypeId}{c c':C}{v:Value}(hs:Sim ρ F RO H w)(hc:RelC ρ RO w c v)(h:loadC P H t c=some c'):
 ∃ ad u,v=.pointer (some ad)∧(loadVar t ad).run P w=.ok u w∧RelC ρ RO w c' u:=by
 cases hc with
 | ptr l sz i j p hp=>
   simp only [loadC] at h
   split at h
   · rename_i sz' rows hB
     split at h
     · rename_i e
       subst e
       obtain ⟨p',hp',hRB⟩:=hs.blk l _ hB
       have:p'=p:=by rw [hp] at hp';injection hp' with e;exact e.symm
       subst this
       split at h
       · rename_i ht
         obtain ⟨u,hu,-,hR⟩:=hRB.cellAt h
         exact ⟨_,u,rfl,run_loadVar1 ht hu,hR⟩
       · rename_i ht
         split at h
         · rename_i n row hn hrow
           split at h
           · rename_i hj
             simp only [Option.some.injEq] at h
             subst h
             have hex:∀k,k<n→∃u,w.cell? ⟨p'.blk,i*sz'+(j+k),none⟩=some u∧u.oneCell'=true∧∀c,row[j+k]? = some c→RelC ρ RO w c u:=fun k hk=>by
              have:at2 rows i (j+k)=some (row[j+k]'(by omega)):=by
               simp only [at2,hrow,Option.bind_some]
               exact List.getElem?_eq_getElem (by omega)
              obtain ⟨u,h1,h2,h3⟩:=hRB.cellAt this
              refine ⟨u,h1,h2,fun c hc'=>?_⟩
              rw [List.getElem?_eq_getElem (by omega)] at hc'
              injection hc' with e;rw [←e];exact h3
             let f:Nat→Value:=fun k=>if hk:k<n then (hex k hk).choose else undef
             have hf:∀k (hk:k<n),w.cell? ⟨p'.blk,i*sz'+(j+k),none⟩=some (f k)∧(f k).oneCell'=true∧∀c,row[j+k]? = some c→RelC ρ RO w c (f k):=fun k hk=>by
              simp only [f,hk,dif_pos]
              exact (hex k hk).choose_spec
             have hget:∀(k:Nat) (u:Value),((List.range n).map f)[k]? = some u→k<n∧u=f k:=fun k u hu=>by
              rw [List.getElem?_map] at hu
              by_cases hk:k<n
              · rw [List.getElem?_range hk] at hu;simp at hu;exact ⟨hk,hu.symm⟩
              · rw [List.getElem?_eq_none (by simpa using hk)] at hu;cases hu
             refine ⟨_,.agg ((List.range n).map f).toArray,rfl,?_,.agg _ _ (by simp;omega) ?_ ?_⟩
             · exact run_loadVarN (P:=P) (ad:=⟨p'.blk,i*sz'+j,none⟩) (w:=w) (vs:=(List.range n).map f) ht hn (by simp) (fun k u hu=>by
                obtain ⟨hk,rfl⟩:=hget k u hu
                rw [addr_add,Nat.add_assoc];exact (hf k hk).1)
             · intro u hu
               obtain ⟨k,hk,rfl⟩:=List.mem_map.1 hu
               exact (hf k (List.mem_range.1 hk)).2.1
             · intro k x u hx hu
               obtain ⟨hk,rfl⟩:=hget k u hu
               rw [List.getElem?_take] at hx
               rw [if_pos hk,List.getElem?_drop] at hx
               exact (hf k hk).2.2 x hx
           · cases h
         · cases h
       · cases h
     · cases h
   · cases h
 | d x v hx =>
   cases hx with
   | ep cs b off U hb cell one rel=>
     simp only [loadC] at h
     split at h
     · rename_i ht
       cases hc0:cs[0]? with
       | none=>rw [hc0] at h;cases h
       | some c0=>
         rw [hc0] at h
         simp only [Option.map_some,Option.some.injEq] at h
         subst h
         exact ⟨_,U 0,rfl,run_loadVar1 ht (show w.cell? ⟨b,off,none⟩=some (U 0) by simpa using cell 0 c0 hc0),.d _ _ (rel 0 c0 hc0)⟩
     · rename_i ht
       split at h
       · rename_i n hn
         split at h
         · rename_i hj
           simp only [Option.some.injEq] at h
           subst h
           have hin:∀k (hk:k<n),cs[k]? = some (cs[k]'(by omega)):=fun k hk=>List.getElem?_eq_getElem (by omega)
           have hget:∀(k:Nat) (u:Value),((List.range n).map U)[k]? = some u→k<n∧u=U k:=fun k u hu=>by
            rw [List.getElem?_map] at hu
            by_cases hk:k<n
            · rw [List.getElem?_range hk] at hu;simp at hu;exact ⟨hk,hu.symm⟩
            · rw [List.getElem?_eq_none (by simpa using hk)] at hu;cases hu
           refine ⟨_,.agg ((List.range n).map U).toArray,rfl,?_,.agg _ _ (by simp;omega) ?_ ?_⟩
           · exact run_loadVarN (P:=P) (ad:=⟨b,off,none⟩) (w:=w) (vs:=(List.range n).map U) ht hn (by simp) (fun k u hu=>by
              obtain ⟨hk,rfl⟩:=hget k u hu
              rw [addr_add];exact cell k _ (hin k hk))
           · intro u hu
             obtain ⟨k,hk,rfl⟩:=List.mem_map.1 hu
             exact one k _ (hin k (List.mem_range.1 hk))
           · intro k x u hx hu
             obtain ⟨hk,rfl⟩:=hget k u hu
             rw [List.getElem?_map,List.getElem?_take,if_pos hk,hin k hk] at hx
             simp only [Option.map_some,Option.some.injEq] at hx
             subst hx
             exact .d _ _ (rel k _ (hin k hk))
         · cases h
       · cases h
     · cases h
   | _=>simp [loadC] at h
 | _=>simp [loadC] at h
def resC(P:Program)(s:St):ResultVar→Option C
 | .tmp t=>some (s.T.getD t .dead)
 | .cell a t=>loadC P s.H.get t (s.T.getD a .dead)
def oneOf : List C→C
 | [c]=>c
 | cs=>.tup cs
theorem results_run{fn:Func}{m:Nat}{s:St}{ρ:Pl}{F:Nat→List Nat}{RO:Nat→Prop}{w:World}{vs:Array Value}{cs:List C}(hA:At m s ρ F RO w vs)(h:fn.results.toList.mapM (resC P s)=some cs):∃v,(results fn vs).run P w=.ok v w∧RelC ρ RO w (oneOf cs) v:=by
 have key : ∀(l:List ResultVar) (cs:List C),l.mapM (resC P s)=some cs→∃us:List Value,(l.mapM (m:=Sem) (fun | .tmp t=>pure (vs.getD t undef) | .cell a t=>do loadVar t (←asAddr (vs.getD a undef)))).run P w=.ok us w∧us.length=cs.length ∧
  ∀ (i:Nat) (c:C) (u:Value),cs[i]? = some c→us[i]? = some u→RelC ρ RO w c u:=by
  intro l
  induction l with
  | nil=>intro cs h;simp at h;subst h;exact ⟨[],by simp,rfl,by simp⟩
  | cons r l ih=>
    intro cs h
    rw [List.mapM_cons] at h
    cases hr:resC P s r with
    | none=>rw [hr] at h;cases h
    | some c=>
      cases hl:l.mapM (resC P s) with
      | none=>rw [hr,hl] at h;cases h
      | some cs'=>
        rw [hr,hl] at h
        simp only [Option.pure_def,Option.bind_eq_bind,Option.bind_some,Option.some.injEq] at h
        subst h
        obtain ⟨us,h1,h2,h3⟩:=ih cs' hl
        have h0:∃u,((match r with | .tmp t=>pure (vs.getD t undef) | .cell a t=>do loadVar t (←asAddr (vs.getD a undef))):Sem Value).run P w=.ok u w∧RelC ρ RO w c u:=by
         cases r with
         | tmp t=>
           simp only [resC,Option.some.injEq] at hr
           subst hr
           exact ⟨_,rfl,hA.rel.tmp t⟩
         | cell a t=>
           simp only [resC] at hr
           obtain ⟨ad,u,e1,e2,e3⟩:=loadC_run hA.sim (hA.rel.tmp a) hr
           exact ⟨u,by simp [e1,asAddr,e2],e3⟩
        obtain ⟨u,h4,h5⟩:=h0
        refine ⟨u::us,?_,by simp [h2],fun i c' u' hc hu=>?_⟩
        · rw [List.mapM_cons,Sem.run_bind,h4]
          simp only [Result.andThen_ok,Sem.run_bind,h1,Sem.run_pure]
        · cases i with
          | zero=>simp at hc hu;subst hc hu;exact h5
          | succ i=>exact h3 i c' u' (by simpa using hc) (by simpa using hu)
 obtain ⟨us,h1,h2,h3⟩:=key _ cs h
 have hrun:(fn.results.mapM (m:=Sem) (fun | .tmp t=>pure (vs.getD t undef) | .cell a t=>do loadVar t (←asAddr (vs.getD a undef)))).run P w=.ok us.toArray w:=by
  rw [←Array.toArray_toList (xs:=fn.results),List.mapM_toArray]
  simp only [Sem.run_map,h1]
  rfl
 have e0:results fn vs=((fn.results.mapM (m:=Sem) (fun | .tmp t=>pure (vs.getD t undef) | .cell a t=>do loadVar t (←asAddr (vs.getD a undef)))) >>= fun us=>pure (if h:us.size=1 then us[0] else .tuple us)):=by
  unfold results
  congr 1
 rw [e0,Sem.run_bind,hrun,Result.andThen_ok]
 by_cases h1:us.length=1
 · obtain ⟨u,rfl⟩:=List.length_eq_one_iff.1 h1
   obtain ⟨c,rfl⟩:=List.length_eq_one_iff.1 (h2.symm.trans h1)
   exact ⟨u,rfl,h3 0 c u rfl rfl⟩
 · refine ⟨.tuple us.toArray,?_,?_⟩
   · simp [h1]
   · have : oneOf cs=.tup cs:=by
      cases cs with
      | nil=>rfl
      | cons c cs=>
        cases cs with
        | nil=>simp at h2;exact absurd h2 h1
        | cons c' cs=>rfl
     rw [this]
     exact .tup cs us h2 h3
structure Back (σ:Nat→Nat) (k k':Nat) (hv H:Hp) (c val:C) (h':Hp):Prop where
 arg:Arg σ k' hv.get c val
 blk:∀l B,h'.get l=some B→l<k'∧hv.get (σ l)=none∧∃B',H.get (σ l)=some B'∧BArg σ k' hv.get B' B
 hv:∀l B,hv.get l=some B→H.get l=some B
 inj:∀l l' B B',h'.get l=some B→h'.get l'=some B'→σ l=σ l'→l=l'
 idk:∀l,l<k→σ l=l
 le:k≤k'
theorem Back.ext{σ:Nat→Nat}{k k':Nat}{hv H:Hp}{c val:C}{h':Hp}(hb:Back σ k k' hv H c val h'){ρ:Pl}{F:Nat→List Nat}{RO:Nat→Prop}{w:World}{v:Value}(hs:Sim ρ F RO H.get w)(hc:RelC ρ RO w c v):
 Ext k ρ F RO H.get w (plR ρ σ k') (fun l=>F (σ l)) (roV F RO hv.get) h'.get w∧RelC (plR ρ σ k') (roV F RO hv.get) w val v:=by
 refine ⟨⟨.refl _ _,fun l hl=>?_,fun b h=>.inl h,fun b h=>h.imp id (fun ⟨l,B,h1,h2⟩=>.inl ⟨l,B,hb.hv l B h1,h2⟩),⟨fun l B hl=>?_,fun l l' B B' hne hl hl'=>?_,fun l B hl b hbm hro=>?_,fun b hro=>?_⟩,fun b ⟨l,B,hl,hbm⟩=>?_⟩,hb.arg.rel hs hb.hv v hc⟩
 · unfold plR;rw [if_pos (Nat.lt_of_lt_of_le hl hb.le),hb.idk l hl]
 · obtain ⟨hlk,_,B',hB',hBA⟩:=hb.blk l B hl
   obtain ⟨p,hpp,hRB⟩:=hs.blk (σ l) B' hB'
   exact ⟨p,by unfold plR;rw [if_pos hlk];exact hpp,hBA.rel hs hb.hv hRB⟩
 · obtain ⟨_,_,B1,hB1,_⟩:=hb.blk l B hl
   obtain ⟨_,_,B2,hB2,_⟩:=hb.blk l' B' hl'
   exact hs.sep _ _ B1 B2 (fun e=>hne (hb.inj l l' B B' hl hl' e)) hB1 hB2
 · obtain ⟨_,hn,B1,hB1,_⟩:=hb.blk l B hl
   rcases hro with h1|⟨y,By,hy,hyb⟩
   · exact hs.nro _ B1 hB1 b hbm h1
   · exact hs.sep (σ l) y B1 By (fun e=>by rw [←e,hn] at hy;cases hy) hB1 (hb.hv y By hy) b hbm hyb
 · rcases hro with h1|⟨y,By,hy,hyb⟩
   · exact hs.ro b h1
   · obtain ⟨p,-,hRB⟩:=hs.blk y By (hb.hv y By hy)
     exact hRB.lt b hyb
 · obtain ⟨_,_,B1,hB1,_⟩:=hb.blk l B hl
   exact .inl ⟨σ l,B1,hB1,hbm⟩
end
structure Weak (m:Nat) (hv:Hp) (s s2:St):Prop where
 len:s.T.length=s2.T.length
 arg:∀(i:Nat) (a f:C),s.T[i]? = some a→s2.T[i]? = some f→Arg id s2.n hv.get a f
 blk:∀l B,s2.H.get l=some B→l<s2.n∧hv.get l=none∧∃B',s.H.get l=some B'∧BArg id s2.n hv.get B' B
 hv:∀l B,hv.get l=some B→s.H.get l=some B
 le:m≤s2.n
theorem Ent.weak{m:Nat}{hv:Hp}{s s2:St}(h:Weak m hv s s2):Ent m s s2:=fun ρ F RO w vs hA=>by
 have hb:Back id m s2.n hv s.H (.tup []) (.tup []) s2.H:=⟨.tup [] [] rfl (by simp),h.blk,h.hv,fun _ _ _ _ _ _ e=>e,fun _ _=>rfl,h.le⟩
 obtain ⟨hx,-⟩:=hb.ext (v:=.tuple [].toArray) hA.sim (.tup [] [] rfl (by simp))
 refine ⟨plR ρ id s2.n,fun l=>F l,roV F RO hv.get,hx,hx.sim,⟨hA.rel.len.trans h.len,fun i c v h1 h2=>?_⟩,fun l hl=>Classical.byContradiction fun h1=>hl (by unfold plR;rw [if_neg h1]),h.le⟩
 have hi:i<s.T.length:=by rw [h.len];exact (List.getElem?_eq_some_iff.1 h1).1
 exact (h.arg i _ c (List.getElem?_eq_getElem hi) h1).rel hA.sim h.hv v (hA.rel.rel i _ v (List.getElem?_eq_getElem hi) h2)
end Ow
