/- A part of the proof. -/
import Derived.Test.YtjakhnhnjhafgaaGreatK01
import Derived.Orders
set_option linter.unusedVariables false
set_option linter.unusedSimpArgs false
namespace Ow
open Go Go.RowKit Go.Deep
inductive D where
 | lit (v:Value)
 | sl (sz:Nat) (els:List (List D))
 | agg (cs:List D)
 | ifc (t:TypeId) (x:D)
 | ep (cs:List D)
 deriving Inhabited
inductive C where
 | d (x:D)
 | ptr (l sz i j:Nat)
 | osl (l sz s n:Nat)
 | agg (cs:List C)
 | tup (cs:List C)
 | ifc (t:TypeId) (x:C)
 | fn (f:Fn) (first cap:List C)
 | dead
 deriving Inhabited
inductive Blk where
 | c (sz:Nat) (rows:List (List C))
 | o (sz:Nat) (els:List (List D))
 deriving Inhabited
def at2{α:Type}(xs:List (List α))(i j:Nat):Option α:=(xs[i]?).bind (·[j]?)
theorem at2_lt{α:Type}{xs:List (List α)}{i j:Nat}{x:α}(h:at2 xs i j=some x):∃(hi:i<xs.length) (hj:j<xs[i].length),xs[i][j]=x:=by
 unfold at2 at h
 cases hx:xs[i]? with
 | none=>rw [hx] at h;cases h
 | some r=>
   rw [hx] at h
   obtain ⟨hi,hr⟩:=List.getElem?_eq_some_iff.1 hx
   subst hr
   obtain ⟨hj,hh⟩:=List.getElem?_eq_some_iff.1 (show xs[i][j]? = some x from h)
   exact ⟨hi,hj,hh⟩
theorem at2_of{α:Type}{xs:List (List α)}{i j:Nat}(hi:i<xs.length)(hj:j<xs[i].length):at2 xs i j=some (xs[i][j]):=by
 unfold at2
 rw [List.getElem?_eq_getElem hi]
 exact List.getElem?_eq_getElem hj
inductive RelD (RO:Nat→Prop) (w:World):D→Value→Prop
 | lit (v:Value):RelD RO w (.lit v) v
 | nil (sz:Nat) (A:Option Addr) (cap:Nat) (h:cap≤maxLen):RelD RO w (.sl sz []) (.slice A 0 cap)
 | sl (sz:Nat) (els:List (List D)) (b off cap:Nat) (U:Nat→Nat→Value) (hb:RO b) (hn:els.length≤cap) (hc:cap≤maxLen) (hr:∀r∈els,r.length=sz)
    (cell:∀i j x,at2 els i j=some x→w.cell? ⟨b,off+i*sz+j,none⟩=some (U i j))
    (one:∀i j x,at2 els i j=some x→(U i j).oneCell'=true)
    (rel:∀i j x,at2 els i j=some x→RelD RO w x (U i j)):RelD RO w (.sl sz els) (.slice (some ⟨b,off,none⟩) els.length cap)
 | agg (cs:List D) (vs:List Value) (hl:vs.length=cs.length) (one:∀v∈vs,v.oneCell'=true)
    (rel:∀(i:Nat) (x:D) (v:Value),cs[i]? = some x→vs[i]? = some v→RelD RO w x v):RelD RO w (.agg cs) (.agg vs.toArray)
 | ifc (t:TypeId) (x:D) (v:Value) (h:RelD RO w x v):RelD RO w (.ifc t x) (.iface t v)
 | ep (cs:List D) (b off:Nat) (U:Nat→Value) (hb:RO b)
    (cell:∀(j:Nat) (x:D),cs[j]? = some x→w.cell? ⟨b,off+j,none⟩=some (U j))
    (one:∀(j:Nat) (x:D),cs[j]? = some x→(U j).oneCell'=true)
    (rel:∀(j:Nat) (x:D),cs[j]? = some x→RelD RO w x (U j)):RelD RO w (.ep cs) (.pointer (some ⟨b,off,none⟩))
theorem RelD.mono{RO RO':Nat→Prop}{w w':World}{x:D}{v:Value}(h:RelD RO w x v)(hR:∀b,RO b→RO' b)(hw:∀b,RO b→w'.heap[b]? = w.heap[b]?):RelD RO' w' x v:=by
 induction h with
 | lit v=>exact .lit v
 | nil sz A cap h=>exact .nil sz A cap h
 | sl sz els b off cap U hb hn hc hr cell one rel ih=>
   exact .sl sz els b off cap U (hR b hb) hn hc hr (fun i j x hx=>(World.cell?_of_block (w:=w) (hw b hb)).trans (cell i j x hx)) one ih
 | agg cs vs hl one rel ih=>exact .agg cs vs hl one ih
 | ifc t x v h ih=>exact .ifc t x v ih
 | ep cs b off U hb cell one rel ih=>exact .ep cs b off U (hR b hb) (fun j x hx=>(World.cell?_of_block (w:=w) (hw b hb)).trans (cell j x hx)) one ih
structure Place where
 blk:Nat
 size:Nat
abbrev Pl := Nat→Option Place
inductive RelC (ρ:Pl) (RO:Nat→Prop) (w:World):C→Value→Prop
 | d (x:D) (v:Value) (h:RelD RO w x v):RelC ρ RO w (.d x) v
 | ptr (l sz i j:Nat) (p:Place) (hp:ρ l=some p):RelC ρ RO w (.ptr l sz i j) (.pointer (some ⟨p.blk,i*sz+j,none⟩))
 | osl (l sz s n cap:Nat) (p:Place) (hp:ρ l=some p) (hn:n≤cap) (hc:cap≤maxLen) (hm:(s+cap)*sz≤p.size) :
    RelC ρ RO w (.osl l sz s n) (.slice (some ⟨p.blk,s*sz,none⟩) n cap)
 | osln (l sz s:Nat) (A:Option Addr):RelC ρ RO w (.osl l sz s 0) (.slice A 0 0)
 | agg (cs:List C) (vs:List Value) (hl:vs.length=cs.length) (one:∀v∈vs,v.oneCell'=true)
    (rel:∀(i:Nat) (x:C) (v:Value),cs[i]? = some x→vs[i]? = some v→RelC ρ RO w x v):RelC ρ RO w (.agg cs) (.agg vs.toArray)
 | tup (cs:List C) (vs:List Value) (hl:vs.length=cs.length)
    (rel:∀(i:Nat) (x:C) (v:Value),cs[i]? = some x→vs[i]? = some v→RelC ρ RO w x v):RelC ρ RO w (.tup cs) (.tuple vs.toArray)
 | ifc (t:TypeId) (x:C) (v:Value) (h:RelC ρ RO w x v):RelC ρ RO w (.ifc t x) (.iface t v)
 | fn (f:Fn) (xs ys:List C) (us vs:List Value) (hl:us.length=xs.length) (hl':vs.length=ys.length)
    (rel:∀(i:Nat) (x:C) (v:Value),xs[i]? = some x→us[i]? = some v→RelC ρ RO w x v)
    (rel':∀(i:Nat) (x:C) (v:Value),ys[i]? = some x→vs[i]? = some v→RelC ρ RO w x v):RelC ρ RO w (.fn f xs ys) (.func f us.toArray vs.toArray)
 | dead (v:Value):RelC ρ RO w .dead v
theorem RelC.mono{ρ ρ':Pl}{RO RO':Nat→Prop}{w w':World}{x:C}{v:Value}(h:RelC ρ RO w x v)(hρ:∀l p,ρ l=some p→ρ' l=some p)(hR:∀b,RO b→RO' b)
 (hw:∀b,RO b→w'.heap[b]? = w.heap[b]?):RelC ρ' RO' w' x v:=by
 induction h with
 | d x v h=>exact .d x v (h.mono hR hw)
 | ptr l sz i j p hp=>exact .ptr l sz i j p (hρ l p hp)
 | osl l sz s n cap p hp hn hc hm=>exact .osl l sz s n cap p (hρ l p hp) hn hc hm
 | osln l sz s A=>exact .osln l sz s A
 | agg cs vs hl one rel ih=>exact .agg cs vs hl one ih
 | tup cs vs hl rel ih=>exact .tup cs vs hl ih
 | ifc t x v h ih=>exact .ifc t x v ih
 | fn f xs ys us vs hl hl' rel rel' ih ih'=>exact .fn f xs ys us vs hl hl' ih ih'
 | dead v=>exact .dead v
inductive OwnD (w:World):D→Value→List Nat→Prop
 | lit (v:Value) (F:List Nat):OwnD w (.lit v) v F
 | nil (sz:Nat) (F:List Nat):OwnD w (.sl sz []) (.slice none 0 0) F
 | sl (sz:Nat) (els:List (List D)) (b off cap:Nat) (U:Nat→Nat→Value) (G:Nat→Nat→List Nat) (F:List Nat) (cs:Array Value) (t:TypeId)
    (hb:w.heap[b]? = some (.cells cs t (0,0))) (hbF:b∈F) (hn:els.length≤cap) (hc:cap≤maxLen) (hm:off+cap*sz≤cs.size) (hr:∀r∈els,r.length=sz)
    (cell:∀i j x,at2 els i j=some x→cs[off+i*sz+j]? = some (U i j))
    (one:∀i j x,at2 els i j=some x→(U i j).oneCell'=true)
    (rel:∀i j x,at2 els i j=some x→OwnD w x (U i j) (G i j))
    (sub:∀i j x,at2 els i j=some x→∀g∈G i j,g∈F∧g≠b)
    (sep:∀i j x i' j' x',at2 els i j=some x→at2 els i' j'=some x'→(i,j)≠(i',j')→∀g∈G i j,g∉G i' j') :
    OwnD w (.sl sz els) (.slice (some ⟨b,off,none⟩) els.length cap) F
theorem OwnD.mono{w w':World}{x:D}{v:Value}{F:List Nat}(h:OwnD w x v F)(hw:∀b∈F,w'.heap[b]? = w.heap[b]?):OwnD w' x v F:=by
 induction h with
 | lit v F=>exact .lit v F
 | nil sz F=>exact .nil sz F
 | sl sz els b off cap U G F cs t hb hbF hn hc hm hr cell one rel sub sep ih=>
   exact .sl sz els b off cap U G F cs t ((hw b hbF).trans hb) hbF hn hc hm hr cell one (fun i j x hx=>ih i j x hx (fun g hg=>hw g (sub i j x hx g hg).1)) sub sep
inductive RelB (ρ:Pl) (RO:Nat→Prop) (w:World) (p:Place):Blk→List Nat→Prop
 | c (sz:Nat) (rows:List (List C)) (cs:Array Value) (t:TypeId) (hb:w.heap[p.blk]? = some (.cells cs t (0,0))) (hs:cs.size=p.size) (hr:∀r∈rows,r.length=sz)
    (U:Nat→Nat→Value)
    (cell:∀i j c,at2 rows i j=some c→cs[i*sz+j]? = some (U i j))
    (one:∀i j c,at2 rows i j=some c→(U i j).oneCell'=true)
    (rel:∀i j c,at2 rows i j=some c→RelC ρ RO w c (U i j)):RelB ρ RO w p (.c sz rows) [p.blk]
 | v (sz:Nat) (hs:p.size=0):RelB ρ RO w p (.c sz []) []
 | o (sz:Nat) (els:List (List D)) (F:List Nat) (cs:Array Value) (t:TypeId) (hb:w.heap[p.blk]? = some (.cells cs t (0,0))) (hbF:p.blk∈F) (hs:cs.size=p.size) (hr:∀r∈els,r.length=sz)
    (hlt:∀g∈F,g<w.heap.size)
    (U:Nat→Nat→Value) (G:Nat→Nat→List Nat)
    (cell:∀i j x,at2 els i j=some x→cs[i*sz+j]? = some (U i j))
    (one:∀i j x,at2 els i j=some x→(U i j).oneCell'=true)
    (rel:∀i j x,at2 els i j=some x→OwnD w x (U i j) (G i j))
    (sub:∀i j x,at2 els i j=some x→∀g∈G i j,g∈F∧g≠p.blk)
    (sep:∀i j x i' j' x',at2 els i j=some x→at2 els i' j'=some x'→(i,j)≠(i',j')→∀g∈G i j,g∉G i' j'):RelB ρ RO w p (.o sz els) F
theorem lt_of_block{w:World}{b:Nat}{o:Obj}(h:w.heap[b]? = some o):b<w.heap.size:=by
 rcases Nat.lt_or_ge b w.heap.size with h1|h1
 · exact h1
 · rw [Array.getElem?_eq_none h1] at h;cases h
theorem RelB.lt{ρ:Pl}{RO:Nat→Prop}{w:World}{p:Place}{B:Blk}{F:List Nat}(h:RelB ρ RO w p B F):∀b∈F,b<w.heap.size:=by
 cases h with
 | c sz rows cs t hb=>intro b hb';simp at hb';subst hb';exact lt_of_block hb
 | v sz hs=>intro b hb;cases hb
 | o sz els F cs t hb hbF hs hr hlt=>exact hlt
theorem RelB.mono{ρ ρ':Pl}{RO RO':Nat→Prop}{w w':World}{p:Place}{B:Blk}{F:List Nat}(h:RelB ρ RO w p B F)(hρ:∀l p,ρ l=some p→ρ' l=some p)(hR:∀b,RO b→RO' b)
 (hw:∀b,RO b→w'.heap[b]? = w.heap[b]?) (hF:∀b∈F,w'.heap[b]? = w.heap[b]?):RelB ρ' RO' w' p B F:=by
 cases h with
 | c sz rows cs t hb hs hr U cell one rel=>
   exact .c sz rows cs t ((hF _ (by simp)).trans hb) hs hr U cell one (fun i j c hc=>(rel i j c hc).mono hρ hR hw)
 | v sz hs=>exact .v sz hs
 | o sz els F cs t hb hbF hs hr hlt U G cell one rel sub sep=>
   refine .o sz els F cs t ((hF _ hbF).trans hb) hbF hs hr (fun g hg=>?_) U G cell one (fun i j x hx=>(rel i j x hx).mono (fun g hg=>hF g (sub i j x hx g hg).1)) sub sep
   have h1:=hlt g hg
   have h2:=hF g hg
   rcases Nat.lt_or_ge g w'.heap.size with h3|h3
   · exact h3
   · rw [Array.getElem?_eq_none h3,Array.getElem?_eq_getElem h1] at h2;cases h2
abbrev Hp := List (Nat×Blk)
structure Sim (ρ:Pl) (F:Nat→List Nat) (RO:Nat→Prop) (H:Nat→Option Blk) (w:World):Prop where
 blk:∀l B,H l=some B→∃p,ρ l=some p∧RelB ρ RO w p B (F l)
 sep:∀l l' B B',l≠l'→H l=some B→H l'=some B'→∀b∈F l,b∉F l'
 nro:∀l B,H l=some B→∀b∈F l,¬RO b
 ro:∀b,RO b→b<w.heap.size
structure ChgP (X:Nat→Prop) (w w':World):Prop where
 os:w'.os=w.os
 tape:w'.tape=w.tape
 output:w'.output=w.output
 size:w.heap.size≤w'.heap.size
 block:∀k,k<w.heap.size→¬X k→w'.heap[k]? = w.heap[k]?
theorem ChgP.refl(X:Nat→Prop)(w:World):ChgP X w w:=⟨rfl,rfl,rfl,Nat.le_refl _,fun _ _ _=>rfl⟩
theorem ChgP.trans{X Y:Nat→Prop}{w w1 w2:World}(h:ChgP X w w1)(k:ChgP Y w1 w2)(hY:∀b,Y b→X b∨w.heap.size≤b):ChgP X w w2:=
 ⟨k.os.trans h.os,k.tape.trans h.tape,k.output.trans h.output,Nat.le_trans h.size k.size,fun i hi hn=>
   (k.block i (Nat.lt_of_lt_of_le hi h.size) (fun hg=>(hY i hg).elim hn (fun h1=>absurd hi (Nat.not_lt.2 h1)))).trans (h.block i hi hn)⟩
theorem ChgP.mono{X Y:Nat→Prop}{w w1:World}(h:ChgP X w w1)(hY:∀b,X b→Y b∨w.heap.size≤b):ChgP Y w w1:=
 ⟨h.os,h.tape,h.output,h.size,fun i hi hn=>h.block i hi (fun hx=>(hY i hx).elim hn (fun h1=>absurd hi (Nat.not_lt.2 h1)))⟩
theorem ChgP.to{F:List Nat}{w w':World}(h:ChgP (·∈F) w w'):Chg F w w':=⟨h.os,h.tape,h.output,h.size,h.block⟩
theorem ChgP.of{F:List Nat}{w w':World}(h:Chg F w w'):ChgP (·∈F) w w':=⟨h.os,h.tape,h.output,h.size,h.block⟩
def foot(F:Nat→List Nat)(H:Nat→Option Blk)(b:Nat):Prop:=∃l B,H l=some B∧b∈F l
structure Ext (m:Nat) (ρ:Pl) (F:Nat→List Nat) (RO:Nat→Prop) (H:Nat→Option Blk) (w:World) (ρ':Pl) (F':Nat→List Nat) (RO':Nat→Prop) (H':Nat→Option Blk) (w':World):Prop where
 chg:ChgP (foot F H) w w'
 base:∀l,l<m→ρ' l=ρ l
 ro:∀b,RO b→RO' b
 ro':∀b,RO' b→RO b∨foot F H b∨w.heap.size≤b
 sim:Sim ρ' F' RO' H' w'
 new:∀b,foot F' H' b→foot F H b∨w.heap.size≤b
theorem Ext.refl{m:Nat}{ρ:Pl}{F:Nat→List Nat}{RO:Nat→Prop}{H:Nat→Option Blk}{w:World}(h:Sim ρ F RO H w):Ext m ρ F RO H w ρ F RO H w:=
 ⟨.refl _ _,fun _ _=>rfl,fun _ h=>h,fun _ h=>.inl h,h,fun _ h=>.inl h⟩
theorem Ext.trans{m:Nat}{ρ ρ1 ρ2:Pl}{F F1 F2:Nat→List Nat}{RO RO1 RO2:Nat→Prop}{H H1 H2:Nat→Option Blk}{w w1 w2:World}
 (h:Ext m ρ F RO H w ρ1 F1 RO1 H1 w1) (k:Ext m ρ1 F1 RO1 H1 w1 ρ2 F2 RO2 H2 w2):Ext m ρ F RO H w ρ2 F2 RO2 H2 w2:=
 ⟨h.chg.trans k.chg h.new,fun l hl=>(k.base l hl).trans (h.base l hl),fun b hb=>k.ro b (h.ro b hb),
  fun b hb=>(k.ro' b hb).elim (h.ro' b) (fun h1=>h1.elim (fun h2=>.inr (h.new b h2)) (fun h2=>.inr (.inr (Nat.le_trans h.chg.size h2)))),k.sim,
  fun b hb=>(k.new b hb).elim (h.new b) (fun h2=>.inr (Nat.le_trans h.chg.size h2))⟩
theorem Ext.keeps{m:Nat}{ρ ρ':Pl}{F F':Nat→List Nat}{RO RO':Nat→Prop}{H H':Nat→Option Blk}{w w':World}(hs:Sim ρ F RO H w)
 (h:Ext m ρ F RO H w ρ' F' RO' H' w'):∀b,RO b→w'.heap[b]? = w.heap[b]?:=
 fun b hb=>h.chg.block b (hs.ro b hb) (fun ⟨l,B,hl,hx⟩=>hs.nro l B hl b hx hb)
theorem Ext.frame{m:Nat}{ρ ρ':Pl}{F F':Nat→List Nat}{RO RO':Nat→Prop}{H h h':Nat→Option Blk}{w w':World}(hs:Sim ρ F RO H w)
 (e:Ext m ρ F RO h w ρ' F' RO' h' w') (hle:∀l p,ρ l=some p→ρ' l=some p) (hsub:∀l B,h l=some B→H l=some B) (T:Nat→Bool)
 (hT:∀l B,h l=some B→T l=true) (hT':∀l,T l=true→H l=h l) (hT2:∀l B,h' l=some B→T l=true) :
 Ext m ρ F RO H w ρ' (fun l=>if T l then F' l else F l) RO' (fun l=>if T l then h' l else H l) w':=by
 have ft:∀b,foot F h b→foot F H b:=fun b ⟨l,B,h1,h2⟩=>⟨l,B,hsub l B h1,h2⟩
 have far:∀l B,T l=false→H l=some B→∀b∈F l,¬foot F h b:=fun l B hl hB b hb ⟨l1,B1,h1,h2⟩=>
  hs.sep l l1 B B1 (fun e=>by subst e;rw [hT l B1 h1] at hl;cases hl) hB (hsub _ _ h1) b hb h2
 have lt:∀l B,H l=some B→∀b∈F l,b<w.heap.size:=fun l B hB b hb=>by
  obtain ⟨p,-,hp⟩:=hs.blk l B hB
  exact hp.lt b hb
 refine ⟨e.chg.mono (fun b hb=>.inl (ft b hb)),e.base,e.ro,fun b hb=>(e.ro' b hb).imp id (fun h1=>h1.imp (ft b) id),⟨?_,?_,?_,e.sim.ro⟩,?_⟩
 · intro l B hB
   cases hl:T l with
   | true=>
     simp only [hl,if_true] at hB ⊢
     exact e.sim.blk l B hB
   | false=>
     simp only [hl,Bool.false_eq_true,if_false] at hB ⊢
     obtain ⟨p,hp,hr⟩:=hs.blk l B hB
     refine ⟨p,hle l p hp,hr.mono hle e.ro (fun b hb=>e.chg.block b (hs.ro b hb) (fun hf=>?_)) (fun b hb=>e.chg.block b (hr.lt b hb) (far l B hl hB b hb))⟩
     obtain ⟨l1,B1,h1,h2⟩:=ft b hf
     exact hs.nro l1 B1 h1 b h2 hb
 · intro l l' B B' hne hB hB' b hb
   cases hl:T l with
   | true=>
     cases hl':T l' with
     | true=>
       simp only [hl,hl',if_true] at hB hB' hb ⊢
       exact e.sim.sep l l' B B' hne hB hB' b hb
     | false=>
       simp only [hl,hl',Bool.false_eq_true,if_true,if_false] at hB hB' hb ⊢
       intro hb'
       rcases e.new b ⟨l,B,hB,hb⟩ with h1|h1
       · exact far l' B' hl' hB' b hb' h1
       · exact absurd (lt l' B' hB' b hb') (Nat.not_lt.2 h1)
   | false=>
     cases hl':T l' with
     | true=>
       simp only [hl,hl',Bool.false_eq_true,if_true,if_false] at hB hB' hb ⊢
       intro hb'
       rcases e.new b ⟨l',B',hB',hb'⟩ with h1|h1
       · exact far l B hl hB b hb h1
       · exact absurd (lt l B hB b hb) (Nat.not_lt.2 h1)
     | false=>
       simp only [hl,hl',Bool.false_eq_true,if_false] at hB hB' hb ⊢
       exact hs.sep l l' B B' hne hB hB' b hb
 · intro l B hB b hb hro
   cases hl:T l with
   | true=>
     simp only [hl,if_true] at hB hb
     exact e.sim.nro l B hB b hb hro
   | false=>
     simp only [hl,Bool.false_eq_true,if_false] at hB hb
     rcases e.ro' b hro with h1|h1|h1
     · exact hs.nro l B hB b hb h1
     · exact far l B hl hB b hb h1
     · exact absurd (lt l B hB b hb) (Nat.not_lt.2 h1)
 · rintro b ⟨l,B,hB,hb⟩
   cases hl:T l with
   | true=>
     simp only [hl,if_true] at hB hb
     exact (e.new b ⟨l,B,hB,hb⟩).imp (ft b) id
   | false=>
     simp only [hl,Bool.false_eq_true,if_false] at hB hb
     exact .inl ⟨l,B,hB,hb⟩
end Ow
namespace Ow
open Go Go.RowKit Go.Deep
def Hp.get(h:Hp)(l:Nat):Option Blk:=h.lookup l
theorem Hp.get_cons(x:Nat×Blk)(h:Hp)(l:Nat):Hp.get (x::h) l=if l=x.1 then some x.2 else Hp.get h l:=by
 obtain ⟨a,b⟩:=x
 simp only [Hp.get,List.lookup_cons]
 by_cases hx:l=a
 · simp [hx]
 · rw [if_neg hx,show (l==a)=false by simpa using hx]
theorem Hp.mem_of_get{h:Hp}{l:Nat}{B:Blk}(hh:h.get l=some B):l∈h.map (·.1):=by
 induction h with
 | nil=>cases hh
 | cons x h ih=>
   rw [Hp.get_cons] at hh
   split at hh
   · rename_i e;simp [e]
   · exact List.mem_cons_of_mem _ (ih hh)
theorem Hp.get_of_mem{h:Hp}{l:Nat}(hh:l∈h.map (·.1)):h.get l≠none:=by
 induction h with
 | nil=>cases hh
 | cons x h ih=>
   rw [Hp.get_cons]
   split
   · simp
   · rename_i e
     simp only [List.map_cons,List.mem_cons] at hh
     exact ih (hh.resolve_left e)
structure Rec where
 pre:Hp
 chg:List Nat
 post:Hp
 val:C
def Rec.after(r:Rec)(l:Nat):Option Blk:=if r.chg.contains l then r.post.get l else r.pre.get l
def Rec.dom(r:Rec):List Nat:=r.pre.map (·.1)++r.chg
def evC(T:List C):Operand→C
 | .tmp t=>T.getD t .dead
 | .const v=>.d (.lit v)
 | .func f=>.fn (.func f) [] []
 | .global _=>.dead
structure RelT (ρ:Pl) (RO:Nat→Prop) (w:World) (T:List C) (vs:Array Value):Prop where
 len:vs.size=T.length
 rel:∀(i:Nat) (c:C) (v:Value),T[i]? = some c→vs[i]? = some v→RelC ρ RO w c v
theorem RelT.mono{ρ ρ':Pl}{RO RO':Nat→Prop}{w w':World}{T:List C}{vs:Array Value}(h:RelT ρ RO w T vs)(hρ:∀l p,ρ l=some p→ρ' l=some p)(hR:∀b,RO b→RO' b)
 (hw:∀b,RO b→w'.heap[b]? = w.heap[b]?):RelT ρ' RO' w' T vs:=⟨h.len,fun i c v h1 h2=>(h.rel i c v h1 h2).mono hρ hR hw⟩
theorem RelT.tmp{ρ:Pl}{RO:Nat→Prop}{w:World}{T:List C}{vs:Array Value}(h:RelT ρ RO w T vs)(t:Nat):RelC ρ RO w (T.getD t .dead) (vs.getD t undef):=by
 rcases Nat.lt_or_ge t T.length with h1|h1
 · have h2:t<vs.size:=by rw [h.len];exact h1
   have:=h.rel t T[t] vs[t] (List.getElem?_eq_getElem h1) (Array.getElem?_eq_getElem h2)
   simpa [List.getD_eq_getElem?_getD,List.getElem?_eq_getElem h1,Array.getD_eq_getD_getElem?,Array.getElem?_eq_getElem h2] using this
 · simp only [List.getD_eq_getElem?_getD,List.getElem?_eq_none h1,Option.getD_none]
   exact .dead _
theorem RelT.ev{ρ:Pl}{RO:Nat→Prop}{w:World}{T:List C}{a:Act}(h:RelT ρ RO w T a.tmps)(x:Operand):RelC ρ RO w (evC T x) (a.eval x):=by
 cases x with
 | tmp t=>exact h.tmp t
 | const v=>exact .d _ _ (.lit v)
 | global g=>exact .dead _
 | func f=>exact .fn _ [] [] [] [] rfl rfl (by simp) (by simp)
def setD{α:Type}(T:List α)(d:Option Nat)(c:α):List α:=match d with|some d=>T.set d c|none=>T
theorem RelT.put{ρ:Pl}{RO:Nat→Prop}{w:World}{T:List C}{a:Act}(h:RelT ρ RO w T a.tmps)(d:Option Nat){c:C}{v:Value}(hv:RelC ρ RO w c v):RelT ρ RO w (setD T d c) (a.put d v).tmps:=by
 cases d with
 | none=>exact h
 | some d=>
   refine ⟨by simp [setD,Act.put,h.len],fun i c1 v1 h1 h2=>?_⟩
   simp only [setD,List.getElem?_set] at h1
   simp only [Act.put,Array.getElem?_setIfInBounds] at h2
   by_cases hd:d=i
   · subst hd
     by_cases hl:d<T.length
     · rw [if_pos rfl,if_pos hl] at h1
       rw [if_pos rfl,if_pos (by rw [h.len];exact hl)] at h2
       cases h1;cases h2;exact hv
     · rw [if_pos rfl,if_neg hl] at h1;cases h1
   · rw [if_neg hd] at h1 h2
     exact h.rel i c1 v1 h1 h2
def OpT(P:Program)(o:Oper)(ev:Operand→C)(r:Rec):Prop:=
 ∀ (m:Nat) (ρ:Pl) (F:Nat→List Nat) (RO:Nat→Prop) (w:World) (a:Act),Sim ρ F RO r.pre.get w→(∀l∈r.chg,r.pre.get l=none→ρ l=none∧m≤l) →
  (∀x∈o.op.operands,RelC ρ RO w (ev x) (a.eval x))→∀(next:Act→World→Prop) (Q:Exit→Act→World→Prop),
  (∀ρ' F' RO' w' v,Ext m ρ F RO r.pre.get w ρ' F' RO' r.after w'→(∀l p,ρ l=some p→ρ' l=some p)→(∀l,ρ l=none→l∉r.chg→ρ' l=none)→RelC ρ' RO' w' r.val v→next (a.put o.dst v) w') →
  o.wp P a w next Q
structure Ab where
 T : List C
 H : Nat→Option Blk
def Ab.app(s:Ab)(d:Option Nat):Option Rec→Ab
 | none=>⟨setD s.T d .dead,s.H⟩
 | some r=>⟨setD s.T d r.val,fun l=>if r.chg.contains l then r.post.get l else s.H l⟩
def okAt(P:Program)(ops:Array Oper)(s:Ab)(o:Oper)(nx:Nat):Option Rec→Prop
 | none=>∃j want d b,o.guard=some (j,want)∧(ops[j]?).bind (·.dst)=some d∧s.T[d]? = some (.d (.lit (.bool b)))∧b=!want
 | some r=>(o.guard=none∨∃j want d,o.guard=some (j,want)∧(ops[j]?).bind (·.dst)=some d∧s.T[d]? = some (.d (.lit (.bool want))))∧OpT P o (evC s.T) r ∧
    (∀l B,r.pre.get l=some B→s.H l=some B)∧(∀l∈r.chg,r.pre.get l=none→nx≤l)
structure Sum1 where
 looks:List Nat
 dst:Option Nat
 dom:List Nat
 chg:List Nat
 after:List Nat
def sumOf(ops:Array Oper)(o:Oper)(r:Option Rec):Sum1:=
 { looks:=o.looksAt ops,dst:=o.dst,dom:=(r.map Rec.dom).getD [],chg:=(r.map Rec.chg).getD [],
   after:=(o.after.toList.filter (Region.binds .any ·)).map (·.on) }
def dj(xs ys:List Nat):Bool:=xs.all fun x=>!ys.contains x
def indep(x y:Sum1):Bool:=
 (match x.dst with|some d=>!y.looks.contains d&&y.dst != some d|none=>true)&&(match y.dst with|some d=>!x.looks.contains d|none=>true)&&dj x.chg y.dom&&dj y.chg x.dom
def maskOf(acc:List Nat)(x:Sum1):Nat:=x.after.foldl (fun s e=>s ||| 2 ^ e ||| acc.getD e 0) 0
def masks : List Sum1→List Nat→List Nat
 | [],acc=>acc
 | x::xs,acc=>masks xs (acc++[maskOf acc x])
def pairsOk(l:List Sum1)(ms:List Nat):Bool:=
 (List.range l.length).all fun j=>(List.range j).all fun i=>(ms.getD j 0).testBit i||(match l[i]?,l[j]? with|some x,some y=>indep x y|_,_=>true)
def edgesOk(l:List Sum1):Bool:=(List.range l.length).all fun j=>match l[j]? with|some x=>x.after.all (· < j)|none=>true
def regCk(l:List Sum1):Bool:=edgesOk l&&pairsOk l (masks l [])
theorem testBit_fold(acc:List Nat)(l:List Nat)(i:Nat):∀s:Nat,(l.foldl (fun s e=>s ||| 2 ^ e ||| acc.getD e 0) s).testBit i=true→s.testBit i=true∨∃e∈l,i=e∨(acc.getD e 0).testBit i=true:=by
 induction l with
 | nil=>intro s h;exact .inl h
 | cons e l ih=>
   intro s h
   rcases ih _ h with h1|⟨e1,h1,h2⟩
   · rw [Nat.testBit_or,Nat.testBit_or,Bool.or_eq_true,Bool.or_eq_true,Nat.testBit_two_pow] at h1
     rcases h1 with (h1|h1)|h1
     · exact .inl h1
     · exact .inr ⟨e,by simp,.inl (by simpa using (of_decide_eq_true h1).symm)⟩
     · exact .inr ⟨e,by simp,.inr h1⟩
   · exact .inr ⟨e1,by simp [h1],h2⟩
theorem masks_ok(S:Nat→Bool)(L:List Sum1)(hS:∀(j:Nat) (x:Sum1),L[j]? = some x→S j=true→∀e∈x.after,S e=true)(he:∀(j:Nat) (x:Sum1),L[j]? = some x→∀e∈x.after,e<j):
 ∀ (l:List Sum1) (acc:List Nat),(∀(k:Nat) (x:Sum1),l[k]? = some x→L[acc.length+k]? = some x) →
  (∀j<acc.length,∀(i:Nat) (x:Sum1),L[j]? = some x→(acc.getD j 0).testBit i=true→(∀e∈x.after,S e=true)→S i=true) →
  ∀ (j i:Nat) (x:Sum1),L[j]? = some x→j<acc.length+l.length→((masks l acc).getD j 0).testBit i=true→(∀e∈x.after,S e=true)→S i=true:=by
 intro l
 induction l with
 | nil=>intro acc _ h j i x hx hj;exact h j (by simpa using hj) i x hx
 | cons x l ih=>
   intro acc hl h
   have hx0:=hl 0 x rfl
   refine fun j i y hy hj hm ha=>ih (acc++[maskOf acc x]) (fun k y hk=>?_) (fun j hj i y hy ht ha=>?_) j i y hy (by simp at hj ⊢;omega) hm ha
   · have:=hl (k+1) y (by simpa using hk)
     rw [List.length_append,List.length_singleton,Nat.add_assoc,Nat.add_comm 1 k]
     exact this
   · rcases Nat.lt_or_ge j acc.length with h1|h1
     · exact h j h1 i y hy (by simpa [List.getD_eq_getElem?_getD,List.getElem?_append_left h1] using ht) ha
     · have hj':j=acc.length:=by simp at hj;omega
       subst hj'
       have e1:y=x:=by have:=hy.symm.trans hx0;injection this
       subst e1
       have ht':(maskOf acc y).testBit i=true:=by simpa [List.getD_eq_getElem?_getD] using ht
       rcases testBit_fold acc y.after i 0 ht' with h2|⟨e,h2,h3⟩
       · simp at h2
       · have hse:=ha e h2
         rcases h3 with h3|h3
         · rw [h3];exact hse
         · have hlt:=he _ _ hy e h2
           rcases hz:L[e]? with _|z
           · have:L.length≤e:=List.getElem?_eq_none_iff.1 hz
             have:acc.length<L.length:=(List.getElem?_eq_some_iff.1 hy).1
             omega
           · exact h e hlt i z hz h3 (hS e z hz hse)
def dstOf(ops:Array Oper)(i:Nat):Option Nat:=(ops[i]?).bind (·.dst)
def stS(ops:Array Oper)(rs:List (Option Rec))(S:Nat→Bool)(s:Ab):Nat→Ab
 | 0=>s
 | k+1=>if S k then (stS ops rs S s k).app (dstOf ops k) ((rs[k]?).getD none) else stS ops rs S s k
theorem Ab.app_len(s:Ab)(d:Option Nat)(r:Option Rec):(s.app d r).T.length=s.T.length:=by cases r<;>cases d<;>simp [Ab.app,setD]
theorem stS_len(ops:Array Oper)(rs:List (Option Rec))(S:Nat→Bool)(s:Ab)(k:Nat):(stS ops rs S s k).T.length=s.T.length:=by
 induction k with
 | zero=>rfl
 | succ k ih=>simp only [stS];split;rw [Ab.app_len,ih];exact ih
def recC(r:Option Rec):C:=match r with|none=>.dead|some r=>r.val
theorem Ab.app_T(s:Ab)(d:Option Nat)(r:Option Rec):(s.app d r).T=setD s.T d (recC r):=by cases r<;>rfl
theorem app_T_ne{s:Ab}{d:Option Nat}{r:Option Rec}{t:Nat}(h:d≠some t):(s.app d r).T[t]? = s.T[t]?:=by
 rw [Ab.app_T]
 cases d with
 | none=>rfl
 | some d=>simp only [setD];rw [List.getElem?_set_ne (fun e=>h (by rw [e]))]
def chgOf(r:Option Rec):List Nat:=(r.map Rec.chg).getD []
theorem app_H_ne{s:Ab}{d:Option Nat}{r:Option Rec}{l:Nat}(h:l∉chgOf r):(s.app d r).H l=s.H l:=by
 cases r with
 | none=>rfl
 | some r=>simp only [Ab.app];rw [if_neg (by simpa [chgOf] using h)]
theorem app_congr_T{s s':Ab}{d:Option Nat}{r:Option Rec}{t:Nat}(hl:s.T.length=s'.T.length)(h:s.T[t]? = s'.T[t]?):(s.app d r).T[t]? = (s'.app d r).T[t]?:=by
 rw [Ab.app_T,Ab.app_T]
 cases d with
 | none=>exact h
 | some d=>simp only [setD,List.getElem?_set,hl,h]
theorem app_congr_H{s s':Ab}{d:Option Nat}{r:Option Rec}{l:Nat}(h:s.H l=s'.H l):(s.app d r).H l=(s'.app d r).H l:=by
 cases r with
 | none=>exact h
 | some r=>simp only [Ab.app,h]
theorem dj_spec{xs ys:List Nat}(h:dj xs ys=true){x:Nat}(hx:x∈xs):x∉ys:=by
 unfold dj at h
 have:=List.all_eq_true.1 h x hx
 simpa using this
structure Indep (x y:Sum1):Prop where
 a : ∀d,x.dst=some d→d∉y.looks
 b : ∀d,x.dst=some d→y.dst≠some d
 c : ∀d,y.dst=some d→d∉x.looks
 d : ∀l∈x.chg,l∉y.dom
 e : ∀l∈y.chg,l∉x.dom
theorem indep_spec{x y:Sum1}(h:indep x y=true):Indep x y:=by
 unfold indep at h
 simp only [Bool.and_eq_true] at h
 obtain ⟨⟨⟨h1,h2⟩,h3⟩,h4⟩:=h
 refine ⟨fun d hd=>?_,fun d hd=>?_,fun d hd=>?_,fun l hl=>dj_spec h3 hl,fun l hl=>dj_spec h4 hl⟩
 · rw [hd] at h1;simp at h1;exact h1.1
 · rw [hd] at h1;simp at h1;exact h1.2
 · rw [hd] at h2;simp at h2;exact h2
theorem app_comm {s:Ab} {d d':Option Nat} {r r':Option Rec} (hd:∀x,d=some x→d'≠some x) (h1:∀l∈chgOf r,l∉chgOf r'):(s.app d r).app d' r'=(s.app d' r').app d r:=by
 have hT:((s.app d r).app d' r').T=((s.app d' r').app d r).T:=by
  simp only [Ab.app_T]
  cases d with
  | none=>rfl
  | some d=>
    cases d' with
    | none=>rfl
    | some d'=>simp only [setD];exact List.set_comm _ _ (fun e=>hd d rfl (by rw [e]))
 have hH : ((s.app d r).app d' r').H=((s.app d' r').app d r).H:=by
  funext l
  by_cases hl:l∈chgOf r
  · rw [app_H_ne (h1 l hl)]
    cases r with
    | none=>cases hl
    | some r => have hl':r.chg.contains l=true:=by simpa [chgOf] using hl
                simp only [Ab.app,hl',if_true]
  · rw [app_H_ne (s:=s.app d' r') hl]
    exact app_congr_H (app_H_ne hl)
 revert hT hH
 generalize (s.app d r).app d' r'=x
 generalize (s.app d' r').app d r=y
 intro hT hH
 cases x;cases y;simp only at hT hH;rw [hT,hH]
section
variable {P:Program} {ops:Array Oper} {rs:List (Option Rec)} {s0:Ab} {nx:Nat→Nat} {L:List Sum1}
structure RegOk (ops:Array Oper) (rs:List (Option Rec)) (L:List Sum1):Prop where
 len:L.length=ops.size
 sum:∀(j:Nat) (o:Oper),ops[j]? = some o→L[j]? = some (sumOf ops o ((rs[j]?).getD none))
 edge:∀(j:Nat) (x:Sum1),L[j]? = some x→∀e∈x.after,e<j
 pair:∀(i j:Nat) (x y:Sum1),L[i]? = some x→L[j]? = some y→i<j→((masks L []).getD j 0).testBit i=true∨Indep x y
theorem Indep.symm{x y:Sum1}(h:Indep x y):Indep y x:=⟨h.c,fun d hd hx=>h.b d hx hd,h.a,h.e,h.d⟩
theorem RegOk.of(hl:L.length=ops.size)(hs:∀(j:Nat) (o:Oper),ops[j]? = some o→L[j]? = some (sumOf ops o ((rs[j]?).getD none)))(h:regCk L=true):RegOk ops rs L:=by
 unfold regCk at h
 rw [Bool.and_eq_true] at h
 refine ⟨hl,hs,fun j x hx e he=>?_,fun i j x y hx hy hij=>?_⟩
 · have:=List.all_eq_true.1 h.1 j (List.mem_range.2 (List.getElem?_eq_some_iff.1 hx).1)
   rw [hx] at this
   have:=List.all_eq_true.1 this e he
   simpa using this
 · have:=List.all_eq_true.1 (List.all_eq_true.1 h.2 j (List.mem_range.2 (List.getElem?_eq_some_iff.1 hy).1)) i (List.mem_range.2 hij)
   rw [hx,hy,Bool.or_eq_true] at this
   exact this.imp id indep_spec
def Closed(L:List Sum1)(S:Nat→Bool):Prop:=∀(j:Nat) (x:Sum1),L[j]? = some x→S j=true→∀e∈x.after,S e=true
theorem RegOk.ind(h:RegOk ops rs L){S:Nat→Bool}(hS:Closed L S){j:Nat}{x:Sum1}(hx:L[j]? = some x)(hj:S j=false)(ha:∀e∈x.after,S e=true){i:Nat}{y:Sum1}(hy:L[i]? = some y):
 (i<j→S i=false→Indep y x)∧(j<i→S i=true→Indep y x):=by
 constructor
 · intro hij hi
   refine (h.pair i j y x hy hx hij).resolve_left (fun hm=>?_)
   have:=masks_ok S L hS h.edge L [] (fun k x hk=>by simpa using hk) (by simp) j i x hx (by simpa using (List.getElem?_eq_some_iff.1 hx).1) hm ha
   rw [hi] at this;cases this
 · intro hij hi
   refine ((h.pair j i x y hx hy hij).resolve_left (fun hm=>?_)).symm
   have:=masks_ok S L hS h.edge L [] (fun k x hk=>by simpa using hk) (by simp) i j y hy (by simpa using (List.getElem?_eq_some_iff.1 hy).1) hm (hS i y hy hi)
   rw [hj] at this;cases this
theorem stS_congr{S S':Nat→Bool}(n:Nat)(h:∀k<n,S k=S' k):stS ops rs S s0 n=stS ops rs S' s0 n:=by
 induction n with
 | zero=>rfl
 | succ n ih=>simp only [stS,h n (Nat.lt_succ_self n),ih (fun k hk=>h k (Nat.lt_succ_of_lt hk))]
theorem RegOk.agree(h:RegOk ops rs L){S:Nat→Bool}(hS:Closed L S){j:Nat}{o:Oper}(ho:ops[j]? = some o)(hj:S j=false)(ha:∀e∈(sumOf ops o ((rs[j]?).getD none)).after,S e=true):
 (∀t∈o.looksAt ops,(stS ops rs S s0 ops.size).T[t]? = (stS ops rs (fun _=>true) s0 j).T[t]?) ∧
 (∀l∈(sumOf ops o ((rs[j]?).getD none)).dom,(stS ops rs S s0 ops.size).H l=(stS ops rs (fun _=>true) s0 j).H l):=by
 have hx:=h.sum j o ho
 have hjn:j<ops.size:=(Array.getElem?_eq_some_iff.1 ho).1
 have hlt:∀k,k<ops.size→∃y o',ops[k]? = some o'∧L[k]? = some y∧y=sumOf ops o' ((rs[k]?).getD none)∧y.dst=dstOf ops k∧y.chg=chgOf ((rs[k]?).getD none):=fun k hk=>
  ⟨_,ops[k],Array.getElem?_eq_getElem hk,h.sum k _ (Array.getElem?_eq_getElem hk),rfl,by simp [sumOf,dstOf,Array.getElem?_eq_getElem hk],rfl⟩
 have A : ∀k≤j,(∀t∈o.looksAt ops,(stS ops rs S s0 k).T[t]? = (stS ops rs (fun _=>true) s0 k).T[t]?)∧(∀l∈(sumOf ops o ((rs[j]?).getD none)).dom,(stS ops rs S s0 k).H l=(stS ops rs (fun _=>true) s0 k).H l):=by
  intro k
  induction k with
  | zero=>intro _;exact ⟨fun _ _=>rfl,fun _ _=>rfl⟩
  | succ k ih=>
    intro hk
    obtain ⟨i1,i2⟩:=ih (by omega)
    simp only [stS,if_true]
    cases hs:S k with
    | true=>simp only [if_true];exact ⟨fun t ht=>app_congr_T (by rw [stS_len,stS_len]) (i1 t ht),fun l hl=>app_congr_H (i2 l hl)⟩
    | false=>
      simp only [Bool.false_eq_true,if_false]
      obtain ⟨y,o',ho',hy,-,hd,hc⟩:=hlt k (by omega)
      have hi:=(h.ind hS hx hj ha hy).1 (by omega) hs
      refine ⟨fun t ht=>(i1 t ht).trans (app_T_ne (fun e=>hi.a t (hd.trans e) ht)).symm,fun l hl=>(i2 l hl).trans (app_H_ne (fun e=>hi.d l (hc▸e) hl)).symm⟩
 have B : ∀d,j+d≤ops.size→(∀t∈o.looksAt ops,(stS ops rs S s0 (j+d)).T[t]? = (stS ops rs (fun _=>true) s0 j).T[t]?)∧(∀l∈(sumOf ops o ((rs[j]?).getD none)).dom,(stS ops rs S s0 (j+d)).H l=(stS ops rs (fun _=>true) s0 j).H l):=by
  intro d
  induction d with
  | zero=>intro _;exact A j (Nat.le_refl j)
  | succ d ih=>
    intro hd
    obtain ⟨i1,i2⟩:=ih (by omega)
    rw [←Nat.add_assoc]
    simp only [stS]
    cases hs:S (j+d) with
    | false=>simp only [Bool.false_eq_true,if_false];exact ⟨i1,i2⟩
    | true=>
      simp only [if_true]
      have hne:d≠0:=fun e=>by subst e;rw [Nat.add_zero,hj] at hs;cases hs
      obtain ⟨y,o',ho',hy,-,hd',hc⟩:=hlt (j+d) (by omega)
      have hi:=(h.ind hS hx hj ha hy).2 (by omega) hs
      exact ⟨fun t ht=>(app_T_ne (fun e=>hi.a t (hd'.trans e) ht)).trans (i1 t ht),fun l hl=>(app_H_ne (fun e=>hi.d l (hc▸e) hl)).trans (i2 l hl)⟩
 have:=B (ops.size-j) (by omega)
 rw [show j+(ops.size-j)=ops.size by omega] at this
 exact this
theorem RegOk.step(h:RegOk ops rs L){S:Nat→Bool}(hS:Closed L S){j:Nat}{o:Oper}(ho:ops[j]? = some o)(hj:S j=false)(ha:∀e∈(sumOf ops o ((rs[j]?).getD none)).after,S e=true):
 stS ops rs (fun k=>S k||k==j) s0 ops.size=(stS ops rs S s0 ops.size).app o.dst ((rs[j]?).getD none):=by
 have hx:=h.sum j o ho
 have hjn:j<ops.size:=(Array.getElem?_eq_some_iff.1 ho).1
 have hdj:dstOf ops j=o.dst:=by simp [dstOf,ho]
 have B : ∀d,j+1+d≤ops.size→stS ops rs (fun k=>S k||k==j) s0 (j+1+d)=(stS ops rs S s0 (j+1+d)).app o.dst ((rs[j]?).getD none):=by
  intro d
  induction d with
  | zero=>
    intro _
    simp only [Nat.add_zero,stS,hj,Bool.false_eq_true,if_false,beq_self_eq_true,Bool.or_true,if_true,hdj]
    rw [stS_congr (S:=fun k=>S k||k==j) (S':=S) j (fun k hk=>by simp [show (k==j)=false by simp;omega])]
  | succ d ih=>
    intro hd
    rw [←Nat.add_assoc]
    have hne:((j+1+d)==j)=false:=by simp;omega
    simp only [stS,hne,Bool.or_false]
    cases hs:S (j+1+d) with
    | false=>simp only [Bool.false_eq_true,if_false];exact ih (by omega)
    | true=>
      simp only [if_true]
      rw [ih (by omega)]
      have hk:j+1+d<ops.size:=by omega
      have hy:=h.sum (j+1+d) _ (Array.getElem?_eq_getElem hk)
      have hi:=(h.ind hS hx hj ha hy).2 (by omega) hs
      have hdk:dstOf ops (j+1+d)=(ops[j+1+d]).dst:=by simp [dstOf,Array.getElem?_eq_getElem hk]
      refine app_comm (fun x h1 h2=>hi.b x ?_ h1) (fun l hl hl'=>hi.d l hl' ?_)
      · rw [hdk] at h2;exact h2
      · simp only [sumOf] at hl ⊢
        cases hr:(rs[j]?).getD none with
        | none=>rw [hr] at hl;cases hl
        | some r=>rw [hr] at hl;simp only [Option.map_some,Option.getD_some,Rec.dom];exact List.mem_append_right _ (by simpa [chgOf] using hl)
 have:=B (ops.size-(j+1)) (by omega)
 rw [show j+1+(ops.size-(j+1))=ops.size by omega] at this
 exact this
end
end Ow
namespace Ow
open Go Go.RowKit Go.Deep
theorem opt_step{P:Program}{ops:Array Oper}{m:Nat}{ρ ρ1:Pl}{F F1:Nat→List Nat}{RO RO1:Nat→Prop}{H0:Nat→Option Blk}{w0 w1:World}{s:Ab}{o:Oper}{r:Rec}{a:Act}
 (hT:OpT P o (evC s.T) r) (hsub:∀l B,r.pre.get l=some B→s.H l=some B) (e1:Ext m ρ F RO H0 w0 ρ1 F1 RO1 s.H w1) (t1:RelT ρ1 RO1 w1 s.T a.tmps)
 (hnew:∀l∈r.chg,r.pre.get l=none→ρ1 l=none∧m≤l)
 (next:Act→World→Prop) (Q:Exit→Act→World→Prop)
 (hk:∀ρ2 F2 RO2 w2 v,Ext m ρ F RO H0 w0 ρ2 F2 RO2 (s.app o.dst (some r)).H w2→RelT ρ2 RO2 w2 (s.app o.dst (some r)).T (a.put o.dst v).tmps→(∀l,ρ1 l=none→l∉r.chg→ρ2 l=none)→next (a.put o.dst v) w2):o.wp P a w1 next Q:=by
 have hs:=e1.sim
 have hsr:Sim ρ1 F1 RO1 r.pre.get w1:=
  ⟨fun l B hl=>hs.blk l B (hsub l B hl),fun l l' B B' hne hl hl'=>hs.sep l l' B B' hne (hsub _ _ hl) (hsub _ _ hl'),fun l B hl=>hs.nro l B (hsub _ _ hl),hs.ro⟩
 refine hT m ρ1 F1 RO1 w1 a hsr hnew (fun x _=>t1.ev x) next Q (fun ρ2 F2 RO2 w2 v e2 hle hd hv=>?_)
 have hdom:∀l B,r.pre.get l=some B→r.dom.contains l=true:=fun l B hl=>by
  have hmem:l∈r.pre.map (·.1):=Hp.mem_of_get hl
  simp only [Rec.dom,List.contains_iff_mem,List.mem_append]
  exact .inl hmem
 have hfr:=e2.frame hs hle hsub (fun l=>r.dom.contains l) hdom (fun l hl=>?_) (fun l B hl=>?_)
 case refine_1=>
  cases hp:r.pre.get l with
  | some B=>exact hsub l B hp
  | none=>
    have hc:l∈r.chg:=by
     simp only [Rec.dom,List.contains_iff_mem,List.mem_append] at hl
     rcases hl with h1|h1
     · exact absurd hp (Hp.get_of_mem h1)
     · exact h1
    cases hH:s.H l with
    | none=>rfl
    | some B=>
      obtain ⟨p,h1,-⟩:=hs.blk l B hH
      rw [(hnew l hc hp).1] at h1;cases h1
 case refine_2=>
  simp only [Rec.after] at hl
  by_cases hc:r.chg.contains l=true
  · simp only [Rec.dom,List.contains_iff_mem,List.mem_append]
    exact .inr (by simpa using hc)
  · rw [if_neg hc] at hl
    exact hdom l B hl
 have hH : (fun l=>if r.dom.contains l then r.after l else s.H l)=(s.app o.dst (some r)).H:=by
  funext l
  show (if r.dom.contains l=true then r.after l else s.H l)=if r.chg.contains l=true then r.post.get l else s.H l
  unfold Rec.after
  cases hc:r.chg.contains l with
  | true=>
    have:r.dom.contains l=true:=by
     simp only [Rec.dom,List.contains_iff_mem,List.mem_append]
     exact .inr (by simpa using hc)
    simp only [this,if_true]
  | false=>
    simp only [Bool.false_eq_true,if_false]
    cases hd:r.dom.contains l with
    | false=>simp only [Bool.false_eq_true,if_false]
    | true=>
      simp only [if_true]
      cases hp:r.pre.get l with
      | some B=>exact (hsub l B hp).symm
      | none=>
        exfalso
        simp only [Rec.dom,List.contains_iff_mem,List.mem_append] at hd
        rcases hd with h1|h1
        · exact Hp.get_of_mem h1 hp
        · rw [show r.chg.contains l=true by simpa using h1] at hc;cases hc
 rw [hH] at hfr
 exact hk ρ2 _ RO2 w2 v (e1.trans hfr) ((t1.mono hle e2.ro (hfr.keeps hs)).put o.dst hv) hd
inductive Lex (P:Program) (ops:Array Oper):List Oper→Ab→Nat→List (Option Rec)→Ab→Nat→Prop
 | nil (s:Ab) (n:Nat):Lex P ops [] s n [] s n
 | cons (o:Oper) (os:List Oper) (s s':Ab) (n n1 n':Nat) (r:Option Rec) (rs:List (Option Rec)) (h:okAt P ops s o n r) (hn:n≤n1) (hc:∀l∈chgOf r,l<n1)
    (k:Lex P ops os (s.app o.dst r) n1 rs s' n'):Lex P ops (o::os) s n (r::rs) s' n'
theorem Lex.mono{P:Program}{ops:Array Oper}{os:List Oper}{s s':Ab}{n n':Nat}{rs:List (Option Rec)}(h:Lex P ops os s n rs s' n'):n≤n'∧rs.length=os.length:=by
 induction h with
 | nil=>exact ⟨Nat.le_refl _,rfl⟩
 | cons o os s s' n n1 n' r rs h hn hc k ih=>exact ⟨Nat.le_trans hn ih.1,by simp [ih.2]⟩
theorem wanted_of{ops:Array Oper}{ρ:Pl}{RO:Nat→Prop}{w:World}{T:List C}{vs:Array Value}(t:RelT ρ RO w T vs){o:Oper}{j:Nat}{want:Bool}{d:Nat}{b:Bool}
 (hg:o.guard=some (j,want)) (hd:(ops[j]?).bind (·.dst)=some d) (hT:T[d]? = some (.d (.lit (.bool b)))):Region.wanted o (yielded ops vs)=(b==want):=by
 have hlt:d<vs.size:=by rw [t.len];exact (List.getElem?_eq_some_iff.1 hT).1
 have h1:=t.rel d _ vs[d] hT (Array.getElem?_eq_getElem hlt)
 have h2:vs[d]? = some (.bool b):=by
  rw [Array.getElem?_eq_getElem hlt]
  revert h1
  generalize vs[d]=u
  intro h1
  cases h1 with
  | d x v h=>cases h with
    | lit v=>rfl
 unfold Region.wanted yielded
 rw [hg]
 simp only [hd,Option.bind_some,h2]
 cases b<;>cases want<;>rfl
theorem act_put(vs:Array Value)(ds:List Deferred)(d:Option Nat)(v:Value):(Act.put ⟨vs,ds⟩ d v)=⟨(Act.put ⟨vs,ds⟩ d v).tmps,ds⟩:=by cases d<;>rfl
theorem Lex.wpOps{P:Program}{ops:Array Oper}{Q:Exit→Act→World→Prop}{ds:List Deferred}{m:Nat}{ρ:Pl}{F:Nat→List Nat}{RO:Nat→Prop}{H0:Nat→Option Blk}{w0:World}{sN:Ab}{n':Nat}
 (hQ:∀ρ' F' RO' w' vs,Ext m ρ F RO H0 w0 ρ' F' RO' sN.H w'→RelT ρ' RO' w' sN.T vs→(∀l,ρ' l≠none→l<n')→Q .normal ⟨vs,ds⟩ w')
 {os:List Oper} {s:Ab} {n:Nat} {rs:List (Option Rec)} (h:Lex P ops os s n rs sN n') :
 ∀ (k:Nat) (ρ1:Pl) (F1:Nat→List Nat) (RO1:Nat→Prop) (w1:World) (vs:Array Value),(∀i o,os[i]? = some o→ops[k+i]? = some o)→m≤n→Ext m ρ F RO H0 w0 ρ1 F1 RO1 s.H w1→RelT ρ1 RO1 w1 s.T vs→(∀l,ρ1 l≠none→l<n) →
  Go.wpOps P ops Q (List.range' k os.length) ⟨vs,ds⟩ w1:=by
 induction h with
 | nil s n=>intro k ρ1 F1 RO1 w1 vs _ _ e t hd;exact hQ _ _ _ _ _ e t hd
 | cons o os s s' n n1 n' r rs h hn hc hk ih=>
   intro k ρ1 F1 RO1 w1 vs hos hm e t hd
   rw [List.length_cons,List.range'_succ,wpOps_cons]
   unfold wpOp
   have ho:ops[k]? = some o:=by simpa using hos 0 o rfl
   have hos':∀i o,os[i]? = some o→ops[k+1+i]? = some o:=fun i o' hi=>by
    have:=hos (i+1) o' (by simpa using hi)
    rw [show k+1+i=k+(i+1) by omega];exact this
   rw [ho]
   cases r with
   | none=>
     obtain ⟨j,want,d,b,hg,hdd,hTd,hb⟩:=h
     have hw:=wanted_of (ops:=ops) t hg hdd hTd
     rw [hb] at hw
     simp only [hw]
     rw [if_neg (by cases want<;>simp)]
     rw [act_put]
     exact ih hQ (k+1) ρ1 F1 RO1 w1 _ hos' (Nat.le_trans hm hn) e (t.put (a:=⟨vs,ds⟩) o.dst (.dead undef)) (fun l hl=>Nat.lt_of_lt_of_le (hd l hl) hn)
   | some r=>
     obtain ⟨hg,hT,hsub,hnew⟩:=h
     have hw:Region.wanted o (yielded ops vs)=true:=by
      rcases hg with hg|⟨j,want,d,hg,hdd,hTd⟩
      · simp [Region.wanted,hg]
      · rw [wanted_of (ops:=ops) t hg hdd hTd];simp
     simp only [hw,if_true]
     refine .inl (opt_step (ops:=ops) hT hsub e t (fun l hl hp=>⟨?_,Nat.le_trans hm (hnew l hl hp)⟩) _ _ (fun ρ2 F2 RO2 w2 v e2 t2 hd2=>?_))
     · cases hl':ρ1 l with
       | none=>rfl
       | some p=>exact absurd (hd l (by rw [hl'];simp)) (Nat.not_lt.2 (hnew l hl hp))
     · rw [act_put]
       exact ih hQ (k+1) ρ2 F2 RO2 w2 _ hos' (Nat.le_trans hm hn) e2 t2 (fun l hl=>by
        cases hl':ρ1 l with
        | some p=>exact Nat.lt_of_lt_of_le (hd l (by rw [hl'];simp)) hn
        | none=>
          rcases Classical.em (l∈r.chg) with h1|h1
          · exact hc l h1
          · exact absurd (hd2 l hl' h1) hl)
theorem Lex.at{P:Program}{ops:Array Oper}{os:List Oper}{s sN:Ab}{n n':Nat}{rs:List (Option Rec)}(h:Lex P ops os s n rs sN n'):
 ∃ nx:Nat→Nat,nx 0=n∧nx os.length=n'∧(∀i,i<os.length→nx i≤nx (i+1))∧∀pre:List Oper,∀rpre:List (Option Rec),rpre.length=pre.length→ops=(pre++os).toArray→∀s0,s=stS ops (rpre++rs) (fun _=>true) s0 pre.length →
  sN=stS ops (rpre++rs) (fun _=>true) s0 (pre.length+os.length) ∧
  ∀ i o,os[i]? = some o→okAt P ops (stS ops (rpre++rs) (fun _=>true) s0 (pre.length+i)) o (nx i) ((rs[i]?).getD none)∧∀l∈chgOf ((rs[i]?).getD none),l<nx (i+1):=by
 induction h with
 | nil s n=>exact ⟨fun _=>n,rfl,rfl,by simp,fun pre rpre _ _ s0 hs=>⟨hs,by simp⟩⟩
 | cons o os s s' n n1 n' r rs h hn hc hk ih=>
   obtain ⟨nx,h0,hN,hmono,hall⟩:=ih
   refine ⟨fun i=>if i=0 then n else nx (i-1),rfl,by simpa using hN,?_,?_⟩
   · intro i hi
     by_cases h1:i=0
     · subst h1;simp [h0,hn]
     · simp only [h1,if_false,show i+1≠0 by omega]
       have:=hmono (i-1) (by simp at hi;omega)
       rw [show i-1+1=i+1-1 by omega] at this
       exact this
   · intro pre rpre hlen hops s0 hs
     have e1:(rpre++[r])++rs=rpre++r::rs:=by simp
     have hdst:dstOf ops pre.length=o.dst:=by simp [dstOf,hops]
     have hrec:((rpre++r::rs)[pre.length]?).getD none=r:=by rw [←hlen];simp
     have:=hall (pre++[o]) (rpre++[r]) (by simp [hlen]) (by rw [hops];simp) s0 (by
      rw [e1,List.length_append,List.length_singleton]
      simp only [stS,if_true,hdst,hrec,hs])
     rw [e1] at this
     refine ⟨?_,?_⟩
     · rw [this.1];congr 1;simp;omega
     · intro i o' ho'
       cases i with
       | zero=>
         simp only [List.getElem?_cons_zero,Option.some.injEq] at ho'
         subst ho'
         simp only [List.getElem?_cons_zero,Option.getD_some,Nat.add_zero]
         refine ⟨by rw [←hs];exact h,fun l hl=>by simp [h0];exact hc l hl⟩
       | succ i=>
         have h2:=this.2 i o' (by simpa using ho')
         simp only [List.length_append,List.length_singleton,List.getElem?_cons_succ] at h2 ⊢
         rw [show pre.length+(i+1)=pre.length+1+i by omega]
         exact ⟨by simpa using h2.1,by simpa using h2.2⟩
def cntS(S:Nat→Bool):Nat→Nat
 | 0=>0
 | k+1=>cntS S k+if S k then 0 else 1
theorem cntS_congr{S S':Nat→Bool}:∀n,(∀k<n,S k=S' k)→cntS S n=cntS S' n:=by
 intro n
 induction n with
 | zero=>intro _;rfl
 | succ n ih=>intro h;simp only [cntS];rw [ih (fun k hk=>h k (Nat.lt_succ_of_lt hk)),h n (Nat.lt_succ_self n)]
theorem cntS_add{S:Nat→Bool}{j:Nat}(hj:S j=false):∀n,j<n→cntS (fun k=>S k||k==j) n+1=cntS S n:=by
 intro n
 induction n with
 | zero=>intro h;cases h
 | succ n ih=>
   intro h
   simp only [cntS]
   by_cases hn:n=j
   · subst hn
     rw [cntS_congr (S:=fun k=>S k||k==n) (S':=S) n (fun k hk=>by simp [show (k==n)=false by simp;omega])]
     simp [hj]
   · have:=ih (by omega)
     have e:(n==j)=false:=by simp [hn]
     simp only [e,Bool.or_false]
     omega
theorem cntS_zero{S:Nat→Bool}:∀n,cntS S n=0→∀k<n,S k=true:=by
 intro n
 induction n with
 | zero=>intro _ k hk;cases hk
 | succ n ih=>
   intro h k hk
   simp only [cntS] at h
   cases hS:S n with
   | false=>rw [hS] at h;simp at h
   | true=>
     by_cases e:k=n
     · rw [e];exact hS
     · exact ih (by omega) k (by omega)
theorem cntS_false : ∀n,cntS (fun _=>false) n=n:=by
 intro n
 induction n with
 | zero=>rfl
 | succ n ih=>simp only [cntS,ih];simp
theorem wpAny_reg{P:Program}{ops:Array Oper}{Q:Exit→Act→World→Prop}{ds:List Deferred}{m:Nat}{ρ:Pl}{F:Nat→List Nat}{RO:Nat→Prop}{H0:Nat→Option Blk}{w0:World}{s0:Ab}
 {rs:List (Option Rec)} {L:List Sum1} {nx:Nat→Nat} (hck:RegOk ops rs L) (hmono:∀i,i<ops.size→nx i≤nx (i+1)) (hm:m≤nx 0)
 (hok:∀i o,ops[i]? = some o→okAt P ops (stS ops rs (fun _=>true) s0 i) o (nx i) ((rs[i]?).getD none)∧∀l∈chgOf ((rs[i]?).getD none),l<nx (i+1))
 (hQ:∀ρ' F' RO' w' vs,Ext m ρ F RO H0 w0 ρ' F' RO' (stS ops rs (fun _=>true) s0 ops.size).H w'→RelT ρ' RO' w' (stS ops rs (fun _=>true) s0 ops.size).T vs→(∀l,ρ' l≠none→l<nx ops.size)→Q .normal ⟨vs,ds⟩ w') :
 ∀ (fuel:Nat) (listed:Array Bool) (ρ1:Pl) (F1:Nat→List Nat) (RO1:Nat→Prop) (w1:World) (vs:Array Value),listed.size=ops.size→Closed L (fun i=>listed.getD i false)→cntS (fun i=>listed.getD i false) ops.size=fuel →
  Ext m ρ F RO H0 w0 ρ1 F1 RO1 (stS ops rs (fun i=>listed.getD i false) s0 ops.size).H w1→RelT ρ1 RO1 w1 (stS ops rs (fun i=>listed.getD i false) s0 ops.size).T vs →
  (∀l,ρ1 l≠none→l<nx 0∨∃i,i<ops.size∧listed.getD i false=true∧l∈chgOf ((rs[i]?).getD none))→wpAny P .any ops Q fuel listed ⟨vs,ds⟩ w1:=by
 have nxle:∀i j,i≤j→j≤ops.size→nx i≤nx j:=by
  intro i j hij
  induction hij with
  | refl=>intro _;exact Nat.le_refl _
  | step h ih=>intro hj;exact Nat.le_trans (ih (by omega)) (hmono _ (by omega))
 have fin:∀(listed:Array Bool) (ρ1:Pl) (F1:Nat→List Nat) (RO1:Nat→Prop) (w1:World) (vs:Array Value),(∀k<ops.size,listed.getD k false=true) →
  Ext m ρ F RO H0 w0 ρ1 F1 RO1 (stS ops rs (fun i=>listed.getD i false) s0 ops.size).H w1→RelT ρ1 RO1 w1 (stS ops rs (fun i=>listed.getD i false) s0 ops.size).T vs →
  (∀l,ρ1 l≠none→l<nx 0∨∃i,i<ops.size∧listed.getD i false=true∧l∈chgOf ((rs[i]?).getD none))→Q .normal ⟨vs,ds⟩ w1:=by
  intro listed ρ1 F1 RO1 w1 vs hall e t hd
  have hst:stS ops rs (fun i=>listed.getD i false) s0 ops.size=stS ops rs (fun _=>true) s0 ops.size:=stS_congr _ hall
  rw [hst] at e t
  refine hQ ρ1 F1 RO1 w1 vs e t (fun l hl=>?_)
  rcases hd l hl with h1|⟨i,hi,-,h1⟩
  · exact Nat.lt_of_lt_of_le h1 (nxle 0 _ (Nat.zero_le _) (Nat.le_refl _))
  · exact Nat.lt_of_lt_of_le ((hok i _ (Array.getElem?_eq_getElem hi)).2 l h1) (nxle _ _ hi (Nat.le_refl _))
 intro fuel
 induction fuel with
 | zero=>
   intro listed ρ1 F1 RO1 w1 vs hsz hcl hcnt e t hd
   have hall:=cntS_zero _ hcnt
   refine ⟨?_,fin listed ρ1 F1 RO1 w1 vs hall e t hd⟩
   rw [List.eq_nil_iff_forall_not_mem]
   intro j hj
   rw [mem_ready] at hj
   obtain ⟨h1,o,ho,-⟩:=hj
   have hlt:j<ops.size:=(Array.getElem?_eq_some_iff.1 ho).1
   have h2:=hall j hlt
   rw [Array.getD_eq_getD_getElem?,Array.getElem?_eq_getElem (by omega)] at h1 h2
   rw [Option.getD_some] at h1 h2
   rw [h1] at h2;cases h2
 | succ fuel ih =>
   intro listed ρ1 F1 RO1 w1 vs hsz hcl hcnt e t hd
   refine ⟨fun hr=>fin listed ρ1 F1 RO1 w1 vs ?_ e t hd,fun j hj=>?_⟩
   · intro k
     induction k using Nat.strongRecOn with
     | _ k ihk=>
       intro hk
       have hx:=hck.sum k _ (Array.getElem?_eq_getElem hk)
       cases hl:listed.getD k false with
       | true=>rfl
       | false=>
         exfalso
         have : k∈Region.ready .any ops listed:=by
          rw [mem_ready]
          refine ⟨?_,ops[k],Array.getElem?_eq_getElem hk,fun ed hed hb=>?_⟩
          · rw [Array.getD_eq_getD_getElem?,Array.getElem?_eq_getElem (by omega)] at hl ⊢
            exact hl
          · have hm':ed.on∈(sumOf ops ops[k] ((rs[k]?).getD none)).after:=by
             simp only [sumOf,List.mem_map,List.mem_filter]
             exact ⟨ed,⟨by simpa using hed,hb⟩,rfl⟩
            have h1:=hck.edge k _ hx _ hm'
            exact ihk _ h1 (by omega)
         rw [hr] at this;cases this
   · rw [mem_ready] at hj
     obtain ⟨hj0,o,ho,haft⟩:=hj
     have hjn:j<ops.size:=(Array.getElem?_eq_some_iff.1 ho).1
     have hjf:listed.getD j false=false:=by
      rw [Array.getD_eq_getD_getElem?,Array.getElem?_eq_getElem (by omega)] at hj0 ⊢
      exact hj0
     have ha:∀ed∈(sumOf ops o ((rs[j]?).getD none)).after,listed.getD ed false=true:=by
      intro ed hed
      simp only [sumOf,List.mem_map,List.mem_filter] at hed
      obtain ⟨x,⟨h1,h2⟩,h3⟩:=hed
      rw [←h3]
      exact haft x (by simpa using h1) h2
     have hx:=hck.sum j o ho
     obtain ⟨agT,agH⟩:=hck.agree (s0:=s0) hcl ho hjf ha
     have hstep:=hck.step (s0:=s0) hcl ho hjf ha
     have hset:∀k,(listed.setIfInBounds j true).getD k false=(listed.getD k false||k==j):=by
      intro k
      by_cases hk:j=k
      · subst hk
        rw [Array.getD_eq_getD_getElem?,Array.getElem?_setIfInBounds_self_of_lt (by omega)]
        simp
      · rw [getD_set_ne false hk,show (k==j)=false by simp;omega,Bool.or_false]
     have hfun:(fun i=>(listed.setIfInBounds j true).getD i false)=(fun k=>listed.getD k false||k==j):=funext hset
     obtain ⟨hoj,hcj⟩:=hok j o ho
     have hcl':Closed L (fun i=>(listed.setIfInBounds j true).getD i false):=by
      rw [hfun]
      intro k x hk hSk ed hed
      simp only [Bool.or_eq_true] at hSk ⊢
      rcases hSk with h1|h1
      · exact .inl (hcl k x hk h1 ed hed)
      · simp only [beq_iff_eq] at h1
        subst h1
        have:x=sumOf ops o ((rs[k]?).getD none):=by have:=hk.symm.trans hx;injection this
        subst this
        exact .inl (ha ed hed)
     have hcnt':cntS (fun i=>(listed.setIfInBounds j true).getD i false) ops.size=fuel:=by
      rw [hfun]
      have:=cntS_add (S:=fun i=>listed.getD i false) hjf ops.size hjn
      omega
     unfold wpOp
     rw [ho]
     cases hr:(rs[j]?).getD none with
     | none=>
       rw [hr] at hoj hstep
       obtain ⟨g,want,d,b,hg,hdd,hTd,hb⟩:=hoj
       have hl1:d∈o.looksAt ops:=by simp [Oper.looksAt,hg,hdd]
       have hT':=(agT d hl1).trans hTd
       have hw:=wanted_of (ops:=ops) t hg hdd hT'
       rw [hb] at hw
       simp only [hw]
       rw [if_neg (by cases want<;>simp)]
       rw [act_put]
       refine ih (listed.setIfInBounds j true) ρ1 F1 RO1 w1 _ (by simp [hsz]) hcl' hcnt' ?_ ?_ ?_
       · rw [hfun,hstep];exact e
       · rw [hfun,hstep];exact t.put (a:=⟨vs,ds⟩) o.dst (.dead undef)
       · intro l hl
         rcases hd l hl with h1|⟨i,hi,h2,h3⟩
         · exact .inl h1
         · exact .inr ⟨i,hi,by rw [hset];simp [h2],h3⟩
     | some r =>
       rw [hr] at hoj hstep hcj agH
       obtain ⟨hg,hT,hsub,hnew⟩:=hoj
       have hw:Region.wanted o (yielded ops vs)=true:=by
        rcases hg with hg|⟨g,want,d,hg,hdd,hTd⟩
        · simp [Region.wanted,hg]
        · have hl1:d∈o.looksAt ops:=by simp [Oper.looksAt,hg,hdd]
          rw [wanted_of (ops:=ops) t hg hdd ((agT d hl1).trans hTd)];simp
       simp only [hw,if_true]
       have hev:∀x∈o.op.operands,evC (stS ops rs (fun i=>listed.getD i false) s0 ops.size).T x=evC (stS ops rs (fun _=>true) s0 j).T x:=by
        intro x hx
        cases x with
        | tmp tt=>
          simp only [evC,List.getD_eq_getElem?_getD]
          rw [agT tt (by simp only [Oper.looksAt,List.mem_append,List.mem_filterMap];exact .inl ⟨.tmp tt,by simpa using hx,rfl⟩)]
        | const v=>rfl
        | global g=>rfl
        | func f=>rfl
       have hT':OpT P o (evC (stS ops rs (fun i=>listed.getD i false) s0 ops.size).T) r:=by
        intro m ρ F RO w a hs hn hrel
        exact hT m ρ F RO w a hs hn (fun x hx=>hev x hx▸hrel x hx)
       have hsub':∀l B,r.pre.get l=some B→(stS ops rs (fun i=>listed.getD i false) s0 ops.size).H l=some B:=by
        intro l B hl
        rw [agH l ?_]
        · exact hsub l B hl
        · simp only [sumOf,Option.map_some,Option.getD_some,Rec.dom]
          refine List.mem_append_left _ ?_
          exact Hp.mem_of_get hl
       refine .inl (opt_step (ops:=ops) hT' hsub' e t (fun l hl hp=>⟨?_,?_⟩) _ _ (fun ρ2 F2 RO2 w2 v e2 t2 hd2=>?_))
       · cases hl':ρ1 l with
         | none=>rfl
         | some p=>
           exfalso
           have hge:=hnew l hl hp
           rcases hd l (by rw [hl'];simp) with h1|⟨i,hi,h2,h3⟩
           · have:=nxle 0 j (Nat.zero_le _) (by omega);omega
           · have hlt:=(hok i _ (Array.getElem?_eq_getElem hi)).2 l h3
             rcases Nat.lt_trichotomy i j with h4|h4|h4
             · have:=nxle (i+1) j h4 (by omega);omega
             · subst h4;rw [hjf] at h2;cases h2
             · have hy:=hck.sum i _ (Array.getElem?_eq_getElem hi)
               have hind:=(hck.ind hcl hx hjf ha hy).2 h4 h2
               refine hind.d l h3 ?_
               simp only [sumOf,hr,Option.map_some,Option.getD_some,Rec.dom]
               exact List.mem_append_right _ hl
       · exact Nat.le_trans hm (Nat.le_trans (nxle 0 j (Nat.zero_le _) (by omega)) (hnew l hl hp))
       · rw [act_put]
         refine ih (listed.setIfInBounds j true) ρ2 F2 RO2 w2 _ (by simp [hsz]) hcl' hcnt' ?_ ?_ ?_
         · rw [hfun,hstep];exact e2
         · rw [hfun,hstep];exact t2
         · intro l hl
           cases hl':ρ1 l with
           | some p=>
             rcases hd l (by rw [hl'];simp) with h1|⟨i,hi,h2,h3⟩
             · exact .inl h1
             · exact .inr ⟨i,hi,by rw [hset];simp [h2],h3⟩
           | none=>
             rcases Classical.em (l∈r.chg) with h1|h1
             · exact .inr ⟨j,hjn,by rw [hset];simp,by rw [hr];exact h1⟩
             · exact absurd (hd2 l hl' h1) hl
end Ow
