/- A part of the proof. -/
import Derived.LoopN
import Derived.Test.YtjakhnhnjhafgaaGreatK07
import Derived.Laws.Rows
import Derived.Laws.CopyRow
import Derived.Laws.AppendOwn
set_option linter.unusedVariables false
set_option linter.unusedSimpArgs false
namespace Ow
open Go Go.RowKit Go.Deep
structure St where
 T : List C
 H : Hp
 n : Nat
structure At (m:Nat) (s:St) (ρ:Pl) (F:Nat→List Nat) (RO:Nat→Prop) (w:World) (vs:Array Value):Prop where
 sim:Sim ρ F RO s.H.get w
 rel:RelT ρ RO w s.T vs
 dom:∀l,ρ l≠none→l<s.n
 le:m≤s.n
abbrev Post := Exit→St→Prop
def Fin(m:Nat)(ρ:Pl)(F:Nat→List Nat)(RO:Nat→Prop)(H:Hp)(w:World)(ds:List Deferred)(Q:Post)(K:Exit→Act→World→Prop):Prop:=
 ∀ e s' ρ' F' RO' w' vs',Q e s'→Ext m ρ F RO H.get w ρ' F' RO' s'.H.get w'→At m s' ρ' F' RO' w' vs'→K e ⟨vs',ds⟩ w'
def EWP(P:Program)(m:Nat)(c:Code)(s:St)(Q:Post):Prop:=
 ∀ ρ F RO w vs,At m s ρ F RO w vs→∀ds K,Fin m ρ F RO s.H w ds Q K→c.wp P K ⟨vs,ds⟩ w
def thenP(k:St→Prop)(Q:Post):Post:=fun e s=>match e with | .normal=>k s|e=>Q e s
def blockP(id:Nat)(Q:Post):Post:=fun e s=>match e with | .exit id'=>if id'=id then Q .normal s else Q (.exit id') s|e=>Q e s
section
variable {P:Program} {m:Nat} {s:St} {Q Q':Post}
theorem EWP.mono{c:Code}(h:EWP P m c s Q)(hq:∀e s,Q e s→Q' e s):EWP P m c s Q':=
 fun ρ F RO w vs hA ds K hK=>h ρ F RO w vs hA ds K (fun e s' ρ' F' RO' w' vs' hQ=>hK e s' ρ' F' RO' w' vs' (hq e s' hQ))
theorem EWP.skip(h:Q .normal s):EWP P m .skip s Q:=fun ρ F RO w vs hA ds K hK=>wp_skip (hK .normal s ρ F RO w vs h (.refl hA.sim) hA)
theorem EWP.label{l:Nat}(h:Q .normal s):EWP P m (.label l) s Q:=fun ρ F RO w vs hA ds K hK=>wp_label (hK .normal s ρ F RO w vs h (.refl hA.sim) hA)
theorem EWP.exit{id:Nat}(h:Q (.exit id) s):EWP P m (.exit id) s Q:=fun ρ F RO w vs hA ds K hK=>wp_exit (hK _ s ρ F RO w vs h (.refl hA.sim) hA)
theorem EWP.ret(h:Q .ret s):EWP P m .ret s Q:=fun ρ F RO w vs hA ds K hK=>wp_ret (hK _ s ρ F RO w vs h (.refl hA.sim) hA)
theorem EWP.seq{x y:Code}(h:EWP P m x s (thenP (fun s'=>EWP P m y s' Q) Q)):EWP P m (.seq x y) s Q:=
 fun ρ F RO w vs hA ds K hK=>wp_seq (h ρ F RO w vs hA ds _ (fun e s' ρ' F' RO' w' vs' hQ hE hA'=>by
  cases e with
  | normal=>exact hQ ρ' F' RO' w' vs' hA' ds K (fun e s2 ρ2 F2 RO2 w2 vs2 hQ2 hE2 hA2=>hK e s2 ρ2 F2 RO2 w2 vs2 hQ2 (hE.trans hE2) hA2)
  | exit id=>exact hK _ s' ρ' F' RO' w' vs' hQ hE hA'
  | goto l=>exact hK _ s' ρ' F' RO' w' vs' hQ hE hA'
  | ret=>exact hK _ s' ρ' F' RO' w' vs' hQ hE hA'
  | panic ch=>exact hK _ s' ρ' F' RO' w' vs' hQ hE hA'
  | outgrown=>exact hK _ s' ρ' F' RO' w' vs' hQ hE hA'))
theorem EWP.cond{c:Operand}{x y:Code}(b:Bool)(hc:evC s.T c=.d (.lit (.bool b)))(hx:b=true→EWP P m x s Q)(hy:b=false→EWP P m y s Q):EWP P m (.cond c x y) s Q:=
 fun ρ F RO w vs hA ds K hK=>by
  have h1:RelC ρ RO w (.d (.lit (.bool b))) (Act.eval ⟨vs,ds⟩ c):=hc▸hA.rel.ev (a:=⟨vs,ds⟩) c
  have h2:Act.eval ⟨vs,ds⟩ c=.bool b:=by
   revert h1
   generalize Act.eval ⟨vs,ds⟩ c=u
   intro h1
   cases h1 with
   | d x v h=>cases h with
     | lit v=>rfl
  exact wp_cond_split h2 (fun hb=>hx hb ρ F RO w vs hA ds K hK) (fun hb=>hy hb ρ F RO w vs hA ds K hK)
theorem EWP.block{id:Nat}{c:Code}(h:EWP P m c s (blockP id Q)):EWP P m (.block id c) s Q:=
 fun ρ F RO w vs hA ds K hK=>wp_block (h ρ F RO w vs hA ds _ (fun e s' ρ' F' RO' w' vs' hQ hE hA'=>by
  cases e with
  | exit id'=>
    simp only [blockP] at hQ
    simp only [Exit.inBlock]
    split at hQ
    · rename_i h1;rw [if_pos h1];exact hK _ s' ρ' F' RO' w' vs' hQ hE hA'
    · rename_i h1;rw [if_neg h1];exact hK _ s' ρ' F' RO' w' vs' hQ hE hA'
  | normal=>exact hK _ s' ρ' F' RO' w' vs' hQ hE hA'
  | goto l=>exact hK _ s' ρ' F' RO' w' vs' hQ hE hA'
  | ret=>exact hK _ s' ρ' F' RO' w' vs' hQ hE hA'
  | panic ch=>exact hK _ s' ρ' F' RO' w' vs' hQ hE hA'
  | outgrown=>exact hK _ s' ρ' F' RO' w' vs' hQ hE hA'))
def Ent(m:Nat)(s s':St):Prop:=∀ρ F RO w vs,At m s ρ F RO w vs→∃ρ' F' RO',Ext m ρ F RO s.H.get w ρ' F' RO' s'.H.get w∧At m s' ρ' F' RO' w vs
theorem Ent.refl(m:Nat)(s:St):Ent m s s:=fun ρ F RO w vs hA=>⟨ρ,F,RO,.refl hA.sim,hA⟩
theorem Ent.trans{s1 s2 s3:St}(h:Ent m s1 s2)(k:Ent m s2 s3):Ent m s1 s3:=fun ρ F RO w vs hA=>by
 obtain ⟨ρ1,F1,RO1,e1,a1⟩:=h ρ F RO w vs hA
 obtain ⟨ρ2,F2,RO2,e2,a2⟩:=k ρ1 F1 RO1 w vs a1
 exact ⟨ρ2,F2,RO2,e1.trans e2,a2⟩
theorem EWP.ent{c:Code}{s':St}(he:Ent m s s')(h:EWP P m c s' Q):EWP P m c s Q:=fun ρ F RO w vs hA ds K hK=>by
 obtain ⟨ρ1,F1,RO1,e1,a1⟩:=he ρ F RO w vs hA
 exact h ρ1 F1 RO1 w vs a1 ds K (fun e s2 ρ2 F2 RO2 w2 vs2 hQ2 hE2 hA2=>hK e s2 ρ2 F2 RO2 w2 vs2 hQ2 (e1.trans hE2) hA2)
theorem EWP.loop{c:Code}{X:Type}(I:X→Prop)(st:X→St)(μ:X→Nat)(x0:X)(h0:I x0)(he:Ent m s (st x0))
 (round:∀x,I x→EWP P m c (st x) (thenP (fun s'=>∃x',I x'∧μ x'<μ x∧Ent m s' (st x')) Q)):EWP P m (.loop c) s Q:=by
 refine EWP.ent he ?_
 intro ρ F RO w vs hA ds K hK
 have key:∀n x,μ x<n→I x→∀ρ1 F1 RO1 w1 vs1,Ext m ρ F RO (st x0).H.get w ρ1 F1 RO1 (st x).H.get w1→At m (st x) ρ1 F1 RO1 w1 vs1→Code.rounds P c K n ⟨vs1,ds⟩ w1:=by
  intro n
  induction n with
  | zero=>intro x hn;exact absurd hn (Nat.not_lt_zero _)
  | succ n ih=>
    intro x hn hI ρ1 F1 RO1 w1 vs1 hE1 hA1
    rw [rounds_succ]
    refine round x hI ρ1 F1 RO1 w1 vs1 hA1 ds _ (fun e s' ρ' F' RO' w' vs' hQ hE hA'=>?_)
    cases e with
    | normal=>
      obtain ⟨x',hI',hlt,hent⟩:=hQ
      obtain ⟨ρ2,F2,RO2,e2,a2⟩:=hent ρ' F' RO' w' vs' hA'
      exact ih x' (by omega) hI' ρ2 F2 RO2 w' vs' ((hE1.trans hE).trans e2) a2
    | exit id=>exact hK _ s' ρ' F' RO' w' vs' hQ (hE1.trans hE) hA'
    | goto l=>exact hK _ s' ρ' F' RO' w' vs' hQ (hE1.trans hE) hA'
    | ret=>exact hK _ s' ρ' F' RO' w' vs' hQ (hE1.trans hE) hA'
    | panic ch=>exact hK _ s' ρ' F' RO' w' vs' hQ (hE1.trans hE) hA'
    | outgrown=>exact hK _ s' ρ' F' RO' w' vs' hQ (hE1.trans hE) hA'
 exact wp_loop_rounds (μ x0+1) (key _ x0 (Nat.lt_succ_self _) h0 ρ F RO w vs (.refl hA.sim) hA)
end
def St.ab(s:St):Ab:=⟨s.T,s.H.get⟩
theorem Hp.get_app(a b:Hp)(l:Nat):Hp.get (a++b) l=(a.get l).or (b.get l):=by
 induction a with
 | nil=>rfl
 | cons x a ih=>
   rw [List.cons_append,Hp.get_cons,Hp.get_cons,ih]
   split<;>rfl
theorem Hp.get_filter(a:Hp)(l:Nat)(p:Nat→Bool):Hp.get (a.filter (fun x=>p x.1)) l=if p l then a.get l else none:=by
 induction a with
 | nil=>simp [Hp.get]
 | cons x a ih=>
   rw [List.filter_cons,Hp.get_cons]
   by_cases hx:p x.1=true
   · rw [if_pos hx,Hp.get_cons,ih]
     by_cases hl:l=x.1
     · rw [if_pos hl,if_pos hl,hl,if_pos hx]
     · rw [if_neg hl,if_neg hl]
   · rw [if_neg hx,ih]
     by_cases hl:l=x.1
     · rw [if_pos hl,hl,if_neg hx,if_neg hx]
     · rw [if_neg hl]
abbrev Tch := List Nat×List Nat
def tchOf(r:Option Rec):Tch:=((r.map Rec.dom).getD [],chgOf r)
def EOps(P:Program)(ops:Array Oper)(os:List Oper)(s:St)(acc:List Tch)(Q:List Tch→St→Prop):Prop:=
 ∃ rs s',Lex P ops os s.ab s.n rs s'.ab s'.n∧Q (acc++rs.map tchOf) s'
section
variable {P:Program} {ops:Array Oper} {os:List Oper} {s:St} {acc:List Tch} {Q:List Tch→St→Prop}
theorem EOps.nil(h:Q acc s):EOps P ops [] s acc Q:=⟨[],s,.nil _ _,by simpa using h⟩
theorem EOps.cons{o:Oper}(r:Option Rec)(s1:St)(h1:okAt P ops s.ab o s.n r)(h2:s1.ab=s.ab.app o.dst r)(h3:s.n≤s1.n)(h4:∀l∈chgOf r,l<s1.n)
 (k:EOps P ops os s1 (acc++[tchOf r]) Q):EOps P ops (o::os) s acc Q:=by
 obtain ⟨rs,s',hl,hq⟩:=k
 exact ⟨r::rs,s',.cons o os _ _ _ _ _ r rs h1 h3 h4 (h2▸hl),by simpa using hq⟩
structure Does (P:Program) (o:Oper) (s:St) (r:Rec) (n:Nat):Prop where
 op:OpT P o (evC s.T) r
 sub:∀l B,r.pre.get l=some B→s.H.get l=some B
 new:∀l∈r.chg,r.pre.get l=none→s.n≤l
 lt:∀l∈r.chg,l<n
 le:s.n≤n
 post:∀l B,r.post.get l=some B→l∈r.chg
end
theorem rep_false(n k:Nat):(Array.replicate n false).getD k false=false:=by
 rw [Array.getD_eq_getD_getElem?,Array.getElem?_replicate];split<;>rfl
def sum2(ops:Array Oper)(o:Oper)(t:Tch):Sum1:=
 { looks:=o.looksAt ops,dst:=o.dst,dom:=t.1,chg:=t.2,after:=(o.after.toList.filter (Region.binds .any ·)).map (·.on) }
def sums(ops:Array Oper)(l:List Oper)(acc:List Tch):List Sum1:=(l.zip acc).map (fun x=>sum2 ops x.1 x.2)
section
variable {P:Program} {m:Nat} {s:St} {Q:Post}
theorem EWP.region{id:Nat}{l:List Oper}(h:EOps P l.toArray l s [] (fun _ s'=>Q .normal s')):EWP P m (.region id l.toArray false) s Q:=by
 intro ρ F RO w vs hA ds K hK
 obtain ⟨rs,s',hl,hq⟩:=h
 refine wp_region ?_
 rw [show List.range l.toArray.size=List.range' 0 l.length by rw [List.range_eq_range'];simp]
 exact hl.wpOps (P:=P) (m:=m) (H0:=s.H.get) (w0:=w) (ρ:=ρ) (F:=F) (RO:=RO) (fun ρ' F' RO' w' vs hE hR hd=>hK _ s' ρ' F' RO' w' vs hq hE ⟨hE.sim,hR,hd,Nat.le_trans hA.le hl.mono.1⟩) 0 ρ F RO w vs (fun i o hi=>by simpa using hi) hA.le (.refl hA.sim) hA.rel hA.dom
theorem EWP.draw{id:Nat}{l:List Oper}(hm:P.follows .mixedOrders=true)(h:EOps P l.toArray l s [] (fun acc s'=>regCk (sums l.toArray l acc)=true∧Q .normal s')):EWP P m (.region id l.toArray true) s Q:=by
 intro ρ F RO w vs hA ds K hK
 obtain ⟨rs,s',hl,hck,hq⟩:=h
 obtain ⟨nx,h0,hN,hmono,hall⟩:=hl.at
 have:=hall [] [] rfl (by simp) s.ab rfl
 simp only [List.nil_append,List.length_nil,Nat.zero_add] at this
 obtain ⟨hsN,hok⟩:=this
 have hsz:l.toArray.size=l.length:=by simp
 have hrl:=hl.mono.2
 have hlen:(sums l.toArray l ([]++rs.map tchOf)).length=l.toArray.size:=by simp [sums,hrl]
 have hsum:∀(j:Nat) (o:Oper),l.toArray[j]? = some o→(sums l.toArray l ([]++rs.map tchOf))[j]? = some (sumOf l.toArray o ((rs[j]?).getD none)):=by
  intro j o ho
  have hj:j<l.length:=by have:=(Array.getElem?_eq_some_iff.1 ho).1;simpa using this
  have ho':l[j]? = some o:=by simpa using ho
  have hr:rs[j]? = some (rs[j]'(by omega)):=List.getElem?_eq_getElem (by omega)
  simp only [sums,List.getElem?_map,List.nil_append]
  have hz:(l.zip (rs.map tchOf))[j]? = some (o,tchOf (rs[j]'(by omega))):=List.getElem?_zip_eq_some.2 ⟨ho',by rw [List.getElem?_map,hr];rfl⟩
  rw [hz,hr]
  simp only [Option.map_some,Option.getD_some,sum2,sumOf,tchOf,chgOf]
 have hreg:=RegOk.of hlen hsum hck
 refine wp_region_any hm ?_
 have e0:Ext m ρ F RO s.H.get w ρ F RO s.ab.H { w with drawn:=w.drawn+1 }:=by
  have hsim:Sim ρ F RO s.ab.H { w with drawn:=w.drawn+1 }:=by
   refine ⟨fun l B hl=>?_,hA.sim.sep,hA.sim.nro,hA.sim.ro⟩
   obtain ⟨p,h1,h2⟩:=hA.sim.blk l B hl
   exact ⟨p,h1,h2.mono (fun _ _ h=>h) (fun _ h=>h) (fun _ _=>rfl) (fun _ _=>rfl)⟩
  exact ⟨⟨rfl,rfl,rfl,Nat.le_refl _,fun _ _ _=>rfl⟩,fun _ _=>rfl,fun _ h=>h,fun _ h=>.inl h,hsim,fun b h=>.inl h⟩
 have t0:RelT ρ RO { w with drawn:=w.drawn+1 } s.ab.T vs:=hA.rel.mono (fun _ _ h=>h) (fun _ h=>h) (fun _ _=>rfl)
 have hall0:stS l.toArray rs (fun i=>(Array.replicate l.toArray.size false).getD i false) s.ab l.toArray.size=s.ab:=by
  rw [stS_congr (S':=fun _=>false) _ (fun k hk=>rep_false _ k)]
  have:∀n,stS l.toArray rs (fun _=>false) s.ab n=s.ab:=by
   intro n
   induction n with
   | zero=>rfl
   | succ n ih=>simp only [stS,ih,Bool.false_eq_true,if_false]
  exact this _
 refine wpAny_reg (m:=m) (H0:=s.H.get) (w0:=w) (ρ:=ρ) (F:=F) (RO:=RO) (s0:=s.ab) (nx:=nx) hreg (fun i hi=>hmono i (by simpa using hi)) (by rw [h0];exact hA.le) (fun i o ho=>hok i o (by simpa using ho)) ?_
  l.toArray.size (Array.replicate l.toArray.size false) ρ F RO _ vs (by simp) ?_ ?_ ?_ ?_ ?_
 · intro ρ' F' RO' w' vs' hE hR hd
   rw [hsz,←hsN] at hE hR
   rw [hsz,hN] at hd
   exact hK _ s' ρ' F' RO' w' vs' hq hE ⟨hE.sim,hR,hd,Nat.le_trans hA.le hl.mono.1⟩
 · intro j x _ hj
   exact absurd hj (by simp only [rep_false];simp)
 · rw [cntS_congr (S':=fun _=>false) _ (fun k hk=>rep_false _ k)]
   exact cntS_false _
 · rw [hall0];exact e0
 · rw [hall0];exact t0
 · intro l hl
   exact .inl (by rw [h0];exact hA.dom l hl)
end
end Ow
namespace Ow
open Go Go.RowKit Go.Deep
section
variable {P:Program} {o:Oper} {ev:Operand→C}
theorem OpT.read(pre:Hp)(val:C)(h:∀ρ F RO w (a:Act),Sim ρ F RO pre.get w→(∀x∈o.op.operands,RelC ρ RO w (ev x) (a.eval x))→∃v,(execOp a.eval o).run P w=.ok (.value v) w∧RelC ρ RO w val v):OpT P o ev ⟨pre,[],[],val⟩:=by
 intro m ρ F RO w a hs _ hr next Q hk
 obtain ⟨v,h1,h2⟩:=h ρ F RO w a hs hr
 unfold Oper.wp
 rw [h1]
 refine hk ρ F RO w v ?_ (fun _ _ h=>h) (fun _ h _=>h) h2
 have:(Rec.after ⟨pre,[],[],val⟩)=pre.get:=by funext l;simp [Rec.after]
 rw [this];exact .refl hs
theorem RelC.lit_eq{ρ:Pl}{RO:Nat→Prop}{w:World}{v u:Value}(h:RelC ρ RO w (.d (.lit v)) u):u=v:=by
 cases h with
 | d x u h=>cases h with
   | lit v=>rfl
theorem RelC.lit'{ρ:Pl}{RO:Nat→Prop}{w:World}(v:Value):RelC ρ RO w (.d (.lit v)) v:=.d _ _ (.lit v)
theorem OpT.move{x:Operand}(ho:o.op=.move x):OpT P o ev ⟨[],[],[],ev x⟩:=
 .read [] _ fun ρ F RO w a _ hr=>⟨a.eval x,by unfold execOp;rw [ho];rfl,hr x (by rw [ho];simp [Op.operands])⟩
theorem OpT.assign{x:Operand}(ho:o.op=.assign x):OpT P o ev ⟨[],[],[],ev x⟩:=
 .read [] _ fun ρ F RO w a _ hr=>⟨a.eval x,by unfold execOp;rw [ho];rfl,hr x (by rw [ho];simp [Op.operands])⟩
theorem OpT.pick{c x y:Operand}(t:Bool)(ho:o.op=.pick c x y)(hc:ev c=.d (.lit (.bool t))):OpT P o ev ⟨[],[],[],if t then ev x else ev y⟩:=
 .read [] _ fun ρ F RO w a _ hr=>by
  have h1:=(hc▸hr c (by rw [ho];simp [Op.operands])).lit_eq
  have hx:=hr x (by rw [ho];simp [Op.operands])
  have hy:=hr y (by rw [ho];simp [Op.operands])
  refine ⟨if t then a.eval x else a.eval y,?_,by cases t<;>assumption⟩
  unfold execOp
  rw [ho]
  cases t<;>simp [h1,asBool]
def binI(op:BinOp)(k:IntKind)(a b:Int):Option Value:=
 match op with
 | .add=>some (.int k (k.wrap (a+b)))
 | .sub=>some (.int k (k.wrap (a-b)))
 | .mul=>some (.int k (k.wrap (a*b)))
 | .quo=>if b=0 then none else some (.int k (k.wrap (a.tdiv b)))
 | .rem=>if b=0 then none else some (.int k (a.tmod b))
 | .eql=>some (.bool (a==b))
 | .neq=>some (.bool (a != b))
 | .lss=>some (.bool (decide (a<b)))
 | .leq=>some (.bool (decide (a≤b)))
 | .gtr=>some (.bool (decide (a > b)))
 | .geq=>some (.bool (decide (a≥b)))
 | _=>none
theorem OpT.bin{op:BinOp}{t t':TypeId}{x y:Operand}{k:IntKind}{p q:Int}{v:Value}(ho:o.op=.binOp op t x y t')(hx:ev x=.d (.lit (.int k p)))(hy:ev y=.d (.lit (.int k q)))(h:binI op k p q=some v):
 OpT P o ev ⟨[],[],[],.d (.lit v)⟩:=
 .read [] _ fun ρ F RO w a _ hr=>by
  have h1:=(hx▸hr x (by rw [ho];simp [Op.operands])).lit_eq
  have h2:=(hy▸hr y (by rw [ho];simp [Op.operands])).lit_eq
  refine ⟨v,?_,.lit' v⟩
  unfold execOp
  rw [ho]
  simp only [h1,h2]
  cases op<;>simp only [binI,Option.some.injEq,reduceCtorEq] at h
  case quo=>by_cases hq:q=0<;>simp only [hq,if_true,if_false,Option.some.injEq,reduceCtorEq] at h;subst h;simp [eqGuard,binOp,Op.intDiv,hq]
  case rem=>by_cases hq:q=0<;>simp only [hq,if_true,if_false,Option.some.injEq,reduceCtorEq] at h;subst h;simp [eqGuard,binOp,Op.intDiv,hq]
  all_goals (subst h;simp [eqGuard,binOp,Op.intArith,Op.intCmp])
theorem OpT.not{t:TypeId}{x:Operand}{b:Bool}(ho:o.op=.unOp .not t x)(hx:ev x=.d (.lit (.bool b))):OpT P o ev ⟨[],[],[],.d (.lit (.bool (!b)))⟩:=
 .read [] _ fun ρ F RO w a _ hr=>by
  have h1:=(hx▸hr x (by rw [ho];simp [Op.operands])).lit_eq
  refine ⟨.bool (!b),?_,.lit' _⟩
  unfold execOp;rw [ho];simp [h1,Op.unary]
theorem OpT.neg{t:TypeId}{x:Operand}{k:IntKind}{n:Int}(ho:o.op=.unOp .neg t x)(hx:ev x=.d (.lit (.int k n))):OpT P o ev ⟨[],[],[],.d (.lit (.int k (k.wrap (0-n))))⟩:=
 .read [] _ fun ρ F RO w a _ hr=>by
  have h1:=(hx▸hr x (by rw [ho];simp [Op.operands])).lit_eq
  refine ⟨.int k (k.wrap (0-n)),?_,.lit' _⟩
  unfold execOp;rw [ho];simp [h1,Op.unary,Op.intArith]
theorem OpT.extract{x:Operand}{i:Nat}{cs:List C}{c:C}(ho:o.op=.extract x i)(hx:ev x=.tup cs)(hc:cs[i]? = some c):OpT P o ev ⟨[],[],[],c⟩:=
 .read [] _ fun ρ F RO w a _ hr=>by
  have h1:=hx▸hr x (by rw [ho];simp [Op.operands])
  generalize ha:a.eval x=u at h1
  cases h1 with
  | tup cs vs hl rel=>
    have hi:i<vs.length:=by rw [hl];exact (List.getElem?_eq_some_iff.1 hc).1
    refine ⟨vs[i],?_,rel i c _ hc (List.getElem?_eq_getElem hi)⟩
    unfold execOp;rw [ho];simp [ha,Instr.extract,hi]
theorem OpT.mkIface{t:TypeId}{x:Operand}{d:TypeDesc}(ho:o.op=.makeInterface t x)(hd:P.underlying t=some d)(hn:(match d with | .interface _=>false|_=>true)=true):OpT P o ev ⟨[],[],[],.ifc t (ev x)⟩:=
 .read [] _ fun ρ F RO w a _ hr=>by
  refine ⟨.iface t (a.eval x),?_,.ifc _ _ _ (hr x (by rw [ho];simp [Op.operands]))⟩
  unfold execOp;rw [ho]
  simp only [Instr.makeInterface,Sem.run_bind,run_underlying hd]
  cases d<;>simp at hn ⊢
theorem OpT.nilCheckP{x:Operand}{l sz i j:Nat}(ho:o.op=.nilCheck x)(hx:ev x=.ptr l sz i j):OpT P o ev ⟨[],[],[],.ptr l sz i j⟩:=
 .read [] _ fun ρ F RO w a _ hr=>by
  have h1:=hx▸hr x (by rw [ho];simp [Op.operands])
  refine ⟨a.eval x,?_,h1⟩
  generalize ha:a.eval x=u at h1
  cases h1
  unfold execOp;rw [ho];simp [ha]
theorem OpT.nilCheckE{x:Operand}{cs:List D}(ho:o.op=.nilCheck x)(hx:ev x=.d (.ep cs)):OpT P o ev ⟨[],[],[],.d (.ep cs)⟩:=
 .read [] _ fun ρ F RO w a _ hr=>by
  have h1:=hx▸hr x (by rw [ho];simp [Op.operands])
  refine ⟨a.eval x,?_,h1⟩
  generalize ha:a.eval x=u at h1
  cases h1 with
  | d x u h=>cases h;unfold execOp;rw [ho];simp [ha]
def szT(P:Program)(t:TypeId):Option Nat:=(P.info? t).map (·.size)
def fldT(P:Program)(s:TypeId)(f:Nat):Option Nat:=match P.underlying s with
 | some (.struct fs)=>match fs[f]? with
   | some fd=>match szT P fd.type with
     | some 0=>none
     | some _=>some fd.offset
     | none=>none
   | none=>none
 | _=>none
theorem addr_add(b k n:Nat):(⟨b,k,none⟩:Addr).add n=⟨b,k+n,none⟩:=by unfold Addr.add;split<;>simp_all
theorem run_fieldAt{s f off b k:Nat}{w:World}(h:fldT P s f=some off):(Instr.fieldAt s (.pointer (some ⟨b,k,none⟩)) f).run P w=.ok (.pointer (some ⟨b,k+off,none⟩)) w:=by
 unfold fldT at h
 split at h
 · rename_i fs hs
   split at h
   · rename_i fd hf
     unfold szT at h
     cases hi:P.info? fd.type with
     | none=>rw [hi] at h;simp at h
     | some ti=>
       rw [hi] at h
       simp only [Option.map_some] at h
       split at h
       · cases h
       · rename_i n hn hne
         simp only [Option.some.injEq] at h hne
         have hz:ti.size≠0:=fun e=>by
          rw [e] at hne
          exact hn hne.symm
         simp [Instr.fieldAt,run_underlying hs,hf,Instr.sureAddr,fieldPlace,Go.sizeOf,typeInfo,hi,hz,addr_add,h]
       · cases h
   · cases h
 · cases h
theorem OpT.fieldAddrP{s f off l sz i j:Nat}{x:Operand}(ho:o.op=.fieldAddr s x f)(hx:ev x=.ptr l sz i j)(hf:fldT P s f=some off):OpT P o ev ⟨[],[],[],.ptr l sz i (j+off)⟩:=
 .read [] _ fun ρ F RO w a _ hr=>by
  have h1:=hx▸hr x (by rw [ho];simp [Op.operands])
  generalize ha:a.eval x=u at h1
  cases h1 with
  | ptr l sz i j p hp=>
    refine ⟨.pointer (some ⟨p.blk,i*sz+j+off,none⟩),?_,by rw [Nat.add_assoc];exact .ptr l sz i (j+off) p hp⟩
    unfold execOp;rw [ho];simp [ha,run_fieldAt hf]
theorem RelD.ep_drop{RO:Nat→Prop}{w:World}{cs:List D}{b k:Nat}(h:RelD RO w (.ep cs) (.pointer (some ⟨b,k,none⟩)))(n:Nat):RelD RO w (.ep (cs.drop n)) (.pointer (some ⟨b,k+n,none⟩)):=by
 cases h with
 | ep cs b off U hb cell one rel=>
   exact .ep _ b (k+n) (fun j=>U (n+j)) hb (fun j x hx=>by rw [List.getElem?_drop] at hx;rw [Nat.add_assoc];exact cell _ x hx) (fun j x hx=>by rw [List.getElem?_drop] at hx;exact one _ x hx)
    (fun j x hx=>by rw [List.getElem?_drop] at hx;exact rel _ x hx)
theorem OpT.fieldAddrE{s f off:Nat}{cs:List D}{x:Operand}(ho:o.op=.fieldAddr s x f)(hx:ev x=.d (.ep cs))(hf:fldT P s f=some off):OpT P o ev ⟨[],[],[],.d (.ep (cs.drop off))⟩:=
 .read [] _ fun ρ F RO w a _ hr=>by
  have h1:=hx▸hr x (by rw [ho];simp [Op.operands])
  generalize ha:a.eval x=u at h1
  cases h1 with
  | d x u h=>
    have h0:=h
    cases h with
    | ep cs b k U hb cell one rel=>
      refine ⟨.pointer (some ⟨b,k+off,none⟩),?_,.d _ _ (h0.ep_drop off)⟩
      unfold execOp;rw [ho];simp [ha,run_fieldAt hf]
def elT(P:Program)(t:TypeId):Option Nat:=match P.underlying t with
 | some (.slice e)=>szT P e
 | _=>none
theorem elT_spec{t sz:Nat}(h:elT P t=some sz):∃e i,P.underlying t=some (.slice e)∧P.info? e=some i∧i.size=sz:=by
 unfold elT at h
 split at h
 · rename_i e he
   unfold szT at h
   cases hi:P.info? e with
   | none=>rw [hi] at h;cases h
   | some i=>rw [hi] at h;simp at h;exact ⟨e,i,he,hi,h⟩
 · cases h
theorem run_indexAt{t sz b k n cap:Nat}{ki:IntKind}{z:Int}{w:World}(h:elT P t=some sz)(h0:0≤z)(h1:z<n):
 (Instr.indexAt t (.slice (some ⟨b,k,none⟩) n cap) (.int ki z)).run P w=.ok (.pointer (some ⟨b,k+z.toNat*sz,none⟩)) w:=by
 obtain ⟨e,i,hu,hi,hs⟩:=elT_spec h
 simp [Instr.indexAt,asIntOf,run_underlying hu,h0,h1,Go.sizeOf,typeInfo,hi,addr_add,hs]
theorem OpT.indexAddrO{t l sz s n:Nat}{ki:IntKind}{z:Int}{x y:Operand}(ho:o.op=.indexAddr t x y)(hx:ev x=.osl l sz s n)(hy:ev y=.d (.lit (.int ki z)))(ht:elT P t=some sz)(h0:0≤z)(h1:z<n):
 OpT P o ev ⟨[],[],[],.ptr l sz (s+z.toNat) 0⟩:=
 .read [] _ fun ρ F RO w a _ hr=>by
  have e2:=(hy▸hr y (by rw [ho];simp [Op.operands])).lit_eq
  have e1:=hx▸hr x (by rw [ho];simp [Op.operands])
  generalize ha:a.eval x=u at e1
  cases e1 with
  | osl l sz s n cap p hp hn hc hm=>
    refine ⟨.pointer (some ⟨p.blk,(s+z.toNat)*sz+0,none⟩),?_,.ptr l sz _ 0 p hp⟩
    unfold execOp;rw [ho];simp [ha,e2,run_indexAt ht h0 h1,Nat.add_mul]
  | osln l sz s A=>omega
theorem OpT.indexAddrS{t sz:Nat}{els:List (List D)}{ki:IntKind}{z:Int}{x y:Operand}(ho:o.op=.indexAddr t x y)(hx:ev x=.d (.sl sz els))(hy:ev y=.d (.lit (.int ki z)))(ht:elT P t=some sz)(h0:0≤z)(h1:z<els.length):
 OpT P o ev ⟨[],[],[],.d (.ep (els.getD z.toNat []))⟩:=
 .read [] _ fun ρ F RO w a _ hr=>by
  have e2:=(hy▸hr y (by rw [ho];simp [Op.operands])).lit_eq
  have e1:=hx▸hr x (by rw [ho];simp [Op.operands])
  generalize ha:a.eval x=u at e1
  cases e1 with
  | d x u h=>cases h with
    | nil sz A cap h=>simp at h1;omega
    | sl sz els b off cap U hb hn hc hr cell one rel=>
      have hz:z.toNat<els.length:=by omega
      have hg:els.getD z.toNat []=els[z.toNat]:=by simp [List.getD_eq_getElem?_getD,hz]
      refine ⟨.pointer (some ⟨b,off+z.toNat*sz,none⟩),?_,?_⟩
      · unfold execOp;rw [ho];simp [ha,e2,run_indexAt ht h0 h1]
      · rw [hg]
        have hat:∀(j:Nat) (x:D),els[z.toNat][j]? = some x→at2 els z.toNat j=some x:=fun j x hx=>by simp [at2,hz,hx]
        exact .d _ _ (.ep _ b _ (fun j=>U z.toNat j) hb (fun j x hx=>cell _ j x (hat j x hx)) (fun j x hx=>one _ j x (hat j x hx)) (fun j x hx=>rel _ j x (hat j x hx)))
def aggB : TypeDesc→Bool
 | .struct _ | .array _ _=>true
 | _=>false
def aggT(P:Program)(t:TypeId):Option Bool:=(P.underlying t).map aggB
theorem run_loadVar1{t:TypeId}{ad:Addr}{w:World}{v:Value}(h:aggT P t=some false)(hv:w.cell? ad=some v):(loadVar t ad).run P w=.ok v w:=by
 unfold aggT at h
 cases hu:P.underlying t with
 | none=>rw [hu] at h;cases h
 | some d=>rw [hu] at h;cases d<;>simp_all [aggB,loadVar,isAgg,run_underlying hu]
theorem run_loadVarN{t n:Nat}{ad:Addr}{w:World}{vs:List Value}(h:aggT P t=some true)(hn:szT P t=some n)(hl:vs.length=n)(hv:∀j v,vs[j]? = some v→w.cell? (ad.add j)=some v):(loadVar t ad).run P w=.ok (.agg vs.toArray) w:=by
 unfold aggT at h
 unfold szT at hn
 have hc:=run_loadCells_list (P:=P) w ad vs hv
 rw [hl] at hc
 cases hi:P.info? t with
 | none=>rw [hi] at hn;cases hn
 | some i=>
   rw [hi] at hn
   simp only [Option.map_some,Option.some.injEq] at hn
   cases hu:P.underlying t with
   | none=>rw [hu] at h;cases h
   | some d=>
     rw [hu] at h
     cases d<;>simp_all [aggB,loadVar,isAgg,run_underlying hu,Go.sizeOf,typeInfo]
theorem RelB.cellAt{ρ:Pl}{RO:Nat→Prop}{w:World}{p:Place}{sz:Nat}{rows:List (List C)}{F:List Nat}(h:RelB ρ RO w p (.c sz rows) F){i j:Nat}{c:C}(hc:at2 rows i j=some c):
 ∃ v,w.cell? ⟨p.blk,i*sz+j,none⟩=some v∧v.oneCell'=true∧RelC ρ RO w c v:=by
 cases h with
 | c sz rows cs t hb hs hr U cell one rel=>exact ⟨U i j,by rw [cell_of_row w p.blk _ cs t (0,0) hb];exact cell i j c hc,one i j c hc,rel i j c hc⟩
 | v sz hs=>simp [at2] at hc
end
end Ow
namespace Ow
open Go Go.RowKit Go.Deep
def C.one : C→Bool
 | .d (.lit v)=>v.oneCell'
 | .d (.agg _)=>false
 | .d _=>true
 | .agg _ | .tup _ | .dead=>false
 | _=>true
def cellsC : C→Option (List C)
 | .agg cs=>some cs
 | .d (.agg xs)=>some (xs.map .d)
 | .d (.lit (.agg vs))=>if vs.toList.all (·.oneCell') then some (vs.toList.map fun v=>.d (.lit v)) else none
 | c=>if c.one then some [c] else none
structure RelCs (ρ:Pl) (RO:Nat→Prop) (w:World) (cs:List C) (vs:List Value):Prop where
 len:vs.length=cs.length
 one:∀v∈vs,v.oneCell'=true
 rel:∀(i:Nat) (c:C) (v:Value),cs[i]? = some c→vs[i]? = some v→RelC ρ RO w c v
theorem RelC.cells{ρ:Pl}{RO:Nat→Prop}{w:World}{c:C}{v:Value}{cs:List C}(h:RelC ρ RO w c v)(hc:cellsC c=some cs):RelCs ρ RO w cs v.cells.toList:=by
 have single:∀(c:C) (v:Value),RelC ρ RO w c v→v.oneCell'=true→v.cells=#[v]→RelCs ρ RO w [c] v.cells.toList:=fun c v h h1 h2=>by
  rw [h2]
  refine ⟨rfl,fun u hu=>by simp at hu;rw [hu];exact h1,fun i x u hx hu=>?_⟩
  cases i with
  | zero=>simp at hx hu;subst hx hu;exact h
  | succ i=>simp at hx
 have h0:=h
 cases h with
 | d x v h=>
   cases h with
   | lit v=>
     cases v with
     | agg vs=>
       simp only [cellsC] at hc
       split at hc
       · rename_i hall
         simp only [Option.some.injEq] at hc
         subst hc
         refine ⟨by simp [Value.cells],fun u hu=>by have:=List.all_eq_true.1 hall u (by simpa [Value.cells] using hu);simpa using this,fun i x u hx hu=>?_⟩
         simp only [Value.cells] at hu
         rw [List.getElem?_map,hu] at hx
         simp only [Option.map_some,Option.some.injEq] at hx
         subst hx
         exact .lit' u
       · cases hc
     | tuple vs=>simp [cellsC,C.one,Value.oneCell'] at hc
     | _=>simp [cellsC,C.one,Value.oneCell'] at hc;subst hc;exact single _ _ h0 rfl rfl
   | agg xs vs hl one rel=>
     simp only [cellsC,Option.some.injEq] at hc
     subst hc
     refine ⟨by simp [Value.cells,hl],fun u hu=>one u (by simpa [Value.cells] using hu),fun i x u hx hu=>?_⟩
     simp only [Value.cells,List.toList_toArray] at hu
     rw [List.getElem?_map] at hx
     cases hxi:xs[i]? with
     | none=>rw [hxi] at hx;cases hx
     | some y=>rw [hxi] at hx;simp only [Option.map_some,Option.some.injEq] at hx;subst hx;exact .d _ _ (rel i y u hxi hu)
   | _=>simp [cellsC,C.one] at hc;subst hc;exact single _ _ h0 rfl rfl
 | agg xs vs hl one rel=>
   simp only [cellsC,Option.some.injEq] at hc
   subst hc
   exact ⟨by simp [Value.cells,hl],fun u hu=>one u (by simpa [Value.cells] using hu),fun i x u hx hu=>rel i x u hx (by simpa [Value.cells] using hu)⟩
 | tup=>simp [cellsC,C.one] at hc
 | dead=>simp [cellsC,C.one] at hc
 | _=>simp [cellsC,C.one] at hc;subst hc;exact single _ _ h0 rfl rfl
section
variable {P:Program} {o:Oper} {ev:Operand→C}
theorem Rec.after_new(l:Nat)(B:Blk)(val:C)(x:Nat):(Rec.after ⟨[],[l],[(l,B)],val⟩) x=if x=l then some B else none:=by
 simp only [Rec.after,Hp.get_cons]
 by_cases hx:x=l
 · simp [hx]
 · simp [hx,Hp.get]
theorem OpT.new1(l sz:Nat)(rows:List (List C))(val:C)
 (h : ∀ρ RO w (a:Act),(∀x∈o.op.operands,RelC ρ RO w (ev x) (a.eval x))→∃w1 cells elem v,(w1=w∨w1=w.drew)∧(execOp a.eval o).run P w=.ok (.value v) (w1.alloc (.cells cells elem))∧(∀r∈rows,r.length=sz) ∧
   (∀i j c,at2 rows i j=some c→∃u,cells[i*sz+j]? = some u∧u.oneCell'=true∧RelC ρ RO w c u)∧∀ρ' w',ρ' l=some ⟨w.heap.size,cells.size⟩→RelC ρ' RO w' val v) :
 OpT P o ev ⟨[],[l],[(l,.c sz rows)],val⟩:=by
 intro m ρ F RO w a hs hn hr next Q hk
 obtain ⟨w1,cells,elem,v,hw1,hrun,hrows,hcell,hval⟩:=h ρ RO w a hr
 have hl:=hn l (by simp) (by simp [Hp.get])
 unfold Oper.wp
 rw [hrun]
 have hh:(w1.alloc (.cells cells elem)).heap=w.heap.push (.cells cells elem):=by rcases hw1 with rfl|rfl<;>rfl
 have hold:∀b,b<w.heap.size→(w1.alloc (.cells cells elem)).heap[b]? = w.heap[b]?:=fun b hb=>by rw [hh,Array.getElem?_push,if_neg (by omega)]
 have hnew:(w1.alloc (.cells cells elem)).heap[w.heap.size]? = some (.cells cells elem):=by rw [hh,Array.getElem?_push,if_pos rfl]
 let ρ':Pl:=fun x=>if x=l then some ⟨w.heap.size,cells.size⟩ else ρ x
 have hle:∀x p,ρ x=some p→ρ' x=some p:=fun x p hp=>by
  simp only [ρ'];rw [if_neg (fun e=>by subst e;rw [hl.1] at hp;cases hp)];exact hp
 refine hk ρ' (fun _=>[w.heap.size]) RO _ v ?_ hle (fun x hx hx'=>?_) (hval ρ' _ (by simp [ρ']))
 · have hos:(w1.alloc (.cells cells elem)).os=w.os∧(w1.alloc (.cells cells elem)).tape=w.tape∧(w1.alloc (.cells cells elem)).output=w.output:=by rcases hw1 with rfl|rfl<;>exact ⟨rfl,rfl,rfl⟩
   refine ⟨⟨hos.1,hos.2.1,hos.2.2,by rw [hh];simp,fun k hk' _=>hold k hk'⟩,fun x hx=>?_,fun _ h=>h,fun b hb=>.inl hb,⟨?_,?_,?_,?_⟩,?_⟩
   · simp only [ρ'];rw [if_neg (fun e=>by subst e;have:=hl.2;omega)]
   · intro x B hB
     rw [Rec.after_new] at hB
     split at hB
     · rename_i e
       subst e
       simp only [Option.some.injEq] at hB
       subst hB
       refine ⟨⟨w.heap.size,cells.size⟩,by simp [ρ'],?_⟩
       have hsp:∀i j c,at2 rows i j=some c→cells[i*sz+j]? = some ((cells[i*sz+j]?).getD undef)∧((cells[i*sz+j]?).getD undef).oneCell'=true∧RelC ρ RO w c ((cells[i*sz+j]?).getD undef):=fun i j c hc=>by
        obtain ⟨u,h1,h2,h3⟩:=hcell i j c hc
        rw [h1];exact ⟨rfl,h2,h3⟩
       exact .c sz rows cells elem hnew rfl hrows (fun i j=>(cells[i*sz+j]?).getD undef) (fun i j c hc=>(hsp i j c hc).1) (fun i j c hc=>(hsp i j c hc).2.1)
        (fun i j c hc=>(hsp i j c hc).2.2.mono hle (fun _ h=>h) (fun b hb=>hold b (hs.ro b hb)))
     · cases hB
   · intro x x' B B' hne hB hB'
     rw [Rec.after_new] at hB hB'
     split at hB
     · split at hB'
       · rename_i e e';exact absurd (e.trans e'.symm) hne
       · cases hB'
     · cases hB
   · intro x B hB b hb hro
     simp only [List.mem_singleton] at hb
     subst hb
     exact absurd (hs.ro _ hro) (Nat.lt_irrefl _)
   · intro b hb
     rw [hh];have:=hs.ro b hb;simp;omega
   · rintro b ⟨x,B,hB,hb⟩
     simp only [List.mem_singleton] at hb
     exact .inr (by omega)
 · simp only [ρ'];rw [if_neg (fun e=>hx' (by simp [e]))];exact hx
theorem at2_one{α:Type}{cs:List α}{i j:Nat}{c:α}(h:at2 [cs] i j=some c):i=0∧cs[j]? = some c:=by
 cases i with
 | zero=>exact ⟨rfl,by simpa [at2] using h⟩
 | succ i=>simp [at2] at h
theorem OpT.box(l:Nat){t:TypeId}{x:Operand}{cs:List C}(ho:o.op=.box t x)(hx:cellsC (ev x)=some cs):OpT P o ev ⟨[],[l],[(l,.c cs.length [cs])],.ptr l cs.length 0 0⟩:=
 .new1 l _ _ _ fun ρ RO w a hr=>by
  have h1:=(hr x (by rw [ho];simp [Op.operands])).cells hx
  refine ⟨w,(a.eval x).cells,t,.pointer (some ⟨w.heap.size,0,none⟩),.inl rfl,?_,by simp,fun i j c hc=>?_,fun ρ' w' hp=>?_⟩
  · unfold execOp;rw [ho];simp [Instr.box,newVar,newRow]
  · obtain ⟨rfl,hc⟩:=at2_one hc
    have hj:j<(a.eval x).cells.toList.length:=by rw [h1.len];exact (List.getElem?_eq_some_iff.1 hc).1
    have hg:(a.eval x).cells.toList[j]? = some (a.eval x).cells.toList[j]:=List.getElem?_eq_getElem hj
    exact ⟨_,(by rw [Nat.zero_mul,Nat.zero_add,←Array.getElem?_toList];exact hg),h1.one _ (List.getElem_mem hj),h1.rel j c _ hc hg⟩
  · have:=RelC.ptr (RO:=RO) (w:=w') l cs.length 0 0 _ hp
    simpa using this
theorem OpT.alloc(l:Nat){t:TypeId}{z:Value}{cs:List C}(ho:o.op=.alloc t)(hz:(P.info? t).bind (·.zero)=some z)(hc:cellsC (.d (.lit z))=some cs):OpT P o ev ⟨[],[l],[(l,.c cs.length [cs])],.ptr l cs.length 0 0⟩:=
 .new1 l _ _ _ fun ρ RO w a hr=>by
  have h1:=(RelC.lit' (ρ:=ρ) (RO:=RO) (w:=w) z).cells hc
  refine ⟨w,z.cells,t,.pointer (some ⟨w.heap.size,0,none⟩),.inl rfl,?_,by simp,fun i j c hc=>?_,fun ρ' w' hp=>?_⟩
  · cases hi:P.info? t with
    | none=>rw [hi] at hz;cases hz
    | some ti=>
      rw [hi] at hz
      simp only [Option.bind_some] at hz
      unfold execOp;rw [ho];simp [Instr.alloc,zeroValue,typeInfo,hi,hz,newVar,newRow]
  · obtain ⟨rfl,hc⟩:=at2_one hc
    have hj:j<z.cells.toList.length:=by rw [h1.len];exact (List.getElem?_eq_some_iff.1 hc).1
    have hg:z.cells.toList[j]? = some z.cells.toList[j]:=List.getElem?_eq_getElem hj
    exact ⟨_,(by rw [Nat.zero_mul,Nat.zero_add,←Array.getElem?_toList];exact hg),h1.one _ (List.getElem_mem hj),h1.rel j c _ hc hg⟩
  · have:=RelC.ptr (RO:=RO) (w:=w') l cs.length 0 0 _ hp
    simpa using this
theorem Rec.after_upd(l:Nat)(B B':Blk)(val:C)(x:Nat):(Rec.after ⟨[(l,B)],[l],[(l,B')],val⟩) x=if x=l then some B' else none:=by
 simp only [Rec.after,Hp.get_cons]
 by_cases hx:x=l
 · simp [hx]
 · simp [hx,Hp.get]
theorem OpT.upd1(l sz:Nat)(rows rows':List (List C))(val:C)
 (h : ∀ρ RO w (a:Act) (p:Place) (cs:Array Value) (t:TypeId),ρ l=some p→w.heap[p.blk]? = some (.cells cs t (0,0))→cs.size=p.size→(∀r∈rows,r.length=sz) →
   (∀i j c,at2 rows i j=some c→∃u,cs[i*sz+j]? = some u∧u.oneCell'=true∧RelC ρ RO w c u)→(∀x∈o.op.operands,RelC ρ RO w (ev x) (a.eval x)) →
   ∃ cs' n,(execOp a.eval o).run P w=.ok n (w.setRow p.blk cs')∧cs'.size=cs.size∧(∀r∈rows',r.length=sz) ∧
   (∀i j c,at2 rows' i j=some c→∃u,cs'[i*sz+j]? = some u∧u.oneCell'=true∧RelC ρ RO w c u)∧((n=.skip∧val=.dead)∨∃v,n=.value v∧RelC ρ RO w val v))
 (hne:rows≠[] ):OpT P o ev ⟨[(l,.c sz rows)],[l],[(l,.c sz rows')],val⟩:=by
 intro m ρ F RO w a hs hn hr next Q hk
 obtain ⟨p,hp,hB⟩:=hs.blk l (.c sz rows) (by simp [Hp.get_cons])
 generalize hF:F l=G at hB
 cases hB with
 | v sz hsz=>exact absurd rfl hne
 | c sz rows cs t hb hsz hrow U cell one rel=>
   obtain ⟨cs',nx,hrun,hsz',hrow',hcell',hval⟩:=h ρ RO w a p cs t hp hb hsz hrow (fun i j c hc=>⟨U i j,cell i j c hc,one i j c hc,rel i j c hc⟩) hr
   have hfoot:foot F (Hp.get [(l,.c sz rows)]) p.blk:=⟨l,.c sz rows,by simp [Hp.get_cons],by rw [hF];simp⟩
   have hold:∀b,b≠p.blk→(w.setRow p.blk cs').heap[b]? = w.heap[b]?:=fun b hb'=>setRow_other w p.blk b cs' hb'
   have hnew:=setRow_heap w p.blk cs cs' t (0,0) hb
   have hro:∀b,RO b→b≠p.blk:=fun b hb' e=>by
    obtain ⟨x,B,hx,hxb⟩:=hfoot
    exact hs.nro x B hx _ hxb (e▸hb')
   have hsim:Ext m ρ F RO (Hp.get [(l,.c sz rows)]) w ρ F RO (Rec.after ⟨[(l,.c sz rows)],[l],[(l,.c sz rows')],val⟩) (w.setRow p.blk cs'):=by
    refine ⟨⟨rfl,rfl,rfl,by simp,fun k _ hk'=>hold k (fun e=>hk' (e▸hfoot))⟩,fun _ _=>rfl,fun _ h=>h,fun b hb'=>.inl hb',⟨?_,?_,?_,?_⟩,?_⟩
    · intro x B hB
      rw [Rec.after_upd] at hB
      split at hB
      · rename_i e
        subst e
        simp only [Option.some.injEq] at hB
        subst hB
        refine ⟨p,hp,?_⟩
        have hsp:∀i j c,at2 rows' i j=some c→cs'[i*sz+j]? = some ((cs'[i*sz+j]?).getD undef)∧((cs'[i*sz+j]?).getD undef).oneCell'=true∧RelC ρ RO w c ((cs'[i*sz+j]?).getD undef):=fun i j c hc=>by
         obtain ⟨u,h1,h2,h3⟩:=hcell' i j c hc
         rw [h1];exact ⟨rfl,h2,h3⟩
        rw [hF]
        exact .c sz rows' cs' t hnew (hsz'.trans hsz) hrow' (fun i j=>(cs'[i*sz+j]?).getD undef) (fun i j c hc=>(hsp i j c hc).1) (fun i j c hc=>(hsp i j c hc).2.1)
         (fun i j c hc=>(hsp i j c hc).2.2.mono (fun _ _ h=>h) (fun _ h=>h) (fun b hb'=>hold b (hro b hb')))
      · cases hB
    · intro x x' B B' hne' hB hB'
      rw [Rec.after_upd] at hB hB'
      split at hB
      · split at hB'
        · rename_i e e';exact absurd (e.trans e'.symm) hne'
        · cases hB'
      · cases hB
    · intro x B hB b hb' hro'
      rw [Rec.after_upd] at hB
      split at hB
      · rename_i e;subst e;exact hs.nro x (.c sz rows) (by simp [Hp.get_cons]) b hb' hro'
      · cases hB
    · intro b hb'
      rw [size_setRow];exact hs.ro b hb'
    · rintro b ⟨x,B,hB,hb'⟩
      rw [Rec.after_upd] at hB
      split at hB
      · rename_i e;subst e;exact .inl ⟨x,.c sz rows,by simp [Hp.get_cons],hb'⟩
      · cases hB
   have hkeep:∀b,RO b→(w.setRow p.blk cs').heap[b]? = w.heap[b]?:=fun b hb'=>hold b (hro b hb')
   unfold Oper.wp
   rw [hrun]
   rcases hval with ⟨rfl,rfl⟩|⟨v,rfl,hv⟩
   · exact hk ρ F RO _ undef hsim (fun _ _ h=>h) (fun _ h _=>h) (.dead _)
   · exact hk ρ F RO _ v hsim (fun _ _ h=>h) (fun _ h _=>h) (hv.mono (fun _ _ h=>h) (fun _ h=>h) hkeep)
def putRow(row:List C)(j:Nat)(cs:List C):List C:=row.take j++cs++row.drop (j+cs.length)
theorem putRow_get{row:List C}{j:Nat}{cs:List C}(h:j+cs.length≤row.length)(k:Nat):(putRow row j cs)[k]? = if k<j then row[k]? else if k<j+cs.length then cs[k-j]? else row[k]?:=by
 unfold putRow
 have h1:(row.take j).length=j:=by rw [List.length_take];omega
 by_cases hk:k<j
 · rw [if_pos hk,List.append_assoc,List.getElem?_append_left (by omega),List.getElem?_take,if_pos hk]
 · rw [if_neg hk]
   by_cases hk2:k<j+cs.length
   · rw [if_pos hk2,List.getElem?_append_left (by rw [List.length_append,h1];omega),List.getElem?_append_right (by omega),h1]
   · rw [if_neg hk2,List.getElem?_append_right (by rw [List.length_append,h1];omega),List.length_append,h1,List.getElem?_drop]
     congr 1;omega
theorem OpT.store{l sz i j n:Nat}{t:TypeId}{x y:Operand}{rows:List (List C)}{row cs:List C}(ho:o.op=.store t x y)(hx:ev x=.ptr l sz i j)(hy:cellsC (ev y)=some cs)(ht:szT P t=some n)(hn:cs.length=n)
 (hrow:rows[i]? = some row) (hj:j+cs.length≤row.length):OpT P o ev ⟨[(l,.c sz rows)],[l],[(l,.c sz (rows.set i (putRow row j cs)))],.dead⟩:=by
 have hi:i<rows.length:=(List.getElem?_eq_some_iff.1 hrow).1
 refine .upd1 l sz rows _ .dead (fun ρ RO w a p cv tt hp hb hsz hr hcell hrel=>?_) (fun e=>by subst e;simp at hi)
 have e1:=hx▸hrel x (by rw [ho];simp [Op.operands])
 have e2:=(hrel y (by rw [ho];simp [Op.operands])).cells hy
 generalize ha:a.eval x=u at e1
 cases e1 with
 | ptr l sz i j p' hp'=>
   have:p'=p:=by rw [hp] at hp';injection hp' with e;exact e.symm
   subst this
   have hrl:row.length=sz:=hr row (List.mem_of_getElem? hrow)
   have hlen:=e2.len
   have hfit:i*sz+j+0+(a.eval y).cells.toList.length≤cv.size:=by
    by_cases hz:sz=0
    · have:cs.length=0:=by omega
      have:j=0:=by omega
      subst hz;simp only [Nat.mul_zero];omega
    · obtain ⟨u,hu,-⟩:=hcell i (sz-1) (row[sz-1]'(by omega)) (by simp only [at2,hrow,Option.bind_some];exact List.getElem?_eq_getElem (by omega))
      have:=(Array.getElem?_eq_some_iff.1 hu).1
      omega
   have hst:=run_storeCells_at P p'.blk (i*sz+j) tt (a.eval y).cells.toList 0 cv w hb hfit e2.one
   simp only [Nat.add_zero] at hst
   refine ⟨(cv.toList.take (i*sz+j)++(a.eval y).cells.toList++cv.toList.drop (i*sz+j+(a.eval y).cells.toList.length)).toArray,.skip,?_,?_,?_,?_,.inl ⟨rfl,rfl⟩⟩
   rotate_left
   · simp only [List.size_toArray,List.length_append,List.length_take,List.length_drop,Array.length_toList] at *
     omega
   · intro r hr'
     rcases List.mem_or_eq_of_mem_set hr' with h1|h1
     · exact hr r h1
     · rw [h1];simp only [putRow,List.length_append,List.length_take,List.length_drop];omega
   · intro i' j' c hc
     have hmul:∀a b:Nat,a<b→a*sz+sz≤b*sz:=fun a b h=>by rw [←Nat.succ_mul];exact Nat.mul_le_mul_right _ h
     have hj':j'<sz:=by
      obtain ⟨h1,h2,-⟩:=at2_lt hc
      have hm:=List.getElem_mem h1
      rcases List.mem_or_eq_of_mem_set hm with h3|h3
      · rw [hr _ h3] at h2;exact h2
      · rw [h3] at h2;simp only [putRow,List.length_append,List.length_take,List.length_drop] at h2;omega
     have key : (cv.toList.take (i*sz+j)++(a.eval y).cells.toList++cv.toList.drop (i*sz+j+(a.eval y).cells.toList.length)).toArray[i'*sz+j']? =
      if i'=i∧j≤j'∧j'<j+cs.length then (a.eval y).cells.toList[j'-j]? else cv[i'*sz+j']?:=by
      have hl1:(cv.toList.take (i*sz+j)).length=i*sz+j:=by rw [List.length_take,Array.length_toList];omega
      rw [List.getElem?_toArray]
      rcases Nat.lt_trichotomy i' i with h1|h1|h1
      · have:=hmul i' i h1
        rw [if_neg (by omega),List.append_assoc,List.getElem?_append_left (by omega),List.getElem?_take,if_pos (by omega)]
        simp
      · subst h1
        by_cases h2:j'<j
        · rw [if_neg (by omega),List.append_assoc,List.getElem?_append_left (by omega),List.getElem?_take,if_pos (by omega)]
          simp
        · by_cases h3:j'<j+cs.length
          · rw [if_pos ⟨rfl,by omega,h3⟩,List.getElem?_append_left (by rw [List.length_append,hl1];omega),List.getElem?_append_right (by omega),hl1]
            congr 1;omega
          · rw [if_neg (by omega),List.getElem?_append_right (by rw [List.length_append,hl1];omega),List.length_append,hl1,List.getElem?_drop]
            rw [←Array.getElem?_toList]
            congr 1;omega
      · have:=hmul i i' h1
        rw [if_neg (by omega),List.getElem?_append_right (by rw [List.length_append,hl1];omega),List.length_append,hl1,List.getElem?_drop]
        rw [←Array.getElem?_toList]
        congr 1;omega
     rw [key]
     simp only [at2,List.getElem?_set] at hc
     by_cases h1:i=i'
     · subst h1
       rw [if_pos rfl,if_pos hi] at hc
       simp only [Option.bind_some] at hc
       rw [putRow_get hj] at hc
       by_cases h2:j'<j
       · rw [if_pos h2] at hc
         rw [if_neg (by omega)]
         exact hcell i j' c (by simp only [at2,hrow,Option.bind_some];exact hc)
       · rw [if_neg h2] at hc
         by_cases h3:j'<j+cs.length
         · rw [if_pos h3] at hc
           rw [if_pos ⟨rfl,by omega,h3⟩]
           have hk:j'-j<(a.eval y).cells.toList.length:=by omega
           exact ⟨_,List.getElem?_eq_getElem hk,e2.one _ (List.getElem_mem hk),e2.rel _ c _ hc (List.getElem?_eq_getElem hk)⟩
         · rw [if_neg h3] at hc
           rw [if_neg (by omega)]
           exact hcell i j' c (by simp only [at2,hrow,Option.bind_some];exact hc)
     · rw [if_neg h1] at hc
       rw [if_neg (by omega)]
       exact hcell i' j' c hc
   · cases hi':P.info? t with
     | none=>rw [szT,hi'] at ht;cases ht
     | some ti=>
       rw [szT,hi'] at ht
       simp only [Option.map_some,Option.some.injEq] at ht
       have hs2:(a.eval y).cells.size=ti.size:=by rw [←Array.length_toList];omega
       unfold execOp;rw [ho];simp [ha,Instr.storeAt,Instr.sureAddr,storeVar,Go.sizeOf,typeInfo,hi',hs2]
       rw [hst]
       simp [hs2]
end
end Ow
