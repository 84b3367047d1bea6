/- A part of the proof. -/
import Derived.Test.YtjakhnhnjhafgaaGreatK21
import Derived.Test.YtjakhnhnjhafgaaGreatK20
import Derived.Test.YtjakhnhnjhafgaaGreatK24
import Derived.Test.YtjakhnhnjhafgaaGreatK03
set_option linter.unusedVariables false
set_option linter.unusedSimpArgs false
namespace Ow
open Go Go.RowKit Go.Deep
class Bo (α:Type) [Rp α] where
 d : α→List D
 ok:α→Prop
 len:∀x,(d x).length=Rp.sz α
 to:∀{RO:Nat→Prop} {w:World} {x:α} {vs:List Value},(∀b,RO b→b<w.heap.size)→ok x→vs.length=(d x).length→(∀(j:Nat) (c:D) (u:Value),(d x)[j]? = some c→vs[j]? = some u→RelD RO w c u)→∃F,(∀b∈F,RO b)∧Rp.R w x vs F
 of:∀{w:World} {x:α} {vs:List Value} {F:List Nat},Rp.R w x vs F→∀(j:Nat) (c:D) (u:Value),(d x)[j]? = some c→vs[j]? = some u→RelD (·∈F) w c u
theorem one_of{vs:List Value}(h:vs.length=1):∃v,vs=[v]:=by
 match vs,h with | [v],_=>exact ⟨v,rfl⟩
instance : Bo Int where
 d x:=[.lit (.int .i64 x)]
 ok x:=I64 x
 len _:=rfl
 to:=fun _ ho hl h=>by
  obtain ⟨v,rfl⟩:=one_of hl
  have:=h 0 _ v rfl rfl
  cases this
  exact ⟨[],by simp,rfl,rfl,ho⟩
 of:=fun h j c u hc hu=>by
  obtain ⟨rfl,rfl,-⟩:=h
  match j,hc,hu with
  | 0,hc,hu=>cases hc;cases hu;exact .lit _
instance {α β:Type} [Rp α] [Rp β] [Bo α] [Bo β]:Bo (α×β) where
 d x:=Bo.d x.1++Bo.d x.2
 ok x:=Bo.ok x.1∧Bo.ok x.2
 len x:=by rw [List.length_append,Bo.len,Bo.len];rfl
 to :=fun {RO w x vs} hro ho hl h=>by
  rw [List.length_append] at hl
  obtain ⟨F1,h1,r1⟩:=Bo.to (x:=x.1) (vs:=vs.take (Bo.d x.1).length) hro ho.1 (by rw [List.length_take];omega) (fun j c u hc hu=>by
   have hj:=(List.getElem?_eq_some_iff.1 hc).1
   exact h j c u (by rw [List.getElem?_append_left hj];exact hc) (by rw [List.getElem?_take,if_pos hj] at hu;exact hu))
  obtain ⟨F2,h2,r2⟩:=Bo.to (x:=x.2) (vs:=vs.drop (Bo.d x.1).length) hro ho.2 (by rw [List.length_drop];omega) (fun j c u hc hu=>
   h ((Bo.d x.1).length+j) c u (by rw [List.getElem?_append_right (by omega),Nat.add_sub_cancel_left];exact hc) (by rw [List.getElem?_drop] at hu;exact hu))
  exact ⟨F1++F2,fun b hb=>(List.mem_append.1 hb).elim (h1 b) (h2 b),_,_,F1,F2,(List.take_append_drop _ vs).symm,rfl,r1,r2⟩
 of := fun {w x vs F} h j c u hc hu=>by
  obtain ⟨c1,c2,F1,F2,rfl,rfl,h1,h2⟩:=h
  have e1:c1.length=(Bo.d x.1).length:=by rw [Bo.len];exact Rp.len h1
  rcases Nat.lt_or_ge j (Bo.d x.1).length with hj|hj
  · rw [List.getElem?_append_left hj] at hc
    rw [List.getElem?_append_left (by omega)] at hu
    exact (Bo.of h1 j c u hc hu).mono (fun b hb=>List.mem_append.2 (.inl hb)) (fun _ _=>rfl)
  · rw [List.getElem?_append_right hj] at hc
    rw [List.getElem?_append_right (by omega),e1] at hu
    exact (Bo.of h2 _ c u hc hu).mono (fun b hb=>List.mem_append.2 (.inr hb)) (fun _ _=>rfl)
@[reducible] def Bo.by_{α β:Type}[Rp β][Bo β](f:α→β):@Bo α (Rp.by_ f):=
 letI:=Rp.by_ f
 { d:=fun x=>Bo.d (f x),ok:=fun x=>Bo.ok (f x),len:=fun x=>Bo.len (f x),to:=fun {_ _ x _} hro ho hl h=>Bo.to (α:=β) (x:=f x) hro ho hl h,of:=fun {_ x _ _} h=>Bo.of (α:=β) (x:=f x) h }
theorem RL.ofD{α:Type}[Rp α][Bo α]{RO:Nat→Prop}{w:World}{xs:List α}{v:Value}(hro:∀b,RO b→b<w.heap.size)(hx:xs≠[])(ho:∀x∈xs,Bo.ok x)(h:RelD RO w (.sl (Rp.sz α) (xs.map Bo.d)) v):
 ∃ F,(∀b∈F,RO b)∧RL w xs v F:=by
 generalize he:xs.map Bo.d=els at h
 cases h with
 | nil sz A cap hc=>exact absurd (List.map_eq_nil_iff.1 he) hx
 | sl sz els b off cap U hb hn hc hr cell one rel=>
   subst he
   rw [List.length_map] at hn ⊢
   have hat:∀(i:Nat) (hi:i<xs.length) (j:Nat) (c:D),(Bo.d xs[i])[j]? = some c→at2 (xs.map Bo.d) i j=some c:=fun i hi j c hc=>by
    simp [at2,List.getElem?_eq_getElem hi,hc]
   have key:∀i,∃F:List Nat,(∀b∈F,RO b)∧∀hi:i<xs.length,Rp.R w xs[i] ((List.range (Rp.sz α)).map (U i)) F:=fun i=>by
    by_cases hi:i<xs.length
    · obtain ⟨F,h1,h2⟩:=Bo.to (x:=xs[i]) (vs:=(List.range (Rp.sz α)).map (U i)) hro (ho _ (List.getElem_mem hi)) (by simp [Bo.len]) (fun j c u hc hu=>by
       have hj:=(List.getElem?_eq_some_iff.1 hc).1
       rw [Bo.len] at hj
       rw [List.getElem?_map,List.getElem?_range hj] at hu
       cases hu
       exact rel i j c (hat i hi j c hc))
      exact ⟨F,h1,fun _=>h2⟩
    · exact ⟨[],by simp,fun h=>absurd h hi⟩
   refine ⟨footOf b xs.length (fun i=>(key i).choose),fun g hg=>?_,some ⟨b,off,none⟩,cap,rfl,hn,hc,?_⟩
   · simp only [footOf,List.mem_cons,List.mem_flatMap,List.mem_range] at hg
     rcases hg with rfl|⟨i,-,hi⟩
     · exact hb
     · exact (key i).choose_spec.1 g hi
   · refine .inr ⟨b,off,fun i=>(List.range (Rp.sz α)).map (U i),fun i=>(key i).choose,rfl,rfl,hx,hro b hb,fun i hi j hj=>?_,fun i hi=>(key i).choose_spec.2 hi⟩
     have hj':j<(Bo.d xs[i]).length:=by rw [Bo.len];exact hj
     rw [cell i j _ (hat i hi j _ (List.getElem?_eq_getElem hj'))]
     simp [hj]
theorem RL.toD{α:Type}[Rp α][Bo α]{w:World}{xs:List α}{v:Value}{F:List Nat}(h:RL w xs v F):RelD (·∈F) w (.sl (Rp.sz α) (xs.map Bo.d)) v:=by
 obtain ⟨A,cap,rfl,hl,hm,h4⟩:=h
 rcases h4 with ⟨rfl,rfl,-⟩|⟨b,off,C,Fs,rfl,rfl,hx,hrow⟩
 · exact .nil _ _ _ hm
 · have key:∀i j x,at2 (xs.map Bo.d) i j=some x→∃(hi:i<xs.length),(Bo.d xs[i])[j]? = some x∧j<Rp.sz α:=fun i j x hx=>by
    obtain ⟨hi,hj,e⟩:=at2_lt hx
    rw [List.length_map] at hi
    refine ⟨hi,?_,?_⟩
    · simp only [List.getElem_map] at e hj
      rw [List.getElem?_eq_getElem hj,e]
    · simp only [List.getElem_map] at hj
      rw [Bo.len] at hj;exact hj
   have hU:∀i j x,at2 (xs.map Bo.d) i j=some x→(C i)[j]? = some ((C i).getD j undef):=fun i j x hx=>by
    obtain ⟨hi,-,hj⟩:=key i j x hx
    have:=Rp.len (hrow.elem i hi)
    rw [List.getD_eq_getElem?_getD,List.getElem?_eq_getElem (by omega)];rfl
   have:=RelD.sl (RO:=(·∈footOf b xs.length Fs)) (w:=w) (Rp.sz α) (xs.map Bo.d) b off cap (fun i j=>(C i).getD j undef) (by simp [footOf]) (by simpa using hl) hm (fun r hr=>by
    obtain ⟨x,-,rfl⟩:=List.mem_map.1 hr;exact Bo.len x)
    (fun i j x hx=>by
      obtain ⟨hi,-,hj⟩:=key i j x hx
      rw [hrow.cell i hi j hj];exact hU i j x hx)
    (fun i j x hx=>by
      obtain ⟨hi,-,hj⟩:=key i j x hx
      exact Rp.one (hrow.elem i hi) _ (List.mem_of_getElem? (hU i j x hx)))
    (fun i j x hx=>by
      obtain ⟨hi,h1,hj⟩:=key i j x hx
      refine (Bo.of (hrow.elem i hi) j x _ h1 (hU i j x hx)).mono (fun g hg=>?_) (fun _ _=>rfl)
      simp only [footOf,List.mem_cons,List.mem_flatMap,List.mem_range]
      exact .inr ⟨i,hi,hg⟩)
   rw [List.length_map] at this
   exact this
instance {α:Type} [Rp α] [Bo α]:Bo (List α) where
 d xs:=[.sl (Rp.sz α) (xs.map Bo.d)]
 ok xs:=xs≠[]∧∀x∈xs,Bo.ok x
 len _:=rfl
 to:=fun hro ho hl h=>by
  obtain ⟨v,rfl⟩:=one_of hl
  obtain ⟨F,h1,h2⟩:=RL.ofD hro ho.1 ho.2 (h 0 _ v rfl rfl)
  exact ⟨F,h1,v,rfl,h2⟩
 of:=fun h j c u hc hu=>by
  obtain ⟨v,rfl,h⟩:=h
  match j,hc,hu with
  | 0,hc,hu=>cases hc;cases hu;exact h.toD
instance : Bo InsIns:=Bo.by_ (fun (x:InsIns)=>(x.Op,x.D,x.A,x.B,x.Rel,x.Lo,x.Hi,x.To))
instance : Bo PrcProc:=Bo.by_ (fun (x:PrcProc)=>(x.Lo,x.Hi,x.Code))
instance : Bo RunFrame:=Bo.by_ (fun (x:RunFrame)=>(x.Proc,x.Pc,x.Vars,x.Cells))
section
variable {ρ:Pl} {RO:Nat→Prop} {w:World}
theorem RelC.dd{x:D}{v:Value}(h:RelC ρ RO w (.d x) v):RelD RO w x v:=by cases h with|d x v h=>exact h
theorem RelC.aggL{cs:List C}{v:Value}(h:RelC ρ RO w (.agg cs) v):∃us:List Value,v=.agg us.toArray∧us.length=cs.length∧∀(i:Nat) (c:C) (u:Value),cs[i]? = some c→us[i]? = some u→RelC ρ RO w c u:=by
 cases h with|agg cs us hl one rel=>exact ⟨us,rfl,hl,rel⟩
theorem RelT.vs3{a b c:C}{vs:Array Value}(h:RelT ρ RO w [a,b,c] vs):∃x y z,vs=#[x,y,z]∧RelC ρ RO w a x∧RelC ρ RO w b y∧RelC ρ RO w c z:=by
 obtain ⟨hl,hr⟩:=h
 obtain ⟨vs⟩:=vs
 match vs,hl,hr with | [x,y,z],_,hr=>exact ⟨x,y,z,rfl,hr 0 a x rfl rfl,hr 1 b y rfl rfl,hr 2 c z rfl rfl⟩
theorem RelC.agg1{a:C}{v:Value}(h:RelC ρ RO w (.agg [a]) v):∃x,v=.agg #[x]∧RelC ρ RO w a x:=by
 obtain ⟨us,rfl,hl,hr⟩:=h.aggL
 match us,hl,hr with | [x],_,hr=>exact ⟨x,rfl,hr 0 a x rfl rfl⟩
theorem RelC.agg5{a b c d e:C}{v:Value}(h:RelC ρ RO w (.agg [a,b,c,d,e]) v):∃x y z t u,v=.agg #[x,y,z,t,u]∧RelC ρ RO w a x∧RelC ρ RO w b y∧RelC ρ RO w c z∧RelC ρ RO w d t∧RelC ρ RO w e u:=by
 obtain ⟨us,rfl,hl,hr⟩:=h.aggL
 match us,hl,hr with | [x,y,z,t,u],_,hr=>exact ⟨x,y,z,t,u,rfl,hr 0 a x rfl rfl,hr 1 b y rfl rfl,hr 2 c z rfl rfl,hr 3 d t rfl rfl,hr 4 e u rfl rfl⟩
end
theorem EC.ofMem{P:Program}{f:FuncId}{args:List C}{val:C}(hf:FnOk P f) (h:∀(ρ:Pl) (RO:Nat→Prop) (w:World) (vs:Array Value),(∀b,RO b→b<w.heap.size)→RelT ρ RO w args vs →
 Calls P f vs w fun e w'=>∃(v:Value) (G:List Nat),e=.returned v∧Chg [] w w'∧(∀g∈G,RO g∨w.heap.size≤g)∧(∀g∈G,g<w'.heap.size)∧RelC ρ (fun b=>RO b∨b∈G) w' val v) :
 EC P f 0 args [] val [] 0:=
 ⟨hf, Nat.le_refl _,fun ρ F RO w vs hs hρ ha=>(h ρ RO w vs hs.ro ha).mono (fun e w' ⟨v,G,he,hc,hG,hlt,hv⟩=>⟨ρ,F,fun b=>RO b∨b∈G,v,he,
   ⟨(ChgP.of hc).mono (fun b hb=>by cases hb),fun _ _=>rfl,fun _ h=>.inl h,fun b h=>h.elim .inl (fun h=>(hG b h).elim .inl (fun h=>.inr (.inr h))),
     ⟨fun l B h=>(by cases h),fun l l' B B' _ h=>(by cases h),fun l B h=>(by cases h),fun b hb=>hb.elim (fun hb=>Nat.lt_of_lt_of_le (hs.ro b hb) hc.size) (hlt b)⟩,
     fun b ⟨l,B,h,_⟩=>(by cases h)⟩,hv,hρ⟩)⟩
end Ow
namespace Ow
open Go Go.RowKit Go.Deep
theorem RelT.vs2{ρ:Pl}{RO:Nat→Prop}{w:World}{a b:C}{vs:Array Value}(h:RelT ρ RO w [a,b] vs):∃x y,vs=#[x,y]∧RelC ρ RO w a x∧RelC ρ RO w b y:=by
 obtain ⟨vs⟩:=vs
 obtain ⟨hl,hr⟩:=h
 match vs,hl,hr with
 | [x,y],_,hr=>exact ⟨x,y,rfl,hr 0 a x rfl rfl,hr 1 b y rfl rfl⟩
end Ow
namespace Go.Proofs.YtjakhnhnjhafgaaGreat.Wk
open Go Go.RowKit Go.Deep Ow
set_option maxRecDepth 100000
theorem kFrames_e{p0:List PrcProc}{l:List RunFrame}(hp:p0≠[]∧∀c∈p0,Bo.ok c)(hf:l≠[]∧∀f∈l,Bo.ok f)(h:framesB ⟨p0⟩ l=true):EC Tryz.prog 127 0 [.agg [.d (.sl 3 (p0.map dPrcProc))],.d (.sl 4 (l.map dRunFrame))] [] (CB true) [] 0:=by
 refine EC.ofVal (FnIs.ok (fn:=Tryz.f127) ⟨by kernel_rfl,by kernel_rfl,rfl⟩) rfl (fun ρ RO w vs hro hr=>?_)
 obtain ⟨a,b,rfl,ha,hb⟩:=hr.vs2
 obtain ⟨vP,rfl,hP⟩:=ha.agg1
 obtain ⟨FP,-,rP⟩:=RL.ofD (xs:=p0) hro hp.1 hp.2 hP.dd
 obtain ⟨FF,-,rF⟩:=RL.ofD (xs:=l) hro hf.1 hf.2 hb.dd
 have:=implFrames_c ⟨p0⟩ l vP b FP FF w rP rF
 rw [h] at this
 exact this
theorem kRunOk_e{q0:List PrcProc}{x0 x2 x3 x4:Int}{x1:List RunFrame}(hp:q0≠[]∧∀c∈q0,Bo.ok c)(hf:x1≠[]∧∀f∈x1,Bo.ok f)(hs:x0=1)(h:runOk ⟨q0⟩ ⟨x0,x1,x2,x3,x4⟩=true):EC Tryz.prog 64 0 [.agg [.d (.sl 3 (q0.map dPrcProc))],.agg [CI x0,.d (.sl 4 (x1.map dRunFrame)),CI x2,CI x3,CI x4]] [] (CB true) [] 0:=by
 have g:=goes_facts h hs
 have hfr:framesB ⟨q0⟩ x1=true:=by rw [runOk_goes g.prg hs (by rw [g.out];rfl) g.out g.proc g.pc] at h;exact h
 have hpr:=g.prg
 have h2:x2=0:=g.out
 have h3:x3=0:=g.proc
 have h4:x4=0:=g.pc
 clear g h
 subst hs h2 h3 h4
 refine (seat [] []).PU (mkM true [7,68]) (fn:=Tryz.f64) ⟨by kernel_rfl,by kernel_rfl,rfl⟩ (mkEs [ePrgProg 10 ⟨q0⟩,eRunRun 30 ⟨1,x1,0,0,0⟩,eB 111000 true,eB 126000 true,eInsIns 415000 zInsIns,eB 415030 true,eB 1013000 true]) noLps [] [xPrgProg 10,xRunRun 30] (by simp only [go_sem,Nat.reduceEqDiff,Nat.reduceAdd,Nat.reduceBEq,Int.reduceToNat]) (fun _=>?_)
 conv=>arg 4;cbv
 simp only [go_sem,Nat.reduceEqDiff,Nat.reduceAdd,Nat.reduceBEq,Int.reduceToNat]
 repeat' (first|with_reducible apply And.intro|intro _)
 all_goals first|omega|(simp;done)|exact jPrgOk_e hpr|exact iNumOk_e (n:=0) (by decide)|exact .inr (iNumOk_e (n:=0) (by decide))|exact kFrames_e hp hf hfr|(rename_i h;exact (h trivial).elim)
end Go.Proofs.YtjakhnhnjhafgaaGreat.Wk
