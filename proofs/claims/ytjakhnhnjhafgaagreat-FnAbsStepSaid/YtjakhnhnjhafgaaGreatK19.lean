/- A part of the proof. -/
import Derived.Test.YtjakhnhnjhafgaaGreatK18
import Derived.Test.YtjakhnhnjhafgaaGreatProg
set_option linter.unusedVariables false
set_option linter.unusedSimpArgs false
namespace Ow
open Go Go.RowKit Go.Deep
def V.ExL{α:Type}(lps:Nat→LpI)(E:α→Prop)(en:α→Env):V→Env→List Cv→Prop
 | .fin eqs,e,_=>∃a,E a∧eqAll e (en a) eqs
 | .br b v1 v2,e,cx=>(b.tr e→v1.ExL lps E en e cx)∧(¬b.tr e→v2.ExL lps E en e cx)
 | .side c v,e,cx=>c.tr e∧(c.tr e→v.ExL lps E en e cx)
 | .els v1 v2,e,cx=>v1.ExL lps E en e cx∧v2.ExL lps E en e cx
 | .none,_,_=>True
 | .lp j eqs v,e,cx=>(∃x,(lps j).J e x∧eqAll e (lput lps j e x) eqs)∧∀x,(lps j).J e x→v.ExL lps E en (lput lps j e x) (⟨j,e,(lps j).μ e x⟩::cx)
 | .back j eqs,e,cx=>match cvFind j cx with
   | some c=>∃x,(lps j).J c.e x∧(lps j).μ c.e x<c.μ∧eqAll e (lput lps j c.e x) eqs
   | Option.none=>False
 | _,_,_=>False
structure Ce where
 j : Nat
 e : Env
 h : Sx
 r : R
def dropTo(j:Nat):List Ce→List Ce
 | []=>[]
 | c::cs=>if c.j=j then c::cs else dropTo j cs
inductive Ys (m:Nat) (lf:Ex→Sx→Env→Prop):Nat→R→Env→List Ce→Prop
 | out {n:Nat} {x:Ex} {s:Sx} {e:Env} {cx:List Ce} (h:lf x s e):Ys m lf n (.out x s) e cx
 | br {n:Nat} {b:X} {r1 r2:R} {e:Env} {cx:List Ce} (h1:b.tr e→Ys m lf n r1 e cx) (h2:¬b.tr e→Ys m lf n r2 e cx):Ys m lf n (.br b r1 r2) e cx
 | side {n:Nat} {c:X} {r:R} {e:Env} {cx:List Ce} (hc:c.tr e) (h:Ys m lf n r e cx):Ys m lf n (.side c r) e cx
 | els {n:Nat} {r1 r2:R} {e:Env} {cx:List Ce} (h1:Ys m lf n r1 e cx) (h2:Ys m lf n r2 e cx):Ys m lf n (.els r1 r2) e cx
 | none {n:Nat} {e:Env} {cx:List Ce}:Ys m lf n .none e cx
 | lp {n:Nat} {j:Nat} {s g:Sx} {r:R} {e:Env} {cx:List Ce} (w:Env) (he:Ent m (s.den e) (g.den (e.over (j+1) w))) (h:Ys m lf n r (e.over (j+1) w) (⟨j,e,g,r⟩::cx)):Ys m lf (n+1) (.lp j s g r) e cx
 | back {n:Nat} {j:Nat} {s:Sx} {e:Env} {cx cx0:List Ce} {c:Ce} (w:Env) (hc:dropTo j cx=c::cx0) (hj:c.j=j) (he:Ent m (s.den e) (c.h.den (c.e.over (j+1) w))) (h:Ys m lf n c.r (c.e.over (j+1) w) (c::cx0)):Ys m lf (n+1) (.back j s) e cx
variable {m:Nat} {lf:Ex→Sx→Env→Prop}
inductive AlY (m:Nat) (lf:Ex→Sx→Env→Prop):Nat→List Ce→List Cx→Prop
 | nil {n:Nat}:AlY m lf n [] []
 | cons {n:Nat} {c:Ce} {d:Cx} {cs:List Ce} {ds:List Cx} (hj:d.j=c.j) (he:d.e=c.e) (hh:d.h=c.h) (hn:n≤d.μ) (hK:∀w k,k<d.μ→Ys m lf k c.r (c.e.over (c.j+1) w) (c::cs)→d.K w k) (h:AlY m lf d.μ cs ds):AlY m lf n (c::cs) (d::ds)
theorem AlY.le{n n':Nat}{cs:List Ce}{ds:List Cx}(h:AlY m lf n cs ds)(hn:n'≤n):AlY m lf n' cs ds:=by
 cases h with
 | nil=>exact .nil
 | cons hj he hh h1 hK h=>exact .cons hj he hh (Nat.le_trans hn h1) hK h
theorem AlY.find{j:Nat}{c:Ce}{cx0:List Ce}:∀{cs:List Ce} {n:Nat} {ds:List Cx},AlY m lf n cs ds→dropTo j cs=c::cx0→c.j=j→∃d,ds.find? (fun d=>d.j==j)=some d∧d.e=c.e∧d.h=c.h∧n≤d.μ∧∀w k,k<d.μ→Ys m lf k c.r (c.e.over (c.j+1) w) (c::cx0)→d.K w k:=by
 intro cs
 induction cs with
 | nil=>intro n ds h hd;cases hd
 | cons c' cs ih=>
   intro n ds h hd hj
   cases h with
   | cons hj' he hh hn hK h=>
     unfold dropTo at hd
     split at hd
     · rename_i hc
       cases hd
       exact ⟨_,by rw [List.find?_cons_of_pos (by simp [hj',hj])],he,hh,hn,hK⟩
     · rename_i hc
       obtain ⟨d,h1,h2,h3,h4,h5⟩:=ih h hd hj
       exact ⟨d,by rw [List.find?_cons_of_neg (by simpa [hj'] using hc)];exact h1,h2,h3,Nat.le_trans hn h4,h5⟩
theorem Ys.holds{Q:Post}(hQ:∀x s e,lf x s e→Q x.to (s.den e)){r:R}:∀{n:Nat} {e:Env} {cs:List Ce} {ds:List Cx},Ys m lf n r e cs→AlY m lf n cs ds→r.Holds m e ds Q:=by
 induction r with
 | out x s=>intro n e cs ds h ha;cases h with|out h=>exact hQ _ _ _ h
 | br b r1 r2 ih1 ih2=>intro n e cs ds h ha;cases h with|br h1 h2=>exact ⟨fun hb=>ih1 (h1 hb) ha,fun hb=>ih2 (h2 hb) ha⟩
 | side c r ih=>intro n e cs ds h ha;cases h with|side hc h=>exact ⟨hc,fun _=>ih h ha⟩
 | els r1 r2 ih1 ih2=>intro n e cs ds h ha;cases h with|els h1 h2=>exact ⟨ih1 h1 ha,ih2 h2 ha⟩
 | none=>intro n e cs ds h ha;trivial
 | stuck os s=>intro n e cs ds h ha;cases h
 | lp j s g r ih=>
   intro n e cs ds h ha
   cases h with
   | lp w he h=>
     rename_i k
     refine ⟨fun w k'=>k'≤k∧Ys m lf k' r (e.over (j+1) w) (⟨j,e,g,r⟩::cs),⟨w,k,⟨Nat.le_refl k,h⟩,he⟩,fun w' k' hk=>?_⟩
     exact ih hk.2 (.cons rfl rfl rfl (Nat.le_refl k') (fun w2 k2 hlt h2=>⟨Nat.le_trans (Nat.le_of_lt hlt) hk.1,h2⟩) (ha.le (Nat.le_succ_of_le hk.1)))
 | back j s=>
   intro n e cs ds h ha
   cases h with
   | back w hc hj he h=>
     rename_i k cx0 c
     obtain ⟨d,h1,h2,h3,h4,h5⟩:=ha.find hc hj
     exact ⟨d,h1,w,k,h5 w k (by omega) (by rw [hj];exact h),by omega,by rw [h2,h3];exact he⟩
section
variable {P:Program} {tab:Tab} {k k':Nat} {fn:Func} {lps:Nat→LpI} {α:Type} {E:α→Prop} {en:α→Env} {v0:X} {H':List XB} {rs:List ResultVar}
def lfA(P:Program)(fn:Func)(k k':Nat)(v0:X)(H':List XB)(en:α→Env)(a:α)(x:Ex)(s:Sx)(e:Env):Prop:=RetE P fn k (v0.den (en a)) (H'.map (XB.den (en a))) k' x.to (s.den e)
def CxA(P:Program)(fn:Func)(k k':Nat)(v0:X)(H':List XB)(lps:Nat→LpI)(E:α→Prop)(en:α→Env)(cs:List Ce)(cv:List Cv)(hs:Hds):Prop:=
 ∀ j c h,cvFind j cv=some c→look j hs=some h→∃ce cx0,dropTo j cs=ce::cx0∧ce.j=j∧ce.e=c.e∧ce.h=h ∧
  ∀ x,(lps j).J c.e x→(lps j).μ c.e x<c.μ→∃a,E a∧∃n,Ys k (lfA P fn k k' v0 H' en a) n ce.r (lput lps j c.e x) (ce::cx0)
theorem R.detL(ht:TabOk P tab)(hrs:fn.results.toList=rs)(hE:∃a,E a){r:R}:∀{e:Env} {cs:List Ce} {cv:List Cv} {hs:Hds},CxA P fn k k' v0 H' lps E en cs cv hs→r.excl e→(r.low k (blkLf tab rs k k' v0 H') hs).ExL lps E en e cv →
 (r.live e∧∃a,E a∧∃n,Ys k (lfA P fn k k' v0 H' en a) n r e cs)∨(¬r.live e∧∀a n,Ys k (lfA P fn k k' v0 H' en a) n r e cs):=by
 induction r with
 | out x s=>
   intro e cs cv hs hcx hex h
   have key:(match blkLf tab rs k k' v0 H' s with|some v=>v|Option.none=>V.stuck [] s).ExL lps E en e cv→∃a,E a∧RetOk P fn k k' (v0.den (en a)) (H'.map (XB.den (en a))) (s.den e):=by
    intro h
    split at h
    · rename_i v hv
      have hv':=hv
      unfold blkLf at hv'
      simp only [Option.bind_eq_some_iff,Option.map_eq_some_iff] at hv'
      obtain ⟨xs,h1,eqs,h2,rfl⟩:=hv'
      obtain ⟨e0,hE,hq⟩:=h
      exact ⟨e0,hE,blkLf_ok (lps:=noLps) (val:=v0.den (en e0)) (cv:=[]) ht hrs hv hq⟩
    · exact h.elim
   unfold R.low at h
   cases x with
   | exit id=>exact h.elim
   | nrm=>obtain ⟨a,hE,h1⟩:=key h;exact .inl ⟨trivial,a,hE,0,.out ⟨.inl rfl,h1⟩⟩
   | ret=>obtain ⟨a,hE,h1⟩:=key h;exact .inl ⟨trivial,a,hE,0,.out ⟨.inr rfl,h1⟩⟩
 | br b r1 r2 ih1 ih2=>
   intro e cs cv hs hcx hex h
   by_cases hb:b.tr e
   · rcases ih1 hcx (hex.1 hb) (h.1 hb) with ⟨hl,a,hE,n,hh⟩|⟨hl,hh⟩
     · exact .inl ⟨.inl ⟨hb,hl⟩,a,hE,n,.br (fun _=>hh) (fun hn=>absurd hb hn)⟩
     · exact .inr ⟨fun hl'=>hl'.elim (fun h=>hl h.2) (fun h=>h.1 hb),fun a n=>.br (fun _=>hh a n) (fun hn=>absurd hb hn)⟩
   · rcases ih2 hcx (hex.2 hb) (h.2 hb) with ⟨hl,a,hE,n,hh⟩|⟨hl,hh⟩
     · exact .inl ⟨.inr ⟨hb,hl⟩,a,hE,n,.br (fun hn=>absurd hn hb) (fun _=>hh)⟩
     · exact .inr ⟨fun hl'=>hl'.elim (fun h=>hb h.1) (fun h=>hl h.2),fun a n=>.br (fun hn=>absurd hn hb) (fun _=>hh a n)⟩
 | side c r ih=>
   intro e cs cv hs hcx hex h
   rcases ih hcx hex (h.2 h.1) with ⟨hl,a,hE,n,hh⟩|⟨hl,hh⟩
   · exact .inl ⟨hl,a,hE,n,.side h.1 hh⟩
   · exact .inr ⟨hl,fun a n=>.side h.1 (hh a n)⟩
 | els r1 r2 ih1 ih2=>
   intro e cs cv hs hcx hex h
   rcases ih1 hcx hex.1 h.1 with ⟨hl1,a,hE,n,hh1⟩|⟨hl1,hh1⟩<;>rcases ih2 hcx hex.2.1 h.2 with ⟨hl2,a',hE',n',hh2⟩|⟨hl2,hh2⟩
   · exact absurd hl2 (hex.2.2 hl1)
   · exact .inl ⟨.inl hl1,a,hE,n,.els hh1 (hh2 _ _)⟩
   · exact .inl ⟨.inr hl2,a',hE',n',.els (hh1 _ _) hh2⟩
   · exact .inr ⟨fun h=>h.elim hl1 hl2,fun a n=>.els (hh1 a n) (hh2 a n)⟩
 | none=>intro e cs cv hs hcx hex h;exact .inr ⟨fun h=>h,fun _ _=>.none⟩
 | stuck os s=>intro e cs cv hs hcx hex h;exact h.elim
 | lp j s g r ih=>
   intro e cs cv hs hcx hex h
   unfold R.low at h
   split at h
   · rename_i eqs hm
     obtain ⟨⟨x0,hJ,hq⟩,hr⟩:=h
     have key:∀(N:Nat) (x:(lps j).X),(lps j).J e x→(lps j).μ e x=N→∃a,E a∧∃n,Ys k (lfA P fn k k' v0 H' en a) n r (lput lps j e x) (⟨j,e,g,r⟩::cs):=by
      intro N
      induction N using Nat.strongRecOn with
      | _ N ihN=>
        intro x hx hN
        have hcx':CxA P fn k k' v0 H' lps E en (⟨j,e,g,r⟩::cs) (⟨j,e,(lps j).μ e x⟩::cv) ((j,g)::hs):=by
         intro j' c h' hc hh
         simp only [cvFind] at hc
         simp only [look] at hh
         by_cases hj:j=j'
         · rw [if_pos hj] at hc hh
           cases hc;cases hh;subst hj
           exact ⟨⟨j,e,g,r⟩,cs,by simp [dropTo],rfl,rfl,rfl,fun y hy hlt=>ihN _ (by rw [←hN];exact hlt) y hy rfl⟩
         · rw [if_neg hj] at hc hh
           obtain ⟨ce,cx0,h1,h2⟩:=hcx j' c h' hc hh
           exact ⟨ce,cx0,by simp only [dropTo];rw [if_neg hj];exact h1,h2⟩
        rcases ih hcx' (hex _) (hr x hx) with ⟨-,h1⟩|⟨-,h1⟩
        · exact h1
        · obtain ⟨a,ha⟩:=hE;exact ⟨a,ha,0,h1 a 0⟩
     obtain ⟨a,ha,n,hy⟩:=key _ x0 hJ rfl
     exact .inl ⟨trivial,a,ha,n+1,.lp _ (mtZ_ok hm (eqAll_mem hq)) hy⟩
   · exact h.elim
 | back j s=>
   intro e cs cv hs hcx hex h
   unfold R.low at h
   split at h
   · rename_i g hg
     split at h
     · rename_i eqs hm
       simp only [V.ExL] at h
       split at h
       · rename_i c hc
         obtain ⟨ce,cx0,h1,h2,h3,h4,h5⟩:=hcx j c g hc hg
         obtain ⟨x,a1,a2,a3⟩:=h
         obtain ⟨a,ha,n,hy⟩:=h5 x a1 a2
         have he:=mtZ_ok hm (eqAll_mem a3)
         subst h4
         rw [←h3] at he hy
         exact .inl ⟨trivial,a,ha,n+1,.back _ h1 h2 he hy⟩
       · exact h.elim
     · exact h.elim
   · exact h.elim
end
theorem EC.exL{P:Program}{ms:Ms}{f:FuncId}{fn:Func}{c:Code}{nt k k':Nat}{rs:List ResultVar}{args:List C}{h:Hp}(hm:P.follows .mixedOrders=true)(hf:P.funcs[f]? = some fn)(hn:(fn.name == "runtime.NumGoroutine")=false)(hb:fn.body=some c)(hnt:fn.ntmps=nt)(hrs:fn.results.toList=rs)(hkk:k≤k')
 (e:Env) (kb:Kb) (hk:KbOk P kb) (hct:∀e',Like e e'→EvOk P e'∧CtrOk P e' kb.ct∧BtrOk P e' kb.bt) (lps:Nat→LpI) (hd:List (Nat×(Sx→Nat×Sx))) (xs:List X) (H:List XB) (hx:xs.map (X.den e)=args) (hH:H.map (XB.den e)=h) (v:X) (H':List XB) {α:Type} (E:α→Prop) (en:α→Env) (hE:∃a,E a)
 (hrun:((exec k (opG kb) ⟨heads hd,ms⟩ 0 0 c ⟨xs++List.replicate (nt-xs.length) .dead,H,k⟩).low k (blkLf kb.tab rs k k' v H') []).ExL lps E en e []):∃a,E a∧EC P f k args h (v.den (en a)) (H'.map (XB.den (en a))) k':=by
 have hex:=exec_ok (m:=k) (lp:=⟨heads hd,ms⟩) hm (e0:=e) (fun e h=>opG_ok hk (hct e h).1 (hct e h).2.1 (hct e h).2.2) c 0 0 ⟨xs++List.replicate (nt-xs.length) .dead,H,k⟩
 have h2:(⟨xs++List.replicate (nt-xs.length) .dead,H,k⟩:Sx).den e=⟨args++List.replicate (nt-args.length) .dead,h,k⟩:=by
  subst hx hH
  simp only [Sx.den,List.map_append,List.map_replicate,X.den,List.length_map]
 have fin:∀a n,Ys k (lfA P fn k k' v H' en a) n (exec k (opG kb) ⟨heads hd,ms⟩ 0 0 c ⟨xs++List.replicate (nt-xs.length) .dead,H,k⟩) e []→EC P f k args h (v.den (en a)) (H'.map (XB.den (en a))) k':=fun a n hy=>by
  have:=hex.2 e [] _ (Like.refl e) (hy.holds (Q:=RetE P fn k (v.den (en a)) (H'.map (XB.den (en a))) k') (fun x s e h=>h) .nil)
  rw [h2] at this
  exact EC.enterE hf hn hb hnt hkk this
 rcases R.detL (k:=k) (lps:=lps) (cs:=[]) (cv:=[]) (hs:=[]) hk.tab hrs hE (fun j c h hc=>by cases hc) (hex.1 e) hrun with ⟨-,a,ha,n,hy⟩|⟨-,hy⟩
 · exact ⟨a,ha,fin a n hy⟩
 · obtain ⟨a,ha⟩:=hE
   exact ⟨a,ha,fin a 0 (hy a 0)⟩
end Ow
namespace Ow
open Go Go.RowKit Go.Deep
def frT0(no:List Nat)(s:Sx):List X→List X×List Nat
 | []=>([],[])
 | x :: xs=>match x.isDead with
   | true=>(.dead::(frT0 no s xs).1,(frT0 no s xs).2)
   | false=>((frA no s x).1::(frT0 no s xs).1,(frA no s x).2++(frT0 no s xs).2)
theorem frT0_dead{no:List Nat}{s:Sx}{x:X}{xs:List X}:frT0 no s (x::xs)=((frA no s x).1::(frT0 no s xs).1,(frA no s x).2++(frT0 no s xs).2):=by
 rw [show frT0 no s (x::xs)=(match x.isDead with|true=>(X.dead::(frT0 no s xs).1,(frT0 no s xs).2)|false=>((frA no s x).1::(frT0 no s xs).1,(frA no s x).2++(frT0 no s xs).2)) from rfl]
 cases h:x.isDead with
 | false=>rfl
 | true=>cases x<;>first|rfl|cases h
theorem frT0_ok{e:Env}{s:Sx}{n:Nat}{hv:Nat→Option Blk}{no:List Nat}:∀{xs:List X},xs.all (fun x=>x.ids n)=true→(∀l∈(frT0 no s xs).2,hv l=(s.den e).H.get l)→Each (Arg id n hv) (xs.map (X.den e)) ((frT0 no s xs).1.map (X.den e)):=by
 intro xs
 induction xs with
 | nil=>intro _ _;exact .nil
 | cons x xs ih=>
   intro hx hh
   simp only [List.all_cons,Bool.and_eq_true] at hx
   rw [frT0_dead] at hh ⊢
   simp only [List.mem_append] at hh
   exact Each.cons (frA_ok hx.1 (fun l hl=>hh l (.inl hl))).1 (ih hx.2 (fun l hl=>hh l (.inr hl)))
def mkB : Bool→List Nat→List Bool
 | _,[]=>[]
 | b,n::l=>rep b n (mkB (!b) l)
where rep (b:Bool):Nat→List Bool→List Bool
 | 0,r=>r
 | n+1,r=>b::rep b n r
def mkM(b:Bool)(l:List Nat):Ms:=⟨mkB b l,fun _ s=>s,fun _ _ _ _=>.refl _ _,none,fun _ h=>by cases h⟩
def frD(no:List Nat)(s:Sx):Sx:=if idsOk s then
 let p:=frB no s (fun b=>if no.contains b.l then frA no s b.rows else (b.rows,[])) s.H
 let q:=frT0 no s s.T
 ⟨q.1,p.1.filter (fun b=>!(q.2++p.2).contains b.l),s.n⟩
 else s
theorem frD_ok{e:Env}{s:Sx}{m:Nat}{no:List Nat}:Ent m (s.den e) ((frD no s).den e):=by
 unfold frD
 split
 · rename_i hc
   obtain ⟨h1,h2⟩:=idsOk_ok hc
   refine frK_ok (frT0_ok (no:=no) h1 (hb_sub fun l h=>List.mem_append_left _ h)) (fun l p hp=>frB_ok (s:=s) (no:=no) (fun b hb hh=>?_) (hb_sub fun l h=>List.mem_append_right _ h) l p hp)
   split
   · rename_i hn
     rw [if_pos hn] at hh
     exact frA_ok (h2 b hb) hh
   · exact .same (h2 b hb)
 · exact .refl _ _
def frzs : List (Nat×(Sx→List Nat))→Nat→Sx→Sx
 | [],_,s=>s
 | p::ps,i,s=>if p.1=i then frD ((List.range s.n).filter (fun l=>!(p.2 s).contains l)) s else frzs ps i s
theorem frzs_ok(l:List (Nat×(Sx→List Nat)))(i:Nat)(s:Sx)(e:Env)(k:Nat):Ent k (s.den e) ((frzs l i s).den e):=by
 induction l with
 | nil=>exact .refl _ _
 | cons p ps ih=>unfold frzs;split;exact frD_ok;exact ih
theorem rowK_eq{cs:Ki}(h1:cs.flat=true)(h2:cs.ls.all (fun k=>k.one)=true){r:List C}(hK:RowK cs r):(cs.row (r.map dOf)).map C.d=r:=by
 refine List.ext_getElem (by rw [List.length_map,row_len h1,hK.1]) (fun j hj hj'=>?_)
 have hl:j<cs.ls.length:=by rw [ls_len,←hK.1];exact hj'
 have hkj:=List.getElem?_eq_getElem hl
 have hone:cs.ls[j].one=true:=by simpa using List.all_eq_true.1 h2 _ (List.getElem_mem hl)
 have hc:=hK.2 j _ r[j] hkj hone (List.getElem?_eq_getElem hj')
 have hx:=row_get h1 hkj (r:=r.map dOf)
 rw [List.getElem_map,(List.getElem?_eq_some_iff.1 hx).2,hc]
 congr 2
 simp [List.getD_eq_getElem?_getD,hj',dOf]
theorem Ent.trunc{m:Nat}{s:St}{l sz:Nat}{rows:List (List C)}{k:Nat}{H2:Hp}(h:s.H.get l=some (.c sz rows))(h2:∀y,H2.get y=if y=l then some (.c sz (rows.take k)) else s.H.get y):Ent m s ⟨s.T,H2,s.n⟩:=fun ρ F RO w vs hA=>by
 have back:∀y B,H2.get y=some B→∃B',s.H.get y=some B':=fun y B hB=>by
  rw [h2] at hB
  split at hB
  · rename_i e;subst e;exact ⟨_,h⟩
  · exact ⟨_,hB⟩
 have tr:∀p G,RelB ρ RO w p (.c sz rows) G→RelB ρ RO w p (.c sz (rows.take k)) G:=fun p G hR=>by
  have hat:∀i j c,at2 (rows.take k) i j=some c→at2 rows i j=some c:=fun i j c hc=>by
   unfold at2 at hc ⊢
   rw [List.getElem?_take] at hc
   split at hc
   · exact hc
   · cases hc
  cases hR with
  | c _ _ cs t hb hs hr U cell one rel=>exact .c _ _ cs t hb hs (fun r hr'=>hr r (List.mem_of_mem_take hr')) U (fun i j c hc=>cell i j c (hat i j c hc)) (fun i j c hc=>one i j c (hat i j c hc)) (fun i j c hc=>rel i j c (hat i j c hc))
  | v _ hs=>rw [List.take_nil];exact .v _ hs
 have sim:Sim ρ F RO H2.get w:=⟨fun y B hB=>by
  rw [h2] at hB
  split at hB
  · rename_i e
    subst e
    cases hB
    obtain ⟨p,hp,hR⟩:=hA.sim.blk _ _ h
    exact ⟨p,hp,tr p _ hR⟩
  · exact hA.sim.blk _ _ hB,
  fun y y' B B' hn hB hB'=>by
   obtain ⟨_,h3⟩:=back _ _ hB
   obtain ⟨_,h4⟩:=back _ _ hB'
   exact hA.sim.sep _ _ _ _ hn h3 h4,
  fun y B hB=>by
   obtain ⟨_,h3⟩:=back _ _ hB
   exact hA.sim.nro _ _ h3,
  hA.sim.ro⟩
 exact ⟨ρ,F,RO,⟨.refl _ _,fun _ _=>rfl,fun _ h=>h,fun _ h=>.inl h,sim,fun b ⟨y,B,hB,hb⟩=>.inl (by
  obtain ⟨B',h3⟩:=back _ _ hB
  exact ⟨y,B',h3,hb⟩)⟩,⟨sim,hA.rel,hA.dom,hA.le⟩⟩
def trX(b:XB)(n:X):X:=.rof (.sub (.fz b.cs b.rows) (.int .i64 0) n)
def trS(s:Sx)(l:Nat)(n:X):Sx:=match getX s.H l with
 | some b=>if b.cs.flat&&b.cs.ls.all (fun k=>k.one)&&rkIs b.cs b.rows then ⟨s.T,putX s.H l (trX b n),s.n⟩ else s
 | none=>s
theorem trX_den{e:Env}{b:XB}{n:X}(h1:b.cs.flat=true)(h2:b.cs.ls.all (fun k=>k.one)=true)(h3:rkIs b.cs b.rows=true):rowsC ((trX b n).den e)=(rowsC (b.rows.den e)).take (intOf (n.den e)).toNat:=by
 have:∀c∈tupOf (b.rows.den e),(b.cs.row ((tupOf c).map dOf)).map C.d=tupOf c:=fun c hc=>rowK_eq h1 h2 (rkIs_ok h3 _ (List.mem_map_of_mem hc))
 simp only [trX,X.den,rowsC,tupOf_t,elsOf_s,intOf_i,Int.toNat_zero,List.drop_zero,Nat.sub_zero,List.map_map,List.map_take]
 congr 1
 exact List.map_congr_left (fun c hc=>by simpa [Function.comp_def,tupOf_t] using this c hc)
theorem trS_ok{e:Env}{s:Sx}{l:Nat}{n:X}{m:Nat}:Ent m (s.den e) ((trS s l n).den e):=by
 unfold trS
 split
 · rename_i b hb
   split
   · rename_i h
     simp only [Bool.and_eq_true] at h
     refine Ent.trunc (k:=(intOf (n.den e)).toNat) (getX_H hb) (fun y=>?_)
     rw [putX_get hb,trX_den h.1.1 h.1.2 h.2];rfl
   · exact .refl _ _
 · exact .refl _ _
def trs : List (Nat×(Sx→Nat×X))→Nat→Sx→Sx
 | [],_,s=>s
 | p::ps,i,s=>if p.1=i then trS s (p.2 s).1 (p.2 s).2 else trs ps i s
theorem trs_ok(l:List (Nat×(Sx→Nat×X)))(i:Nat)(s:Sx)(e:Env)(k:Nat):Ent k (s.den e) ((trs l i s).den e):=by
 induction l with
 | nil=>exact .refl _ _
 | cons p ps ih=>unfold trs;split;exact trS_ok;exact ih
def mkT(l:List (Nat×(Sx→Nat×X)))(ms:Ms):Ms:=⟨ms.m,fun i s=>trs l i (ms.fz i s),fun i s e k=>(ms.ok i s e k).trans (trs_ok l i _ e k),ms.ck,ms.cok⟩
def mkF(l:List (Nat×(Sx→List Nat)))(ms:Ms):Ms:=⟨ms.m,frzs l,frzs_ok l,ms.ck,ms.cok⟩
def mkC(c:Bool→List Oper→List Tch→Bool)(h:c=ordCk)(ms:Ms):Ms:=⟨ms.m,ms.fz,ms.ok,some c,fun _ hc=>by cases hc;subst h;exact fun _ _ _ h=>h⟩
def ksOf(kb:Kb)(f:Nat):List (List Ki):=((lookT f kb.rt).bind (kisOf kb.rk)).getD []
def bodyOf(fn:Func):Code:=fn.body.getD .skip
def s0(fn:Func)(xs:List X)(H:List XB)(k:Nat):Sx:=⟨xs++List.replicate (fn.ntmps-xs.length) .dead,H,k⟩
def runP(ms:Ms)(kb:Kb)(f:Nat)(fn:Func)(hd:List (Nat×(Sx→Nat×Sx)))(xs:List X):V:=(exec 0 (opG kb) ⟨heads hd,ms⟩ 0 0 (bodyOf fn) (s0 fn xs [] 0)).low 0 (pureLf kb.tab fn.results.toList (ksOf kb f)) []
def runB(ms:Ms)(kb:Kb)(fn:Func)(hd:List (Nat×(Sx→Nat×Sx)))(xs:List X)(H:List XB)(k k':Nat)(v:X)(H':List XB):V:=(exec k (opG kb) ⟨heads hd,ms⟩ 0 0 (bodyOf fn) (s0 fn xs H k)).low k (blkLf kb.tab fn.results.toList k k' v H') []
def runE(ms:Ms)(kb:Kb)(fn:Func)(xs:List X)(H:List XB)(k k':Nat)(v:X)(H':List XB):V:=(exec k (opG kb) ⟨heads [],ms⟩ 0 0 (bodyOf fn) (s0 fn xs H k)).lowD (blkLf kb.tab fn.results.toList k k' v H')
section
variable {P:Program} {f:FuncId} {fn:Func} {kb:Kb}
structure Seat (P:Program) (kb:Kb):Prop where
 m : P.follows .mixedOrders=true
 k : KbOk P kb
 c : kb.ct=[]
 b : kb.bt=[]
structure FnIs (P:Program) (f:FuncId) (fn:Func):Prop where
 f : P.funcs[f]? = some fn
 n : (fn.name == "runtime.NumGoroutine")=false
 b : fn.body.isSome=true
theorem FnIs.body(h:FnIs P f fn):fn.body=some (bodyOf fn):=by
 have:=h.b
 unfold bodyOf
 cases hb:fn.body with
 | none=>rw [hb] at this;cases this
 | some c=>rfl
theorem Seat.ct(S:Seat P kb)(u:Env):∀e',Like (evE P u) e'→EvOk P e'∧CtrOk P e' kb.ct∧BtrOk P e' kb.bt:=fun e' h=>⟨evE_ok h,by rw [S.c];exact ct_nil,by rw [S.b];exact bt_nil⟩
theorem Seat.PU(ms:Ms)(S:Seat P kb)(F:FnIs P f fn){args:List C}{val:C}(u:Env)(lps:Nat→LpI)(hd:List (Nat×(Sx→Nat×Sx)))(xs:List X)(hx:xs.map (X.den (evE P u))=args)
 (hrun:(∀a∈args,wfC a)→(runP ms kb f fn hd xs).Holds lps val (evE P u) (evE P u) []):EC P f 0 args [] val [] 0:=
 .pureX S.m F.f F.n F.body rfl rfl (evE P u) kb S.k (S.ct u) (ksOf kb f) lps ⟨heads hd,ms⟩ xs hx hrun
theorem Seat.PB(ms:Ms)(S:Seat P kb)(F:FnIs P f fn){k k':Nat}{args:List C}{val:C}{h h':Hp}(hkk:k≤k')(u:Env)(lps:Nat→LpI)(hd:List (Nat×(Sx→Nat×Sx)))(xs:List X)(H:List XB)(hx:xs.map (X.den (evE P u))=args)(hH:H.map (XB.den (evE P u))=h)
 (v:X) (H':List XB) (hv:v.den (evE P u)=val) (hH':H'.map (XB.den (evE P u))=h') (hrun:(∀a∈args,wfC a)→(runB ms kb fn hd xs H k k' v H').Holds lps val (evE P u) (evE P u) []):EC P f k args h val h' k':=
 .blkX S.m F.f F.n F.body rfl rfl hkk (evE P u) kb S.k (S.ct u) lps ⟨heads hd,ms⟩ xs H hx hH v H' hv hH' hrun
theorem Seat.PE(ms:Ms)(S:Seat P kb)(F:FnIs P f fn){k k':Nat}{args:List C}{h:Hp}(hkk:k≤k')(u:Env)(xs:List X)(H:List XB)(hx:xs.map (X.den (evE P u))=args)(hH:H.map (XB.den (evE P u))=h)(v:X)(H':List XB)
 {α:Type} (E:α→Prop) (en:α→Env) (hE:∃a,E a) (hrun:(runE ms kb fn xs H k k' v H').Ex E en (evE P u)):∃a,E a∧EC P f k args h (v.den (en a)) (H'.map (XB.den (en a))) k':=
 EC.exX S.m F.f F.n F.body rfl rfl hkk (evE P u) kb S.k (S.ct u) xs H hx hH v H' E en hE hrun
theorem Seat.PX(ms:Ms)(S:Seat P kb)(F:FnIs P f fn){k k':Nat}{args:List C}{h:Hp}(hkk:k≤k'){τ:Type}(u:τ→Env)(xs:List X)(H:List XB)(hx:∀t,xs.map (X.den (evE P (u t)))=args)(hH:∀t,H.map (XB.den (evE P (u t)))=h)(v:X)(H':List XB)
 {α:Type} (E:α→Prop) (en:α→Env) (hE:∃a,E a) (hrun:∃t,(runE ms kb fn xs H k k' v H').Ex E en (evE P (u t))):∃a,E a∧EC P f k args h (v.den (en a)) (H'.map (XB.den (en a))) k':=
 hrun.elim fun t ht=>S.PE ms F hkk (u t) xs H (hx t) (hH t) v H' E en hE ht
def runL(ms:Ms)(kb:Kb)(fn:Func)(hd:List (Nat×(Sx→Nat×Sx)))(xs:List X)(H:List XB)(k k':Nat)(v:X)(H':List XB):V:=(exec k (opG kb) ⟨heads hd,ms⟩ 0 0 (bodyOf fn) (s0 fn xs H k)).low k (blkLf kb.tab fn.results.toList k k' v H') []
theorem Seat.PL(ms:Ms)(S:Seat P kb)(F:FnIs P f fn){k k':Nat}{args:List C}{h:Hp}(hkk:k≤k'){τ:Type}(u:τ→Env)(lps:τ→Nat→LpI)(hd:List (Nat×(Sx→Nat×Sx)))(xs:List X)(H:List XB)(hx:∀t,xs.map (X.den (evE P (u t)))=args)(hH:∀t,H.map (XB.den (evE P (u t)))=h)(v:X)(H':List XB)
 {α:Type} (E:α→Prop) (en:α→Env) (hE:∃a,E a) (hrun:∃t,(runL ms kb fn hd xs H k k' v H').ExL (lps t) E en (evE P (u t)) []):∃a,E a∧EC P f k args h (v.den (en a)) (H'.map (XB.den (en a))) k':=
 hrun.elim fun t ht=>EC.exL S.m F.f F.n F.body rfl rfl hkk (evE P (u t)) kb S.k (S.ct (u t)) (lps t) hd xs H (hx t) (hH t) v H' E en hE ht
def cutA : Nat→Code→Code
 | n+1,.seq a b=>match n with|0=>a|n+1=>.seq a (cutA (n+1) b)
 | _,c=>c
def cutB : Nat→Code→Code
 | n+1,.seq _ b=>match n with|0=>b|n+1=>cutB (n+1) b
 | _,c=>c
def cutOk : Nat→Code→Bool
 | n+1,.seq _ b=>match n with|0=>true|n+1=>cutOk (n+1) b
 | _,_=>false
theorem cut_ok{m:Nat}{ox:Nat→Oper→Sx→OX}{lp:Lp}(hm:P.follows .mixedOrders=true){e0:Env}(hox:∀e,Like e0 e→∀q,OxOk P e (ox q)):
 ∀ (n:Nat) (c:Code),cutOk n c=true→∀(u i:Nat) (s:Sx) (e:Env) (cx:List Cx) (Q:Post),Like e0 e→(exec m ox lp u i (cutA n c) s).Holds m e cx (thenP (fun s'=>EWP P m (cutB n c) s' Q) Q)→EWP P m c (s.den e) Q:=by
 intro n
 induction n with
 | zero=>intro c hc;cases c<;>cases hc
 | succ n ih=>
   intro c hc u i s e cx Q hl h
   cases c with
   | seq a b=>
     cases n with
     | zero=>exact EWP.seq ((exec_ok (m:=m) (lp:=lp) hm hox a u i s).2 e cx _ hl h)
     | succ n=>
       have hA:=exec_ok (m:=m) (lp:=lp) hm hox a u i s
       have h1:=R.andThen_holds (kQ:=fun s'=>EWP P m b s' Q) (fun t t' hd h=>EWP.ent hd h) (fun u s e cx hl h=>ih b hc u i s e cx Q hl h) hl (hA.1 e) h
       refine EWP.seq ((hA.2 e cx _ hl h1).mono (fun e s h=>?_))
       cases e<;>exact h
   | _=>cases hc
end
def Sx.at_(s:Sx)(t:Nat):Nat:=match s.T.getD t .dead with | .ptr l _ _ _=>l | .osl l _ _ _=>l|_=>0
def Sx.kl(s:Sx)(ms:Ms):Sx:=⟨klT ms.m s.T,s.H,s.n⟩
def Sx.own(s:Sx)(l i j:Nat)(cs:Ki)(r:X):Sx:=
 let s':=s.cell l i j (.osl s.n cs.len (.int .i64 0) (mkRln r))
 ⟨s'.T,⟨s.n,cs,r⟩::s'.H,s.n+1⟩
def Sx.in_(s:Sx)(t:Nat):List Nat:=match getX s.H (s.at_ t) with|some b=>b.rows.pids|none=>[]
def Sx.gc(s:Sx)(k:Nat):Sx:=
 let ids:=cloX s 4 (addAll (List.range k) (s.T.flatMap X.pids))
 ⟨s.T,s.H.filter (fun b=>ids.contains b.l),s.n⟩
theorem mdq{α:Type}{q:α→C}{f:C→C}{g:α→α}(h:∀x,f (q x)=q (g x))(l:List α)(i:Nat):(l.map q).modify i f=(l.modify i g).map q:=by
 induction l generalizing i with
 | nil=>cases i<;>rfl
 | cons x l ih=>cases i with
   | zero=>simp [h]
   | succ i=>simp [ih]
def Sx.osl_(s:Sx)(t j:Nat):Nat×X:=match (getX s.H (s.at_ t)).bind (fun b=>(nthX b.rows 0).bind (fun r=>nthX r j)) with
 | some (.osl l _ _ n)=>(l,n)
 | _=>(s.n,.dead)
def lk{α:Type}:List (Nat×α)→α→Nat→List C→α
 | [],d,_,_=>d
 | p::l,d,i,a=>if i=p.1 then p.2 else lk l d i a
@[go_sem] theorem lk_nil{α:Type}{d:α}{i:Nat}{a:List C}:lk [] d i a=d:=rfl
@[go_sem] theorem lk_cons{α:Type}{p:Nat×α}{l:List (Nat×α)}{d:α}{i:Nat}{a:List C}:lk (p::l) d i a=if i=p.1 then p.2 else lk l d i a:=rfl
@[go_sem] theorem evE_I{P:Program}{u:Env}{i:Nat}{a:List C}:(evE P u).I i a=u.I i a:=rfl
@[go_sem] theorem evE_S{P:Program}{u:Env}{i:Nat}{a:List C}:(evE P u).S i a=u.S i a:=rfl
@[go_sem] theorem evE_L{P:Program}{u:Env}{i:Nat}{a:List C}:(evE P u).L i a=u.L i a:=rfl
@[go_sem] theorem evE_B9{P:Program}{u:Env}{a:List C}:(evE P u).B 9 a=true↔ECD P a:=by simp [evE]
@[go_sem] theorem evE_B{P:Program}{u:Env}{i:Nat}{a:List C}(h:(i==9)=false):(evE P u).B i a=u.B i a:=by simp at h;simp [evE,h]
@[go_sem] theorem ECD_{P:Program}{f a h v h' k':C}:ECD P [f,a,h,v,h',k']=EC P (intOf f).toNat (tupOf h).length (tupOf a) (hpD 0 (tupOf h)) v (hpD 0 (tupOf h')) (intOf k').toNat:=rfl
@[go_sem] theorem hpD_nil{i:Nat}:hpD i []=[]:=rfl
@[go_sem] theorem hpD_cons{i:Nat}{c:C}{cs:List C}:hpD i (c::cs)=(i,blkD c)::hpD (i+1) cs:=rfl
@[go_sem] theorem blkD_{a r:C}:blkD (.tup [a,r])=.c (intOf a).toNat (rowsC r):=rfl
@[go_sem] theorem ec_and{P:Program}{f k k':Nat}{a:List C}{h h':Hp}{v:C}{q:Prop}:(EC P f k a h v h' k'∧(EC P f k a h v h' k'→q))↔(EC P f k a h v h' k'∧q):=⟨fun h=>⟨h.1,h.2 h.1⟩,fun h=>⟨h.1,fun _=>h.2⟩⟩
end Ow
namespace Ow
open Go Go.RowKit Go.Deep
def subC : List Nat→Code→Code
 | 0::p,.seq a _=>subC p a
 | _::p,.seq _ b=>subC p b
 | 0::p,.cond _ a _=>subC p a
 | _::p,.cond _ _ b=>subC p b
 | _::p,.block _ b=>subC p b
 | _::p,.loop b=>subC p b
 | _,c=>c
section
variable {P:Program} {f:FuncId} {fn:Func} {kb:Kb}
def runQ(ms:Ms)(kb:Kb)(f:Nat)(fn:Func)(hd:List (Nat×(Sx→Nat×Sx)))(n:Nat)(K:Nat→Sx→R)(xs:List X):V:=((exec 0 (opG kb) ⟨heads hd,ms⟩ 0 0 (cutA n (bodyOf fn)) (s0 fn xs [] 0)).andThen 0 K 0).low 0 (pureLf kb.tab fn.results.toList (ksOf kb f)) []
theorem Seat.PU2(ms:Ms)(S:Seat P kb)(F:FnIs P f fn)(n:Nat)(hcut:cutOk n (bodyOf fn)=true){args:List C}{val:C}(u:Env)(lps:Nat→LpI)(hd:List (Nat×(Sx→Nat×Sx)))(xs:List X)(hx:xs.map (X.den (evE P u))=args)
 (hrun:(∀a∈args,wfC a)→∀K:Nat→Sx→R,(∀u s,K u s=exec 0 (opG kb) ⟨heads hd,ms⟩ u 0 (cutB n (bodyOf fn)) s)→(runQ ms kb f fn hd n K xs).Holds lps val (evE P u) (evE P u) []):EC P f 0 args [] val [] 0:=by
 have hox:=fun e h=>opG_ok (P:=P) (e:=e) S.k (S.ct u e h).1 (S.ct u e h).2.1 (S.ct u e h).2.2
 have hA:=exec_ok (m:=0) (lp:=⟨heads hd,ms⟩) S.m hox (cutA n (bodyOf fn)) 0 0 (s0 fn xs [] 0)
 have hB:=fun u s=>exec_ok (m:=0) (lp:=⟨heads hd,ms⟩) S.m hox (cutB n (bodyOf fn)) u 0 s
 have h2:(s0 fn xs [] 0).den (evE P u)=⟨args++List.replicate (fn.ntmps-args.length) .dead,[],0⟩:=by
  subst hx
  simp only [s0,Sx.den,List.map_append,List.map_replicate,X.den,List.length_map,List.map_nil]
 refine ⟨⟨fn,_,F.f,F.n,F.body⟩,Nat.le_refl _,fun ρ F' RO w vs hsm hd' hR=>?_⟩
 refine (EC.enterE F.f F.n F.body rfl (Nat.le_refl _) ?_).2.2 ρ F' RO w vs hsm hd' hR
 have h0:=hrun (fun a ha=>by
  obtain ⟨j,hj,e⟩:=List.getElem_of_mem ha
  have hi:j<vs.size:=by rw [hR.len];exact hj
  exact (hR.rel j a vs[j] (by rw [←e];exact List.getElem?_eq_getElem hj) (Array.getElem?_eq_getElem hi)).wf) _ (fun _ _=>rfl)
 have h1:=R.low_ok (P:=P) (fn:=fn) (m:=0) (k':=0) (h':=[]) (cx:=[]) (cv:=[]) (hs:=[]) (fun s v e' cv hl h=>pureLf_ok S.k.tab rfl hl h) (fun j c h hc=>by cases hc) h0
 have h3:=R.andThen_holds (kQ:=fun s'=>EWP P 0 (cutB n (bodyOf fn)) s' (RetE P fn 0 val [] 0)) (fun t t' hd h=>EWP.ent hd h) (fun u s e cx hl h=>(hB u s).2 e cx _ hl h) (Like.refl _) (hA.1 _) h1
 have h4:=cut_ok S.m hox n _ hcut 0 0 _ _ [] _ (Like.refl _) h3
 rw [h2] at h4
 exact h4
end
end Ow
namespace Go.Proofs.YtjakhnhnjhafgaaGreat.Wk
open Go Ow
def tab : Tab where
 fld:=(.nd (.nd (.nd (.nd (.nd (.nd .lf 25 [(0,0)] .lf) 27 [(0,0),(1,1),(2,2),(3,3),(4,4),(5,5),(6,6),(7,7)] .lf) 30 [(0,0),(1,1)] (.nd .lf 32 [(0,0),(1,1),(2,2)] .lf)) 40 [(0,0),(1,1),(2,2)] (.nd (.nd .lf 45 [(0,0),(1,1),(2,2),(3,3),(4,4)] .lf) 58 [(0,0),(1,1),(2,2),(3,3)] (.nd .lf 64 [(0,0)] .lf))) 67 [(0,0),(1,1),(2,2),(3,3),(4,4)] (.nd (.nd (.nd .lf 90 [(0,0),(1,1)] .lf) 94 [(0,0),(1,1)] (.nd .lf 142 [(0,0),(1,1)] .lf)) 151 [(0,0),(1,8)] (.nd (.nd .lf 154 [(0,0),(1,1)] .lf) 165 [(0,0),(1,1),(2,2)] (.nd .lf 167 [(0,0),(1,1),(2,2),(3,3)] .lf)))) 169 [(0,0)] (.nd (.nd (.nd (.nd .lf 171 [(0,0),(1,1),(2,2)] .lf) 173 [(0,0),(1,1),(2,2)] (.nd .lf 175 [(0,0),(1,1),(2,2),(3,3)] .lf)) 177 [(0,0),(1,1)] (.nd (.nd .lf 179 [(0,0),(1,1)] .lf) 182 [(0,0)] (.nd .lf 186 [(0,0),(1,1)] .lf))) 196 [(0,0),(1,1),(2,2)] (.nd (.nd (.nd .lf 198 [(0,0),(1,1),(2,2),(3,3)] .lf) 208 [(0,0)] (.nd .lf 242 [] .lf)) 259 [(0,0),(1,1),(2,2),(3,3),(4,4),(5,5),(6,6),(7,7)] (.nd (.nd .lf 262 [] .lf) 263 [] (.nd .lf 264 [] .lf)))))
 sz:=(.nd (.nd (.nd (.nd (.nd (.nd (.nd .lf 3 1 .lf) 4 1 .lf) 5 1 (.nd .lf 20 1 .lf)) 22 1 (.nd (.nd .lf 23 1 .lf) 25 1 (.nd .lf 27 8 .lf))) 28 1 (.nd (.nd (.nd .lf 30 2 .lf) 32 4 (.nd .lf 37 1 .lf)) 38 1 (.nd (.nd .lf 40 3 .lf) 42 1 (.nd .lf 43 1 .lf)))) 45 5 (.nd (.nd (.nd (.nd (.nd .lf 58 4 .lf) 62 1 .lf) 64 1 (.nd .lf 65 1 .lf)) 67 5 (.nd (.nd .lf 80 1 .lf) 83 1 (.nd .lf 90 3 .lf))) 94 5 (.nd (.nd (.nd .lf 96 1 .lf) 103 1 (.nd .lf 112 1 .lf)) 139 1 (.nd (.nd .lf 142 2 .lf) 145 1 (.nd .lf 147 1 .lf))))) 149 8 (.nd (.nd (.nd (.nd (.nd (.nd .lf 151 10 .lf) 154 2 .lf) 158 1 (.nd .lf 161 1 .lf)) 165 3 (.nd (.nd .lf 167 4 .lf) 169 1 (.nd .lf 171 3 .lf))) 173 3 (.nd (.nd (.nd .lf 175 4 .lf) 177 2 (.nd .lf 179 2 .lf)) 182 5 (.nd (.nd .lf 184 1 .lf) 186 6 (.nd .lf 194 1 .lf)))) 196 3 (.nd (.nd (.nd (.nd .lf 198 4 .lf) 208 1 (.nd .lf 223 1 .lf)) 226 1 (.nd (.nd .lf 242 0 .lf) 259 8 (.nd .lf 262 0 .lf))) 263 0 (.nd (.nd (.nd .lf 264 0 .lf) 265 1 (.nd .lf 267 2 .lf)) 271 1 (.nd (.nd .lf 272 1 .lf) 273 1 (.nd .lf 274 1 .lf))))))
 ag:=(.nd (.nd (.nd (.nd (.nd (.nd (.nd .lf 3 false .lf) 4 false .lf) 5 false (.nd .lf 20 false .lf)) 22 false (.nd (.nd .lf 23 false .lf) 25 true (.nd .lf 27 true .lf))) 28 false (.nd (.nd (.nd .lf 30 true .lf) 32 true (.nd .lf 37 false .lf)) 38 false (.nd (.nd .lf 40 true .lf) 42 false (.nd .lf 43 false .lf)))) 45 true (.nd (.nd (.nd (.nd (.nd .lf 58 true .lf) 62 false .lf) 64 true (.nd .lf 65 false .lf)) 67 true (.nd (.nd .lf 80 false .lf) 83 false (.nd .lf 90 true .lf))) 94 true (.nd (.nd (.nd .lf 96 false .lf) 103 false (.nd .lf 112 false .lf)) 139 false (.nd (.nd .lf 142 true .lf) 145 false (.nd .lf 147 false .lf))))) 149 true (.nd (.nd (.nd (.nd (.nd (.nd .lf 151 true .lf) 154 true .lf) 158 false (.nd .lf 161 false .lf)) 165 true (.nd (.nd .lf 167 true .lf) 169 true (.nd .lf 171 true .lf))) 173 true (.nd (.nd (.nd .lf 175 true .lf) 177 true (.nd .lf 179 true .lf)) 182 true (.nd (.nd .lf 184 false .lf) 186 true (.nd .lf 194 false .lf)))) 196 true (.nd (.nd (.nd (.nd .lf 198 true .lf) 208 true (.nd .lf 223 false .lf)) 226 false (.nd (.nd .lf 242 true .lf) 259 true (.nd .lf 262 true .lf))) 263 true (.nd (.nd (.nd .lf 264 true .lf) 265 false (.nd .lf 267 true .lf)) 271 false (.nd (.nd .lf 272 false .lf) 273 false (.nd .lf 274 false .lf))))))
 el:=(.nd (.nd (.nd (.nd .lf 22 1 .lf) 23 3 (.nd .lf 28 2 .lf)) 38 8 (.nd (.nd .lf 42 1 .lf) 43 4 (.nd .lf 62 3 .lf))) 65 4 (.nd (.nd (.nd .lf 80 3 .lf) 83 5 (.nd .lf 139 2 .lf)) 194 8 (.nd (.nd .lf 265 2 .lf) 273 1 .lf)))
 len:=(.nd (.nd (.nd (.nd .lf 22 false .lf) 23 false (.nd .lf 28 false .lf)) 38 false (.nd (.nd .lf 42 false .lf) 43 false (.nd .lf 62 false .lf))) 65 false (.nd (.nd (.nd .lf 80 false .lf) 83 false (.nd .lf 139 false .lf)) 194 false (.nd (.nd .lf 265 false .lf) 273 false .lf)))
 bt:=[4]
 ki:=(.nd (.nd (.nd (.nd .lf 22 (.cons (.int .u8) .nil) .lf) 23 (.cons (.int .i64) (.cons (.int .i64) (.cons (.sl (.cons (.int .i64) (.cons (.int .i64) (.cons (.int .i64) (.cons (.int .i64) (.cons (.int .i64) (.cons (.int .i64) (.cons (.int .i64) (.cons (.int .i64) .nil))))))))) .nil))) (.nd .lf 28 (.cons (.int .i64) (.cons (.int .i64) .nil)) .lf)) 38 (.cons (.int .i64) (.cons (.int .i64) (.cons (.int .i64) (.cons (.int .i64) (.cons (.int .i64) (.cons (.int .i64) (.cons (.int .i64) (.cons (.int .i64) .nil)))))))) (.nd (.nd .lf 42 (.cons (.int .i64) .nil) .lf) 43 (.cons (.int .i64) (.cons (.int .i64) (.cons (.sl (.cons (.int .i64) .nil)) (.cons (.sl (.cons (.int .i64) .nil)) .nil)))) (.nd .lf 62 (.cons (.int .i64) (.cons (.int .i64) (.cons (.sl (.cons (.int .i64) (.cons (.int .i64) (.cons (.int .i64) (.cons (.int .i64) (.cons (.int .i64) (.cons (.int .i64) (.cons (.int .i64) (.cons (.int .i64) .nil))))))))) .nil))) .lf))) 65 (.cons (.int .i64) (.cons (.int .i64) (.cons (.sl (.cons (.int .i64) .nil)) (.cons (.sl (.cons (.int .i64) .nil)) .nil)))) (.nd (.nd (.nd .lf 80 (.cons .bool (.cons (.int .i64) (.cons (.int .i64) .nil))) .lf) 83 (.cons (.int .i64) (.cons .bool (.cons (.sl (.cons (.int .i64) (.cons (.int .i64) .nil))) (.cons (.int .i64) (.cons (.int .i64) .nil))))) (.nd .lf 139 (.cons (.int .i64) (.cons .any .nil)) .lf)) 194 (.cons (.int .i64) (.cons (.int .i64) (.cons (.int .i64) (.cons (.int .i64) (.cons (.int .i64) (.cons (.int .i64) (.cons (.int .i64) (.cons (.int .i64) .nil)))))))) (.nd (.nd .lf 265 (.cons (.int .i64) (.cons (.int .i64) .nil)) .lf) 273 (.cons .any .nil) .lf)))
 pl:=(.nd (.nd (.nd (.nd (.nd (.nd .lf 25 [(0,1)] .lf) 27 [(0,1),(1,1),(2,1),(3,1),(4,1),(5,1),(6,1),(7,1)] .lf) 30 [(0,1),(1,1)] (.nd .lf 32 [(0,1),(1,1),(2,2)] .lf)) 40 [(0,1),(1,1),(2,1)] (.nd (.nd .lf 45 [(0,1),(1,1),(2,1),(3,1),(4,1)] .lf) 58 [(0,1),(1,1),(2,1),(3,1)] (.nd .lf 64 [(0,1)] .lf))) 67 [(0,1),(1,1),(2,1),(3,1),(4,1)] (.nd (.nd (.nd (.nd .lf 90 [(0,1),(1,2)] .lf) 94 [(0,1),(1,4)] .lf) 142 [(0,1),(1,1)] (.nd .lf 149 [(0,2),(2,2),(4,2),(6,2)] .lf)) 151 [(0,8),(8,2)] (.nd (.nd .lf 154 [(0,1),(1,1)] .lf) 165 [(0,1),(1,1),(2,1)] (.nd .lf 167 [(0,1),(1,1),(2,1),(3,1)] .lf)))) 169 [(0,1)] (.nd (.nd (.nd (.nd (.nd .lf 171 [(0,1),(1,1),(2,1)] .lf) 173 [(0,1),(1,1),(2,1)] .lf) 175 [(0,1),(1,1),(2,1),(3,1)] (.nd .lf 177 [(0,1),(1,1)] .lf)) 179 [(0,1),(1,1)] (.nd (.nd .lf 182 [(0,5)] .lf) 186 [(0,1),(1,5)] (.nd .lf 196 [(0,1),(1,1),(2,1)] .lf))) 198 [(0,1),(1,1),(2,1),(3,1)] (.nd (.nd (.nd .lf 208 [(0,1)] .lf) 242 [] (.nd .lf 259 [(0,1),(1,1),(2,1),(3,1),(4,1),(5,1),(6,1),(7,1)] .lf)) 262 [] (.nd (.nd .lf 263 [] .lf) 264 [] (.nd .lf 267 [(0,1),(1,1)] .lf)))))
 se:=(.nd (.nd (.nd (.nd .lf 22 5 .lf) 23 40 (.nd .lf 28 30 .lf)) 38 27 (.nd (.nd .lf 42 3 .lf) 43 58 (.nd .lf 62 196 .lf))) 65 198 (.nd (.nd (.nd .lf 80 90 .lf) 83 94 (.nd .lf 139 142 .lf)) 194 259 (.nd (.nd .lf 265 267 .lf) 273 272 .lf)))
 ap:=(.nd (.nd (.nd (.nd .lf 22 (1,1) .lf) 23 (3,40) (.nd .lf 28 (2,16) .lf)) 38 (8,64) (.nd (.nd .lf 42 (1,8) .lf) 43 (4,64) (.nd .lf 62 (3,40) .lf))) 65 (4,64) (.nd (.nd (.nd .lf 80 (3,24) .lf) 83 (5,56) (.nd .lf 139 (2,16) .lf)) 194 (8,64) (.nd (.nd .lf 265 (2,16) .lf) 273 (1,8) .lf)))
 ik:=(.nd (.nd (.nd .lf 3 .i64 .lf) 5 .u8 .lf) 271 .i16 (.nd .lf 274 .i64 .lf))
 sq:=(.nd (.nd .lf 27 [.int .i64,.int .i64,.int .i64,.int .i64,.int .i64,.int .i64,.int .i64,.int .i64] .lf) 30 [.int .i64,.int .i64] (.nd .lf 90 [.bool,.int .i64,.int .i64] .lf))
 ar:=(.nd (.nd .lf 149 (4,2) .lf) 267 (2,1) .lf)
set_option maxRecDepth 100000 in
theorem tab_ok : TabOk Go.Proofs.Tryz.prog tab:=Tab.ok (by kernel_rfl)
theorem follows : Go.Proofs.Tryz.prog.follows .mixedOrders=true:=by kernel_rfl
def zrs : Zrs:=(.nd (.nd (.nd (.nd (.nd (.nd .lf 3 [.int .i64 0] .lf) 4 [.bool false] (.nd .lf 5 [.int .u8 0] .lf)) 20 [.nilI] (.nd (.nd .lf 22 [.nilS] .lf) 23 [.nilS] (.nd .lf 25 [.nilS] .lf))) 27 [.int .i64 0,.int .i64 0,.int .i64 0,.int .i64 0,.int .i64 0,.int .i64 0,.int .i64 0,.int .i64 0] (.nd (.nd (.nd .lf 28 [.nilS] .lf) 30 [.int .i64 0,.int .i64 0] (.nd .lf 32 [.bool false,.nilS,.int .i64 0,.int .i64 0] .lf)) 37 [.nilF] (.nd (.nd .lf 38 [.nilS] .lf) 40 [.int .i64 0,.int .i64 0,.nilS] (.nd .lf 42 [.nilS] .lf)))) 43 [.nilS] (.nd (.nd (.nd (.nd .lf 45 [.int .i64 0,.nilS,.int .i64 0,.int .i64 0,.int .i64 0] .lf) 58 [.int .i64 0,.int .i64 0,.nilS,.nilS] (.nd .lf 62 [.nilS] .lf)) 64 [.nilS] (.nd (.nd .lf 65 [.nilS] .lf) 67 [.int .i64 0,.nilS,.int .i64 0,.int .i64 0,.int .i64 0] (.nd .lf 80 [.nilS] .lf))) 83 [.nilS] (.nd (.nd (.nd .lf 90 [.bool false,.int .i64 0,.int .i64 0] .lf) 94 [.int .i64 0,.bool false,.nilS,.int .i64 0,.int .i64 0] (.nd .lf 96 [.nilP] .lf)) 103 [.nilP] (.nd (.nd .lf 112 [.nilF] .lf) 139 [.nilS] (.nd .lf 142 [.int .i64 0,.nilP] .lf))))) 145 [.nilF] (.nd (.nd (.nd (.nd (.nd .lf 147 [.nilF] .lf) 149 [.int .i64 0,.int .i64 0,.int .i64 0,.int .i64 0,.int .i64 0,.int .i64 0,.int .i64 0,.int .i64 0] (.nd .lf 151 [.int .i64 0,.int .i64 0,.int .i64 0,.int .i64 0,.int .i64 0,.int .i64 0,.int .i64 0,.int .i64 0,.int .i64 0,.int .i64 0] .lf)) 154 [.nilS,.int .i64 0] (.nd (.nd .lf 158 [.nilF] .lf) 161 [.nilI] (.nd .lf 165 [.int .i64 0,.int .i64 0,.int .i64 0] .lf))) 167 [.int .i64 0,.int .i64 0,.int .i64 0,.int .i64 0] (.nd (.nd (.nd .lf 169 [.int .i64 0] .lf) 171 [.int .i64 0,.int .i64 0,.int .i64 0] (.nd .lf 173 [.int .i64 0,.int .i64 0,.int .i64 0] .lf)) 175 [.int .i64 0,.int .i64 0,.int .i64 0,.int .i64 0] (.nd (.nd .lf 177 [.int .i64 0,.int .i64 0] .lf) 179 [.int .i64 0,.int .i64 0] (.nd .lf 182 [.int .i64 0,.nilS,.int .i64 0,.int .i64 0,.int .i64 0] .lf)))) 184 [.nilP] (.nd (.nd (.nd (.nd .lf 186 [.nilS,.int .i64 0,.nilS,.int .i64 0,.int .i64 0,.int .i64 0] .lf) 194 [.nilS] (.nd .lf 196 [.int .i64 0,.int .i64 0,.nilS] .lf)) 198 [.int .i64 0,.int .i64 0,.nilS,.nilS] (.nd (.nd .lf 208 [.int .i64 0] .lf) 223 [.nilP] (.nd .lf 226 [.nilP] .lf))) 259 [.int .i64 0,.int .i64 0,.int .i64 0,.int .i64 0,.int .i64 0,.int .i64 0,.int .i64 0,.int .i64 0] (.nd (.nd (.nd .lf 265 [.nilS] .lf) 267 [.int .i64 0,.int .i64 0] (.nd .lf 271 [.int .i16 0] .lf)) 272 [.nilF] (.nd (.nd .lf 273 [.nilS] .lf) 274 [.int .i64 0] .lf)))))
set_option maxRecDepth 100000 in
theorem zrs_ok : ZrOk Go.Proofs.Tryz.prog zrs:=Zrs.ok (by kernel_rfl) (by kernel_rfl)
def rks : Tb (List Ki):=(.nd (.nd (.nd (.nd (.nd (.nd (.nd .lf 3 [.int .i64] .lf) 4 [.bool] .lf) 5 [.int .u8] (.nd .lf 20 [.any] .lf)) 22 [.sl (.cons (.int .u8) .nil)] (.nd (.nd .lf 23 [.sl (.cons (.int .i64) (.cons (.int .i64) (.cons (.sl (.cons (.int .i64) (.cons (.int .i64) (.cons (.int .i64) (.cons (.int .i64) (.cons (.int .i64) (.cons (.int .i64) (.cons (.int .i64) (.cons (.int .i64) .nil))))))))) .nil)))] .lf) 25 [.sl (.cons (.int .i64) (.cons (.int .i64) (.cons (.sl (.cons (.int .i64) (.cons (.int .i64) (.cons (.int .i64) (.cons (.int .i64) (.cons (.int .i64) (.cons (.int .i64) (.cons (.int .i64) (.cons (.int .i64) .nil))))))))) .nil)))] (.nd .lf 27 [.int .i64,.int .i64,.int .i64,.int .i64,.int .i64,.int .i64,.int .i64,.int .i64] .lf))) 28 [.sl (.cons (.int .i64) (.cons (.int .i64) .nil))] (.nd (.nd (.nd .lf 30 [.int .i64,.int .i64] .lf) 32 [.bool,.sl (.cons (.int .i64) (.cons (.int .i64) .nil)),.int .i64,.int .i64] (.nd .lf 37 [.any] .lf)) 38 [.sl (.cons (.int .i64) (.cons (.int .i64) (.cons (.int .i64) (.cons (.int .i64) (.cons (.int .i64) (.cons (.int .i64) (.cons (.int .i64) (.cons (.int .i64) .nil))))))))] (.nd (.nd .lf 40 [.int .i64,.int .i64,.sl (.cons (.int .i64) (.cons (.int .i64) (.cons (.int .i64) (.cons (.int .i64) (.cons (.int .i64) (.cons (.int .i64) (.cons (.int .i64) (.cons (.int .i64) .nil))))))))] .lf) 42 [.sl (.cons (.int .i64) .nil)] (.nd .lf 43 [.sl (.cons (.int .i64) (.cons (.int .i64) (.cons (.sl (.cons (.int .i64) .nil)) (.cons (.sl (.cons (.int .i64) .nil)) .nil))))] .lf)))) 45 [.int .i64,.sl (.cons (.int .i64) (.cons (.int .i64) (.cons (.sl (.cons (.int .i64) .nil)) (.cons (.sl (.cons (.int .i64) .nil)) .nil)))),.int .i64,.int .i64,.int .i64] (.nd (.nd (.nd (.nd (.nd .lf 58 [.int .i64,.int .i64,.sl (.cons (.int .i64) .nil),.sl (.cons (.int .i64) .nil)] .lf) 62 [.sl (.cons (.int .i64) (.cons (.int .i64) (.cons (.sl (.cons (.int .i64) (.cons (.int .i64) (.cons (.int .i64) (.cons (.int .i64) (.cons (.int .i64) (.cons (.int .i64) (.cons (.int .i64) (.cons (.int .i64) .nil))))))))) .nil)))] .lf) 64 [.sl (.cons (.int .i64) (.cons (.int .i64) (.cons (.sl (.cons (.int .i64) (.cons (.int .i64) (.cons (.int .i64) (.cons (.int .i64) (.cons (.int .i64) (.cons (.int .i64) (.cons (.int .i64) (.cons (.int .i64) .nil))))))))) .nil)))] (.nd .lf 65 [.sl (.cons (.int .i64) (.cons (.int .i64) (.cons (.sl (.cons (.int .i64) .nil)) (.cons (.sl (.cons (.int .i64) .nil)) .nil))))] .lf)) 67 [.int .i64,.sl (.cons (.int .i64) (.cons (.int .i64) (.cons (.sl (.cons (.int .i64) .nil)) (.cons (.sl (.cons (.int .i64) .nil)) .nil)))),.int .i64,.int .i64,.int .i64] (.nd (.nd .lf 80 [.sl (.cons .bool (.cons (.int .i64) (.cons (.int .i64) .nil)))] .lf) 83 [.sl (.cons (.int .i64) (.cons .bool (.cons (.sl (.cons (.int .i64) (.cons (.int .i64) .nil))) (.cons (.int .i64) (.cons (.int .i64) .nil)))))] (.nd .lf 90 [.bool,.int .i64,.int .i64] .lf))) 94 [.int .i64,.bool,.sl (.cons (.int .i64) (.cons (.int .i64) .nil)),.int .i64,.int .i64] (.nd (.nd (.nd .lf 96 [.any] .lf) 103 [.any] (.nd .lf 112 [.any] .lf)) 139 [.sl (.cons (.int .i64) (.cons .any .nil))] (.nd (.nd .lf 142 [.int .i64,.any] .lf) 145 [.any] (.nd .lf 147 [.any] .lf))))) 149 [.int .i64,.int .i64,.int .i64,.int .i64,.int .i64,.int .i64,.int .i64,.int .i64] (.nd (.nd (.nd (.nd (.nd (.nd .lf 151 [.int .i64,.int .i64,.int .i64,.int .i64,.int .i64,.int .i64,.int .i64,.int .i64,.int .i64,.int .i64] .lf) 154 [.sl (.cons (.int .u8) .nil),.int .i64] .lf) 158 [.any] (.nd .lf 161 [.any] .lf)) 165 [.int .i64,.int .i64,.int .i64] (.nd (.nd .lf 167 [.int .i64,.int .i64,.int .i64,.int .i64] .lf) 169 [.int .i64] (.nd .lf 171 [.int .i64,.int .i64,.int .i64] .lf))) 173 [.int .i64,.int .i64,.int .i64] (.nd (.nd (.nd .lf 175 [.int .i64,.int .i64,.int .i64,.int .i64] .lf) 177 [.int .i64,.int .i64] (.nd .lf 179 [.int .i64,.int .i64] .lf)) 182 [.int .i64,.sl (.cons (.int .i64) (.cons (.int .i64) (.cons (.sl (.cons (.int .i64) .nil)) (.cons (.sl (.cons (.int .i64) .nil)) .nil)))),.int .i64,.int .i64,.int .i64] (.nd (.nd .lf 184 [.any] .lf) 186 [.sl (.cons (.int .i64) (.cons (.int .i64) (.cons (.sl (.cons (.int .i64) (.cons (.int .i64) (.cons (.int .i64) (.cons (.int .i64) (.cons (.int .i64) (.cons (.int .i64) (.cons (.int .i64) (.cons (.int .i64) .nil))))))))) .nil))),.int .i64,.sl (.cons (.int .i64) (.cons (.int .i64) (.cons (.sl (.cons (.int .i64) .nil)) (.cons (.sl (.cons (.int .i64) .nil)) .nil)))),.int .i64,.int .i64,.int .i64] (.nd .lf 194 [.sl (.cons (.int .i64) (.cons (.int .i64) (.cons (.int .i64) (.cons (.int .i64) (.cons (.int .i64) (.cons (.int .i64) (.cons (.int .i64) (.cons (.int .i64) .nil))))))))] .lf)))) 196 [.int .i64,.int .i64,.sl (.cons (.int .i64) (.cons (.int .i64) (.cons (.int .i64) (.cons (.int .i64) (.cons (.int .i64) (.cons (.int .i64) (.cons (.int .i64) (.cons (.int .i64) .nil))))))))] (.nd (.nd (.nd (.nd .lf 198 [.int .i64,.int .i64,.sl (.cons (.int .i64) .nil),.sl (.cons (.int .i64) .nil)] .lf) 208 [.int .i64] (.nd .lf 223 [.any] .lf)) 226 [.any] (.nd (.nd .lf 242 [] .lf) 259 [.int .i64,.int .i64,.int .i64,.int .i64,.int .i64,.int .i64,.int .i64,.int .i64] (.nd .lf 262 [] .lf))) 263 [] (.nd (.nd (.nd .lf 264 [] .lf) 265 [.sl (.cons (.int .i64) (.cons (.int .i64) .nil))] (.nd .lf 267 [.int .i64,.int .i64] .lf)) 271 [.int .i16] (.nd (.nd .lf 272 [.any] .lf) 273 [.sl (.cons .any .nil)] (.nd .lf 274 [.int .i64] .lf))))))
def rts : Tb (List Nat):=(.nd (.nd (.nd (.nd (.nd (.nd (.nd (.nd .lf 3 [4] .lf) 4 [4] (.nd .lf 5 [4] .lf)) 6 [4] (.nd (.nd .lf 7 [4] .lf) 8 [25,27,32] (.nd .lf 9 [4] .lf))) 10 [4] (.nd (.nd (.nd .lf 11 [4] .lf) 12 [4] (.nd .lf 13 [25] .lf)) 14 [45] (.nd (.nd .lf 15 [45] .lf) 16 [25,45,42,3] .lf))) 17 [3,42] (.nd (.nd (.nd (.nd .lf 18 [4] .lf) 19 [45] (.nd .lf 20 [4] .lf)) 21 [4] (.nd (.nd .lf 22 [27,4] .lf) 23 [3] (.nd .lf 24 [3] .lf))) 25 [45] (.nd (.nd (.nd .lf 26 [25] .lf) 27 [45] (.nd .lf 28 [4] .lf)) 29 [4] (.nd (.nd .lf 30 [3] .lf) 31 [3] .lf)))) 32 [3] (.nd (.nd (.nd (.nd (.nd .lf 33 [45] .lf) 34 [42] (.nd .lf 35 [4] .lf)) 36 [3] (.nd (.nd .lf 37 [25,80,27,3,32] .lf) 38 [83] (.nd .lf 39 [4] .lf))) 40 [83] (.nd (.nd (.nd .lf 41 [4] .lf) 42 [4] (.nd .lf 43 [4] .lf)) 44 [42,42] (.nd (.nd .lf 45 [4] .lf) 46 [96] .lf))) 47 [25] (.nd (.nd (.nd (.nd .lf 48 [27] .lf) 49 [3] (.nd .lf 50 [4] .lf)) 51 [27] (.nd (.nd .lf 52 [32] .lf) 53 [103,4] (.nd .lf 54 [4] .lf))) 55 [4] (.nd (.nd (.nd .lf 56 [4] .lf) 57 [4] (.nd .lf 58 [4] .lf)) 59 [4] (.nd (.nd .lf 60 [30] .lf) 61 [30] .lf))))) 62 [30,30,4] (.nd (.nd (.nd (.nd (.nd (.nd .lf 63 [4] .lf) 64 [4] (.nd .lf 65 [45] .lf)) 66 [45] (.nd (.nd .lf 67 [25,45] .lf) 68 [42] (.nd .lf 69 [3] .lf))) 70 [4] (.nd (.nd (.nd .lf 71 [4] .lf) 72 [4] (.nd .lf 73 [4] .lf)) 74 [4] (.nd (.nd .lf 75 [27,4] .lf) 76 [4] .lf))) 77 [3] (.nd (.nd (.nd (.nd .lf 78 [3] .lf) 79 [45] (.nd .lf 80 [45] .lf)) 81 [3] (.nd (.nd .lf 82 [45] .lf) 83 [4] (.nd .lf 84 [45] .lf))) 85 [45] (.nd (.nd (.nd .lf 86 [45] .lf) 87 [45] (.nd .lf 88 [3,4] .lf)) 89 [23] (.nd (.nd .lf 90 [43] .lf) 91 [4] .lf)))) 92 [4] (.nd (.nd (.nd (.nd (.nd .lf 93 [3] .lf) 94 [3] (.nd .lf 95 [3] .lf)) 96 [80] (.nd (.nd .lf 97 [4] .lf) 98 [4] (.nd .lf 99 [139] .lf))) 100 [32] (.nd (.nd (.nd .lf 101 [4] .lf) 102 [83] (.nd .lf 103 [4] .lf)) 104 [27] (.nd (.nd .lf 105 [4] .lf) 106 [4] .lf))) 107 [3] (.nd (.nd (.nd (.nd .lf 108 [4] .lf) 109 [4] (.nd .lf 110 [4] .lf)) 111 [25] (.nd (.nd .lf 112 [30] .lf) 113 [4] .lf)) 114 [4] (.nd (.nd (.nd .lf 115 [4] .lf) 116 [30] (.nd .lf 117 [4] .lf)) 118 [4] (.nd (.nd .lf 119 [4] .lf) 120 [161] .lf)))))) 121 [4] (.nd (.nd (.nd (.nd (.nd (.nd (.nd .lf 122 [4] .lf) 123 [4] (.nd .lf 124 [30] .lf)) 125 [30,30,4] (.nd (.nd .lf 126 [30,30,4] .lf) 127 [4] (.nd .lf 128 [42] .lf))) 129 [] (.nd (.nd (.nd .lf 130 [] .lf) 131 [25,45] (.nd .lf 132 [4] .lf)) 133 [4] (.nd (.nd .lf 134 [40,4] .lf) 135 [4] .lf))) 136 [3] (.nd (.nd (.nd (.nd .lf 137 [3] .lf) 138 [58] (.nd .lf 139 [58] .lf)) 140 [3] (.nd (.nd .lf 141 [40] .lf) 142 [58] (.nd .lf 143 [4] .lf))) 144 [4] (.nd (.nd (.nd .lf 145 [3] .lf) 146 [3] (.nd .lf 147 [90] .lf)) 148 [4] (.nd (.nd .lf 149 [4] .lf) 150 [4] .lf)))) 151 [103] (.nd (.nd (.nd (.nd (.nd .lf 152 [4] .lf) 153 [30,30,4] (.nd .lf 154 [4] .lf)) 155 [28] (.nd (.nd .lf 156 [83] .lf) 157 [32] (.nd .lf 158 [32] .lf))) 159 [32] (.nd (.nd (.nd .lf 160 [32] .lf) 161 [32] (.nd .lf 162 [32] .lf)) 163 [32] (.nd (.nd .lf 164 [3] .lf) 165 [3] .lf))) 166 [40] (.nd (.nd (.nd (.nd .lf 167 [3] .lf) 168 [3] (.nd .lf 169 [3] .lf)) 170 [4] (.nd (.nd .lf 171 [30,30,4] .lf) 172 [30,30,4] (.nd .lf 173 [4] .lf))) 174 [223] (.nd (.nd (.nd .lf 175 [3,4] .lf) 176 [] (.nd .lf 177 [226] .lf)) 178 [4] (.nd (.nd .lf 179 [] .lf) 180 [] .lf))))) 181 [45] (.nd (.nd (.nd (.nd (.nd (.nd .lf 182 [3] .lf) 183 [3] (.nd .lf 184 [3] .lf)) 185 [38] (.nd (.nd .lf 186 [4] .lf) 187 [3] (.nd .lf 188 [4] .lf))) 189 [239] (.nd (.nd (.nd .lf 190 [30] .lf) 191 [30,4] (.nd .lf 192 [30] .lf)) 193 [30] (.nd (.nd .lf 194 [30] .lf) 195 [32,4] .lf))) 196 [30] (.nd (.nd (.nd (.nd .lf 197 [32] .lf) 198 [30,4] (.nd .lf 199 [30,4] .lf)) 200 [40] (.nd (.nd .lf 201 [40] .lf) 202 [40] (.nd .lf 203 [40] .lf))) 204 [4] (.nd (.nd (.nd .lf 205 [4] .lf) 206 [3] (.nd .lf 207 [3] .lf)) 208 [58] (.nd (.nd .lf 209 [27] .lf) 210 [4] .lf)))) 211 [30,4] (.nd (.nd (.nd (.nd (.nd .lf 212 [265] .lf) 213 [30] (.nd .lf 214 [30,4] .lf)) 215 [30] (.nd (.nd .lf 216 [30] .lf) 217 [30] (.nd .lf 218 [40] .lf))) 219 [273] (.nd (.nd (.nd .lf 220 [30] .lf) 221 [3] (.nd .lf 222 [30] .lf)) 223 [3] (.nd (.nd .lf 224 [3] .lf) 225 [3] .lf))) 226 [3] (.nd (.nd (.nd (.nd .lf 242 [27] .lf) 243 [27] (.nd .lf 244 [27] .lf)) 245 [27] (.nd (.nd .lf 246 [27] .lf) 247 [27] .lf)) 248 [27] (.nd (.nd (.nd .lf 249 [27] .lf) 250 [27] (.nd .lf 251 [30,30] .lf)) 252 [30,30] (.nd (.nd .lf 253 [30,30] .lf) 254 [30,30] .lf)))))))
def tas : List Nat:=[165,167,169,171,173,175,177,179,182,208,242]
def its : List Nat:=[20,161]
def pts : List Nat:=[103]
def mts : List (Nat×String×Nat):=[(165, "loop.example/outwork/impl.ins",242),(167, "loop.example/outwork/impl.ins",243),(169, "loop.example/outwork/impl.ins",244),(171, "loop.example/outwork/impl.ins",245),(173, "loop.example/outwork/impl.ins",246),(175, "loop.example/outwork/impl.ins",247),(177, "loop.example/outwork/impl.ins",248),(179, "loop.example/outwork/impl.ins",249),(208, "loop.example/outwork/impl.ins",250),(242, "loop.example/outwork/impl.restrict",251),(262, "loop.example/outwork/impl.restrict",252),(263, "loop.example/outwork/impl.restrict",253),(264, "loop.example/outwork/impl.restrict",254)]
theorem ta_ok : ∀t,tas.contains t=true→taT Go.Proofs.Tryz.prog t=true:=fun t h=>by
 have:∀u∈tas,taT Go.Proofs.Tryz.prog u=true:=List.all_eq_true.1 (show tas.all (fun u=>taT Go.Proofs.Tryz.prog u)=true by kernel_rfl)
 exact this t (by simpa using h)
theorem it_ok : ∀t,its.contains t=true→ifT Go.Proofs.Tryz.prog t=true:=fun t h=>by
 have:∀u∈its,ifT Go.Proofs.Tryz.prog u=true:=List.all_eq_true.1 (show its.all (fun u=>ifT Go.Proofs.Tryz.prog u)=true by kernel_rfl)
 exact this t (by simpa using h)
theorem pt_ok : ∀t,pts.contains t=true→ptT Go.Proofs.Tryz.prog t=true:=fun t h=>by
 have:∀u∈pts,ptT Go.Proofs.Tryz.prog u=true:=List.all_eq_true.1 (show pts.all (fun u=>ptT Go.Proofs.Tryz.prog u)=true by kernel_rfl)
 exact this t (by simpa using h)
set_option maxRecDepth 100000 in
theorem mt_ok : ∀t n f,(t,n,f)∈mts→MtIs Go.Proofs.Tryz.prog t n f:=by
 intro t n f h
 simp only [mts,List.mem_cons,List.not_mem_nil,or_false,Prod.mk.injEq] at h
 rcases h with ⟨rfl,rfl,rfl⟩|⟨rfl,rfl,rfl⟩|⟨rfl,rfl,rfl⟩|⟨rfl,rfl,rfl⟩|⟨rfl,rfl,rfl⟩|⟨rfl,rfl,rfl⟩|⟨rfl,rfl,rfl⟩|⟨rfl,rfl,rfl⟩|⟨rfl,rfl,rfl⟩|⟨rfl,rfl,rfl⟩|⟨rfl,rfl,rfl⟩|⟨rfl,rfl,rfl⟩|⟨rfl,rfl,rfl⟩<;>exact fun v args w=>by kernel_rfl
abbrev kbO(ow oh:List Nat)(pn:List (Nat×List Ki):=[])(md:List (Nat×(List X→Option X)):=[]):Kb:={ tab:=tab,ct:=[],bt:=[],zr:=zrs,rk:=rks,ni:=[],rt:=rts,ow:=ow,oh:=oh,pn:=pn,ta:=tas,it:=its,pt:=pts,mt:=mts,md:=md }
theorem seat(ow oh:List Nat)(pn:List (Nat×List Ki):=[])(md:List (Nat×(List X→Option X)):=[]):Seat Go.Proofs.Tryz.prog (kbO ow oh pn md):=⟨follows,⟨tab_ok,zrs_ok,ta_ok,it_ok,pt_ok,mt_ok⟩,rfl,rfl⟩
end Go.Proofs.YtjakhnhnjhafgaaGreat.Wk
