/- A part of the proof. -/
import Derived.Test.YtjakhnhnjhafgaaGreatK13
set_option linter.unusedVariables false
set_option linter.unusedSimpArgs false
namespace Ow
open Go Go.RowKit Go.Deep
theorem flat_at2{α:Type}{sz:Nat}(h0:0<sz):∀{rows:List (List α)} {k:Nat} {c:α},(∀r∈rows,r.length=sz)→rows.flatten[k]? = some c→at2 rows (k / sz) (k % sz)=some c:=by
 intro rows
 induction rows with
 | nil=>intro k c _ h;simp at h
 | cons r rows ih=>
   intro k c hr h
   have h1:=hr r List.mem_cons_self
   rw [List.flatten_cons] at h
   by_cases hk:k<sz
   · rw [List.getElem?_append_left (by omega)] at h
     rw [Nat.div_eq_of_lt hk,Nat.mod_eq_of_lt hk]
     simpa [at2] using h
   · rw [List.getElem?_append_right (by omega),h1] at h
     have:=ih (fun r hr'=>hr r (List.mem_cons_of_mem _ hr')) h
     have e1:k / sz=(k-sz) / sz+1:=by rw [Nat.div_eq_sub_div h0 (by omega)]
     have e2:k % sz=(k-sz) % sz:=Nat.mod_eq_sub_mod (by omega)
     rw [e1,e2]
     simpa [at2] using this
section
variable {P:Program} {o:Oper} {ev:Operand→C}
def arT(P:Program)(t:TypeId):Option (Nat×Nat):=match P.underlying t with
 | some (.array n e)=>(szT P e).map (n,·)
 | _=>none
theorem arT_spec{t n sz:Nat}(h:arT P t=some (n,sz)):∃e i,P.underlying t=some (.array n e)∧P.info? e=some i∧i.size=sz:=by
 unfold arT at h
 split at h
 · rename_i n' e he
   unfold szT at h
   cases hi:P.info? e with
   | none=>rw [hi] at h;cases h
   | some i=>rw [hi] at h;simp at h;obtain ⟨rfl,h⟩:=h;exact ⟨e,i,he,hi,h⟩
 · cases h
theorem OpT.idxAE{t sz n:Nat}{cs:List D}{ki:IntKind}{z:Int}{x y:Operand}(ho:o.op=.indexAddr t x y)(hx:ev x=.d (.ep cs))(hy:ev y=.d (.lit (.int ki z)))(ht:arT P t=some (n,sz))(h0:0≤z)(h1:z<n):
 OpT P o ev ⟨[],[],[],.d (.ep (cs.drop (z.toNat*sz)))⟩:=
 .read [] _ fun ρ F RO w a _ hr=>by
  have e2:=(hy▸hr y (by rw [ho];simp [Op.operands])).lit_eq
  have e1:=hx▸hr x (by rw [ho];simp [Op.operands])
  generalize ha:a.eval x=u at e1
  cases e1 with
  | d x u h=>
    have h9:=h
    cases h with
    | ep cs b k U hb cell one rel=>
      obtain ⟨e,ti,hu,hi,hs⟩:=arT_spec ht
      refine ⟨.pointer (some ⟨b,k+z.toNat*sz,none⟩),?_,.d _ _ (h9.ep_drop _)⟩
      unfold execOp;rw [ho]
      simp [ha,e2,Instr.indexAt,asIntOf,run_underlying hu,Instr.sureAddr,h0,h1,Go.sizeOf,typeInfo,hi,addr_add,hs]
theorem OpT.s2a{t sz n:Nat}{els:List (List D)}{cs:List D}{x:Operand}(ho:o.op=.sliceToArrayPointer t x)(hx:ev x=.d (.sl sz els))(ht:arT P t=some (n,sz))(h0:0<sz)(h1:0<n)(hn:n≤els.length)(hcs:∀(k:Nat) (x:D),cs[k]? = some x→at2 els (k / sz) (k % sz)=some x):
 OpT P o ev ⟨[],[],[],.d (.ep cs)⟩:=
 .read [] _ fun ρ F RO w a _ hr=>by
  have e1:=hx▸hr x (by rw [ho];simp [Op.operands])
  generalize ha:a.eval x=u at e1
  cases e1 with
  | d x u h=>cases h with
    | nil sz A cap h=>simp at hn;omega
    | sl sz els b off cap U hb hn' hc hr' cell one rel=>
      obtain ⟨e,ti,hu,hi,hs⟩:=arT_spec ht
      refine ⟨.pointer (some ⟨b,off,none⟩),?_,.d _ _ (.ep _ b off (fun k=>U (k / sz) (k % sz)) hb (fun k x hx=>?_) (fun k x hx=>one _ _ x (hcs k x hx)) (fun k x hx=>rel _ _ x (hcs k x hx)))⟩
      · unfold execOp;rw [ho]
        have:¬els.length<n:=by omega
        simp [ha,Instr.arrayAt,run_underlying hu,this]
      · have:=cell _ _ x (hcs k x hx)
        rw [Nat.add_assoc,show k / sz*sz+k % sz=k by rw [Nat.mul_comm];exact Nat.div_add_mod k sz] at this
        exact this
theorem OpT.idxP{t l sz i j esz n:Nat}{ki:IntKind}{z:Int}{x y:Operand}(ho:o.op=.indexAddr t x y)(hx:ev x=.ptr l sz i j)(hy:ev y=.d (.lit (.int ki z)))(ht:arT P t=some (n,esz))(h0:0≤z)(h1:z<n):
 OpT P o ev ⟨[],[],[],.ptr l sz i (j+z.toNat*esz)⟩:=
 .read [] _ fun ρ F RO w a _ hr=>by
  have e2:=(hy▸hr y (by rw [ho];simp [Op.operands])).lit_eq
  have e1:=hx▸hr x (by rw [ho];simp [Op.operands])
  generalize ha:a.eval x=u at e1
  cases e1 with
  | ptr l sz i j p hp=>
    obtain ⟨e,ti,hu,hi,hs⟩:=arT_spec ht
    refine ⟨.pointer (some ⟨p.blk,i*sz+(j+z.toNat*esz),none⟩),?_,.ptr l sz _ _ p hp⟩
    unfold execOp;rw [ho]
    simp [ha,e2,Instr.indexAt,asIntOf,run_underlying hu,Instr.sureAddr,h0,h1,Go.sizeOf,typeInfo,hi,addr_add,hs,Nat.add_assoc]
theorem OpT.slcE{t sz n:Nat}{x:Operand}{cs:List D}{els:List (List D)}(ho:o.op=.slice t x none none none)(hx:ev x=.d (.ep cs))(ht:arT P t=some (n,sz))(h0:0<sz)(hn:els.length=n)(hm:n≤maxLen)(hr0:∀r∈els,r.length=sz)(hp:∀i j x,at2 els i j=some x→cs[i*sz+j]? = some x):
 OpT P o ev ⟨[],[],[],.d (.sl sz els)⟩:=
 .read _ _ fun ρ F RO w a hs hr=>by
  have e1:=hx▸hr x (by rw [ho];simp [Op.operands])
  generalize ha:a.eval x=u at e1
  cases e1 with
  | d x u h=>cases h with
    | ep cs b off U hb cell one rel=>
      obtain ⟨e,ti,hu,hi,hs'⟩:=arT_spec ht
      subst hn
      refine ⟨.slice (some ⟨b,off,none⟩) els.length els.length,?_,.d _ _ (.sl sz els b off els.length (fun i j=>U (i*sz+j)) hb (Nat.le_refl _) hm hr0 (fun i j x hx=>?_) (fun i j x hx=>one _ x (hp i j x hx)) (fun i j x hx=>rel _ x (hp i j x hx)))⟩
      · unfold execOp;rw [ho]
        simp [ha,Instr.sliceAt,run_underlying hu,Instr.sureAddr,Instr.sliceBounds,Go.sizeOf,typeInfo,hi,addr_add]
      · rw [Nat.add_assoc];exact cell _ x (hp i j x hx)
end
end Ow
namespace Ow
open Go Go.RowKit Go.Deep
inductive Tb (α:Type) where
 | lf
 | nd (l:Tb α) (k:Nat) (a:α) (r:Tb α)
def Tb.toL{α:Type}:Tb α→List (Nat×α)
 | .lf=>[]
 | .nd l k a r=>l.toL++(k,a)::r.toL
def lookT{α:Type}(k:Nat):Tb α→Option α
 | .lf=>none
 | .nd l k' a r=>if k=k' then some a else if k<k' then lookT k l else lookT k r
theorem lookT_mem{α:Type}{k:Nat}{a:α}:∀{t:Tb α},lookT k t=some a→(k,a)∈t.toL:=by
 intro t
 induction t with
 | lf=>intro h;cases h
 | nd l k' b r ihl ihr=>
   intro h
   simp only [lookT] at h
   split at h
   · rename_i hk;cases h;subst hk;simp [Tb.toL]
   · split at h
     · simp [Tb.toL,ihl h]
     · simp [Tb.toL,ihr h]
def eqFK(P:Program)(g:TypeId→Option (List Ki)):Nat→List Field→Option (List Ki)
 | _,[]=>some []
 | off,f::fs=>match f.name != "_" && f.offset==off with
   | true=>(g f.type).bind (fun ks=>if szT P f.type=some ks.length then (eqFK P g (off+ks.length) fs).map (ks++·) else none)
   | false=>none
def eqK(P:Program):Nat→TypeId→Option (List Ki)
 | 0,_=>none
 | d + 1,t=>match P.underlying t with
   | some (.int k)=>some [.int k]
   | some .bool=>some [.bool]
   | some .string=>some [.str]
   | some (.struct fs)=>if P.stoodInHeld t then none else eqFK P (eqK P d) 0 fs.toList
   | _=>none
def fitC : Ki→C→Prop
 | .int k,c=>∃n,c=.d (.lit (.int k n))
 | .bool,c=>∃b,c=.d (.lit (.bool b))
 | .str,c=>∃b,c=.d (.lit (.string b))
 | _,_=>False
def eqc(a b:C):Bool:=match a,b with
 | .d (.lit (.int _ a)),.d (.lit (.int _ b))=>a==b
 | .d (.lit (.bool a)),.d (.lit (.bool b))=>a==b
 | .d (.lit (.string a)),.d (.lit (.string b))=>a==b
 | _,_=>false
def eqcs : List C→List C→Bool
 | a::l,b::m=>eqc a b&&eqcs l m
 | _,_=>true
def Fit(ks:List Ki)(cs:List C):Prop:=cs.length=ks.length∧∀(i:Nat) (k:Ki) (c:C),ks[i]? = some k→cs[i]? = some c→fitC k c
theorem Fit.take{ks ls:List Ki}{cs:List C}(h:Fit (ks++ls) cs):Fit ks (cs.take ks.length)∧Fit ls (cs.drop ks.length):=by
 obtain ⟨h1,h2⟩:=h
 rw [List.length_append] at h1
 refine ⟨⟨by rw [List.length_take];omega,fun i k c hk hc=>?_⟩,⟨by rw [List.length_drop];omega,fun i k c hk hc=>?_⟩⟩
 · have hi:=(List.getElem?_eq_some_iff.1 hk).1
   rw [List.getElem?_take,if_pos hi] at hc
   exact h2 i k c (by rw [List.getElem?_append_left hi];exact hk) hc
 · rw [List.getElem?_drop] at hc
   exact h2 (ks.length+i) k c (by rw [List.getElem?_append_right (by omega),Nat.add_sub_cancel_left];exact hk) hc
theorem eqcs_split(n:Nat):∀{a b:List C},a.length=b.length→eqcs a b=(eqcs (a.take n) (b.take n)&&eqcs (a.drop n) (b.drop n)):=by
 induction n with
 | zero=>intro a b h;simp [eqcs]
 | succ n ih=>
   intro a b h
   cases a with
   | nil=>cases b with|nil=>simp [eqcs]|cons _ _=>cases h
   | cons x a=>cases b with
     | nil=>cases h
     | cons y b=>simp only [List.take_succ_cons,List.drop_succ_cons,eqcs,ih (show a.length=b.length by simpa using h),Bool.and_assoc]
theorem eqFK_ok{P:Program}{g:TypeId→Option (List Ki)}{rec:TypeId→List C→List C→Option Bool}(hg:∀t ks,g t=some ks→∀xs ys,Fit ks xs→Fit ks ys→rec t xs ys=some (eqcs xs ys)){X Y:List C}:
 ∀ (fs:List Field) (off:Nat) (ks:List Ki),eqFK P g off fs=some ks→Fit ks (X.drop off)→Fit ks (Y.drop off)→eqFs rec P fs X Y=some (eqcs (X.drop off) (Y.drop off)):=by
 intro fs
 induction fs with
 | nil=>
   intro off ks h fx fy
   cases h
   have e1:=List.eq_nil_of_length_eq_zero fx.1
   rw [e1];rfl
 | cons f fs ih=>
   intro off ks h fx fy
   unfold eqFK at h
   split at h
   · rename_i hc
     simp only [Bool.and_eq_true,bne_iff_ne,ne_eq,beq_iff_eq] at hc
     rw [Option.bind_eq_some_iff] at h
     obtain ⟨k1,h1,h⟩:=h
     split at h
     · rename_i hs
       rw [Option.map_eq_some_iff] at h
       obtain ⟨k2,h2,rfl⟩:=h
       obtain ⟨x1,x2⟩:=fx.take
       obtain ⟨y1,y2⟩:=fy.take
       have hr:=ih (off+k1.length) k2 h2 (by rw [List.drop_drop] at x2;exact x2) (by rw [List.drop_drop] at y2;exact y2)
       unfold eqFs
       rw [hs,hc.2]
       simp only [if_neg hc.1,hg _ _ h1 _ _ x1 y1,hr]
       rw [eqcs_split k1.length (a:=X.drop off) (by rw [fx.1,fy.1]),List.drop_drop,List.drop_drop]
     · cases h
   · cases h
theorem eqK_ok{P:Program}:∀(d:Nat) (t:TypeId) (ks:List Ki),eqK P d t=some ks→∀xs ys,Fit ks xs→Fit ks ys→eqC P d t xs ys=some (eqcs xs ys):=by
 intro d
 induction d with
 | zero=>intro t ks h;cases h
 | succ d ih=>
   intro t ks h xs ys fx fy
   have one:∀k,ks=[k]→∃x y,xs=[x]∧ys=[y]∧fitC k x∧fitC k y:=fun k e=>by
    subst e
    obtain ⟨x,rfl⟩:=List.length_eq_one_iff.1 fx.1
    obtain ⟨y,rfl⟩:=List.length_eq_one_iff.1 fy.1
    exact ⟨x,y,rfl,rfl,fx.2 0 k x rfl rfl,fy.2 0 k y rfl rfl⟩
   unfold eqK at h
   unfold eqC
   split at h
   · rename_i k hu
     cases h
     obtain ⟨x,y,rfl,rfl,⟨n,rfl⟩,⟨m,rfl⟩⟩:=one _ rfl
     rw [hu];simp [kd1,eq1,eqcs,eqc]
   · rename_i hu
     cases h
     obtain ⟨x,y,rfl,rfl,⟨n,rfl⟩,⟨m,rfl⟩⟩:=one _ rfl
     rw [hu];simp [kd1,eq1,eqcs,eqc]
   · rename_i hu
     cases h
     obtain ⟨x,y,rfl,rfl,⟨n,rfl⟩,⟨m,rfl⟩⟩:=one _ rfl
     rw [hu];simp [kd1,eq1,eqcs,eqc]
   · rename_i fs hu
     split at h
     · cases h
     · rename_i hs
       rw [hu]
       simp only [if_neg hs]
       exact eqFK_ok (X:=xs) (Y:=ys) (fun t ks h=>ih t ks h) fs.toList 0 ks h fx fy
   · cases h
def sqT(P:Program)(t:TypeId):Option (List Ki):=if eqT P t then eqK P 50 t else none
structure Tab where
 fld:Tb (List (Nat×Nat))
 sz:Tb Nat
 ag:Tb Bool
 el:Tb Nat
 len:Tb Bool
 bt:List Nat
 ki:Tb Ki
 pl:Tb (List (Nat×Nat))
 se:Tb Nat
 ap:Tb (Nat×Nat)
 ik:Tb IntKind
 sq:Tb (List Ki):=.lf
 ar:Tb (Nat×Nat):=.lf
def ikT(P:Program)(t:TypeId):Option IntKind:=match P.underlying t with|some (.int k)=>some k|_=>none
theorem ikT_spec{P:Program}{t:TypeId}{k:IntKind}(h:ikT P t=some k):P.underlying t=some (.int k):=by
 unfold ikT at h
 split at h
 · rename_i hu;cases h;exact hu
 · cases h
def plT(P:Program)(t:TypeId):Option (List (Nat×Nat)):=match P.underlying t with
 | some (.struct fs)=>fs.toList.mapM (fun f=>(szT P f.type).map (f.offset,·))
 | some (.array n e)=>(szT P e).map (fun s=>(List.range n).map (fun i=>(i*s,s)))
 | _=>none
theorem plT_spec{P:Program}{t:TypeId}{l:List (Nat×Nat)}(h:plT P t=some l):∃p,placeT P t=some p∧∀i q,l[i]? = some q→p i=some q:=by
 unfold plT at h
 unfold placeT
 split at h
 · rename_i fs hu;rw [hu];simp only [h,Option.map_some];exact ⟨_,rfl,fun i q h=>h⟩
 · rename_i n e hu
   rw [hu]
   obtain ⟨s,hs,rfl⟩:=Option.map_eq_some_iff.1 h
   refine ⟨fun i=>some (i*s,s),by simp only [hs,Option.map_some],fun i q hq=>?_⟩
   rw [List.getElem?_map] at hq
   obtain ⟨j,hj,rfl⟩:=Option.map_eq_some_iff.1 hq
   obtain ⟨h1,rfl⟩:=List.getElem?_eq_some_iff.1 hj
   simp
 · cases h
def seT(P:Program)(t:TypeId):Option TypeId:=match P.underlying t with|some (.slice e)=>some e|_=>none
theorem seT_spec{P:Program}{t e:TypeId}(h:seT P t=some e):P.underlying t=some (.slice e):=by
 unfold seT at h
 split at h
 · rename_i hu;cases h;exact hu
 · cases h
def look{α:Type}(k:Nat):List (Nat×α)→Option α
 | []=>none
 | x::l=>if x.1=k then some x.2 else look k l
theorem look_mem{α:Type}{k:Nat}{a:α}:∀{l:List (Nat×α)},look k l=some a→(k,a)∈l:=by
 intro l
 induction l with
 | nil=>intro h;cases h
 | cons x l ih=>
   intro h
   simp only [look] at h
   split at h
   · rename_i hx;cases h;rw [←hx];exact List.mem_cons_self
   · exact List.mem_cons_of_mem _ (ih h)
def Tab.ck(P:Program)(t:Tab):Bool:=
 t.fld.toL.all (fun p=>p.2.all (fun q=>fldT P p.1 q.1==some q.2))&&t.sz.toL.all (fun p=>szT P p.1==some p.2)&&t.ag.toL.all (fun p=>aggT P p.1==some p.2) &&
 t.el.toL.all (fun p=>elT P p.1==some p.2)&&t.len.toL.all (fun p=>lenT P p.1==some p.2)&&t.bt.all (fun p=>boolT P p)&&t.pl.toL.all (fun p=>plT P p.1==some p.2)&&t.se.toL.all (fun p=>seT P p.1==some p.2)&&t.ap.toL.all (fun p=>elOk P p.1 p.2.1 p.2.2)&&t.ik.toL.all (fun p=>ikT P p.1==some p.2)&&t.sq.toL.all (fun p=>sqT P p.1==some p.2)&&t.ar.toL.all (fun p=>arT P p.1==some p.2)
structure TabOk (P:Program) (t:Tab):Prop where
 fld:∀s f off,(lookT s t.fld).bind (look f)=some off→fldT P s f=some off
 sz:∀s n,lookT s t.sz=some n→szT P s=some n
 ag:∀s b,lookT s t.ag=some b→aggT P s=some b
 el:∀s n,lookT s t.el=some n→elT P s=some n
 len:∀s n,lookT s t.len=some n→lenT P s=some n
 bt:∀s,t.bt.contains s=true→boolT P s=true
 pl:∀s l,lookT s t.pl=some l→plT P s=some l
 se:∀s e,lookT s t.se=some e→P.underlying s=some (.slice e)
 ap:∀s q,lookT s t.ap=some q→elOk P s q.1 q.2=true
 ik:∀s k,lookT s t.ik=some k→P.underlying s=some (.int k)
 sq:∀s ks,lookT s t.sq=some ks→sqT P s=some ks
 ar:∀s q,lookT s t.ar=some q→arT P s=some q
theorem Tab.ok{P:Program}{t:Tab}(h:t.ck P=true):TabOk P t:=by
 simp only [Tab.ck,Bool.and_eq_true,List.all_eq_true,beq_iff_eq] at h
 obtain ⟨⟨⟨⟨⟨⟨⟨⟨⟨⟨⟨h1,h2⟩,h3⟩,h4⟩,h5⟩,h6⟩,h7⟩,h8⟩,h9⟩,h10⟩,h11⟩,h12⟩:=h
 refine ⟨fun s f off hl=>?_,fun s n hl=>h2 _ (lookT_mem hl),fun s n hl=>h3 _ (lookT_mem hl),fun s n hl=>h4 _ (lookT_mem hl),fun s n hl=>h5 _ (lookT_mem hl),fun s hs=>h6 s (by simpa using hs),fun s l hl=>h7 _ (lookT_mem hl),fun s l hl=>seT_spec (h8 _ (lookT_mem hl)),fun s q hl=>h9 _ (lookT_mem hl),fun s k hl=>ikT_spec (h10 _ (lookT_mem hl)),fun s ks hl=>h11 _ (lookT_mem hl),fun s q hl=>h12 _ (lookT_mem hl)⟩
 rw [Option.bind_eq_some_iff] at hl
 obtain ⟨os,ho,hf⟩:=hl
 exact h1 _ (lookT_mem ho) (f,off) (look_mem hf)
def toL : X→List X
 | .cons a b=>a::toL b
 | _=>[]
def ofL : List X→X
 | []=>.nil
 | a::l=>.cons a (ofL l)
def isL : X→Bool
 | .nil=>true
 | .cons _ b=>isL b
 | _=>false
theorem ofL_den{e:Env}(l:List X):tupOf ((ofL l).den e)=l.map (X.den e):=by
 induction l with
 | nil=>rfl
 | cons a l ih=>
   show X.den e a::tupOf (X.den e (ofL l))=_
   rw [ih];rfl
theorem toL_den{e:Env}{x:X}(h:isL x=true):tupOf (x.den e)=(toL x).map (X.den e):=by
 induction x with
 | nil=>rfl
 | cons a b _ ih=>
   show X.den e a::tupOf (X.den e b)=_
   rw [ih h];rfl
 | _=>cases h
def OvOk(P:Program)(e:Env)(o:Oper)(s:Sx)(c x:X)(pre:List Nat):Prop:=c.tr e→∃pre',OpT P o (fun y=>(evX s.T y).den e) ⟨pre',[],[],x.den e⟩∧(∀l B,pre'.get l=some B→(s.den e).H.get l=some B)∧pre'.map (·.1)=pre
theorem OvOk.does{P:Program}{e:Env}{o:Oper}{s:Sx}{c x:X}{pre:List Nat}(h:OvOk P e o s c x pre)(hc:c.tr e):∃r,Does P o (s.den e) r s.n∧r.val=x.den e∧r.chg=[]∧r.pre.map (·.1)=pre:=by
 obtain ⟨pre',h1,h2,h3⟩:=h hc
 exact ⟨_,⟨h1.of_dead (fun x=>evX_den),h2,by simp,by simp,Nat.le_refl _,by simp [Hp.get]⟩,rfl,rfl,h3⟩
theorem OvOk.of{P:Program}{e:Env}{o:Oper}{s:Sx}{c x:X}(h:c.tr e→OpT P o (fun y=>(evX s.T y).den e) ⟨[],[],[],x.den e⟩):OvOk P e o s c x []:=
 fun hc=>⟨[],h hc,(fun l B hl=>by cases hl),rfl⟩
def mkBin(o:BinOp)(k:IntKind)(a b:X):X:=match a,b with
 | .int _ m,.int _ n=>.int k (arI o k m n)
 | a,b=>.bin o k a b
theorem mkBin_den{e:Env}{o:BinOp}{k:IntKind}{a b:X}:(mkBin o k a b).den e=.d (.lit (.int k (arI o k (intOf (a.den e)) (intOf (b.den e))))):=by
 unfold mkBin;split<;>rfl
def refl(o:BinOp):Option Bool:=match o with | .eql=>some true | .leq=>some true | .geq=>some true | .neq=>some false | .lss=>some false | .gtr=>some false|_=>none
def mkCmp(o:BinOp)(a b:X):X:=match a,b with
 | .int _ m,.int _ n=>.bool (cmpI o m n)
 | .int _ 0,.rln r=>if o=.leq then .bool true else .cmp o (.int .i64 0) (.rln r)
 | .int _ 0,.len r=>if o=.leq then .bool true else .cmp o (.int .i64 0) (.len r)
 | a,b=>if a==b then (match refl o with|some t=>.bool t|none=>.cmp o a b) else .cmp o a b
theorem mkCmp_den{e:Env}{o:BinOp}{a b:X}:(mkCmp o a b).den e=.d (.lit (.bool (cmpI o (intOf (a.den e)) (intOf (b.den e))))):=by
 unfold mkCmp
 split
 · rfl
 · split
   · rename_i h;subst h;simp [X.den,intOf_i,cmpI]
   · rfl
 · split
   · rename_i h;subst h;simp [X.den,intOf_i,cmpI]
   · rfl
 · split
   · rename_i h
     rw [beq_iff_eq.1 h]
     cases o<;>simp [refl,X.den,cmpI]
   · rfl
theorem mkCmp_tr{e:Env}{o:BinOp}{a b:X}:(mkCmp o a b).tr e↔cmpI o (intOf (a.den e)) (intOf (b.den e))=true:=by
 unfold X.tr;rw [mkCmp_den];rfl
def intX(o:BinOp)(k:IntKind)(a b:X):OX:=match o with
 | .add=>.val (.bool true) (mkBin .add k a b) []
 | .sub=>.val (.bool true) (mkBin .sub k a b) []
 | .mul=>.val (.bool true) (mkBin .mul k a b) []
 | .quo=>.val (mkCmp .neq b (.int k 0)) (mkBin .quo k a b) []
 | .rem=>.val (mkCmp .neq b (.int k 0)) (mkBin .rem k a b) []
 | .eql=>.val (.bool true) (mkCmp .eql a b) []
 | .neq=>.val (.bool true) (mkCmp .neq a b) []
 | .lss=>.val (.bool true) (mkCmp .lss a b) []
 | .leq=>.val (.bool true) (mkCmp .leq a b) []
 | .gtr=>.val (.bool true) (mkCmp .gtr a b) []
 | .geq=>.val (.bool true) (mkCmp .geq a b) []
 | _=>.no
def boolX(o:BinOp)(a b:X):OX:=match o with
 | .eql=>.val (.bool true) (.eqb a b) []
 | .neq=>.val (.bool true) (.not (.eqb a b)) []
 | _=>.no
def strX(o:BinOp)(a b:X):OX:=match o with
 | .eql=>.val (.bool true) (.eqs a b) []
 | .neq=>.val (.bool true) (.not (.eqs a b)) []
 | .add=>.val (X.mkAnd (.cmp .leq (.len a) (.int .i64 4611686018427387903)) (.cmp .leq (.len b) (.int .i64 4611686018427387903))) (.cat a b) []
 | _=>.no
def binX(tab:Tab)(o:BinOp)(t:TypeId)(a b:X):OX:=match a.kd,b.kd with
 | some (.int k),some (.int k')=>if k=k' then intX o k a b else .no
 | some .bool,some .bool=>if tab.bt.contains t then boolX o a b else .no
 | some .str,some .str=>strX o a b
 | _,_=>.no
def pickX(c x y:X):OX:=match c with
 | .bool t=>.val (.bool true) (if t then x else y) []
 | c=>if c.isB then .val (.bool true) (X.mkIte c (X.strip c x) (X.strip c.mkNot y)) [] else .no
def mkNeg(k:IntKind)(x:X):X:=match x with
 | .int _ n=>.int k (k.wrap (0-n))
 | x=>.neg k x
theorem mkNeg_den{e:Env}{k:IntKind}{x:X}:(mkNeg k x).den e=.d (.lit (.int k (k.wrap (0-intOf (x.den e))))):=by
 unfold mkNeg;split<;>rfl
def unX(u:UnOp)(x:X):OX:=match u,x.kd with
 | .not,some .bool=>.val (.bool true) x.mkNot []
 | .neg,some (.int k)=>.val (.bool true) (mkNeg k x) []
 | _,_=>.no
def extX(x:X)(i:Nat):OX:=match x with
 | .tup a=>if isL a then match (toL a)[i]? with|some c=>.val (.bool true) c []|none=>.no else .no
 | _=>.no
def nilX(x:X):OX:=match x with
 | .ptr l sz i j=>.val (.bool true) (.ptr l sz i j) []
 | .ep xs=>.val (.bool true) (.ep xs) []
 | _=>.no
def fldX(tab:Tab)(t f:Nat)(x:X):OX:=match (lookT t tab.fld).bind (look f) with
 | some off=>match x with
   | .ptr l sz i j=>.val (.bool true) (.ptr l sz i (j+off)) []
   | .ep xs=>if isL xs then .val (.bool true) (.ep (ofL ((toL xs).drop off))) [] else .no
   | _=>.no
 | none=>.no
def cellsX(x i:X):List Ki→Nat→List X
 | [],_=>[]
 | k::ks,j=>.get k x i j::cellsX x i ks (j+1)
def idxX(tab:Tab)(t:TypeId)(x y:X):OX:=match y.kd,lookT t tab.el with
 | some (.int _),some sz=>match x with
   | .osl l sz' (.int _ 0) n=>if sz'=sz then .val (X.mkAnd (mkCmp .leq (.int .i64 0) y) (mkCmp .lss y n)) (.ptr l sz y 0) [] else .no
   | x=>match x.kd with
     | some (.sl cs)=>if cs.len=sz then .val (X.mkAnd (mkCmp .leq (.int .i64 0) y) (.cmp .lss y (.len x))) (.ep (ofL (cellsX x y cs.ls 0))) [] else .no
     | _=>.no
 | _,_=>.no
def lenX(tab:Tab)(t:TypeId)(x:X):OX:=match x with
 | .osl l sz st n=>if lookT t tab.len=some false∧(n.kd==some (.int .i64))=true then .val (mkCmp .leq (.int .i64 0) n) n [] else .no
 | .nilS=>if lookT t tab.len=some false then .val (.bool true) (.int .i64 0) [] else .no
 | x=>match x.kd with
   | some (.sl _)=>if lookT t tab.len=some false then .val (.bool true) (.len x) [] else .no
   | some .str=>if lookT t tab.len=some true then .val (.bool true) (.len x) [] else .no
   | _=>.no
def mmX(mx:Bool)(a b:X):OX:=match a.kd,b.kd with
 | some (.int k),some (.int k')=>if k=k' then .val (.bool true) (if mx then X.mkIte (mkCmp .gtr b a) b a else X.mkIte (mkCmp .lss b a) b a) [] else .no
 | _,_=>.no
section
variable {P:Program} {e:Env} {tab:Tab} {s:Sx} {c r:X} {pre:List Nat} {o:Oper}
theorem binX_ok(ht:TabOk P tab){op:BinOp}{t u:TypeId}{x y:Operand}(ho:o.op=.binOp op t x y u)(h:binX tab op t (evX s.T x) (evX s.T y)=.val c r pre):OvOk P e o s c r pre:=by
 have key:∀(p:Prop),(c.tr e→p)→pre=[]→binC P op t ((evX s.T x).den e) ((evX s.T y).den e)=.val p [] (r.den e)→OvOk P e o s c r pre:=by
  intro p hp hpre hq
  subst hpre
  exact .of fun hc=>(OpT.binC (ev:=fun y=>(evX s.T y).den e) ho hq (hp hc)).2
 revert h key
 generalize evX s.T x=a
 generalize evX s.T y=b
 intro h key
 unfold binX at h
 split at h
 · rename_i k k' h1 h2
   split at h
   · rename_i hk
     subst hk
     have hb:binC P op t (a.den e) (b.den e)=binQ op k (intOf (a.den e)) (intOf (b.den e)):=by rw [kd_int h1,kd_int h2];simp [binC,binK,intOf_i]
     rw [hb] at key
     cases op<;>simp only [intX,reduceCtorEq,OX.val.injEq] at h<;>obtain ⟨rfl,rfl,rfl⟩:=h <;>
      first
      | exact key True (fun _=>trivial) rfl (by rw [mkBin_den];rfl)
      | exact key True (fun _=>trivial) rfl (by rw [mkCmp_den];rfl)
      | (refine key _ (fun hc=>?_) rfl (by rw [mkBin_den];rfl)
         rw [mkCmp_tr] at hc
         simpa [cmpI,X.den,intOf_i] using hc)
   · cases h
 · rename_i h1 h2
   split at h
   · rename_i hbt
     have hb:binC P op t (a.den e) (b.den e)=boolQ P op t (boolOf (a.den e)) (boolOf (b.den e)):=by rw [kd_bool h1,kd_bool h2];simp [binC,binK,boolOf_b]
     rw [hb] at key
     unfold boolQ at key
     rw [if_pos (ht.bt t hbt)] at key
     unfold boolX at h
     split at h
     · cases h;exact key True (fun _=>trivial) rfl rfl
     · cases h;exact key True (fun _=>trivial) rfl rfl
     · cases h
   · cases h
 · rename_i h1 h2
   have hb:binC P op t (a.den e) (b.den e)=strQ op (strOf (a.den e)) (strOf (b.den e)):=by rw [kd_str h1,kd_str h2];simp [binC,binK,strOf_s]
   rw [hb] at key
   unfold strQ at key
   unfold strX at h
   split at h
   · cases h;exact key True (fun _=>trivial) rfl rfl
   · cases h;exact key True (fun _=>trivial) rfl rfl
   · cases h
     refine key _ (fun hc=>?_) rfl rfl
     rw [X.tr_and] at hc
     obtain ⟨c1,c2⟩:=hc
     replace c1:((lenOf (a.den e):Nat):Int)≤4611686018427387903:=of_decide_eq_true c1
     replace c2:((lenOf (b.den e):Nat):Int)≤4611686018427387903:=of_decide_eq_true c2
     have e1:lenOf (a.den e)=(strOf (a.den e)).size:=by generalize hz:strOf (a.den e)=z;rw [kd_str h1,hz];rfl
     have e2:lenOf (b.den e)=(strOf (b.den e)).size:=by generalize hz:strOf (b.den e)=z;rw [kd_str h2,hz];rfl
     omega
   · cases h
 · cases h
theorem pickX_ok{x y z:Operand}(ho:o.op=.pick x y z)(h:pickX (evX s.T x) (evX s.T y) (evX s.T z)=.val c r pre):OvOk P e o s c r pre:=by
 have key:∀t,(evX s.T x).den e=.d (.lit (.bool t))→OpT P o (fun y=>(evX s.T y).den e) ⟨[],[],[],if t then (evX s.T y).den e else (evX s.T z).den e⟩:=fun t h1=>.pick t ho h1
 revert h key
 generalize evX s.T x=a
 generalize evX s.T y=b
 generalize evX s.T z=d
 intro h key
 unfold pickX at h
 split at h
 · rename_i t
   cases h
   refine .of fun _=>?_
   have:=key t rfl
   cases t<;>exact this
 · split at h
   · rename_i hb
     cases h
     refine .of fun _=>?_
     have:=key _ (X.isB_den hb)
     rw [X.den_ite]
     by_cases hc:a.tr e
     · rw [X.strip_den hb hc]
       simp only [show boolOf (a.den e)=true from hc,if_true] at this ⊢
       exact this
     · have h2:boolOf (a.den e)=false:=by simpa [X.tr] using hc
       rw [X.strip_den (g:=a.mkNot) X.isB_not (X.tr_not.2 hc)]
       simp only [h2,Bool.false_eq_true,if_false] at this ⊢
       exact this
   · cases h
theorem unX_ok{u:UnOp}{x:Operand}{t:TypeId}(ho:o.op=.unOp u t x)(h:unX u (evX s.T x)=.val c r pre):OvOk P e o s c r pre:=by
 unfold unX at h
 split at h
 · rename_i hk
   cases h
   refine .of fun _=>?_
   have e2:∀a:X,a.kd=some .bool→(a.mkNot).den e=.d (.lit (.bool (!boolOf (a.den e)))):=by
    intro a _;exact X.mkNot_den
   rw [e2 _ hk]
   exact .not ho (kd_bool hk)
 · rename_i k hk
   cases h
   refine .of fun _=>?_
   rw [mkNeg_den]
   exact .neg ho (kd_int hk)
 · cases h
theorem extX_ok{x:Operand}{i:Nat}(ho:o.op=.extract x i)(h:extX (evX s.T x) i=.val c r pre):OvOk P e o s c r pre:=by
 have key:∀cs c,(evX s.T x).den e=.tup cs→cs[i]? = some c→OpT P o (fun y=>(evX s.T y).den e) ⟨[],[],[],c⟩:=fun cs c h1 h2=>.extract ho h1 h2
 revert h key
 generalize evX s.T x=a
 intro h key
 unfold extX at h
 split at h
 · split at h
   · rename_i hl
     split at h
     · rename_i x' hx
       cases h
       exact .of fun _=>key _ _ rfl (by rw [toL_den hl,List.getElem?_map,hx];rfl)
     · cases h
   · cases h
 · cases h
theorem nilX_ok{x:Operand}(ho:o.op=.nilCheck x)(h:nilX (evX s.T x)=.val c r pre):OvOk P e o s c r pre:=by
 unfold nilX at h
 split at h
 · rename_i hx;cases h;exact .of fun _=>.nilCheckP ho (by rw [hx];rfl)
 · rename_i hx;cases h;exact .of fun _=>.nilCheckE ho (by rw [hx];rfl)
 · cases h
theorem fldX_ok(ht:TabOk P tab){t f:Nat}{x:Operand}(ho:o.op=.fieldAddr t x f)(h:fldX tab t f (evX s.T x)=.val c r pre):OvOk P e o s c r pre:=by
 unfold fldX at h
 split at h
 · rename_i off hf
   have hf:=ht.fld t f off hf
   split at h
   · rename_i hx;cases h;exact .of fun _=>.fieldAddrP ho (by rw [hx];rfl) hf
   · rename_i xs hx
     split at h
     · rename_i hl
       cases h
       refine .of fun _=>?_
       have:=OpT.fieldAddrE (P:=P) (o:=o) (ev:=fun y=>(evX s.T y).den e) (cs:=(tupOf (xs.den e)).map dOf) ho (by rw [hx];rfl) hf
       simp only [X.den,ofL_den]
       rw [toL_den hl] at this
       rw [List.map_drop,List.map_drop]
       exact this
     · cases h
   · cases h
 · cases h
theorem cellsX_den{x i:X}:∀(ks:List Ki) (j:Nat),((cellsX x i ks j).map (X.den e)).map dOf=ks.mapIdx (fun n k=>k.force ((((elsOf (x.den e)).getD (intOf (i.den e)).toNat []).getD (j+n) dz))):=by
 intro ks
 induction ks with
 | nil=>intro j;rfl
 | cons k ks ih=>
   intro j
   simp only [cellsX,List.map_cons,ih,List.mapIdx_cons,X.den,Nat.add_zero,dOf_d]
   congr 1
   refine List.mapIdx_eq_mapIdx_iff.2 fun n hn=>?_
   rw [show j+1+n=j+(n+1) by omega]
theorem row_cells{cs:Ki}(h:cs.flat=true):∀{r:List D},cs.row r=r→r=cs.ls.mapIdx (fun n k=>k.force (r.getD n dz)):=by
 induction cs with
 | nil=>intro r hr;exact hr.symm
 | cons a b _ ih=>
   intro r hr
   simp only [Ki.flat,Bool.and_eq_true] at h
   rw [row_cons h.1] at hr
   cases r with
   | nil=>cases hr
   | cons d r=>
     simp only [List.headD_cons,List.tail_cons,List.cons.injEq] at hr
     have:=ih h.2 hr.2
     simp only [Ki.ls,List.mapIdx_cons,List.getD_cons_zero,List.getD_cons_succ]
     rw [hr.1,←this]
 | _=>cases h
theorem idxX_ok(ht:TabOk P tab){t:Nat}{x y:Operand}(ho:o.op=.indexAddr t x y)(h:idxX tab t (evX s.T x) (evX s.T y)=.val c r pre):OvOk P e o s c r pre:=by
 have kO:=fun (l sz st n:Nat) (ki:IntKind) (z:Int)=>OpT.indexAddrO (P:=P) (o:=o) (ev:=fun y=>(evX s.T y).den e) (l:=l) (sz:=sz) (s:=st) (n:=n) (ki:=ki) (z:=z) ho
 have kS:=fun (sz:Nat) (els:List (List D)) (ki:IntKind) (z:Int)=>OpT.indexAddrS (P:=P) (o:=o) (ev:=fun y=>(evX s.T y).den e) (sz:=sz) (els:=els) (ki:=ki) (z:=z) ho
 revert h kO kS
 generalize evX s.T x=a
 generalize evX s.T y=b
 intro h kO kS
 unfold idxX at h
 split at h
 · rename_i ki sz hy hel
   have e2:=kd_int (e:=e) hy
   have hel:=ht.el t sz hel
   split at h
   · rename_i l sz' k0 n
     split at h
     · rename_i hsz
       subst hsz
       cases h
       refine .of fun hc=>?_
       rw [X.tr_and,mkCmp_tr] at hc
       obtain ⟨c1,c2⟩:=hc
       rw [mkCmp_tr] at c2
       replace c1:(0:Int)≤intOf (b.den e):=of_decide_eq_true c1
       replace c2:intOf (b.den e)<intOf (n.den e):=of_decide_eq_true c2
       have:=kO l sz' _ _ ki (intOf (b.den e)) rfl e2 hel c1 (by omega)
       simpa [X.den,intOf_i] using this
     · cases h
   · split at h
     · rename_i cs hk
       split at h
       · rename_i hh
         cases h
         refine .of fun hc=>?_
         rw [X.tr_and,mkCmp_tr] at hc
         obtain ⟨c1,c2⟩:=hc
         obtain ⟨k1,k2,k3,k4⟩:=kd_sl (e:=e) hk
         replace c1:(0:Int)≤intOf (b.den e):=of_decide_eq_true c1
         have hlen:lenOf (a.den e)=(elsOf (a.den e)).length:=by generalize hz:elsOf (a.den e)=z at k3 ⊢;rw [k3];rfl
         replace c2:intOf (b.den e)<((lenOf (a.den e):Nat):Int):=of_decide_eq_true c2
         rw [hlen] at c2
         have hi:(intOf (b.den e)).toNat<(elsOf (a.den e)).length:=by omega
         have:=kS sz (elsOf (a.den e)) ki _ (by rw [←hh];exact k3) e2 hel c1 c2
         have hrow:cs.row ((elsOf (a.den e)).getD (intOf (b.den e)).toNat [])=(elsOf (a.den e)).getD (intOf (b.den e)).toNat []:=by
          have h1:((elsOf (a.den e)).map cs.row).getD (intOf (b.den e)).toNat []=(elsOf (a.den e)).getD (intOf (b.den e)).toNat []:=by rw [k4]
          simpa [List.getD_eq_getElem?_getD,hi] using h1
         have hcells:=row_cells k1 hrow
         have hden:(X.ep (ofL (cellsX a b cs.ls 0))).den e=.d (.ep ((elsOf (a.den e)).getD (intOf (b.den e)).toNat [])):=by
          simp only [X.den,ofL_den,cellsX_den,Nat.zero_add]
          exact congrArg (fun x=>C.d (D.ep x)) hcells.symm
         rw [hden]
         exact this
       · cases h
     · cases h
 · cases h
theorem lenX_ok(ht:TabOk P tab){t:TypeId}{x:Operand}(ho:o.op=.call { callee:=.builtin .len,args:=#[x],argTypes:=#[t] })(h:lenX tab t (evX s.T x)=.val c r pre):OvOk P e o s c r pre:=by
 have key:=fun (n:Nat) (c:C)=>OpT.len (P:=P) (o:=o) (ev:=fun y=>(evX s.T y).den e) (x:=x) (t:=t) (n:=n) (c:=c) ho
 revert h key
 generalize evX s.T x=a
 intro h key
 unfold lenX at h
 split at h
 · rename_i l sz st n
   split at h
   · rename_i hl
     cases h
     refine .of fun hc=>?_
     rw [mkCmp_tr] at hc
     replace hc:(0:Int)≤intOf (r.den e):=of_decide_eq_true hc
     have:=key (intOf (r.den e)).toNat _ rfl (ht.len t _ hl.1) rfl
     rw [kd_int (beq_iff_eq.1 hl.2)]
     rwa [Int.toNat_of_nonneg hc] at this
   · cases h
 · split at h
   · rename_i hl
     cases h
     exact .of fun _=>key 0 _ rfl (ht.len t _ hl) rfl
   · cases h
 · split at h
   · rename_i cs hk
     split at h
     · rename_i hl
       cases h
       refine .of fun _=>?_
       obtain ⟨-,-,k3,-⟩:=kd_sl (e:=e) hk
       have:=key (elsOf (a.den e)).length _ k3 (ht.len t _ hl) rfl
       simp only [X.den]
       have hlen:lenOf (a.den e)=(elsOf (a.den e)).length:=by generalize hz:elsOf (a.den e)=z at k3 ⊢;rw [k3];rfl
       rw [hlen];exact this
     · cases h
   · rename_i hk
     split at h
     · rename_i hl
       cases h
       refine .of fun _=>?_
       have k3:=kd_str (e:=e) hk
       have:=key (strOf (a.den e)).size _ k3 (ht.len t _ hl) rfl
       simp only [X.den]
       have hlen:lenOf (a.den e)=(strOf (a.den e)).size:=by generalize hz:strOf (a.den e)=z at k3 ⊢;rw [k3];rfl
       rw [hlen];exact this
     · cases h
   · cases h
theorem mmX_ok{mx:Bool}{ts:Array TypeId}{x y:Operand}(ho:o.op=.call { callee:=.builtin (if mx then .max else .min),args:=#[x,y],argTypes:=ts })(h:mmX mx (evX s.T x) (evX s.T y)=.val c r pre):OvOk P e o s c r pre:=by
 unfold mmX at h
 split at h
 · rename_i k k' h1 h2
   split at h
   · rename_i hk
     subst hk
     cases h
     refine .of fun _=>?_
     have e1:=kd_int (e:=e) h1
     have e2:=kd_int (e:=e) h2
     cases mx
     · have:=OpT.min (P:=P) (o:=o) (ev:=fun y=>(evX s.T y).den e) (ts:=ts) ho e1 e2
       simp only [Bool.false_eq_true,if_false,X.den_ite,mkCmp_den,boolOf_b,cmpI,iltB_iff]
       revert this
       generalize (evX s.T x).den e=u at *
       generalize (evX s.T y).den e=v at *
       intro this
       rw [e1,e2]
       split
       · rename_i hc;simp only [intOf_i] at hc;rw [if_pos hc] at this;exact this
       · rename_i hc;simp only [intOf_i] at hc;rw [if_neg hc] at this;exact this
     · have:=OpT.max (P:=P) (o:=o) (ev:=fun y=>(evX s.T y).den e) (ts:=ts) ho e1 e2
       simp only [if_true,X.den_ite,mkCmp_den,boolOf_b,cmpI,iltB_iff]
       revert this
       generalize (evX s.T x).den e=u at *
       generalize (evX s.T y).den e=v at *
       intro this
       rw [e1,e2]
       split
       · rename_i hc;simp only [intOf_i] at hc;rw [if_pos hc] at this;exact this
       · rename_i hc;simp only [intOf_i] at hc;rw [if_neg hc] at this;exact this
   · cases h
 · cases h
end
end Ow
namespace Ow
open Go Go.RowKit Go.Deep
def RowK(cs:Ki)(r:List C):Prop:=r.length=cs.len∧∀(j:Nat) (k:Ki) (c:C),cs.ls[j]? = some k→k.one=true→r[j]? = some c→c=.d (k.force (dOf c))
def rowIs : Ki→X→Bool
 | .nil,.nil=>true
 | .cons k ks,.cons a b=>(k==.any||a.kd==some k)&&rowIs ks b
 | _,_=>false
def rkIs(cs:Ki):X→Bool
 | .nil=>true
 | .cons a b=>rowIs cs a&&rkIs cs b
 | .rws cs' _ _=>cs'==cs&&cs.flat&&cs.ok
 | .app a b=>rkIs cs a&&rkIs cs b
 | .ite _ x y=>rkIs cs x&&rkIs cs y
 | .rof x=>x.kd==some (.sl cs)
 | .upd r _ j v=>rkIs cs r&&(match cs.ls[j]? with|some k=>k==.any||v.kd==some k|none=>false)
 | _=>false
theorem rowIs_ok{e:Env}:∀{cs:Ki} {x:X},rowIs cs x=true→RowK cs (tupOf (x.den e)):=by
 intro cs
 induction cs with
 | nil=>intro x h;cases x<;>first|(cases h;done)|exact ⟨rfl,fun j k c hk=>by simp [Ki.ls] at hk⟩
 | cons k ks _ ih=>
   intro x h
   cases x with
   | cons a b=>
     simp only [rowIs,Bool.and_eq_true,Bool.or_eq_true,beq_iff_eq] at h
     obtain ⟨h1,h2⟩:=ih h.2
     refine ⟨by simp only [X.den,tupOf_t,List.length_cons,h1,Ki.len],fun j k' c hk hone hc=>?_⟩
     cases j with
     | zero=>
       simp only [Ki.ls,List.getElem?_cons_zero,Option.some.injEq] at hk
       simp only [X.den,tupOf_t,List.getElem?_cons_zero,Option.some.injEq] at hc
       subst hk hc
       rcases h.1 with h3|h3
       · subst h3;cases hone
       · exact (kd_ok h3).2.2
     | succ j=>
       simp only [Ki.ls,List.getElem?_cons_succ] at hk
       simp only [X.den,tupOf_t,List.getElem?_cons_succ] at hc
       exact h2 j k' c hk hone hc
   | _=>cases h
 | _=>intro x h;cases x<;>cases h
theorem row_get{cs:Ki}(h:cs.flat=true):∀{r:List D} {j:Nat} {k:Ki},cs.ls[j]? = some k→(cs.row r)[j]? = some (k.force (r.getD j dz)):=by
 induction cs with
 | cons a b _ ih=>
   intro r j k hk
   simp only [Ki.flat,Bool.and_eq_true] at h
   rw [row_cons h.1]
   cases j with
   | zero=>simp only [Ki.ls,List.getElem?_cons_zero,Option.some.injEq] at hk;subst hk;cases r<;>rfl
   | succ j=>
     simp only [Ki.ls,List.getElem?_cons_succ] at hk ⊢
     rw [ih h.2 hk]
     cases r<;>simp
 | _=>intro r j k hk;simp [Ki.ls] at hk
theorem ok_ls{cs:Ki}(h:cs.ok=true):∀{j:Nat} {k:Ki},cs.ls[j]? = some k→k.ok=true:=by
 induction cs with
 | cons a b _ ih=>
   intro j k hk
   simp only [Ki.ok,Bool.and_eq_true] at h
   cases j with
   | zero=>simp only [Ki.ls,List.getElem?_cons_zero,Option.some.injEq] at hk;subst hk;exact h.1
   | succ j=>exact ih h.2 (by simpa [Ki.ls] using hk)
 | _=>intro j k hk;simp [Ki.ls] at hk
theorem row_rowK{cs:Ki}(h1:cs.flat=true)(h2:cs.ok=true)(r:List D):RowK cs ((cs.row r).map .d):=by
 refine ⟨by rw [List.length_map,row_len h1],fun j k c hk hone hc=>?_⟩
 rw [List.getElem?_map,row_get h1 hk] at hc
 simp only [Option.map_some,Option.some.injEq] at hc
 subst hc
 rw [dOf_d,(force_idem (ok_ls h2 hk)).1 _ hone]
theorem rkIs_ok{e:Env}{cs:Ki}{x:X}(h:rkIs cs x=true):∀r∈rowsC (x.den e),RowK cs r:=by
 induction x with
 | nil=>intro r hr;cases hr
 | cons a b _ ih=>
   simp only [rkIs,Bool.and_eq_true] at h
   intro r hr
   simp only [rowsC,X.den,tupOf_t,List.map_cons,List.mem_cons] at hr
   rcases hr with rfl|hr
   · exact rowIs_ok h.1
   · exact ih h.2 r hr
 | rws cs' j az=>
   simp only [rkIs,Bool.and_eq_true,beq_iff_eq] at h
   obtain ⟨⟨rfl,h1⟩,h2⟩:=h
   intro r hr
   simp only [rowsC,X.den,tupOf_t,List.map_map,List.mem_map,Function.comp] at hr
   obtain ⟨r0,-,rfl⟩:=hr
   exact row_rowK h1 h2 r0
 | app a b iha ihb=>
   simp only [rkIs,Bool.and_eq_true] at h
   intro r hr
   simp only [rowsC,X.den,tupOf_t,List.map_append,List.mem_append] at hr
   exact hr.elim (iha h.1 r) (ihb h.2 r)
 | ite c x y _ ihx ihy=>
   simp only [rkIs,Bool.and_eq_true] at h
   simp only [X.den]
   split
   · exact ihx h.1
   · exact ihy h.2
 | rof x=>
   simp only [rkIs,beq_iff_eq] at h
   obtain ⟨k1,k2,k3,k4⟩:=kd_sl (e:=e) h
   intro r hr
   simp only [rowsC,X.den,tupOf_t,List.map_map,List.mem_map,Function.comp] at hr
   obtain ⟨r0,h0,rfl⟩:=hr
   rw [←k4] at h0
   obtain ⟨r1,-,rfl⟩:=List.mem_map.1 h0
   exact row_rowK k1 k2 r1
 | upd r i j v ih _ _=>
   simp only [rkIs,Bool.and_eq_true] at h
   intro q hq
   simp only [rowsC,X.den,tupOf_t,List.mem_map] at hq
   obtain ⟨q0,hq0,rfl⟩:=hq
   obtain ⟨n,hn,rfl⟩:=List.getElem_of_mem hq0
   rw [List.getElem_modify]
   have hm:=ih h.1 _ (List.mem_map_of_mem (f:=tupOf) (List.getElem_mem (show n<(tupOf (r.den e)).length by simpa using hn)))
   split
   · obtain ⟨m1,m2⟩:=hm
     refine ⟨by rw [tupOf_t,List.length_set];exact m1,fun j' k c hk hone hc=>?_⟩
     rw [tupOf_t,List.getElem?_set] at hc
     split at hc
     · rename_i hj
       subst hj
       split at hc
       · cases hc
         have h2:=h.2
         rw [hk] at h2
         simp only [Bool.or_eq_true,beq_iff_eq] at h2
         rcases h2 with h2|h2
         · subst h2;cases hone
         · exact (kd_ok h2).2.2
       · cases hc
     · exact m2 j' k c hk hone hc
   · exact hm
 | _=>cases h
def nthX : X→Nat→Option X
 | .cons a _,0=>some a
 | .cons _ b,n+1=>nthX b n
 | _,_=>none
def setNth : X→Nat→X→X
 | .cons _ b,0,v=>.cons v b
 | .cons a b,n+1,v=>.cons a (setNth b n v)
 | x,_,_=>x
theorem nthX_den{e:Env}:∀{x:X} {n:Nat} {y:X},nthX x n=some y→(tupOf (x.den e))[n]? = some (y.den e):=by
 intro x
 induction x with
 | cons a b _ ih=>
   intro n y h
   cases n with
   | zero=>cases h;rfl
   | succ n=>exact ih h
 | _=>intro n y h;cases h
theorem setNth_den{e:Env}:∀{x:X} {n:Nat} {y v:X},nthX x n=some y→tupOf ((setNth x n v).den e)=(tupOf (x.den e)).set n (v.den e):=by
 intro x
 induction x with
 | cons a b _ ih=>
   intro n y v h
   cases n with
   | zero=>cases h;rfl
   | succ n=>simp only [setNth,X.den,tupOf_t,List.set_cons_succ,ih h]
 | _=>intro n y v h;cases h
def litI : X→Option Nat
 | .int _ n=>if 0≤n then some n.toNat else none
 | _=>none
theorem litI_den{e:Env}{x:X}{n:Nat}(h:litI x=some n):(intOf (x.den e)).toNat=n:=by
 unfold litI at h
 split at h
 · split at h
   · cases h;rfl
   · cases h
 · cases h
def X.isD(x:X):Bool:=x.kd != none
theorem X.isD_den{e:Env}{x:X}(h:x.isD=true):.d (dOf (x.den e))=x.den e:=by
 unfold X.isD at h
 cases hk:x.kd with
 | none=>rw [hk] at h;cases h
 | some k=>have:=(kd_ok (e:=e) hk).2.2;rw [this];rfl
def rgtX(rows i:X)(ks:List Ki):Nat→Nat→Option (List X)
 | _,0=>some []
 | j,n+1=>match ks[j]? with
   | some k=>if k.one then (rgtX rows i ks (j+1) n).map (.rgt k rows i j::·) else none
   | none=>none
theorem rgtX_den{e:Env}{rows i:X}{cs:Ki}{row:List C}(hr:(rowsC (rows.den e))[(intOf (i.den e)).toNat]? = some row)(hk:RowK cs row):∀{n j:Nat} {l:List X},rgtX rows i cs.ls j n=some l→(0<n→j+n≤row.length)∧l.map (X.den e)=(row.drop j).take n:=by
 have hlen:cs.ls.length=row.length:=by rw [ls_len,hk.1]
 intro n
 induction n with
 | zero=>
   intro j l h
   cases h
   exact ⟨fun h=>absurd h (Nat.lt_irrefl 0),rfl⟩
 | succ n ih=>
   intro j l h
   simp only [rgtX] at h
   split at h
   · rename_i k hkj
     split at h
     · rename_i hone
       rw [Option.map_eq_some_iff] at h
       obtain ⟨l',h1,rfl⟩:=h
       have hj:j<row.length:=by rw [←hlen];exact (List.getElem?_eq_some_iff.1 hkj).1
       obtain ⟨a1,a2⟩:=ih h1
       refine ⟨fun _=>by cases n with|zero=>omega|succ n=>have:=a1 (Nat.succ_pos n);omega,?_⟩
       have hc:=hk.2 j k row[j] hkj hone (List.getElem?_eq_getElem hj)
       rw [List.map_cons,a2,List.drop_eq_getElem_cons hj,List.take_succ_cons]
       congr 1
       simp only [X.den]
       rw [hc]
       have h3:(tupOf ((tupOf (rows.den e)).getD (intOf (i.den e)).toNat .dead))=row:=by
        simp only [rowsC,List.getElem?_map,Option.map_eq_some_iff] at hr
        obtain ⟨q,hq,rfl⟩:=hr
        rw [List.getD_eq_getElem?_getD,hq];rfl
       rw [h3,List.getD_eq_getElem?_getD,List.getElem?_eq_getElem hj];rfl
     · cases h
   · cases h
def X.isDE(x:X):Bool:=match x with | .ep _=>true | .get _ _ _ _=>true|x=>x.isD
theorem X.isDE_den{e:Env}{x:X}(h:x.isDE=true):.d (dOf (x.den e))=x.den e:=by
 unfold X.isDE at h
 split at h
 · rfl
 · rfl
 · exact X.isD_den h
def ldX (tab : Tab) (s:Sx) (t:TypeId) (x:X):OX:=match lookT t tab.ag,lookT t tab.sz with
 | some ag, some n=>match x with
   | .ep xs=>if isL xs then (match ag with
      | false=>(match toL xs with|y::_=>if y.isDE then .val (.bool true) y [] else .no | []=>.no)
      | true=>if n≤(toL xs).length∧((toL xs).take n).all X.isDE=true then .val (.bool true) (.agg (ofL ((toL xs).take n))) [] else .no) else .no
   | .ptr l sz i j=>match getX s.H l with
     | some b =>if b.cs.len=sz then (match (litI i).bind (nthX b.rows) with
        | some row=>if isL row then (match ag with
           | false=>(match (toL row)[j]? with|some y=>.val (.bool true) y [l]|none=>.no)
           | true=>if j+n≤(toL row).length then .val (.bool true) (.agg (ofL (((toL row).drop j).take n))) [l] else .no) else .no
        | none=>if rkIs b.cs b.rows then (match rgtX b.rows i b.cs.ls j n with
           | some ys=>(match ag,ys with
             | false,[y]=>.val (X.mkAnd (mkCmp .leq (.int .i64 0) i) (mkCmp .lss i (.rln b.rows))) y [l]
             | true,y::ys=>.val (X.mkAnd (mkCmp .leq (.int .i64 0) i) (mkCmp .lss i (.rln b.rows))) (.agg (ofL (y::ys))) [l]
             | _,_=>.no)
           | none=>.no) else .no) else .no
     | none=>.no
   | _=>.no
 | _,_=>.no
section
variable {P:Program} {e:Env} {tab:Tab} {s:Sx} {c r:X} {pre:List Nat} {o:Oper}
theorem getX_H{l:Nat}{b:XB}(h:getX s.H l=some b):(s.den e).H.get l=some (.c b.cs.len (rowsC (b.rows.den e))):=by
 show Hp.get (s.H.map (XB.den e)) l=_
 rw [getX_den,h];rfl
theorem OpT.loadC{o:Oper}{ev:Operand→C}{H:Hp}{t:TypeId}{x:Operand}{c:C}(ho:o.op=.load t x)(h:Ow.loadC P H.get t (ev x)=some c):OpT P o ev ⟨H,[],[],c⟩:=
 .read _ _ fun ρ F RO w a hs hr=>by
  have h1:=hr x (by rw [ho];simp [Op.operands])
  obtain ⟨ad,u,e1,e2,e3⟩:=loadC_run hs h1 h
  exact ⟨u,by unfold execOp;rw [ho];simp [e1,Instr.loadAt,Instr.sureAddr,e2],e3⟩
theorem ldX_load (ht:TabOk P tab) {t:TypeId} {x:X} (h:ldX tab s t x=.val c r pre) (hc:c.tr e):∃pre':Hp,Ow.loadC P pre'.get t (x.den e)=some (r.den e)∧(∀l B,pre'.get l=some B→(s.den e).H.get l=some B)∧pre'.map (·.1)=pre:=by
 revert hc
 generalize hx0:x=x0 at h
 unfold ldX at h
 split at h
 · rename_i ag n hag hsz
   have hag:=ht.ag t ag hag
   have hsz:=ht.sz t n hsz
   split at h
   · rename_i xs
     have hx:=hx0
     split at h
     · rename_i hl
       have hx':(X.ep xs).den e=.d (.ep (((toL xs).map (X.den e)).map dOf)):=by simp only [X.den,toL_den hl]
       split at h
       · split at h
         · rename_i y ys hy
           split at h
           · rename_i hd
             cases h
             refine fun _=>⟨[],?_,(fun l B h=>by cases h),rfl⟩
             rw [hx',hy]
             simp only [Ow.loadC,hag,List.map_cons,List.getElem?_cons_zero,Option.map_some,X.isDE_den hd]
           · cases h
         · cases h
       · split at h
         · rename_i hn
           cases h
           refine fun _=>⟨[],?_,(fun l B h=>by cases h),rfl⟩
           rw [hx']
           simp only [Ow.loadC,hag,hsz,List.length_map,hn.1,if_true,X.den,ofL_den]
           congr 2
           rw [←List.map_take,←List.map_take,List.map_map,List.map_map]
           refine List.map_congr_left fun y hy=>?_
           exact X.isDE_den (List.all_eq_true.1 hn.2 y hy)
         · cases h
     · cases h
   · rename_i l sz i j
     have hx:=hx0
     split at h
     · rename_i b hb
       split at h
       · rename_i hbs
         subst hbs
         have hx':(X.ptr l b.cs.len i j).den e=.ptr l b.cs.len (intOf (i.den e)).toNat j:=rfl
         have sub:∀l' B,Hp.get [(l,.c b.cs.len (rowsC (b.rows.den e)))] l'=some B→(s.den e).H.get l'=some B:=fun l' B hB=>by
          rw [Hp.get_cons] at hB
          split at hB
          · rename_i hl;rw [hl,getX_H hb];exact hB
          · cases hB
         have g0:Hp.get [(l,.c b.cs.len (rowsC (b.rows.den e)))] l=some (.c b.cs.len (rowsC (b.rows.den e))):=by rw [Hp.get_cons,if_pos rfl]
         split at h
         · rename_i row hrow
           rw [Option.bind_eq_some_iff] at hrow
           obtain ⟨n',hn',hrow⟩:=hrow
           have hR:(rowsC (b.rows.den e))[(intOf (i.den e)).toNat]? = some (tupOf (row.den e)):=by
            rw [litI_den hn',rowsC,List.getElem?_map,nthX_den hrow];rfl
           split at h
           · rename_i hl
             rw [toL_den hl] at hR
             split at h
             · split at h
               · rename_i y hy
                 cases h
                 refine fun _=>⟨[(l,.c b.cs.len (rowsC (b.rows.den e)))],?_,sub,rfl⟩
                 rw [hx']
                 simp only [Ow.loadC,g0,if_true,hag,at2,hR,Option.bind_some,List.getElem?_map,hy,Option.map_some]
               · cases h
             · split at h
               · rename_i hj
                 cases h
                 refine fun _=>⟨[(l,.c b.cs.len (rowsC (b.rows.den e)))],?_,sub,rfl⟩
                 rw [hx']
                 simp only [Ow.loadC,g0,if_true,hag,hsz,hR,List.length_map,hj,X.den,ofL_den,List.map_take,List.map_drop]
               · cases h
           · cases h
         · split at h
           · rename_i hk
             split at h
             · rename_i ys hys
               have go:c.tr e→(∀y0,ys=[y0]→True)→True:=fun _ _=>trivial
               have hrow:(X.mkAnd (mkCmp .leq (.int .i64 0) i) (mkCmp .lss i (.rln b.rows))).tr e→∃row,(rowsC (b.rows.den e))[(intOf (i.den e)).toNat]? = some row∧RowK b.cs row:=by
                intro hc
                rw [X.tr_and,mkCmp_tr,mkCmp_tr] at hc
                have c1:(0:Int)≤intOf (i.den e):=of_decide_eq_true hc.1
                have c2:intOf (i.den e)<(((tupOf (b.rows.den e)).length:Nat):Int):=of_decide_eq_true hc.2
                have hi:(intOf (i.den e)).toNat<(rowsC (b.rows.den e)).length:=by simp only [rowsC,List.length_map];omega
                exact ⟨_,List.getElem?_eq_getElem hi,rkIs_ok hk _ (List.getElem_mem hi)⟩
               split at h
               · cases h
                 refine fun hc=>⟨[(l,.c b.cs.len (rowsC (b.rows.den e)))],?_,sub,rfl⟩
                 obtain ⟨row,h1,h2⟩:=hrow hc
                 obtain ⟨a1,a2⟩:=rgtX_den h1 h2 hys
                 rw [hx']
                 have hn1:n=1:=by
                  have:=congrArg List.length a2
                  simp only [List.length_map,List.length_cons,List.length_nil,List.length_take,List.length_drop] at this
                  cases n with
                  | zero=>simp at this
                  | succ n=>have:=a1 (Nat.succ_pos n);omega
                 subst hn1
                 have:=a1 (by decide)
                 rw [List.take_one,List.head?_drop,List.getElem?_eq_getElem (by omega)] at a2
                 simp only [Option.toList_some,List.map_cons,List.map_nil,List.cons.injEq,and_true] at a2
                 simp only [Ow.loadC,g0,if_true,hag,at2,h1,Option.bind_some,List.getElem?_eq_getElem (show j<row.length by omega),a2]
               · cases h
                 refine fun hc=>⟨[(l,.c b.cs.len (rowsC (b.rows.den e)))],?_,sub,rfl⟩
                 obtain ⟨row,h1,h2⟩:=hrow hc
                 obtain ⟨a1,a2⟩:=rgtX_den h1 h2 hys
                 rw [hx']
                 have hpos:0<n:=by
                  cases n with
                  | zero=>simp at a2
                  | succ n=>exact Nat.succ_pos n
                 simp only [Ow.loadC,g0,if_true,hag,hsz,h1,a1 hpos,X.den,ofL_den,a2]
               · cases h
             · cases h
           · cases h
       · cases h
     · cases h
   · cases h
 · cases h
theorem ldX_ok(ht:TabOk P tab){t:TypeId}{x:Operand}(ho:o.op=.load t x)(h:ldX tab s t (evX s.T x)=.val c r pre):OvOk P e o s c r pre:=fun hc=>by
 obtain ⟨pre',h1,h2,h3⟩:=ldX_load (e:=e) ht h hc
 exact ⟨pre',OpT.loadC ho h1,h2,h3⟩
theorem loadC_mono{H H':Nat→Option Blk}(hs:∀l B,H l=some B→H' l=some B){t:TypeId}{x c:C}(h:Ow.loadC P H t x=some c):Ow.loadC P H' t x=some c:=by
 unfold Ow.loadC at h ⊢
 split at h
 · rename_i l sz i j
   split at h
   · rename_i sz' rows hB
     rw [hs l _ hB];exact h
   · cases h
 · exact h
 · cases h
end
end Ow
