/- A part of the proof. -/
import Derived.Laws.StructEq
import Derived.Test.YtjakhnhnjhafgaaGreatK10
set_option linter.unusedVariables false
set_option linter.unusedSimpArgs false
namespace Ow
open Go Go.RowKit Go.Deep
def eqFs(rec:TypeId→List C→List C→Option Bool)(P:Program):List Field→List C→List C→Option Bool
 | [],_,_=>some true
 | f :: fs,xs,ys=>match szT P f.type with
   | some n=>if f.name = "_" then none else match rec f.type ((xs.drop f.offset).take n) ((ys.drop f.offset).take n),eqFs rec P fs xs ys with
     | some b,some r=>some (b&&r)
     | _,_=>none
   | none=>none
def eq1 : List C→List C→Option Bool
 | [.d (.lit (.int k a))],[.d (.lit (.int k' b))]=>if k=k' then some (a==b) else none
 | [.d (.lit (.bool a))],[.d (.lit (.bool b))]=>some (a==b)
 | [.d (.lit (.string a))],[.d (.lit (.string b))]=>some (a==b)
 | _,_=>none
inductive Kd where
 | int|bool|str|other
 deriving DecidableEq
def kd1 : List C→Kd
 | [.d (.lit (.int _ _))]=>.int
 | [.d (.lit (.bool _))]=>.bool
 | [.d (.lit (.string _))]=>.str
 | _=>.other
def eqC(P:Program):Nat→TypeId→List C→List C→Option Bool
 | 0,_,_,_=>none
 | d + 1,t,xs,ys=>match P.underlying t with
   | some (.int _)=>if kd1 xs=.int then eq1 xs ys else none
   | some .bool=>if kd1 xs=.bool then eq1 xs ys else none
   | some .string=>if kd1 xs=.str then eq1 xs ys else none
   | some (.struct fs)=>if P.stoodInHeld t then none else eqFs (eqC P d) P fs.toList xs ys
   | _=>none
def Shp(P:Program)(t:TypeId)(X:Value):Prop:=∃b,aggT P t=some b∧if b then ∃vs,X=.agg vs else X.oneCell'=true
section
variable {P:Program} {ρ:Pl} {RO:Nat→Prop} {w:World}
theorem one_cells{X:Value}(h:X.oneCell'=true):X.cells=#[X]:=by cases X<;>first|rfl|cases h
theorem RelCs.lit1{v:Value}{X:Value}(h:RelCs ρ RO w [.d (.lit v)] X.cells.toList)(hX:X.oneCell'=true):X=v:=by
 rw [one_cells hX] at h
 exact (h.rel 0 _ X rfl rfl).lit_eq
theorem RelCs.sub{xs:List C}{vs:List Value}(h:RelCs ρ RO w xs vs)(o n:Nat):RelCs ρ RO w ((xs.drop o).take n) ((vs.drop o).take n):=by
 refine ⟨by simp [h.len],fun v hv=>h.one v (List.mem_of_mem_drop (List.mem_of_mem_take hv)),fun i c v hc hv=>?_⟩
 rw [List.getElem?_take] at hc hv
 split at hc
 · rename_i hi
   rw [if_pos hi,List.getElem?_drop] at hv
   rw [List.getElem?_drop] at hc
   exact h.rel _ c v hc hv
 · cases hc
theorem part_ok{t o n:Nat}{xs:List C}{vs:Array Value}(h:RelCs ρ RO w xs vs.toList)(hn:szT P t=some n){b:Bool}(hb:aggT P t=some b)(hfit:b=false→((xs.drop o).take n).length=1):
 ∃ X,(part t vs o).run P w=.ok X w∧Shp P t X∧RelCs ρ RO w ((xs.drop o).take n) X.cells.toList:=by
 unfold szT at hn
 unfold aggT at hb
 cases hi:P.info? t with
 | none=>rw [hi] at hn;cases hn
 | some ti=>
   rw [hi] at hn
   simp only [Option.map_some,Option.some.injEq] at hn
   cases hu:P.underlying t with
   | none=>rw [hu] at hb;cases hb
   | some d=>
     rw [hu] at hb
     simp only [Option.map_some,Option.some.injEq] at hb
     cases b with
     | true=>
       refine ⟨.agg (vs.extract o (o+n)),?_,⟨true,by simp [aggT,hu,hb],_,rfl⟩,?_⟩
       · cases d<;>simp [aggB] at hb<;>simp [part,isAgg,run_underlying hu,Go.sizeOf,typeInfo,hi,hn]
       · have:=h.sub o n
         simpa [Value.cells,Array.toList_extract,List.extract_eq_take_drop] using this
     | false=>
       have h1:=hfit rfl
       have hs:=h.sub o n
       have hl:=hs.len
       rw [h1] at hl
       obtain ⟨X,hX⟩:=List.length_eq_one_iff.1 hl
       have hg:vs[o]? = some X:=by
        have:((vs.toList.drop o).take n)[0]? = some X:=by rw [hX];rfl
        rw [List.getElem?_take] at this
        split at this
        · rw [List.getElem?_drop,Nat.add_zero,Array.getElem?_toList] at this;exact this
        · cases this
       have ho:X.oneCell'=true:=hs.one X (by rw [hX];simp)
       refine ⟨X,?_,⟨false,by simp [aggT,hu,hb],by simpa using ho⟩,by rw [one_cells ho];rw [hX] at hs;exact hs⟩
       cases d<;>simp [aggB] at hb<;>simp [part,isAgg,run_underlying hu,hg]
theorem eq1_len{xs ys:List C}{b:Bool}(h:eq1 xs ys=some b):xs.length=1∧ys.length=1:=by
 unfold eq1 at h
 split at h<;>first|exact ⟨rfl,rfl⟩|cases h
theorem eqC_len1{d t:Nat}{xs ys:List C}{b:Bool}(h:eqC P d t xs ys=some b):∃q,aggT P t=some q∧(q=false→xs.length=1∧ys.length=1):=by
 cases d with
 | zero=>cases h
 | succ d=>
   unfold eqC at h
   unfold aggT
   split at h
   · rename_i hu;rw [hu];split at h;exact ⟨_,rfl,fun _=>eq1_len h⟩;cases h
   · rename_i hu;rw [hu];split at h;exact ⟨_,rfl,fun _=>eq1_len h⟩;cases h
   · rename_i hu;rw [hu];split at h;exact ⟨_,rfl,fun _=>eq1_len h⟩;cases h
   · rename_i hu;rw [hu];exact ⟨_,rfl,fun h=>by cases h⟩
   · cases h
theorem eqC_run : ∀(d:Nat) (t:TypeId) (xs ys:List C) (b:Bool) (X Y:Value) (e:Nat),eqC P d t xs ys=some b→Shp P t X→Shp P t Y→RelCs ρ RO w xs X.cells.toList→RelCs ρ RO w ys Y.cells.toList→d≤e →
 (Op.equalIn e t X Y).run P w=.ok b w:=by
 intro d
 induction d with
 | zero=>intro t xs ys b X Y e h;cases h
 | succ d ih =>
   intro t xs ys b X Y e h hX hY hx hy he
   obtain ⟨e,rfl⟩:∃e',e=e'+1:=⟨e-1,by omega⟩
   obtain ⟨q,hq,hX⟩:=hX
   obtain ⟨q',hq',hY⟩:=hY
   have:q'=q:=by rw [hq] at hq';injection hq' with e;exact e.symm
   subst this
   unfold eqC at h
   unfold aggT at hq
   have scalar:∀(k:Kd),(k=.int∨k=.bool∨k=.str)→kd1 xs=k→eq1 xs ys=some b→q'=false→(∃n m,k=.int∧∃kk,X=.int kk n∧Y=.int kk m∧b=(n==m))∨(∃n m,k=.bool∧X=.bool n∧Y=.bool m∧b=(n==m))∨(∃n m,k=.str∧X=.string n∧Y=.string m∧b=(n==m)):=by
    intro k _ hk h1 hq0
    subst hq0
    simp only [Bool.false_eq_true,if_false] at hX hY
    unfold eq1 at h1
    split at h1
    · split at h1
      · rename_i e;subst e
        simp only [Option.some.injEq] at h1
        exact .inl ⟨_,_,by rw [←hk];rfl,_,hx.lit1 hX,hy.lit1 hY,h1.symm⟩
      · cases h1
    · simp only [Option.some.injEq] at h1
      exact .inr (.inl ⟨_,_,by rw [←hk];rfl,hx.lit1 hX,hy.lit1 hY,h1.symm⟩)
    · simp only [Option.some.injEq] at h1
      exact .inr (.inr ⟨_,_,by rw [←hk];rfl,hx.lit1 hX,hy.lit1 hY,h1.symm⟩)
    · cases h1
   split at h
   · rename_i k hu
     rw [hu] at hq
     split at h
     · rename_i hk
       rcases scalar .int (.inl rfl) hk h (by simpa [aggB] using hq.symm) with ⟨n,m,_,kk,rfl,rfl,rfl⟩|⟨_,_,h1,_⟩|⟨_,_,h1,_⟩
       · exact run_equalIn_int w e t kk k n m hu
       · cases h1
       · cases h1
     · cases h
   · rename_i hu
     rw [hu] at hq
     split at h
     · rename_i hk
       rcases scalar .bool (.inr (.inl rfl)) hk h (by simpa [aggB] using hq.symm) with ⟨_,_,h1,_⟩|⟨n,m,_,rfl,rfl,rfl⟩|⟨_,_,h1,_⟩
       · cases h1
       · exact run_equalIn_bool' w e t n m hu
       · cases h1
     · cases h
   · rename_i hu
     rw [hu] at hq
     split at h
     · rename_i hk
       rcases scalar .str (.inr (.inr rfl)) hk h (by simpa [aggB] using hq.symm) with ⟨_,_,h1,_⟩|⟨_,_,h1,_⟩|⟨n,m,_,rfl,rfl,rfl⟩
       · cases h1
       · cases h1
       · rw [beq_toListBytes];exact run_equalIn_string w e t n m hu
     · cases h
   · rename_i fs hu
     rw [hu] at hq
     have hq1:q'=true:=by simpa [aggB] using hq.symm
     subst hq1
     simp only [if_true] at hX hY
     obtain ⟨vs,rfl⟩:=hX
     obtain ⟨us,rfl⟩:=hY
     split at h
     · cases h
     · rename_i hst
       have hf:P.fieldsOf t=fs:=by simp [Program.fieldsOf,hu]
       rw [run_equalIn_struct w e t vs us (by rw [hf];exact hu) (by simpa using hst),hf]
       simp only [Value.cells] at hx hy
       clear hu hf hst hq hq' scalar
       revert b
       generalize fs.toList=l
       intro b h
       induction l generalizing b with
       | nil=>simp only [eqFs,Option.some.injEq] at h;subst h;simp [Op.eqFields]
       | cons f l ihl=>
         simp only [eqFs] at h
         split at h
         · rename_i n hn
           split at h
           · cases h
           · rename_i hname
             split at h
             · rename_i b1 r h1 h2
               simp only [Option.some.injEq] at h
               subst h
               obtain ⟨q,hq,hlen⟩:=eqC_len1 h1
               obtain ⟨X1,hr1,hs1,hc1⟩:=part_ok (P:=P) (o:=f.offset) hx hn hq (fun hb=>(hlen hb).1)
               obtain ⟨Y1,hr2,hs2,hc2⟩:=part_ok (P:=P) (o:=f.offset) hy hn hq (fun hb=>(hlen hb).2)
               have he1:=ih f.type _ _ b1 X1 Y1 e h1 hs1 hs2 hc1 hc2 (by omega)
               simp only [Op.eqFields,if_pos hname,Sem.run_bind,hr1,hr2,he1,Result.andThen_ok,ne_eq,hname,not_false_eq_true,if_true]
               cases b1 with
               | false=>simp
               | true=>simpa using ihl r h2
             · cases h
         · cases h
   · cases h
end
inductive SQ where
 | val (p:Prop) (pre:Hp) (c:C)
 | mem (p:Prop) (pre:Hp) (chg:List Nat) (post:Hp) (H':Hp) (c:C) (n:Nat)
 | no
def binQ(op:BinOp)(k:IntKind)(a b:Int):SQ:=
 match op with
 | .add=>.val True [] (.d (.lit (.int k (k.wrap (a+b)))))
 | .sub=>.val True [] (.d (.lit (.int k (k.wrap (a-b)))))
 | .mul=>.val True [] (.d (.lit (.int k (k.wrap (a*b)))))
 | .quo=>.val (b≠0) [] (.d (.lit (.int k (k.wrap (a.tdiv b)))))
 | .rem=>.val (b≠0) [] (.d (.lit (.int k (a.tmod b))))
 | .eql=>.val True [] (.d (.lit (.bool (a==b))))
 | .neq=>.val True [] (.d (.lit (.bool (a != b))))
 | .lss=>.val True [] (.d (.lit (.bool (decide (a<b)))))
 | .leq=>.val True [] (.d (.lit (.bool (decide (a≤b)))))
 | .gtr=>.val True [] (.d (.lit (.bool (decide (a > b)))))
 | .geq=>.val True [] (.d (.lit (.bool (decide (a≥b)))))
 | _=>.no
def eqT(P:Program)(t:TypeId):Bool:=(match P.underlying t with|some (.struct _)=>true|_=>false)&&!P.eqGuardType P.depth t
def boolT(P:Program)(t:TypeId):Bool:=match P.underlying t with|some .bool=>true|_=>false
def aggC : C→Option (List C)
 | .agg cs=>some cs
 | .d (.agg xs)=>some (xs.map .d)
 | .d (.lit (.agg vs))=>cellsC (.d (.lit (.agg vs)))
 | _=>none
def aggQ(P:Program)(op:BinOp)(t:TypeId)(a b:C):SQ:=match aggC a,aggC b with
 | some xs,some ys=>if eqT P t then (match eqC P 50 t xs ys with
   | some r=>match op with
     | .eql=>.val True [] (.d (.lit (.bool r)))
     | .neq=>.val True [] (.d (.lit (.bool (!r))))
     | _=>.no
   | none=>.no) else .no
 | _,_=>.no
def boolQ(P:Program)(op:BinOp)(t:TypeId)(p q:Bool):SQ:=if boolT P t then (match op with
 | .eql=>.val True [] (.d (.lit (.bool (p==q))))
 | .neq=>.val True [] (.d (.lit (.bool (!(p==q)))))
 | _=>.no) else .no
def strQ(op:BinOp)(p q:ByteArray):SQ:=match op with
 | .eql=>.val True [] (.d (.lit (.bool (p==q))))
 | .neq=>.val True [] (.d (.lit (.bool (!(p==q)))))
 | .add=>.val (((p.size+q.size:Nat):Int)≤9223372036854775807) [] (.d (.lit (.string (p++q))))
 | _=>.no
inductive BinK where
 | ints (k k':IntKind) (p q:Int)
 | bools (p q:Bool)
 | strs (p q:ByteArray)
 | other
def binK : C→C→BinK
 | .d (.lit (.int k p)),.d (.lit (.int k' q))=>.ints k k' p q
 | .d (.lit (.bool p)),.d (.lit (.bool q))=>.bools p q
 | .d (.lit (.string p)),.d (.lit (.string q))=>.strs p q
 | _,_=>.other
def binC(P:Program)(op:BinOp)(t:TypeId)(a b:C):SQ:=match binK a b with
 | .ints k k' p q=>if k=k' then binQ op k p q else .no
 | .bools p q=>boolQ P op t p q
 | .strs p q=>strQ op p q
 | .other=>aggQ P op t a b
theorem binK_spec{a b:C}:(∀k k' p q,binK a b=.ints k k' p q→a=.d (.lit (.int k p))∧b=.d (.lit (.int k' q)))∧(∀p q,binK a b=.bools p q→a=.d (.lit (.bool p))∧b=.d (.lit (.bool q)))∧(∀p q,binK a b=.strs p q→a=.d (.lit (.string p))∧b=.d (.lit (.string q))):=by
 unfold binK
 split
 · refine ⟨fun k k' p q h=>?_,fun p q h=>(by cases h),fun p q h=>(by cases h)⟩;cases h;exact ⟨rfl,rfl⟩
 · refine ⟨fun k k' p q h=>(by cases h),fun p q h=>?_,fun p q h=>(by cases h)⟩;cases h;exact ⟨rfl,rfl⟩
 · refine ⟨fun k k' p q h=>(by cases h),fun p q h=>(by cases h),fun p q h=>?_⟩;cases h;exact ⟨rfl,rfl⟩
 · exact ⟨fun k k' p q h=>(by cases h),fun p q h=>(by cases h),fun p q h=>(by cases h)⟩
theorem aggC_agg{a:C}{xs:List C}(h:aggC a=some xs){ρ:Pl}{RO:Nat→Prop}{w:World}{v:Value}(hv:RelC ρ RO w a v):cellsC a=some xs∧∃vs,v=.agg vs:=by
 unfold aggC at h
 split at h
 · cases hv;exact ⟨h,_,rfl⟩
 · cases hv with|d x v h'=>cases h';exact ⟨h,_,rfl⟩
 · cases hv with|d x v h'=>cases h';exact ⟨h,_,rfl⟩
 · cases h
theorem run_boolE{P:Program}{t:TypeId}(hu:P.underlying t=some .bool)(p q:Bool)(w:World):(binOp .eql t (.bool p) (.bool q)).run P w=.ok (.bool (p==q)) w:=by
 have h:(Op.equalIn 10000 t (.bool p) (.bool q)).run P w=.ok (p==q) w:=run_equalIn_bool' w 9999 t p q hu
 simp only [binOp,Op.equal,Op.maxDepth,Sem.run_bind,h,Result.andThen_ok,Sem.run_pure]
theorem run_boolN{P:Program}{t:TypeId}(hu:P.underlying t=some .bool)(p q:Bool)(w:World):(binOp .neq t (.bool p) (.bool q)).run P w=.ok (.bool (!(p==q))) w:=by
 have h:(Op.equalIn 10000 t (.bool p) (.bool q)).run P w=.ok (p==q) w:=run_equalIn_bool' w 9999 t p q hu
 simp only [binOp,Op.equal,Op.maxDepth,Sem.run_bind,h,Result.andThen_ok,Sem.run_pure]
theorem OpT.binC{P:Program}{o:Oper}{ev:Operand→C}{op:BinOp}{t t':TypeId}{x y:Operand}{p:Prop}{pre:Hp}{c:C}(ho:o.op=.binOp op t x y t')(h:binC P op t (ev x) (ev y)=.val p pre c)(hp:p):pre=[]∧OpT P o ev ⟨[],[],[],c⟩:=by
 unfold Ow.binC at h
 split at h
 · rename_i k k' a b hk
   obtain ⟨h1,h2⟩:=binK_spec.1 _ _ _ _ hk
   split at h
   · rename_i e
     subst e
     unfold binQ at h
     split at h<;>first|(cases h;exact ⟨rfl,.bin ho h1 h2 (by simp [binI, *])⟩)|cases h
   · cases h
 · rename_i a b hk
   obtain ⟨h1,h2⟩:=binK_spec.2.1 _ _ hk
   unfold boolQ at h
   split at h
   · rename_i hb
     unfold boolT at hb
     split at hb
     · rename_i hu
       split at h
       · cases h
         refine ⟨rfl,.read [] _ fun ρ F RO w a' _ hr=>⟨_,?_,.lit' _⟩⟩
         have e1:=(h1▸hr x (by rw [ho];simp [Op.operands])).lit_eq
         have e2:=(h2▸hr y (by rw [ho];simp [Op.operands])).lit_eq
         unfold execOp;rw [ho]
         simp [e1,e2,eqGuard,run_boolE hu]
       · cases h
         refine ⟨rfl,.read [] _ fun ρ F RO w a' _ hr=>⟨_,?_,.lit' _⟩⟩
         have e1:=(h1▸hr x (by rw [ho];simp [Op.operands])).lit_eq
         have e2:=(h2▸hr y (by rw [ho];simp [Op.operands])).lit_eq
         unfold execOp;rw [ho]
         simp [e1,e2,eqGuard,run_boolN hu]
       · cases h
     · cases hb
   · cases h
 · rename_i a b hk
   obtain ⟨h1,h2⟩:=binK_spec.2.2 _ _ hk
   unfold strQ at h
   split at h
   · cases h
     refine ⟨rfl,.read [] _ fun ρ F RO w a' _ hr=>⟨_,?_,.lit' _⟩⟩
     have e1:=(h1▸hr x (by rw [ho];simp [Op.operands])).lit_eq
     have e2:=(h2▸hr y (by rw [ho];simp [Op.operands])).lit_eq
     unfold execOp;rw [ho]
     rw [beq_toListBytes]
     simp [e1,e2,eqGuard,binOp,Op.stringOp]
   · cases h
     refine ⟨rfl,.read [] _ fun ρ F RO w a' _ hr=>⟨_,?_,.lit' _⟩⟩
     have e1:=(h1▸hr x (by rw [ho];simp [Op.operands])).lit_eq
     have e2:=(h2▸hr y (by rw [ho];simp [Op.operands])).lit_eq
     unfold execOp;rw [ho]
     rw [beq_toListBytes]
     simp [e1,e2,eqGuard,binOp,Op.stringOp]
   · cases h
     refine ⟨rfl,.read [] _ fun ρ F RO w a' _ hr=>⟨_,?_,.lit' _⟩⟩
     have e1:=(h1▸hr x (by rw [ho];simp [Op.operands])).lit_eq
     have e2:=(h2▸hr y (by rw [ho];simp [Op.operands])).lit_eq
     have hlt:¬(9223372036854775807<((a.size+b.size:Nat):Int)):=by omega
     unfold execOp;rw [ho]
     simp only [e1,e2,eqGuard,binOp,Op.stringOp]
     simp at hlt
     simp [hlt]
   · cases h
 · unfold aggQ at h
   split at h
   · rename_i xs ys hx hy
     split at h
     · rename_i ht
       split at h
       · rename_i r hr0
         unfold eqT at ht
         simp only [Bool.and_eq_true,Bool.not_eq_true'] at ht
         obtain ⟨hst,hgd⟩:=ht
         have hagg:aggT P t=some true:=by
          unfold aggT
          split at hst
          · rename_i fs hu;rw [hu];rfl
          · cases hst
         have run:∀ρ RO w (a:Act),(∀x∈o.op.operands,RelC ρ RO w (ev x) (a.eval x))→∃vs us,a.eval x=.agg vs∧a.eval y=.agg us∧(Op.equalIn 10000 t (.agg vs) (.agg us)).run P w=.ok r w:=by
          intro ρ RO w a hr
          have e1:=hr x (by rw [ho];simp [Op.operands])
          have e2:=hr y (by rw [ho];simp [Op.operands])
          obtain ⟨c1,vs,h1⟩:=aggC_agg hx e1
          obtain ⟨c2,us,h2⟩:=aggC_agg hy e2
          rw [h1] at e1
          rw [h2] at e2
          exact ⟨vs,us,h1,h2,eqC_run 50 t xs ys r _ _ 10000 hr0 ⟨true,hagg,vs,rfl⟩ ⟨true,hagg,us,rfl⟩ (e1.cells c1) (e2.cells c2) (by omega)⟩
         split at h
         · cases h
           refine ⟨rfl,.read [] _ fun ρ F RO w a' _ hr=>⟨.bool r,?_,.lit' _⟩⟩
           obtain ⟨vs,us,h1,h2,h3⟩:=run ρ RO w a' hr
           unfold execOp;rw [ho]
           simp [h1,h2,run_eqGuard_agg w _ t x y vs us hgd,run_eql_struct,h3]
         · cases h
           refine ⟨rfl,.read [] _ fun ρ F RO w a' _ hr=>⟨.bool (!r),?_,.lit' _⟩⟩
           obtain ⟨vs,us,h1,h2,h3⟩:=run ρ RO w a' hr
           unfold execOp;rw [ho]
           simp [h1,h2,run_eqGuard_agg w _ t x y vs us hgd,run_neq_struct,h3]
         · cases h
       · cases h
     · cases h
   · cases h
end Ow
namespace Ow
open Go Go.RowKit Go.Deep
inductive Ki where
 | int (k:IntKind)|bool|str|sl (cs:Ki)|any|nil|cons (a b:Ki)
 deriving BEq,ReflBEq,LawfulBEq,Inhabited
inductive X where
 | nil|cons (a b:X)|dead|int (k:IntKind) (n:Int)|bool (b:Bool)|str (b:List UInt8)
 | nilI|nilF|nilS|nilP
 | ati (k:IntKind) (j:Nat) (az:X)|atb (j:Nat) (az:X)|ats (j:Nat) (az:X)|atl (cs:Ki) (j:Nat) (az:X)
 | bin (o:BinOp) (k:IntKind) (a b:X)|cmp (o:BinOp) (a b:X)|neg (k:IntKind) (a:X)|conv (k:IntKind) (a:X)
 | not (a:X)|and (a b:X)|or (a b:X)|eqb (a b:X)|eqs (a b:X)
 | len (a:X)|cat (a b:X)|six (a i:X)|ssub (a lo hi:X)
 | ite (c x y:X)|agg (xs:X)|tup (xs:X)|ep (xs:X)|ifc (t:TypeId) (x:X)
 | ptr (l sz:Nat) (i:X) (j:Nat)|osl (l sz:Nat) (s n:X)|fn (f:FuncId) (a b:X)
 | get (k:Ki) (x i:X) (j:Nat)|rws (cs:Ki) (j:Nat) (az:X)|app (a b:X)|upd (r i:X) (j:Nat) (v:X)|rof (x:X)
 | rgt (k:Ki) (r i:X) (j:Nat)|rln (r:X)|fz (cs:Ki) (r:X)|sub (x lo hi:X)
 deriving BEq,ReflBEq,LawfulBEq,Inhabited
structure Env where
 I : Nat→List C→Int
 B : Nat→List C→Bool
 S : Nat→List C→ByteArray
 L : Nat→List C→List (List D)
def env0 : Env:=⟨fun _ _=>0,fun _ _=>false,fun _ _=>.empty,fun _ _=>[]⟩
def dz : D:=.lit .nilFunc
def intD : D→Int | .lit (.int _ n)=>n|_=>0
def boolD : D→Bool | .lit (.bool b)=>b|_=>false
def strD : D→ByteArray | .lit (.string b)=>b|_=>.empty
def elsD : D→List (List D) | .sl _ els=>els|_=>[]
def szD : D→Nat | .sl n _=>n|_=>0
def dOf : C→D | .d x=>x|_=>dz
def tupOf : C→List C | .tup cs=>cs|_=>[]
def lenOf : C→Nat | .d (.sl _ els)=>els.length | .osl _ _ _ n=>n | .d (.lit (.string b))=>b.size|_=>0
def intOf(c:C):Int:=intD (dOf c)
def boolOf(c:C):Bool:=boolD (dOf c)
def strOf(c:C):ByteArray:=strD (dOf c)
def elsOf(c:C):List (List D):=elsD (dOf c)
@[go_sem] theorem intD_i{k:IntKind}{n:Int}:intD (.lit (.int k n))=n:=rfl
@[go_sem] theorem boolD_b{b:Bool}:boolD (.lit (.bool b))=b:=rfl
@[go_sem] theorem strD_s{b:ByteArray}:strD (.lit (.string b))=b:=rfl
@[go_sem] theorem elsD_s{n:Nat}{els:List (List D)}:elsD (.sl n els)=els:=rfl
@[go_sem] theorem szD_s{n:Nat}{els:List (List D)}:szD (.sl n els)=n:=rfl
@[go_sem] theorem intOf_i{k:IntKind}{n:Int}:intOf (.d (.lit (.int k n)))=n:=rfl
@[go_sem] theorem boolOf_b{b:Bool}:boolOf (.d (.lit (.bool b)))=b:=rfl
@[go_sem] theorem strOf_s{b:ByteArray}:strOf (.d (.lit (.string b)))=b:=rfl
@[go_sem] theorem elsOf_s{n:Nat}{els:List (List D)}:elsOf (.d (.sl n els))=els:=rfl
@[go_sem] theorem dOf_d{x:D}:dOf (.d x)=x:=rfl
@[go_sem] theorem tupOf_t{cs:List C}:tupOf (.tup cs)=cs:=rfl
@[go_sem] theorem lenOf_sl{sz:Nat}{els:List (List D)}:lenOf (.d (.sl sz els))=els.length:=rfl
@[go_sem] theorem lenOf_osl{l sz s n:Nat}:lenOf (.osl l sz s n)=n:=rfl
@[go_sem] theorem lenOf_s{b:ByteArray}:lenOf (.d (.lit (.string b)))=b.size:=rfl
def Ki.len : Ki→Nat | .cons _ b=>b.len+1|_=>0
def Ki.row : Ki→List D→List D
 | .int k,r=>[.lit (.int k (intD (r.headD dz)))]
 | .bool,r=>[.lit (.bool (boolD (r.headD dz)))]
 | .str,r=>[.lit (.string (strD (r.headD dz)))]
 | .sl cs,r=>[.sl cs.len ((elsD (r.headD dz)).map cs.row)]
 | .any,r=>[r.headD dz]
 | .nil,_=>[]
 | .cons a b,r=>(a.row r).headD dz::b.row r.tail
def Ki.force(k:Ki)(d:D):D:=(k.row [d]).headD dz
@[go_sem] theorem force_int{k:IntKind}{d:D}:Ki.force (.int k) d=.lit (.int k (intD d)):=rfl
@[go_sem] theorem force_bool{d:D}:Ki.force .bool d=.lit (.bool (boolD d)):=rfl
@[go_sem] theorem force_str{d:D}:Ki.force .str d=.lit (.string (strD d)):=rfl
@[go_sem] theorem force_sl{cs:Ki}{d:D}:Ki.force (.sl cs) d=.sl cs.len ((elsD d).map cs.row):=rfl
@[go_sem] theorem force_any{d:D}:Ki.force .any d=d:=rfl
def Ki.one : Ki→Bool | .nil=>false | .cons _ _=>false | .any=>false|_=>true
def Ki.flat : Ki→Bool | .nil=>true | .cons a b=>(a.one||a==.any)&&b.flat|_=>false
def Ki.ls : Ki→List Ki | .cons a b=>a::b.ls|_=>[]
theorem row_cons{a b:Ki}(h:(a.one||a==.any)=true)(r:List D):Ki.row (.cons a b) r=a.force (r.headD dz)::b.row r.tail:=by
 cases a<;>first|rfl|cases h
theorem row_len{cs:Ki}(h:cs.flat=true):∀r,(cs.row r).length=cs.len:=by
 induction cs with
 | nil=>intro r;rfl
 | cons a b _ ih=>
   intro r
   simp only [Ki.flat,Bool.and_eq_true] at h
   rw [row_cons h.1,List.length_cons,ih h.2];rfl
 | _=>cases h
theorem ls_len{cs:Ki}:cs.ls.length=cs.len:=by induction cs<;>simp_all [Ki.ls,Ki.len]
def Ki.ok : Ki→Bool | .sl cs=>cs.flat&&cs.ok | .cons a b=>a.ok&&b.ok|_=>true
theorem force_idem{k:Ki}:k.ok=true→(∀d,k.one=true→k.force (k.force d)=k.force d)∧(∀r,k.flat=true→k.row (k.row r)=k.row r):=by
 induction k with
 | cons a b iha ihb=>
   intro hk
   simp only [Ki.ok,Bool.and_eq_true] at hk
   refine ⟨fun d h=>(by cases h),fun r h=>?_⟩
   simp only [Ki.flat,Bool.and_eq_true] at h
   rw [row_cons h.1,row_cons h.1]
   simp only [List.headD_cons,List.tail_cons,(ihb hk.2).2 _ h.2]
   have:=h.1
   simp only [Bool.or_eq_true,beq_iff_eq] at this
   rcases this with h1|h1
   · rw [(iha hk.1).1 _ h1]
   · subst h1;rfl
 | sl cs ih=>
   intro hk
   simp only [Ki.ok,Bool.and_eq_true] at hk
   refine ⟨fun d _=>?_,fun r h=>(by cases h)⟩
   simp only [force_sl,elsD_s,List.map_map]
   congr 1
   refine List.map_congr_left fun r _=>?_
   exact (ih hk.2).2 r hk.1
 | _=>intro _;exact ⟨fun d h=>(by first|rfl|cases h),fun r h=>(by first|rfl|cases h)⟩
def bitI(o:BinOp)(k:IntKind)(a b:Int):Int:=match o with
 | .and=>k.wrap (BitVec.ofInt k.bits a &&& BitVec.ofInt k.bits b).toNat
 | .or=>k.wrap (BitVec.ofInt k.bits a ||| BitVec.ofInt k.bits b).toNat
 | .xor=>k.wrap (BitVec.ofInt k.bits a ^^^ BitVec.ofInt k.bits b).toNat
 | .andNot=>k.wrap (BitVec.ofInt k.bits a &&& ~~~(BitVec.ofInt k.bits b)).toNat
 | .shl=>k.wrap (a*2 ^ min b.toNat k.bits)
 | .shr=>a.fdiv (2 ^ min b.toNat k.bits)
 | _=>0
def arI(o:BinOp)(k:IntKind)(a b:Int):Int:=match o with
 | .add=>k.wrap (a+b) | .sub=>k.wrap (a-b) | .mul=>k.wrap (a*b) | .quo=>k.wrap (a.tdiv b) | .rem=>a.tmod b|o=>bitI o k a b
def iltB(a b:Int):Bool:=decide (a<b)
def ileB(a b:Int):Bool:=decide (a≤b)
@[simp, go_sem] theorem iltB_iff{a b:Int}:iltB a b=true↔a<b:=decide_eq_true_iff
@[simp, go_sem] theorem ileB_iff{a b:Int}:ileB a b=true↔a≤b:=decide_eq_true_iff
@[simp, go_sem] theorem iltB_false{a b:Int}:iltB a b=false↔b≤a:=by unfold iltB;simp
def cmpI(o:BinOp)(a b:Int):Bool:=match o with
 | .eql=>a==b | .neq=>a != b | .lss=>iltB a b | .leq=>ileB a b | .gtr=>iltB b a | .geq=>ileB b a|_=>false
def X.den(e:Env):X→C
 | .nil=>.tup []
 | .cons a b=>.tup (a.den e::tupOf (b.den e))
 | .dead=>.dead
 | .int k n=>.d (.lit (.int k n))
 | .bool b=>.d (.lit (.bool b))
 | .str b=>.d (.lit (.string ⟨⟨b⟩⟩))
 | .nilI=>.d (.lit .nilIface)
 | .nilF=>.d (.lit .nilFunc)
 | .nilS=>.d (.lit (.slice none 0 0))
 | .nilP=>.d (.lit (.pointer none))
 | .ati k j az=>.d (.lit (.int k (e.I j (tupOf (az.den e)))))
 | .atb j az=>.d (.lit (.bool (e.B j (tupOf (az.den e)))))
 | .ats j az=>.d (.lit (.string (e.S j (tupOf (az.den e)))))
 | .atl cs j az=>.d (.sl cs.len ((e.L j (tupOf (az.den e))).map cs.row))
 | .bin o k a b=>.d (.lit (.int k (arI o k (intOf (a.den e)) (intOf (b.den e)))))
 | .cmp o a b=>.d (.lit (.bool (cmpI o (intOf (a.den e)) (intOf (b.den e)))))
 | .neg k a=>.d (.lit (.int k (k.wrap (0-intOf (a.den e)))))
 | .conv k a=>.d (.lit (.int k (k.wrap (intOf (a.den e)))))
 | .not a=>.d (.lit (.bool (!boolOf (a.den e))))
 | .and a b=>.d (.lit (.bool (boolOf (a.den e)&&boolOf (b.den e))))
 | .or a b=>.d (.lit (.bool (boolOf (a.den e)||boolOf (b.den e))))
 | .eqb a b=>.d (.lit (.bool (boolOf (a.den e)==boolOf (b.den e))))
 | .eqs a b=>.d (.lit (.bool (strOf (a.den e)==strOf (b.den e))))
 | .len a=>.d (.lit (.int .i64 (lenOf (a.den e))))
 | .cat a b=>.d (.lit (.string (strOf (a.den e)++strOf (b.den e))))
 | .six a i=>.d (.lit (.int .u8 ((strOf (a.den e)).data.getD (intOf (i.den e)).toNat 0).toNat))
 | .ssub a lo hi=>.d (.lit (.string ((strOf (a.den e)).extract (intOf (lo.den e)).toNat (intOf (hi.den e)).toNat)))
 | .ite c x y=>if boolOf (c.den e) then x.den e else y.den e
 | .agg xs=>.agg (tupOf (xs.den e))
 | .tup xs=>.tup (tupOf (xs.den e))
 | .ep xs=>.d (.ep ((tupOf (xs.den e)).map dOf))
 | .ifc t x=>.ifc t (x.den e)
 | .ptr l sz i j=>.ptr l sz (intOf (i.den e)).toNat j
 | .osl l sz s n=>.osl l sz (intOf (s.den e)).toNat (intOf (n.den e)).toNat
 | .fn f a b=>.fn (.func f) (tupOf (a.den e)) (tupOf (b.den e))
 | .get k x i j=>.d (k.force (((elsOf (x.den e)).getD (intOf (i.den e)).toNat []).getD j dz))
 | .rws cs j az=>.tup ((e.L j (tupOf (az.den e))).map (fun r=>.tup ((cs.row r).map .d)))
 | .app a b=>.tup (tupOf (a.den e)++tupOf (b.den e))
 | .upd r i j v=>.tup ((tupOf (r.den e)).modify (intOf (i.den e)).toNat (fun c=>.tup ((tupOf c).set j (v.den e))))
 | .rof x=>.tup ((elsOf (x.den e)).map (fun r=>.tup (r.map .d)))
 | .rgt k r i j=>.d (k.force (dOf ((tupOf ((tupOf (r.den e)).getD (intOf (i.den e)).toNat .dead)).getD j .dead)))
 | .rln r=>.d (.lit (.int .i64 (tupOf (r.den e)).length))
 | .fz cs r=>.d (.sl cs.len ((tupOf (r.den e)).map (fun c=>cs.row ((tupOf c).map dOf))))
 | .sub x lo hi=>.d (.sl (szD (dOf (x.den e))) (((elsOf (x.den e)).drop (intOf (lo.den e)).toNat).take ((intOf (hi.den e)).toNat-(intOf (lo.den e)).toNat)))
def X.kd : X→Option Ki
 | .int k _=>some (.int k) | .ati k _ _=>some (.int k) | .bin _ k _ _=>some (.int k) | .neg k _=>some (.int k) | .conv k _=>some (.int k)
 | .len _=>some (.int .i64) | .rln _=>some (.int .i64) | .six _ _=>some (.int .u8)
 | .bool _=>some .bool | .atb _ _=>some .bool | .cmp _ _ _=>some .bool | .not _=>some .bool | .and _ _=>some .bool | .or _ _=>some .bool | .eqb _ _=>some .bool | .eqs _ _=>some .bool
 | .str _=>some .str | .ats _ _=>some .str | .cat _ _=>some .str | .ssub _ _ _=>some .str
 | .atl cs _ _=>if cs.flat&&cs.ok then some (.sl cs) else none
 | .fz cs _=>if cs.flat&&cs.ok then some (.sl cs) else none
 | .sub x _ _=>match x.kd with|some (.sl cs)=>some (.sl cs)|_=>none
 | .get k _ _ _=>if k.one&&k.ok then some k else none
 | .rgt k _ _ _=>if k.one&&k.ok then some k else none
 | .ite _ x y=>match x.kd,y.kd with|some k,some k'=>if k==k' then some k else none|_,_=>none
 | _=>none
theorem kd_ok{e:Env}{x:X}:∀{k:Ki},x.kd=some k→k.one=true∧k.ok=true∧x.den e=.d (k.force (dOf (x.den e))):=by
 have SL:∀{cs:Ki} {els:List (List D)},(cs.flat&&cs.ok)=true→(∀r∈els,cs.row r=r)→(Ki.sl cs).one=true∧(Ki.sl cs).ok=true∧D.sl cs.len els=(Ki.sl cs).force (.sl cs.len els):=by
  intro cs els h hr
  refine ⟨rfl,by simpa [Ki.ok] using h,?_⟩
  rw [force_sl,elsD_s]
  congr 1
  exact (List.map_congr_left (g:=id) hr).symm▸(List.map_id _).symm
 induction x with
 | atl cs j az=>
   intro k h
   simp only [X.kd] at h
   split at h
   · rename_i hc
     cases h
     obtain ⟨h1,h2,h3⟩:=SL (els:=(e.L j (tupOf (az.den e))).map cs.row) hc (fun r hr=>by
      obtain ⟨r0,-,rfl⟩:=List.mem_map.1 hr
      simp only [Bool.and_eq_true] at hc
      exact (force_idem hc.2).2 r0 hc.1)
     exact ⟨h1,h2,by simp only [X.den,dOf_d];rw [←h3]⟩
   · cases h
 | fz cs r=>
   intro k h
   simp only [X.kd] at h
   split at h
   · rename_i hc
     cases h
     obtain ⟨h1,h2,h3⟩:=SL (els:=(tupOf (r.den e)).map (fun c=>cs.row ((tupOf c).map dOf))) hc (fun r hr=>by
      obtain ⟨r0,-,rfl⟩:=List.mem_map.1 hr
      simp only [Bool.and_eq_true] at hc
      exact (force_idem hc.2).2 _ hc.1)
     exact ⟨h1,h2,by simp only [X.den,dOf_d];rw [←h3]⟩
   · cases h
 | sub x lo hi ih=>
   intro k h
   simp only [X.kd] at h
   split at h
   · rename_i cs hx
     cases h
     obtain ⟨-,h2,h3⟩:=ih hx
     have hc:(cs.flat&&cs.ok)=true:=h2
     have hd:dOf (x.den e)=.sl cs.len ((elsD (dOf (x.den e))).map cs.row):=by
      have:=congrArg dOf h3
      rwa [dOf_d,force_sl] at this
     have hels:elsD (dOf (x.den e))=(elsD (dOf (x.den e))).map cs.row:=by have:=congrArg elsD hd;rwa [elsD_s] at this
     have hsz:szD (dOf (x.den e))=cs.len:=by rw [hd];rfl
     obtain ⟨k1,k2,k3⟩:=SL (els:=((elsD (dOf (x.den e))).drop (intOf (lo.den e)).toNat).take ((intOf (hi.den e)).toNat-(intOf (lo.den e)).toNat)) hc (fun r hr=>by
      have hm:r∈(elsD (dOf (x.den e))).map cs.row:=by rw [←hels];exact List.mem_of_mem_drop (List.mem_of_mem_take hr)
      obtain ⟨r0,-,rfl⟩:=List.mem_map.1 hm
      simp only [Bool.and_eq_true] at hc
      exact (force_idem hc.2).2 r0 hc.1)
     refine ⟨k1,k2,?_⟩
     simp only [X.den,dOf_d,hsz]
     exact congrArg C.d k3
   · cases h
 | get k x i j=>
   intro k' h
   simp only [X.kd] at h
   split at h
   · rename_i hc
     cases h
     simp only [Bool.and_eq_true] at hc
     refine ⟨hc.1,hc.2,?_⟩
     simp only [X.den,dOf_d]
     rw [(force_idem hc.2).1 _ hc.1]
   · cases h
 | rgt k x i j=>
   intro k' h
   simp only [X.kd] at h
   split at h
   · rename_i hc
     cases h
     simp only [Bool.and_eq_true] at hc
     refine ⟨hc.1,hc.2,?_⟩
     simp only [X.den,dOf_d]
     rw [(force_idem hc.2).1 _ hc.1]
   · cases h
 | ite c x y _ ihx ihy=>
   intro k h
   simp only [X.kd] at h
   split at h
   · rename_i k1 k2 h1 h2
     split at h
     · rename_i hk
       cases h
       have hk:=beq_iff_eq.1 hk
       subst hk
       obtain ⟨a1,a2,a3⟩:=ihx h1
       obtain ⟨b1,b2,b3⟩:=ihy h2
       refine ⟨a1,a2,?_⟩
       simp only [X.den]
       split
       · exact a3
       · exact b3
     · cases h
   · cases h
 | _=>intro k h;first|(simp only [X.kd,reduceCtorEq] at h;done)|(simp only [X.kd,Option.some.injEq] at h;subst h;exact ⟨rfl,rfl,rfl⟩)
theorem kd_int{e:Env}{x:X}{k:IntKind}(h:x.kd=some (.int k)):x.den e=.d (.lit (.int k (intOf (x.den e)))):=(kd_ok h).2.2
theorem kd_bool{e:Env}{x:X}(h:x.kd=some .bool):x.den e=.d (.lit (.bool (boolOf (x.den e)))):=(kd_ok h).2.2
theorem kd_str{e:Env}{x:X}(h:x.kd=some .str):x.den e=.d (.lit (.string (strOf (x.den e)))):=(kd_ok h).2.2
theorem kd_sl{e:Env}{x:X}{cs:Ki}(h:x.kd=some (.sl cs)):cs.flat=true∧cs.ok=true∧x.den e=.d (.sl cs.len (elsOf (x.den e)))∧(elsOf (x.den e)).map cs.row=elsOf (x.den e):=by
 unfold elsOf
 obtain ⟨-,h2,h3⟩:=kd_ok (e:=e) h
 simp only [Ki.ok,Bool.and_eq_true] at h2
 have hd:dOf (x.den e)=.sl cs.len ((elsD (dOf (x.den e))).map cs.row):=by
  have:=congrArg dOf h3
  rwa [dOf_d,force_sl] at this
 have hels:elsD (dOf (x.den e))=(elsD (dOf (x.den e))).map cs.row:=by have:=congrArg elsD hd;rwa [elsD_s] at this
 refine ⟨h2.1,h2.2,?_,hels.symm⟩
 rw [force_sl,←hels] at h3
 exact h3
end Ow
