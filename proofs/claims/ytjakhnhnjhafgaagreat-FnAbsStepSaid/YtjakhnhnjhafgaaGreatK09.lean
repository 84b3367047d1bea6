/- A part of the proof. -/
import Derived.Test.YtjakhnhnjhafgaaGreatK08
set_option linter.unusedVariables false
set_option linter.unusedSimpArgs false
namespace Ow
open Go Go.RowKit Go.Deep
theorem fillFold_get(off:Nat):∀(l:List Value) (s:Nat) (cells:Array Value),off+s+l.length≤cells.size →
 ((l.zipIdx s).foldl (fun (cs:Array Value) (x:Value×Nat)=>cs.setIfInBounds (off+x.2) x.1) cells).size=cells.size ∧
 ∀ k,((l.zipIdx s).foldl (fun (cs:Array Value) (x:Value×Nat)=>cs.setIfInBounds (off+x.2) x.1) cells)[k]? = if off+s≤k∧k<off+s+l.length then l[k-(off+s)]? else cells[k]?:=by
 intro l
 induction l with
 | nil=>intro s cells h;exact ⟨rfl,fun k=>by rw [if_neg (by simp)];rfl⟩
 | cons v l ih=>
   intro s cells h
   simp only [List.zipIdx_cons,List.foldl_cons,List.length_cons] at h ⊢
   obtain ⟨h1,h2⟩:=ih (s+1) (cells.setIfInBounds (off+s) v) (by simp;omega)
   refine ⟨by rw [h1];simp,fun k=>?_⟩
   rw [h2 k,Array.getElem?_setIfInBounds]
   by_cases hk:k=off+s
   · subst hk
     rw [if_neg (by omega),if_pos rfl,if_pos (by omega),if_pos (by omega)]
     simp
   · by_cases hk2:off+s≤k∧k<off+s+(l.length+1)
     · rw [if_pos (by omega),if_pos hk2,show k-(off+s)=(k-(off+(s+1)))+1 by omega]
       rfl
     · rw [if_neg (by omega),if_neg hk2,if_neg (fun e=>hk e.symm)]
theorem fill1_get{off:Nat}{v:Value}{cells:Array Value}(h:off+v.cells.size≤cells.size):
 (v.cells.zipIdx.foldl (fun cs (c,j)=>cs.setIfInBounds (off+j) c) cells).size=cells.size ∧
 ∀ k,(v.cells.zipIdx.foldl (fun cs (c,j)=>cs.setIfInBounds (off+j) c) cells)[k]? = if off≤k∧k<off+v.cells.size then v.cells[k-off]? else cells[k]?:=by
 have:=fillFold_get off v.cells.toList 0 cells (by simpa using h)
 simp only [Nat.add_zero,Array.length_toList,Array.getElem?_toList] at this
 rw [←Array.foldl_toList,Array.toList_zipIdx]
 exact this
def fillC(place:Nat→Option (Nat×Nat))(cells:List C):List (Nat×C)→Option (List C)
 | []=>some cells
 | (i,c)::rest=>match place i,cellsC c with
   | some (off,size),some cs=>if cs.length=size∧off+cs.length≤cells.length then fillC place (putRow cells off cs) rest else none
   | _,_=>none
theorem putRow_len{row:List C}{j:Nat}{cs:List C}(h:j+cs.length≤row.length):(putRow row j cs).length=row.length:=by
 simp only [putRow,List.length_append,List.length_take,List.length_drop];omega
theorem fillC_ok{ρ:Pl}{RO:Nat→Prop}{w:World}{place:Nat→Option (Nat×Nat)}:∀(ps:List (Nat×C)) (vps:List (Nat×Value)) (cells:List C) (vs:Array Value) (res:List C),
 vps.length=ps.length→(∀(k:Nat) (p:Nat×C) (q:Nat×Value),ps[k]? = some p→vps[k]? = some q→q.1=p.1∧RelC ρ RO w p.2 q.2)→RelCs ρ RO w cells vs.toList→fillC place cells ps=some res →
 ∃ vs',Instr.fill place vs vps=some vs'∧RelCs ρ RO w res vs'.toList:=by
 intro ps
 induction ps with
 | nil=>
   intro vps cells vs res hl _ hc hf
   cases vps with
   | nil=>simp only [fillC,Option.some.injEq] at hf;subst hf;exact ⟨vs,rfl,hc⟩
   | cons q vps=>simp at hl
 | cons p ps ih=>
   intro vps cells vs res hl hp hc hf
   cases vps with
   | nil=>simp at hl
   | cons q vps=>
     obtain ⟨i,c⟩:=p
     obtain ⟨i',v⟩:=q
     obtain ⟨hi,hv⟩:=hp 0 _ _ rfl rfl
     simp only at hi hv
     subst hi
     simp only [fillC] at hf
     split at hf
     · rename_i off size cs hpl hcc
       split at hf
       · rename_i hcond
         have h1:=hv.cells hcc
         have hlen:v.cells.size=cs.length:=by rw [←Array.length_toList];exact h1.len
         have hvs:vs.size=cells.length:=by rw [←Array.length_toList];exact hc.len
         obtain ⟨g1,g2⟩:=fill1_get (off:=off) (v:=v) (cells:=vs) (by omega)
         refine (ih vps (putRow cells off cs) (v.cells.zipIdx.foldl (fun cs (c,j)=>cs.setIfInBounds (off+j) c) vs) res (by simpa using hl) (fun k p q h1 h2=>hp (k+1) p q h1 h2) ⟨?_,?_,?_⟩ hf).imp (fun vs' hh=>⟨?_,hh.2⟩)
         · rw [Array.length_toList,g1,putRow_len hcond.2,hvs]
         · intro u hu
           obtain ⟨k,hk,he⟩:=List.getElem_of_mem hu
           have:(v.cells.zipIdx.foldl (fun cs (c,j)=>cs.setIfInBounds (off+j) c) vs)[k]? = some u:=by rw [←Array.getElem?_toList,List.getElem?_eq_getElem hk,he]
           rw [g2 k] at this
           split at this
           · exact h1.one u (by rw [←Array.getElem?_toList] at this;exact List.mem_of_getElem? this)
           · exact hc.one u (by rw [←Array.getElem?_toList] at this;exact List.mem_of_getElem? this)
         · intro k x u hx hu
           rw [Array.getElem?_toList,g2 k] at hu
           rw [putRow_get hcond.2] at hx
           by_cases h3:off≤k∧k<off+v.cells.size
           · rw [if_pos h3,←Array.getElem?_toList] at hu
             rw [if_neg (by omega),if_pos (by omega)] at hx
             exact h1.rel _ x u hx hu
           · rw [if_neg h3,←Array.getElem?_toList] at hu
             have:cells[k]? = some x:=by
              by_cases h4:k<off
              · rw [if_pos h4] at hx;exact hx
              · rw [if_neg h4,if_neg (by omega)] at hx;exact hx
             exact hc.rel _ x u this hu
         · simp only [Instr.fill,hpl]
           rw [if_neg (by simp;omega)]
           exact hh.1
       · cases hf
     · cases hf
section
variable {P:Program} {o:Oper} {ev:Operand→C}
def placeT(P:Program)(t:TypeId):Option (Nat→Option (Nat×Nat)):=match P.underlying t with
 | some (.struct fs)=>(fs.toList.mapM (fun f=>(szT P f.type).map (f.offset,·))).map (fun l i=>l[i]?)
 | some (.array _ e)=>(szT P e).map (fun s i=>some (i*s,s))
 | _=>none
theorem run_places{w:World}:∀(fs:List Field) (l:List (Nat×Nat)),fs.mapM (fun f=>(szT P f.type).map (f.offset,·))=some l →
 (fs.mapM (m:=Sem) (fun f=>do pure (f.offset,←Go.sizeOf f.type))).run P w=.ok l w:=by
 intro fs
 induction fs with
 | nil=>intro l h;simp at h;subst h;simp
 | cons f fs ih=>
   intro l h
   simp only [List.mapM_cons] at h
   cases hf:szT P f.type with
   | none=>rw [hf] at h;simp at h
   | some n=>
     rw [hf] at h
     cases hr:fs.mapM (fun f=>(szT P f.type).map (f.offset,·)) with
     | none=>rw [hr] at h;simp at h
     | some l'=>
       rw [hr] at h
       simp at h
       subst h
       unfold szT at hf
       cases hi:P.info? f.type with
       | none=>rw [hi] at hf;cases hf
       | some ti=>
         rw [hi] at hf
         simp only [Option.map_some,Option.some.injEq] at hf
         have h1:(do pure (f.offset,←Go.sizeOf f.type):Sem (Nat×Nat)).run P w=.ok (f.offset,n) w:=by simp [Go.sizeOf,typeInfo,hi,hf]
         rw [List.mapM_cons,Sem.run_bind,h1]
         simp only [Result.andThen_ok,Sem.run_bind,ih l' hr,Sem.run_pure]
def zeroC(P:Program)(t:TypeId):Option (List C):=((P.info? t).bind (·.zero)).bind (fun z=>cellsC (.d (.lit z)))
theorem run_build{t:TypeId}{ρ:Pl}{RO:Nat→Prop}{w:World}{place:Nat→Option (Nat×Nat)}{zs res:List C}{ps:List (Nat×C)}{vps:Array (Nat×Value)}(hp:placeT P t=some place)(hz:zeroC P t=some zs)
 (hf:fillC place zs ps=some res) (hl:vps.size=ps.length) (hr:∀(k:Nat) (p:Nat×C) (q:Nat×Value),ps[k]? = some p→vps[k]? = some q→q.1=p.1∧RelC ρ RO w p.2 q.2) :
 ∃ vs:Array Value,(Instr.build t vps).run P w=.ok (.agg vs) w∧RelCs ρ RO w res vs.toList:=by
 unfold zeroC at hz
 cases hi:P.info? t with
 | none=>rw [hi] at hz;cases hz
 | some ti =>
   rw [hi] at hz
   simp only [Option.bind_some] at hz
   cases hz0:ti.zero with
   | none=>rw [hz0] at hz;cases hz
   | some z =>
     rw [hz0] at hz
     simp only [Option.bind_some] at hz
     have hzr:=(RelC.lit' (ρ:=ρ) (RO:=RO) (w:=w) z).cells hz
     obtain ⟨vs,h1,h2⟩:=fillC_ok ps vps.toList zs z.cells res (by simpa using hl) (fun k p q a b=>hr k p q a (by simpa using b)) hzr hf
     refine ⟨vs,?_,h2⟩
     unfold placeT at hp
     split at hp
     · rename_i fs hfs
       cases hm:fs.toList.mapM (fun f=>(szT P f.type).map (f.offset,·)) with
       | none=>rw [hm] at hp;cases hp
       | some l=>
         rw [hm] at hp
         simp only [Option.map_some,Option.some.injEq] at hp
         have hrun:=run_places (P:=P) (w:=w) fs.toList l hm
         have hrun':(fs.mapM (m:=Sem) (fun f=>do pure (f.offset,←Go.sizeOf f.type))).run P w=.ok l.toArray w:=by
          rw [←Array.toArray_toList (xs:=fs),List.mapM_toArray]
          simp only [Sem.run_map,hrun]
          rfl
         have e:(fun x=>l.toArray[x]?)=place:=by rw [←hp];funext i;simp
         simp only [Instr.build,zeroValue,typeInfo,hi,hz0,run_underlying hfs,Sem.run_bind,Sem.run_pure,Result.andThen_ok,run_program,hrun',e,h1]
     · rename_i n e he
       cases hs:szT P e with
       | none=>rw [hs] at hp;cases hp
       | some s=>
         rw [hs] at hp
         simp only [Option.map_some,Option.some.injEq] at hp
         unfold szT at hs
         cases hie:P.info? e with
         | none=>rw [hie] at hs;cases hs
         | some tie=>
           rw [hie] at hs
           simp only [Option.map_some,Option.some.injEq] at hs
           subst hs hp
           simp only [Instr.build,zeroValue,typeInfo,hi,hie,hz0,run_underlying he,Go.sizeOf,Sem.run_bind,Sem.run_pure,Result.andThen_ok,run_program,h1]
     · cases hp
theorem evMap_get{ps:Array (Nat×Operand)}{a:Act}{k:Nat}{p:Nat×C}{q:Nat×Value}(h1:(ps.toList.map (fun x=>(x.1,ev x.2)))[k]? = some p)(h2:(ps.map (fun (i,x)=>(i,a.eval x)))[k]? = some q):∃x,ps[k]? = some x∧p=(x.1,ev x.2)∧q=(x.1,a.eval x.2):=by
 rw [List.getElem?_map] at h1
 rw [Array.getElem?_map] at h2
 rw [Array.getElem?_toList] at h1
 cases hx:ps[k]? with
 | none=>rw [hx] at h1;cases h1
 | some x=>
   rw [hx] at h1 h2
   simp only [Option.map_some,Option.some.injEq] at h1 h2
   exact ⟨x,rfl,h1.symm,h2.symm⟩
theorem OpT.build{t:TypeId}{ps:Array (Nat×Operand)}{place:Nat→Option (Nat×Nat)}{zs res:List C}(ho:o.op=.build t ps)(hp:placeT P t=some place)(hz:zeroC P t=some zs)
 (hf:fillC place zs (ps.toList.map (fun x=>(x.1,ev x.2)))=some res):OpT P o ev ⟨[],[],[],.agg res⟩:=
 .read [] _ fun ρ F RO w a _ hr=>by
  obtain ⟨vs,h1,h2⟩:=run_build (P:=P) (w:=w) (ρ:=ρ) (RO:=RO) (vps:=ps.map (fun (i,x)=>(i,a.eval x))) hp hz hf (by simp) (fun k p q hk hq=>by
   obtain ⟨x,hx,rfl,rfl⟩:=evMap_get hk hq
   exact ⟨rfl,hr x.2 (by rw [ho];simp only [Op.operands,List.mem_toArray,List.mem_map];exact ⟨x,by simpa using Array.mem_of_getElem? hx,rfl⟩)⟩)
  refine ⟨.agg vs,?_,by have:=RelC.agg (ρ:=ρ) (RO:=RO) (w:=w) res vs.toList h2.len h2.one h2.rel;simpa using this⟩
  unfold execOp;rw [ho];simp only [Sem.run_bind,h1,Result.andThen_ok,Sem.run_pure]
def rowsOf(sz:Nat):Nat→List C→List (List C)
 | 0,_=>[]
 | n+1,cs=>cs.take sz::rowsOf sz n (cs.drop sz)
theorem rowsOf_at2{sz:Nat}:∀(n:Nat) (cs:List C) (i j:Nat) (c:C),at2 (rowsOf sz n cs) i j=some c→cs[i*sz+j]? = some c:=by
 intro n
 induction n with
 | zero=>intro cs i j c h;simp [rowsOf,at2] at h
 | succ n ih=>
   intro cs i j c h
   cases i with
   | zero=>
     simp only [rowsOf,at2,List.getElem?_cons_zero,Option.bind_some,List.getElem?_take] at h
     split at h
     · simpa using h
     · cases h
   | succ i=>
     have:=ih (cs.drop sz) i j c (by simpa [rowsOf,at2] using h)
     rw [List.getElem?_drop] at this
     rw [Nat.succ_mul,show i*sz+sz+j=sz+(i*sz+j) by omega];exact this
theorem rowsOf_len{sz:Nat}:∀(n:Nat) (cs:List C),cs.length=n*sz→(rowsOf sz n cs).length=n∧∀r∈rowsOf sz n cs,r.length=sz:=by
 intro n
 induction n with
 | zero=>intro cs _;exact ⟨rfl,by simp [rowsOf]⟩
 | succ n ih=>
   intro cs h
   rw [Nat.succ_mul] at h
   obtain ⟨h1,h2⟩:=ih (cs.drop sz) (by rw [List.length_drop];omega)
   refine ⟨by simp [rowsOf,h1],fun r hr=>?_⟩
   simp only [rowsOf,List.mem_cons] at hr
   rcases hr with rfl|hr
   · rw [List.length_take];omega
   · exact h2 r hr
def rep(n:Nat)(zs:List C):List C:=(List.replicate n zs).flatten
theorem rep_get{zs:List C}:∀(n k:Nat),k<n*zs.length→(rep n zs)[k]? = zs[k % zs.length]?:=by
 intro n
 induction n with
 | zero=>intro k h;simp at h
 | succ n ih=>
   intro k h
   rw [Nat.succ_mul] at h
   simp only [rep,List.replicate_succ,List.flatten_cons]
   by_cases hk:k<zs.length
   · rw [List.getElem?_append_left hk,Nat.mod_eq_of_lt hk]
   · rw [List.getElem?_append_right (by omega)]
     have:=ih (k-zs.length) (by omega)
     simp only [rep] at this
     have e:k % zs.length=(k-zs.length) % zs.length:=Nat.mod_eq_sub_mod (by omega)
     rw [this,e]
theorem rep_len(n:Nat)(zs:List C):(rep n zs).length=n*zs.length:=by
 induction n with
 | zero=>simp [rep]
 | succ n ih=>simp only [rep,List.replicate_succ,List.flatten_cons,List.length_append] at ih ⊢;rw [ih,Nat.succ_mul];omega
theorem zeros_rel{ρ:Pl}{RO:Nat→Prop}{w:World}{z:Value}{zs:List C}(hz:cellsC (.d (.lit z))=some zs)(n:Nat)(hpos:0<zs.length):
 RelCs ρ RO w (rep n zs) ((Array.range (n*zs.length)).map (fun i=>z.cells[i % z.cells.size]!)).toList:=by
 have h1:=(RelC.lit' (ρ:=ρ) (RO:=RO) (w:=w) z).cells hz
 have hs:z.cells.size=zs.length:=by rw [←Array.length_toList];exact h1.len
 have hg:∀k,z.cells.toList[k % zs.length]? = some z.cells[k % z.cells.size]!:=fun k=>by
  have hlt:k % zs.length<z.cells.size:=by rw [hs];exact Nat.mod_lt _ hpos
  rw [Array.getElem?_toList,hs,Array.getElem?_eq_getElem hlt,getElem!_pos z.cells (k % zs.length) hlt]
 refine ⟨by simp [rep_len],fun u hu=>?_,fun k c u hc hu=>?_⟩
 · simp only [Array.toList_map,List.mem_map] at hu
   obtain ⟨k,-,rfl⟩:=hu
   exact h1.one _ (List.mem_of_getElem? (hg k))
 · have hk:k<n*zs.length:=by have:=(List.getElem?_eq_some_iff.1 hc).1;rwa [rep_len] at this
   rw [rep_get n k hk] at hc
   simp only [Array.toList_map,List.getElem?_map,Array.toList_range] at hu
   rw [List.getElem?_range hk] at hu
   simp only [Option.map_some,Option.some.injEq] at hu
   subst hu
   exact h1.rel _ c _ hc (hg k)
theorem OpT.buildSlice(l:Nat){t e:TypeId}{n sz:Nat}{ps:Array (Nat×Operand)}{zs res:List C}(ho:o.op=.buildSlice t n ps)(hu:P.underlying t=some (.slice e))(hs:szT P e=some sz)(hz:zeroC P e=some zs)(hzl:zs.length=sz)(hpos:0<sz)
 (hlim:n*sz≤16777216) (hf:fillC (fun i=>some (i*sz,sz)) (rep n zs) (ps.toList.map (fun x=>(x.1,ev x.2)))=some res) (hrl:res.length=n*sz) :
 OpT P o ev ⟨[],[l],[(l,.c sz (rowsOf sz n res))],.osl l sz 0 n⟩:=
 .new1 l _ _ _ fun ρ RO w a hr=>by
  unfold zeroC at hz
  cases hi:P.info? e with
  | none=>rw [hi] at hz;cases hz
  | some ti =>
    rw [hi] at hz
    simp only [Option.bind_some] at hz
    cases hz0:ti.zero with
    | none=>rw [hz0] at hz;cases hz
    | some z=>
      rw [hz0] at hz
      simp only [Option.bind_some] at hz
      have hsz:ti.size=sz:=by unfold szT at hs;rw [hi] at hs;simpa using hs
      have hz1:=zeros_rel (ρ:=ρ) (RO:=RO) (w:=w) hz n (by omega)
      rw [hzl] at hz1
      obtain ⟨vs,h1,h2⟩:=fillC_ok (w:=w) (ρ:=ρ) (RO:=RO) (ps.toList.map (fun x=>(x.1,ev x.2))) (ps.map (fun (i,x)=>(i,a.eval x))).toList _ _ res (by simp) (fun k p q hk hq=>by
       obtain ⟨x,hx,rfl,rfl⟩:=evMap_get hk (by simpa using hq)
       exact ⟨rfl,hr x.2 (by rw [ho];simp only [Op.operands,List.mem_toArray,List.mem_map];exact ⟨x,by simpa using Array.mem_of_getElem? hx,rfl⟩)⟩) hz1 hf
      have hvs:vs.size=n*sz:=by rw [←Array.length_toList,h2.len,hrl]
      obtain ⟨hrl1,hrl2⟩:=rowsOf_len n res hrl
      refine ⟨w,vs,e,.slice (some ⟨w.heap.size,0,none⟩) n n,.inl rfl,?_,hrl2,fun i j c hc=>?_,fun ρ' w' hp=>?_⟩
      · have hlim':¬(n*sz > 2 ^ 24):=by omega
        unfold execOp;rw [ho]
        by_cases hn0:n*sz=0
        · have hn:n=0:=by rcases Nat.mul_eq_zero.1 hn0 with h|h<;>omega
          have e0:∀f:Nat→Value,(Array.range (n*sz)).map f=#[]:=fun f=>by rw [hn0];simp
          simp only [e0] at h1
          simp only [Instr.buildSlice,run_underlying hu,Go.sizeOf,typeInfo,hi,hsz,newRow,Sem.run_bind,Result.andThen_ok,Sem.run_pure,run_program,if_neg hlim',if_pos hn0,e0,h1,run_newObj]
          rfl
        · simp only [Instr.buildSlice,run_underlying hu,Go.sizeOf,typeInfo,hi,hsz,newRow,Sem.run_bind,Result.andThen_ok,Sem.run_pure,run_program,if_neg hlim',if_neg hn0,zeroValue,hz0,h1,run_newObj]
          rfl
      · have:=rowsOf_at2 n res i j c hc
        have hk:i*sz+j<vs.size:=by rw [hvs,←hrl];exact (List.getElem?_eq_some_iff.1 this).1
        have hg:vs.toList[i*sz+j]? = some vs[i*sz+j]:=by rw [Array.getElem?_toList];exact Array.getElem?_eq_getElem hk
        exact ⟨_,Array.getElem?_eq_getElem hk,h2.one _ (List.mem_of_getElem? hg),h2.rel _ c _ this hg⟩
      · by_cases hn0:n=0
        · subst hn0;exact .osln l sz 0 _
        · have hmax:n≤maxLen:=by
           have:n*1≤n*sz:=Nat.mul_le_mul_left n hpos
           unfold maxLen;omega
          have:=RelC.osl (RO:=RO) (w:=w') l sz 0 n n _ hp (Nat.le_refl n) hmax (by simp;omega)
          simpa using this
def lenC : C→Option Nat
 | .osl _ _ _ n=>some n
 | .d (.sl _ els)=>some els.length
 | .d (.lit (.slice _ n _))=>some n
 | .d (.lit (.string s))=>some s.size
 | _=>none
theorem lenC_val{ρ:Pl}{RO:Nat→Prop}{w:World}{c:C}{v:Value}{n:Nat}(h:RelC ρ RO w c v)(hn:lenC c=some n):(∃A cap,v=.slice A n cap)∨∃s,v=.string s∧s.size=n:=by
 cases h with
 | d x v h=>
   cases h with
   | lit v=>
     cases v<;>simp only [lenC,reduceCtorEq,Option.some.injEq] at hn
     · exact .inr ⟨_,rfl,hn⟩
     · subst hn;exact .inl ⟨_,_,rfl⟩
   | nil sz A cap h=>simp only [lenC,List.length_nil,Option.some.injEq] at hn;subst hn;exact .inl ⟨_,_,rfl⟩
   | sl=>simp only [lenC,Option.some.injEq] at hn;subst hn;exact .inl ⟨_,_,rfl⟩
   | _=>simp [lenC] at hn
 | osl=>simp only [lenC,Option.some.injEq] at hn;subst hn;exact .inl ⟨_,_,rfl⟩
 | osln=>simp only [lenC,Option.some.injEq] at hn;subst hn;exact .inl ⟨_,_,rfl⟩
 | _=>simp [lenC] at hn
def isStrC : C→Bool
 | .d (.lit (.string _))=>true
 | _=>false
def lenT(P:Program)(t:TypeId):Option Bool:=match P.underlying t with
 | some (.slice _)=>some false
 | some .string=>some true
 | _=>none
theorem OpT.len{t:TypeId}{x:Operand}{n:Nat}{c:C}(ho:o.op=.call { callee:=.builtin .len,args:=#[x],argTypes:=#[t] })(hx:ev x=c)(ht:lenT P t=some (isStrC c))(hn:lenC c=some n):
 OpT P o ev ⟨[],[],[],.d (.lit (.int .i64 n))⟩:=
 .read [] _ fun ρ F RO w a _ hr=>by
  have h1:=hx▸hr x (by rw [ho];simp [Op.operands,Call.operands])
  refine ⟨.int .i64 n,?_,.lit' _⟩
  unfold lenT at ht
  unfold execOp;rw [ho]
  rcases lenC_val h1 hn with ⟨A,cap,hv⟩|⟨s,hv,hs⟩
  · split at ht
    · rename_i e he
      simp [resolve,invoke,builtin,Builtin.len_,run_underlying he,goInt,hv]
    · rename_i he
      rw [hv] at h1
      have:isStrC c=true:=by simpa using ht.symm
      unfold isStrC at this
      split at this
      · cases h1 with
        | d x v h=>cases h
      · cases this
    · cases ht
  · split at ht
    · rename_i e he
      rw [hv] at h1
      have:isStrC c=false:=by simpa using ht.symm
      cases h1 with
      | d x v h=>cases h;simp [isStrC] at this
      | dead=>simp [lenC] at hn
    · rename_i he
      simp [resolve,invoke,builtin,Builtin.len_,run_underlying he,goInt,hv,hs]
    · cases ht
theorem OpT.max{ts:Array TypeId}{x y:Operand}{k k':IntKind}{p q:Int}(ho:o.op=.call { callee:=.builtin .max,args:=#[x,y],argTypes:=ts })(hx:ev x=.d (.lit (.int k p)))(hy:ev y=.d (.lit (.int k' q))):
 OpT P o ev ⟨[],[],[],.d (.lit (.int k (if q > p then q else p)))⟩:=
 .read [] _ fun ρ F RO w a _ hr=>by
  have h1:=(hx▸hr x (by rw [ho];simp [Op.operands,Call.operands])).lit_eq
  have h2:=(hy▸hr y (by rw [ho];simp [Op.operands,Call.operands])).lit_eq
  refine ⟨_,?_,.lit' _⟩
  unfold execOp;rw [ho];simp [resolve,invoke,builtin,Builtin.max_,Builtin.max2,h1,h2]
theorem OpT.min{ts:Array TypeId}{x y:Operand}{k k':IntKind}{p q:Int}(ho:o.op=.call { callee:=.builtin .min,args:=#[x,y],argTypes:=ts })(hx:ev x=.d (.lit (.int k p)))(hy:ev y=.d (.lit (.int k' q))):
 OpT P o ev ⟨[],[],[],.d (.lit (.int k (if q<p then q else p)))⟩:=
 .read [] _ fun ρ F RO w a _ hr=>by
  have h1:=(hx▸hr x (by rw [ho];simp [Op.operands,Call.operands])).lit_eq
  have h2:=(hy▸hr y (by rw [ho];simp [Op.operands,Call.operands])).lit_eq
  refine ⟨_,?_,.lit' _⟩
  unfold execOp;rw [ho];simp [resolve,invoke,builtin,Builtin.min_,Builtin.min2,h1,h2]
end
end Ow
namespace Ow
open Go Go.RowKit Go.Deep
def get1(l:Nat)(B:Blk)(x:Nat):Option Blk:=if x=l then some B else none
def plSet(ρ:Pl)(l:Nat)(p:Place):Pl:=fun x=>if x=l then some p else ρ x
theorem plSet_le{ρ:Pl}{l:Nat}(h:ρ l=none)(p:Place):∀x q,ρ x=some q→plSet ρ l p x=some q:=fun x q hq=>by
 unfold plSet;rw [if_neg (fun e=>by subst e;rw [h] at hq;cases hq)];exact hq
theorem ext_gen{m:Nat}{ρ:Pl}{F:Nat→List Nat}{RO:Nat→Prop}{h:Nat→Option Blk}{w w':World}{l':Nat}{p':Place}{B':Blk}{G:List Nat}(hs:Sim ρ F RO h w)(hl:ρ l'=none)(hm:m≤l')(hc:ChgP (foot F h) w w')
 (hB:RelB (plSet ρ l' p') RO w' p' B' G) (hG:∀b∈G,foot F h b∨w.heap.size≤b):Ext m ρ F RO h w (plSet ρ l' p') (fun x=>if x=l' then G else F x) RO (get1 l' B') w':=by
 refine ⟨hc,fun x hx=>?_,fun _ h=>h,fun _ h=>.inl h,⟨?_,?_,?_,?_⟩,?_⟩
 · unfold plSet;rw [if_neg (by omega)]
 · intro x B hx
   unfold get1 at hx
   split at hx
   · rename_i e
     subst e
     simp only [Option.some.injEq] at hx
     subst hx
     exact ⟨p',by simp [plSet],by simpa using hB⟩
   · cases hx
 · intro x x' B B2 hne hx hx'
   unfold get1 at hx hx'
   split at hx
   · split at hx'
     · rename_i e e';exact absurd (e.trans e'.symm) hne
     · cases hx'
   · cases hx
 · intro x B hx b hb hro
   unfold get1 at hx
   split at hx
   · rename_i e
     subst e
     simp only [if_true] at hb
     rcases hG b hb with ⟨y,By,hy,hyb⟩|h1
     · exact hs.nro y By hy b hyb hro
     · exact absurd (hs.ro b hro) (Nat.not_lt.2 h1)
   · cases hx
 · intro b hb
   exact Nat.lt_of_lt_of_le (hs.ro b hb) hc.size
 · rintro b ⟨x,B,hx,hb⟩
   unfold get1 at hx
   split at hx
   · rename_i e
     subst e
     simp only [if_true] at hb
     exact hG b hb
   · cases hx
inductive Src (pre:Hp) (sz:Nat):C→List (List C)→Prop
 | osl (l s m:Nat) (rows:List (List C)) (h:pre.get l=some (.c sz rows)) (hl:s+m≤rows.length):Src pre sz (.osl l sz s m) ((rows.drop s).take m)
 | sl (els:List (List D)):Src pre sz (.d (.sl sz els)) (els.map (·.map .d))
 | nil:Src pre sz (.d (.lit (.slice none 0 0))) []
structure Vals (ρ:Pl) (RO:Nat→Prop) (w:World) (sz:Nat) (ad:Addr) (rs:List (List C)) (news:List Value):Prop where
 len:news.length=rs.length*sz
 cell:∀(j:Nat) (u:Value),news[j]? = some u→w.cell? (ad.add j)=some u
 one:∀u∈news,u.oneCell'=true
 rel:∀i j c,at2 rs i j=some c→∃u,news[i*sz+j]? = some u∧RelC ρ RO w c u
 rows:∀r∈rs,r.length=sz
theorem at2_sub{α:Type}{rows:List (List α)}{s m i j:Nat}{c:α}(h:at2 ((rows.drop s).take m) i j=some c):i<m∧at2 rows (s+i) j=some c:=by
 unfold at2 at h ⊢
 rw [List.getElem?_take] at h
 split at h
 · rename_i hi;rw [List.getElem?_drop] at h;exact ⟨hi,h⟩
 · cases h
theorem rows_fit{rows:List (List C)}{sz:Nat}{cs:Array Value}(hr:∀r∈rows,r.length=sz)(hcell:∀i j c,at2 rows i j=some c→∃u,cs[i*sz+j]? = some u):rows.length*sz≤cs.size:=by
 by_cases hz:sz=0
 · subst hz;simp
 · by_cases hn:rows.length=0
   · rw [hn];simp
   · have hi:rows.length-1<rows.length:=by omega
     have hl:=hr rows[rows.length-1] (List.getElem_mem hi)
     obtain ⟨u,hu⟩:=hcell (rows.length-1) (sz-1) _ (at2_of hi (by omega))
     have:=(Array.getElem?_eq_some_iff.1 hu).1
     have e:rows.length*sz=(rows.length-1)*sz+sz:=by rw [←Nat.succ_mul];congr 1;omega
     omega
theorem Src.vals{pre:Hp}{sz:Nat}{c:C}{rs:List (List C)}{ρ:Pl}{F:Nat→List Nat}{RO:Nat→Prop}{w:World}{v:Value}(h:Src pre sz c rs)(hs:Sim ρ F RO pre.get w)(hc:RelC ρ RO w c v):
 ∃ A cap,v=.slice A rs.length cap∧(rs≠[]→∃ad news,A=some ad∧Vals ρ RO w sz ad rs news):=by
 cases h with
 | nil=>
   have:=hc.lit_eq
   subst this
   exact ⟨none,0,rfl,fun h=>absurd rfl h⟩
 | sl els =>
   cases hc with
   | d x v h =>
     cases h with
     | nil sz A cap h=>exact ⟨A,cap,rfl,fun h=>absurd rfl h⟩
     | sl sz els b off cap U hb hn hc hr cell one rel=>
       refine ⟨some ⟨b,off,none⟩,cap,by simp,fun _=>⟨_,(List.range (els.length*sz)).map (fun k=>U (k / sz) (k % sz)),rfl,?_⟩⟩
       have hat:∀k,k<els.length*sz→∃x,at2 els (k / sz) (k % sz)=some x:=fun k hk=>by
        have hz:0<sz:=by rcases Nat.eq_zero_or_pos sz with h|h;subst h;simp at hk;exact h
        have hi:k / sz<els.length:=Nat.div_lt_of_lt_mul (by rw [Nat.mul_comm];exact hk)
        exact ⟨_,at2_of hi (by rw [hr _ (List.getElem_mem hi)];exact Nat.mod_lt _ hz)⟩
       refine ⟨by simp,fun k u hu=>?_,fun u hu=>?_,fun i j c hc=>?_,fun r hr'=>?_⟩
       · rw [List.getElem?_map] at hu
         by_cases hk:k<els.length*sz
         · rw [List.getElem?_range hk] at hu
           simp only [Option.map_some,Option.some.injEq] at hu
           subst hu
           obtain ⟨x,hx⟩:=hat k hk
           have:=cell _ _ x hx
           rw [addr_add,←this,Nat.add_assoc,Nat.mul_comm,Nat.div_add_mod]
         · rw [List.getElem?_eq_none (by simpa using hk)] at hu;cases hu
       · obtain ⟨k,hk,rfl⟩:=List.mem_map.1 hu
         obtain ⟨x,hx⟩:=hat k (List.mem_range.1 hk)
         exact one _ _ x hx
       · have hx:∃x,at2 els i j=some x∧c=.d x:=by
          unfold at2 at hc
          rw [List.getElem?_map] at hc
          cases he:els[i]? with
          | none=>rw [he] at hc;cases hc
          | some r=>
            rw [he] at hc
            simp only [Option.map_some,Option.bind_some,List.getElem?_map] at hc
            cases hrj:r[j]? with
            | none=>rw [hrj] at hc;cases hc
            | some x=>rw [hrj] at hc;simp only [Option.map_some,Option.some.injEq] at hc;exact ⟨x,by simp [at2,he,hrj],hc.symm⟩
         obtain ⟨x,hx,rfl⟩:=hx
         obtain ⟨hi,hj,-⟩:=at2_lt hx
         rw [hr _ (List.getElem_mem hi)] at hj
         have hk:i*sz+j<els.length*sz:=by
          have:(i+1)*sz≤els.length*sz:=Nat.mul_le_mul_right _ hi
          rw [Nat.succ_mul] at this;omega
         refine ⟨U i j,?_,.d _ _ (rel i j x hx)⟩
         rw [List.getElem?_map,List.getElem?_range hk]
         have hz:0<sz:=by omega
         have e1:(i*sz+j) / sz=i:=by rw [Nat.mul_comm,Nat.mul_add_div hz,Nat.div_eq_of_lt hj,Nat.add_zero]
         have e2:(i*sz+j) % sz=j:=by rw [Nat.mul_comm,Nat.mul_add_mod,Nat.mod_eq_of_lt hj]
         simp [e1,e2]
       · obtain ⟨r0,h0,rfl⟩:=List.mem_map.1 hr'
         rw [List.length_map];exact hr r0 h0
 | osl l s m rows hg hl=>
   have hlen:((rows.drop s).take m).length=m:=by rw [List.length_take,List.length_drop];omega
   rw [hlen]
   cases hc with
   | osln l sz s A=>exact ⟨A,0,rfl,fun h=>absurd (by simp) h⟩
   | osl l sz s n cap p hp hn hc hm=>
     refine ⟨some ⟨p.blk,s*sz,none⟩,cap,rfl,fun hne=>?_⟩
     obtain ⟨p',hp',hB⟩:=hs.blk l _ hg
     have:p'=p:=by rw [hp] at hp';injection hp' with e;exact e.symm
     subst this
     generalize F l=G at hB
     cases hB with
     | v sz hsz=>simp at hne
     | c sz rows cs t hb hsz hr U cell one rel=>
       have hfit:=rows_fit (cs:=cs) hr (fun i j c hc=>⟨_,cell i j c hc⟩)
       have hle:(s+m)*sz≤cs.size:=Nat.le_trans (Nat.mul_le_mul_right _ hl) hfit
       have e1:(s+m)*sz=s*sz+m*sz:=Nat.add_mul ..
       refine ⟨_,(cs.toList.drop (s*sz)).take (m*sz),rfl,by rw [List.length_take,List.length_drop,Array.length_toList,hlen];omega,fun j u hu=>?_,fun u hu=>?_,fun i j c hc=>?_,fun r hr'=>?_⟩
       · rw [List.getElem?_take] at hu
         split at hu
         · rw [List.getElem?_drop,Array.getElem?_toList] at hu
           rw [addr_add,cell_of_row w p'.blk _ cs t (0,0) hb];exact hu
         · cases hu
       · obtain ⟨k,hk,he⟩:=List.getElem_of_mem hu
         rw [List.length_take,List.length_drop,Array.length_toList] at hk
         have hz:0<sz:=by rcases Nat.eq_zero_or_pos sz with h|h;subst h;simp at hk;exact h
         have hi:s+k / sz<rows.length:=by
          have:k / sz<m:=Nat.div_lt_of_lt_mul (by rw [Nat.mul_comm];omega)
          omega
         have hj:k % sz<rows[s+k / sz].length:=by rw [hr _ (List.getElem_mem hi)];exact Nat.mod_lt _ hz
         have h1:=cell _ _ _ (at2_of hi hj)
         have h2:=one _ _ _ (at2_of hi hj)
         have h3:((cs.toList.drop (s*sz)).take (m*sz))[k]? = some u:=by rw [←he];exact List.getElem?_eq_getElem _
         rw [List.getElem?_take,if_pos (by omega),List.getElem?_drop,Array.getElem?_toList] at h3
         have e2:(s+k / sz)*sz+k % sz=s*sz+k:=by rw [Nat.add_mul,Nat.add_assoc,Nat.mul_comm (k / sz),Nat.div_add_mod]
         rw [e2,h3] at h1
         injection h1 with h1
         rw [h1];exact h2
       · obtain ⟨him,h1⟩:=at2_sub hc
         obtain ⟨hi,hj,-⟩:=at2_lt h1
         rw [hr _ (List.getElem_mem hi)] at hj
         have hk:i*sz+j<m*sz:=by
          have:(i+1)*sz≤m*sz:=Nat.mul_le_mul_right _ him
          rw [Nat.succ_mul] at this;omega
         refine ⟨U (s+i) j,?_,rel _ _ _ h1⟩
         rw [List.getElem?_take,if_pos hk,List.getElem?_drop,Array.getElem?_toList,←cell _ _ _ h1]
         congr 1
         rw [Nat.add_mul];omega
       · exact hr r (List.mem_of_mem_drop (List.mem_of_mem_take hr'))
def elOk(P:Program)(t sz bytes:Nat):Bool:=match P.underlying t with
 | some (.slice e)=>match P.info? e with
   | some ti=>ti.size==sz&&ti.bytes==bytes&&decide (0<sz)&&decide (0<bytes)&&(match ti.zero with|some z=>z.cells.size==sz|none=>false)
   | none=>false
 | _=>false
theorem elOk_spec{P:Program}{t sz bytes:Nat}(h:elOk P t sz bytes=true):∃e ti z,P.underlying t=some (.slice e)∧P.info? e=some ti∧ti.size=sz∧ti.bytes=bytes∧0<sz∧0<bytes∧ti.zero=some z∧z.cells.size=sz:=by
 unfold elOk at h
 split at h
 · rename_i e he
   split at h
   · rename_i ti hi
     simp only [Bool.and_eq_true,beq_iff_eq,decide_eq_true_eq] at h
     obtain ⟨⟨⟨⟨h1,h2⟩,h3⟩,h4⟩,h5⟩:=h
     split at h5
     · rename_i z hz;exact ⟨e,ti,z,he,hi,h1,h2,h3,h4,hz,by simpa using h5⟩
     · cases h5
   · cases h
 · cases h
theorem at2_append{rows rs:List (List C)}{i j:Nat}{c:C}(h:at2 (rows++rs) i j=some c):(i<rows.length∧at2 rows i j=some c)∨(rows.length≤i∧at2 rs (i-rows.length) j=some c):=by
 unfold at2 at h ⊢
 by_cases hi:i<rows.length
 · rw [List.getElem?_append_left hi] at h;exact .inl ⟨hi,h⟩
 · rw [List.getElem?_append_right (by omega)] at h;exact .inr ⟨by omega,h⟩
theorem relB_grown{ρ ρ':Pl}{RO:Nat→Prop}{w:World}{sz e:Nat}{rows rs:List (List C)}{olds news:List Value}{zs:Array Value}(hr:∀r∈rows,r.length=sz)(ho:olds.length=rows.length*sz)
 (hold:∀i j c,at2 rows i j=some c→∃u,olds[i*sz+j]? = some u∧u.oneCell'=true∧RelC ρ RO w c u) {ad:Addr} (hv:Vals ρ RO w sz ad rs news) (hro:∀b,RO b→b<w.heap.size) (hle:∀l p,ρ l=some p→ρ' l=some p) :
 RelB ρ' RO (w.drew.alloc (.cells (olds.toArray++news.toArray++zs) e)) ⟨w.heap.size,(olds.toArray++news.toArray++zs).size⟩ (.c sz (rows++rs)) [w.heap.size]:=by
 have hget:∀i j c,at2 (rows++rs) i j=some c→∃u,(olds.toArray++news.toArray++zs)[i*sz+j]? = some u∧u.oneCell'=true∧RelC ρ RO w c u:=by
  intro i j c hc
  rcases at2_append hc with ⟨hi,h1⟩|⟨hi,h1⟩
  · obtain ⟨u,h2,h3,h4⟩:=hold i j c h1
    refine ⟨u,?_,h3,h4⟩
    have:=(List.getElem?_eq_some_iff.1 h2).1
    rw [Array.getElem?_append_left (by simp;omega),Array.getElem?_append_left (by simpa using this)]
    simpa using h2
  · obtain ⟨u,h2,h4⟩:=hv.rel _ j c h1
    have hk:=(List.getElem?_eq_some_iff.1 h2).1
    have e1:i*sz=rows.length*sz+(i-rows.length)*sz:=by rw [←Nat.add_mul];congr 1;omega
    refine ⟨u,?_,hv.one u (List.mem_of_getElem? h2),h4⟩
    rw [Array.getElem?_append_left (by simp;omega),Array.getElem?_append_right (by simp;omega)]
    rw [←h2]
    simp only [List.size_toArray,List.getElem?_toArray]
    congr 1;omega
 have hsp:∀i j c,at2 (rows++rs) i j=some c→(olds.toArray++news.toArray++zs)[i*sz+j]? = some (((olds.toArray++news.toArray++zs)[i*sz+j]?).getD undef)∧(((olds.toArray++news.toArray++zs)[i*sz+j]?).getD undef).oneCell'=true∧RelC ρ RO w c (((olds.toArray++news.toArray++zs)[i*sz+j]?).getD undef):=fun i j c hc=>by
  obtain ⟨u,h1,h2,h3⟩:=hget i j c hc
  rw [h1];exact ⟨rfl,h2,h3⟩
 refine .c sz _ _ e (_root_.Go.heap_alloc_new w.drew _) rfl (fun r hr'=>?_) (fun i j=>((olds.toArray++news.toArray++zs)[i*sz+j]?).getD undef) (fun i j c hc=>(hsp i j c hc).1) (fun i j c hc=>(hsp i j c hc).2.1)
  (fun i j c hc=>(hsp i j c hc).2.2.mono hle (fun _ h=>h) (fun b hb=>_root_.Go.heap_alloc_old w.drew _ (hro b hb)))
 rcases List.mem_append.1 hr' with h|h
 · exact hr r h
 · exact hv.rows r h
section
variable {P:Program} {o:Oper} {ev:Operand→C}
theorem OpT.appendO(l l':Nat){t sz bytes n:Nat}{s x:Operand}{pre:Hp}{rows rs:List (List C)}(ho:o.op=.call { callee:=.builtin .append,args:=#[s,x],argTypes:=#[t,t] })(he:ev s=.osl l sz 0 n)(hx:Src pre sz (ev x) rs)
 (hl:pre.get l=some (.c sz rows)) (hn:rows.length=n) (hl':pre.get l'=none) (ht:elOk P t sz bytes=true) (hb:(n+rs.length)*bytes≤140737488355328) :
 OpT P o ev ⟨pre,[l,l'],[(l',.c sz (rows++rs))],.osl l' sz 0 (n+rs.length)⟩:=by
 obtain ⟨e,ti,z,hu,hi,hsz,hby,hpos,hbpos,hz,hzs⟩:=elOk_spec ht
 intro m ρ F RO w a hs hnew hr next Q hk
 obtain ⟨hρ',hml⟩:=hnew l' (by simp) hl'
 have hne:l≠l':=fun e=>by rw [e,hl'] at hl;cases hl
 obtain ⟨p,hp,hB⟩:=hs.blk l _ hl
 have e1:=he▸hr s (by rw [ho];simp [Op.operands,Call.operands])
 obtain ⟨A2,cap2,hv2,hvals⟩:=hx.vals hs (hr x (by rw [ho];simp [Op.operands,Call.operands]))
 have hs1:Sim ρ F RO (get1 l (.c sz rows)) w:=by
  have hg:∀y B,get1 l (.c sz rows) y=some B→pre.get y=some B:=fun y B hy=>by
   unfold get1 at hy
   split at hy
   · rename_i e;rw [e,hl];exact hy
   · cases hy
  exact ⟨fun y B hy=>hs.blk y B (hg y B hy),fun y y' B B' hne hy hy'=>hs.sep y y' B B' hne (hg _ _ hy) (hg _ _ hy'),fun y B hy=>hs.nro y B (hg _ _ hy),hs.ro⟩
 have hfl:∀b∈F l,foot F (get1 l (.c sz rows)) b:=fun b hb=>⟨l,.c sz rows,by simp [get1],hb⟩
 have hmax:n+rs.length≤maxLen:=by
  have:(n+rs.length)*1≤(n+rs.length)*bytes:=Nat.mul_le_mul_left _ hbpos
  unfold maxLen;omega
 suffices key:∃w' v p' G,(Builtin.append_ #[t,t] o.type #[a.eval s,a.eval x]).run P w=.ok v w'∧ChgP (foot F (get1 l (.c sz rows))) w w'∧RelB (plSet ρ l' p') RO w' p' (.c sz (rows++rs)) G ∧
  (∀b∈G,foot F (get1 l (.c sz rows)) b∨w.heap.size≤b)∧∀ρ',ρ' l'=some p'→RelC ρ' RO w' (.osl l' sz 0 (n+rs.length)) v by
  obtain ⟨w',v,p',G,hrun,hc,hB',hG,hval⟩:=key
  have ext1:=ext_gen (m:=m) hs1 hρ' hml hc hB' hG
  have hfr:=ext1.frame hs (plSet_le hρ' p') (fun y B hy=>by
   unfold get1 at hy
   split at hy
   · rename_i e;rw [e,hl];exact hy
   · cases hy) (fun y=>y==l||y==l') (fun y B hy=>by
   unfold get1 at hy
   split at hy
   · rename_i e;simp [e]
   · cases hy) (fun y hy=>by
   simp only [Bool.or_eq_true,beq_iff_eq] at hy
   rcases hy with rfl|rfl
   · simp [get1,hl]
   · rw [hl'];unfold get1;rw [if_neg (Ne.symm hne)]) (fun y B hy=>by
   unfold get1 at hy
   split at hy
   · rename_i e;simp [e]
   · cases hy)
  have hH:(fun y=>if (y==l||y==l')=true then get1 l' (.c sz (rows++rs)) y else pre.get y)=Rec.after ⟨pre,[l,l'],[(l',.c sz (rows++rs))],.osl l' sz 0 (n+rs.length)⟩:=by
   funext y
   simp only [Rec.after,Hp.get_cons,get1]
   by_cases h1:y=l
   · subst h1;simp [hne,Hp.get]
   · by_cases h2:y=l'
     · subst h2;simp
     · simp [h1,h2]
  rw [hH] at hfr
  unfold Oper.wp execOp
  rw [ho]
  simp only [resolve,invoke,builtin,Sem.run_bind,Sem.run_pure,Result.andThen_ok,List.map_toArray,List.map_cons,List.map_nil,hrun]
  refine hk _ _ _ w' v hfr (plSet_le hρ' p') (fun y hy hy'=>?_) (hval _ (by simp [plSet]))
  unfold plSet;rw [if_neg (fun e=>hy' (by simp [e]))];exact hy
 by_cases hrs:rs=[]
 · -- nothing is appended
   subst hrs
   simp only [List.length_nil,List.append_nil,Nat.add_zero] at hv2 hvals hmax hb ⊢
   have hrun:∀A cap,a.eval s=.slice A n cap→n≤cap→(Builtin.append_ #[t,t] o.type #[a.eval s,a.eval x]).run P w=.ok (a.eval s) w:=by
    intro A cap hA hcap
    have hf:(Builtin.firstCells ti.size 0 (.slice A2 0 cap2)).run P w=.ok #[] w:=by
     cases A2<;>simp [Builtin.firstCells,loadCells,loadCellsFrom]
    rw [hA,hv2]
    cases A<;>simp [Builtin.append_,run_underlying hu,Go.sizeOf,typeInfo,hi,Builtin.lenOf,hcap,hf,storeCells]
   cases hes:a.eval s with
   | slice A n' cap=>
     rw [hes] at e1
     have hbm:RelB (plSet ρ l' p) RO w p (.c sz rows) (F l):=hB.mono (plSet_le hρ' p) (fun _ h=>h) (fun _ _=>rfl) (fun _ _=>rfl)
     cases e1 with
     | osl l sz s n cap q hq hn' hc hm=>
       have:q=p:=by rw [hp] at hq;injection hq with e;exact e.symm
       subst this
       refine ⟨w,_,q,F l,hes▸hrun _ cap hes hn',.refl _ _,hbm,fun b hb=>.inl (hfl b hb),fun ρ' hρ=>?_⟩
       exact .osl l' sz 0 n cap q hρ hn' hc hm
     | osln l sz s A=>
       exact ⟨w,_,p,F l,hes▸hrun _ 0 hes (Nat.zero_le _),.refl _ _,hbm,fun b hb=>.inl (hfl b hb),fun ρ' hρ=>.osln l' sz 0 A⟩
   | _=>rw [hes] at e1;cases e1
 · obtain ⟨ad, news,rfl,hV⟩:=hvals hrs
   have hm0:0<rs.length:=List.length_pos_iff.2 hrs
   have hnl:news.length=rs.length*ti.size:=by rw [hsz];exact hV.len
   have hgrow:∀(b0:Addr) (cap:Nat) (olds:List Value),a.eval s=.slice (some b0) n cap→cap<n+rs.length→olds.length=rows.length*sz→(∀j u,olds[j]? = some u→w.cell? (b0.add j)=some u)→(∀r∈rows,r.length=sz) →
    (∀i j c,at2 rows i j=some c→∃u,olds[i*sz+j]? = some u∧u.oneCell'=true∧RelC ρ RO w c u)→∃w' v p' G,(Builtin.append_ #[t,t] o.type #[a.eval s,a.eval x]).run P w=.ok v w'∧ChgP (foot F (get1 l (.c sz rows))) w w'∧RelB (plSet ρ l' p') RO w' p' (.c sz (rows++rs)) G ∧
    (∀b∈G,foot F (get1 l (.c sz rows)) b∨w.heap.size≤b)∧∀ρ',ρ' l'=some p'→RelC ρ' RO w' (.osl l' sz 0 (n+rs.length)) v:=by
    intro b0 cap olds hes hcap hol hoc hrl hold
    have hr:=run_append_grow (P:=P) w t o.type e ti z hu hi hz b0 n cap olds (by rw [hsz,←hn];exact hol) hoc ad rs.length cap2 news hnl hV.cell hcap (by unfold maxLen at hmax;omega) (growslice_fits hcap (by rw [hby];exact hb))
    rw [hes,hv2,hr]
    have hge:=grownCap_ge w (n+rs.length) cap e
    have hcm:=grownCap_le_maxLen w (n+rs.length) cap e hmax
    refine ⟨_,_,_,_,rfl,⟨rfl,rfl,rfl,by simp,fun k hk _=>_root_.Go.heap_alloc_old w.drew _ hk⟩,relB_grown hrl hol hold hV hs.ro (plSet_le hρ' _),fun b hb=>.inr (by simp at hb;omega),fun ρ' hρ=>?_⟩
    have:=RelC.osl (RO:=RO) (w:=w.drew.alloc (.cells (olds.toArray++news.toArray++Builtin.zeroCells z.cells (grownCap w (n+rs.length) cap e-(n+rs.length))) e)) l' sz 0 (n+rs.length) (grownCap w (n+rs.length) cap e) _ hρ hge hcm (by
     simp only [Array.size_append,List.size_toArray,size_zeroCells,hzs,hol,hV.len,←Nat.add_mul,hn,Nat.zero_add]
     exact Nat.mul_le_mul_right _ (by omega))
    simpa using this
   cases hes:a.eval s with
   | slice A n' cap=>
     have e0:=e1
     rw [hes] at e1
     cases e1 with
     | osl l sz s n cap q hq hn' hc hm=>
       have:q=p:=by rw [hp] at hq;injection hq with e;exact e.symm
       subst this
       rw [Nat.zero_mul] at hes
       rw [Nat.zero_add] at hm
       generalize hG:F l=G at hB
       cases hB with
       | v sz hs0=>
         simp only [List.length_nil] at hn
         subst hn
         have hc0:cap=0:=by
          rw [hs0] at hm
          rcases Nat.mul_eq_zero.1 (Nat.le_zero.1 hm) with h|h<;>omega
         subst hc0
         have:=hgrow ⟨q.blk,0,none⟩ 0 [] hes (by omega) (by simp) (by simp) (by simp) (by simp [at2])
         rw [hes] at this
         simpa using this
       | c sz rows cs tt hb0 hsq hrl U cell one rel=>
         have hfit:=rows_fit (cs:=cs) hrl (fun i j c hc=>⟨_,cell i j c hc⟩)
         by_cases hroom:n+rs.length≤cap
         · -- there is room
           have hfit2:n*sz+news.length≤cs.size:=by
            rw [hV.len,←Nat.add_mul,hsq]
            exact Nat.le_trans (Nat.mul_le_mul_right _ hroom) hm
           have hf:=run_firstCells_some (P:=P) w ti.size rs.length ad rs.length cap2 news hnl hV.cell
           have hst:=run_storeCells_at P q.blk (n*sz) tt news 0 cs w hb0 (by simpa using hfit2) hV.one
           simp only [Nat.add_zero] at hst
           have hrun:(Builtin.append_ #[t,t] o.type #[.slice (some ⟨q.blk,0,none⟩) n cap,.slice (some ad) rs.length cap2]).run P w=.ok (.slice (some ⟨q.blk,0,none⟩) (n+rs.length) cap) (w.setRow q.blk (cs.toList.take (n*sz)++news++cs.toList.drop (n*sz+news.length)).toArray):=by
            simp [Builtin.append_,run_underlying hu,Go.sizeOf,typeInfo,hi,Builtin.lenOf,hroom,hf,Addr.add_lit,hsz,hst]
            simp [hsz] at hf
            simp [hf,hst]
           have hfoot:foot F (get1 l (.c sz rows)) q.blk:=hfl _ (by rw [hG];simp)
           have hold:∀b,b≠q.blk→(w.setRow q.blk (cs.toList.take (n*sz)++news++cs.toList.drop (n*sz+news.length)).toArray).heap[b]? = w.heap[b]?:=fun b hb'=>setRow_other w q.blk b _ hb'
           have hro:∀b,RO b→b≠q.blk:=fun b hb' e=>by
            obtain ⟨y,By,hy,hyb⟩:=hfoot
            exact hs1.nro y By hy _ hyb (e▸hb')
           have hl1:(cs.toList.take (n*sz)).length=n*sz:=by rw [List.length_take,Array.length_toList];omega
           have hget:∀i j c,at2 (rows++rs) i j=some c→∃u,(cs.toList.take (n*sz)++news++cs.toList.drop (n*sz+news.length)).toArray[i*sz+j]? = some u∧u.oneCell'=true∧RelC ρ RO w c u:=by
            intro i j c hc
            rw [List.getElem?_toArray]
            rcases at2_append hc with ⟨hi',h1⟩|⟨hi',h1⟩
            · obtain ⟨_,hj,-⟩:=at2_lt h1
              rw [hrl _ (List.getElem_mem hi')] at hj
              have hk:i*sz+j<n*sz:=by
               have:(i+1)*sz≤rows.length*sz:=Nat.mul_le_mul_right _ hi'
               rw [Nat.succ_mul,hn] at this;omega
              refine ⟨U i j,?_,one _ _ _ h1,rel _ _ _ h1⟩
              rw [List.append_assoc,List.getElem?_append_left (by omega),List.getElem?_take,if_pos hk,Array.getElem?_toList]
              exact cell _ _ _ h1
            · obtain ⟨u,h2,h4⟩:=hV.rel _ j c h1
              have hk:=(List.getElem?_eq_some_iff.1 h2).1
              have e1:i*sz=n*sz+(i-n)*sz:=by rw [←Nat.add_mul];congr 1;omega
              rw [hn] at h2 hk
              refine ⟨u,?_,hV.one u (List.mem_of_getElem? h2),h4⟩
              rw [List.getElem?_append_left (by rw [List.length_append,hl1];omega),List.getElem?_append_right (by omega),hl1,←h2]
              congr 1;omega
           have hsp:∀i j c,at2 (rows++rs) i j=some c→(cs.toList.take (n*sz)++news++cs.toList.drop (n*sz+news.length)).toArray[i*sz+j]? = some (((cs.toList.take (n*sz)++news++cs.toList.drop (n*sz+news.length)).toArray[i*sz+j]?).getD undef) ∧
            (((cs.toList.take (n*sz)++news++cs.toList.drop (n*sz+news.length)).toArray[i*sz+j]?).getD undef).oneCell'=true∧RelC ρ RO w c (((cs.toList.take (n*sz)++news++cs.toList.drop (n*sz+news.length)).toArray[i*sz+j]?).getD undef):=fun i j c hc=>by
            obtain ⟨u,h1,h2,h3⟩:=hget i j c hc
            rw [h1];exact ⟨rfl,h2,h3⟩
           rw [hv2,Nat.zero_mul]
           refine ⟨_,_,q,[q.blk],hrun,⟨rfl,rfl,rfl,by simp,fun k _ hk'=>hold k (fun e=>hk' (e▸hfoot))⟩,?_,fun b hb=>.inl (by simp at hb;rw [hb];exact hfoot),fun ρ' hρ=>?_⟩
           · refine .c sz _ _ tt (setRow_heap w q.blk cs _ tt (0,0) hb0) (by
              simp only [List.size_toArray,List.length_append,List.length_drop,Array.length_toList,hl1];omega) (fun r hr'=>?_) (fun i j=>((cs.toList.take (n*sz)++news++cs.toList.drop (n*sz+news.length)).toArray[i*sz+j]?).getD undef) (fun i j c hc=>(hsp i j c hc).1) (fun i j c hc=>(hsp i j c hc).2.1)
              (fun i j c hc=>(hsp i j c hc).2.2.mono (plSet_le hρ' q) (fun _ h=>h) (fun b hb'=>hold b (hro b hb')))
             rcases List.mem_append.1 hr' with h|h
             · exact hrl r h
             · exact hV.rows r h
           · have:=RelC.osl (RO:=RO) (w:=w.setRow q.blk (cs.toList.take (n*sz)++news++cs.toList.drop (n*sz+news.length)).toArray) l' sz 0 (n+rs.length) cap q hρ hroom hc (by rw [Nat.zero_add];exact hm)
             simpa using this
         · have hol:(cs.toList.take (rows.length*sz)).length=rows.length*sz:=by rw [List.length_take,Array.length_toList (xs:=cs)];omega
           have:=hgrow ⟨q.blk,0,none⟩ cap (cs.toList.take (rows.length*sz)) hes (by omega) hol (fun j u hu=>by
            rw [List.getElem?_take] at hu
            split at hu
            · rw [Array.getElem?_toList] at hu
              rw [addr_add,Nat.zero_add,cell_of_row w q.blk _ cs tt (0,0) hb0];exact hu
            · cases hu) hrl (fun i j c hc=>by
            obtain ⟨hi',hj,-⟩:=at2_lt hc
            rw [hrl _ (List.getElem_mem hi')] at hj
            have hk:i*sz+j<rows.length*sz:=by
             have:(i+1)*sz≤rows.length*sz:=Nat.mul_le_mul_right _ hi'
             rw [Nat.succ_mul] at this;omega
            refine ⟨U i j,?_,one _ _ _ hc,rel _ _ _ hc⟩
            rw [List.getElem?_take,if_pos hk,Array.getElem?_toList];exact cell _ _ _ hc)
           rw [hes] at this
           rw [Nat.zero_mul]
           exact this
     | osln l sz s A=>
       have hr0:rows=[]:=List.eq_nil_of_length_eq_zero hn
       subst hr0
       cases A with
       | some b0=>
         have:=hgrow b0 0 [] hes (by omega) (by simp) (by simp) (by simp) (by simp [at2])
         rw [hes] at this
         exact this
       | none=>
         have hr:=run_append_nil (P:=P) w t o.type e ti z hu hi hz ad rs.length cap2 news hnl hV.cell hm0 (by unfold maxLen at hmax;omega) (by rw [hby];simp only [Nat.zero_add] at hb;omega)
         rw [hv2,hr]
         have hge:=grownCap_ge w rs.length 0 e
         have hcm:=grownCap_le_maxLen w rs.length 0 e (by simpa using hmax)
         have hrb:=relB_grown (e:=e) (zs:=Builtin.zeroCells z.cells (grownCap w rs.length 0 e-rs.length)) (rows:=[]) (olds:=[]) (by simp) (by simp) (by simp [at2]) hV hs.ro (plSet_le hρ' ⟨w.heap.size,(#[]++news.toArray++Builtin.zeroCells z.cells (grownCap w rs.length 0 e-rs.length)).size⟩)
         simp only [Array.empty_append] at hrb
         refine ⟨_,_,_,_,rfl,⟨rfl,rfl,rfl,by simp,fun k hk _=>_root_.Go.heap_alloc_old w.drew _ hk⟩,hrb,fun b hb=>.inr (by simp at hb;omega),fun ρ' hρ=>?_⟩
         have:=RelC.osl (RO:=RO) (w:=w.drew.alloc (.cells (news.toArray++Builtin.zeroCells z.cells (grownCap w rs.length 0 e-rs.length)) e)) l' sz 0 rs.length (grownCap w rs.length 0 e) _ hρ hge hcm (by
          simp only [Array.size_append,List.size_toArray,size_zeroCells,hzs,hV.len,←Nat.add_mul,Nat.zero_add]
          exact Nat.mul_le_mul_right _ (by omega))
         simpa using this
   | _=>rw [hes] at e1;cases e1
end
end Ow
