/- A part of the proof. -/
import Derived.Test.YtjakhnhnjhafgaaGreatK21
set_option linter.unusedVariables false
set_option linter.unusedSimpArgs false
namespace Go.Proofs.YtjakhnhnjhafgaaGreat.Wk
open Go Go.RowKit Go.Deep Ow
set_option maxRecDepth 100000
def codeC(i:InsIns):C:=
 if i.Op<1 then .d (.lit .nilIface)
 else if i.Op<5 then .ifc 175 (.agg [CI i.Op,CI i.D,CI i.A,CI i.B])
 else if i.Op=5 then .ifc 165 (.agg [CI i.D,CI i.Lo,CI i.Hi])
 else if i.Op=6 then .ifc 177 (.agg [CI i.D,CI i.A])
 else if i.Op=7 then .ifc 179 (.agg [CI i.A,CI i.B])
 else if i.Op=8 then .ifc 167 (.agg [CI i.Rel,CI i.A,CI i.B,CI i.To])
 else if i.Op=9 then .ifc 169 (.agg [CI i.To])
 else if i.Op=10 then .ifc 171 (.agg [CI i.D,CI i.A,CI i.To])
 else if i.Op=11 then .ifc 173 (.agg [CI i.Rel,CI i.A,CI i.B])
 else if i.Op=12 then .ifc 208 (.agg [CI i.A])
 else .d (.lit .nilIface)
theorem codeOf_e{i0 i1 i2 i3 i4 i5 i6 i7:Int}{v:C}(h:codeC ⟨i0,i1,i2,i3,i4,i5,i6,i7⟩=v):EC Tryz.prog 120 0 [.agg [CI i0,CI i1,CI i2,CI i3,CI i4,CI i5,CI i6,CI i7]] [] v [] 0:=by
 subst h
 refine (seat [] []).PU (mkM true [3,1,2,84]) (fn:=Tryz.f120) ⟨by kernel_rfl,by kernel_rfl,rfl⟩ (mkEs [eInsIns 10 ⟨i0,i1,i2,i3,i4,i5,i6,i7⟩]) noLps [] [xInsIns 10] rfl (fun _=>?_)
 conv=>arg 4;cbv
 simp only [go_sem,Nat.reduceEqDiff,Nat.reduceAdd,Nat.reduceBEq,Int.reduceToNat]
 repeat' (first|with_reducible apply And.intro|intro _)
 all_goals (simp only [codeC];(repeat' split)<;>first|rfl|omega)
def anyX : List X→Option X
 | [.agg l]=>match toL l with | [d,lo,hi]=>some (.agg (ofL [.int .i64 5,d,.int .i64 0,.int .i64 0,.int .i64 0,lo,hi,.int .i64 0]))|_=>none
 | _=>none
theorem anyIns_e{d lo hi:Int}:EC Tryz.prog 242 0 [.agg [CI d,CI lo,CI hi]] [] (.agg [CI 5,CI d,CI 0,CI 0,CI 0,CI lo,CI hi,CI 0]) [] 0:=by
 refine (seat [] []).PU (mkM true []) (fn:=Tryz.f242) ⟨by kernel_rfl,by kernel_rfl,rfl⟩ (mkEs [eI 10 d,eI 11 lo,eI 12 hi]) noLps [] [.agg (ofL [.ati .i64 10 .nil,.ati .i64 11 .nil,.ati .i64 12 .nil])] rfl (fun _=>?_)
 conv=>arg 4;cbv
 simp only [go_sem,Nat.reduceEqDiff,Nat.reduceAdd,Nat.reduceBEq,Int.reduceToNat]
def arithX : List X→Option X
 | [.agg l]=>match toL l with | [o,d,a,b]=>some (.agg (ofL [o,d,a,b,.int .i64 0,.int .i64 0,.int .i64 0,.int .i64 0]))|_=>none
 | _=>none
theorem arithIns_e{o d a b:Int}:EC Tryz.prog 247 0 [.agg [CI o,CI d,CI a,CI b]] [] (.agg [CI o,CI d,CI a,CI b,CI 0,CI 0,CI 0,CI 0]) [] 0:=by
 refine (seat [] []).PU (mkM true []) (fn:=Tryz.f247) ⟨by kernel_rfl,by kernel_rfl,rfl⟩ (mkEs [eI 10 o,eI 11 d,eI 12 a,eI 13 b]) noLps [] [.agg (ofL [.ati .i64 10 .nil,.ati .i64 11 .nil,.ati .i64 12 .nil,.ati .i64 13 .nil])] rfl (fun _=>?_)
 conv=>arg 4;cbv
 simp only [go_sem,Nat.reduceEqDiff,Nat.reduceAdd,Nat.reduceBEq,Int.reduceToNat]
def assertX : List X→Option X
 | [.agg l]=>match toL l with | [r,a,b]=>some (.agg (ofL [.int .i64 11,.int .i64 0,a,b,r,.int .i64 0,.int .i64 0,.int .i64 0]))|_=>none
 | _=>none
theorem assertIns_e{r a b:Int}:EC Tryz.prog 246 0 [.agg [CI r,CI a,CI b]] [] (.agg [CI 11,CI 0,CI a,CI b,CI r,CI 0,CI 0,CI 0]) [] 0:=by
 refine (seat [] []).PU (mkM true []) (fn:=Tryz.f246) ⟨by kernel_rfl,by kernel_rfl,rfl⟩ (mkEs [eI 10 r,eI 11 a,eI 12 b]) noLps [] [.agg (ofL [.ati .i64 10 .nil,.ati .i64 11 .nil,.ati .i64 12 .nil])] rfl (fun _=>?_)
 conv=>arg 4;cbv
 simp only [go_sem,Nat.reduceEqDiff,Nat.reduceAdd,Nat.reduceBEq,Int.reduceToNat]
def callX : List X→Option X
 | [.agg l]=>match toL l with | [d,a,t]=>some (.agg (ofL [.int .i64 10,d,a,.int .i64 0,.int .i64 0,.int .i64 0,.int .i64 0,t]))|_=>none
 | _=>none
theorem callIns_e{d a t:Int}:EC Tryz.prog 245 0 [.agg [CI d,CI a,CI t]] [] (.agg [CI 10,CI d,CI a,CI 0,CI 0,CI 0,CI 0,CI t]) [] 0:=by
 refine (seat [] []).PU (mkM true []) (fn:=Tryz.f245) ⟨by kernel_rfl,by kernel_rfl,rfl⟩ (mkEs [eI 10 d,eI 11 a,eI 12 t]) noLps [] [.agg (ofL [.ati .i64 10 .nil,.ati .i64 11 .nil,.ati .i64 12 .nil])] rfl (fun _=>?_)
 conv=>arg 4;cbv
 simp only [go_sem,Nat.reduceEqDiff,Nat.reduceAdd,Nat.reduceBEq,Int.reduceToNat]
def ifX : List X→Option X
 | [.agg l]=>match toL l with | [r,a,b,t]=>some (.agg (ofL [.int .i64 8,.int .i64 0,a,b,r,.int .i64 0,.int .i64 0,t]))|_=>none
 | _=>none
theorem ifIns_e{r a b t:Int}:EC Tryz.prog 243 0 [.agg [CI r,CI a,CI b,CI t]] [] (.agg [CI 8,CI 0,CI a,CI b,CI r,CI 0,CI 0,CI t]) [] 0:=by
 refine (seat [] []).PU (mkM true []) (fn:=Tryz.f243) ⟨by kernel_rfl,by kernel_rfl,rfl⟩ (mkEs [eI 10 r,eI 11 a,eI 12 b,eI 13 t]) noLps [] [.agg (ofL [.ati .i64 10 .nil,.ati .i64 11 .nil,.ati .i64 12 .nil,.ati .i64 13 .nil])] rfl (fun _=>?_)
 conv=>arg 4;cbv
 simp only [go_sem,Nat.reduceEqDiff,Nat.reduceAdd,Nat.reduceBEq,Int.reduceToNat]
def jumpX : List X→Option X
 | [.agg l]=>match toL l with | [t]=>some (.agg (ofL [.int .i64 9,.int .i64 0,.int .i64 0,.int .i64 0,.int .i64 0,.int .i64 0,.int .i64 0,t]))|_=>none
 | _=>none
theorem jumpIns_e{t:Int}:EC Tryz.prog 244 0 [.agg [CI t]] [] (.agg [CI 9,CI 0,CI 0,CI 0,CI 0,CI 0,CI 0,CI t]) [] 0:=by
 refine (seat [] []).PU (mkM true []) (fn:=Tryz.f244) ⟨by kernel_rfl,by kernel_rfl,rfl⟩ (mkEs [eI 10 t]) noLps [] [.agg (ofL [.ati .i64 10 .nil])] rfl (fun _=>?_)
 conv=>arg 4;cbv
 simp only [go_sem,Nat.reduceEqDiff,Nat.reduceAdd,Nat.reduceBEq,Int.reduceToNat]
def loadX : List X→Option X
 | [.agg l]=>match toL l with | [d,a]=>some (.agg (ofL [.int .i64 6,d,a,.int .i64 0,.int .i64 0,.int .i64 0,.int .i64 0,.int .i64 0]))|_=>none
 | _=>none
theorem loadIns_e{d a:Int}:EC Tryz.prog 248 0 [.agg [CI d,CI a]] [] (.agg [CI 6,CI d,CI a,CI 0,CI 0,CI 0,CI 0,CI 0]) [] 0:=by
 refine (seat [] []).PU (mkM true []) (fn:=Tryz.f248) ⟨by kernel_rfl,by kernel_rfl,rfl⟩ (mkEs [eI 10 d,eI 11 a]) noLps [] [.agg (ofL [.ati .i64 10 .nil,.ati .i64 11 .nil])] rfl (fun _=>?_)
 conv=>arg 4;cbv
 simp only [go_sem,Nat.reduceEqDiff,Nat.reduceAdd,Nat.reduceBEq,Int.reduceToNat]
def retX : List X→Option X
 | [.agg l]=>match toL l with | [a]=>some (.agg (ofL [.int .i64 12,.int .i64 0,a,.int .i64 0,.int .i64 0,.int .i64 0,.int .i64 0,.int .i64 0]))|_=>none
 | _=>none
theorem retIns_e{a:Int}:EC Tryz.prog 250 0 [.agg [CI a]] [] (.agg [CI 12,CI 0,CI a,CI 0,CI 0,CI 0,CI 0,CI 0]) [] 0:=by
 refine (seat [] []).PU (mkM true []) (fn:=Tryz.f250) ⟨by kernel_rfl,by kernel_rfl,rfl⟩ (mkEs [eI 10 a]) noLps [] [.agg (ofL [.ati .i64 10 .nil])] rfl (fun _=>?_)
 conv=>arg 4;cbv
 simp only [go_sem,Nat.reduceEqDiff,Nat.reduceAdd,Nat.reduceBEq,Int.reduceToNat]
def storeX : List X→Option X
 | [.agg l]=>match toL l with | [a,b]=>some (.agg (ofL [.int .i64 7,.int .i64 0,a,b,.int .i64 0,.int .i64 0,.int .i64 0,.int .i64 0]))|_=>none
 | _=>none
theorem storeIns_e{a b:Int}:EC Tryz.prog 249 0 [.agg [CI a,CI b]] [] (.agg [CI 7,CI 0,CI a,CI b,CI 0,CI 0,CI 0,CI 0]) [] 0:=by
 refine (seat [] []).PU (mkM true []) (fn:=Tryz.f249) ⟨by kernel_rfl,by kernel_rfl,rfl⟩ (mkEs [eI 10 a,eI 11 b]) noLps [] [.agg (ofL [.ati .i64 10 .nil,.ati .i64 11 .nil])] rfl (fun _=>?_)
 conv=>arg 4;cbv
 simp only [go_sem,Nat.reduceEqDiff,Nat.reduceAdd,Nat.reduceBEq,Int.reduceToNat]
def codeX : List X→Option X
 | [.agg l]=>match toL l with
   | [o, d,a,b,r,lo,hi,t]=>match o with
     | .int _ n=>some (
       if n<1 then .nilI
       else if n<5 then .ifc 175 (.agg (ofL [o,d,a,b]))
       else if n=5 then .ifc 165 (.agg (ofL [d,lo,hi]))
       else if n=6 then .ifc 177 (.agg (ofL [d,a]))
       else if n=7 then .ifc 179 (.agg (ofL [a,b]))
       else if n=8 then .ifc 167 (.agg (ofL [r,a,b,t]))
       else if n=9 then .ifc 169 (.agg (ofL [t]))
       else if n=10 then .ifc 171 (.agg (ofL [d,a,t]))
       else if n=11 then .ifc 173 (.agg (ofL [r,a,b]))
       else if n=12 then .ifc 208 (.agg (ofL [a]))
       else .nilI)
     | _=>some .nilI
   | _=>none
 | _=>none
def codeM : List (Nat×(List X→Option X)):=[(120,codeX),(242,anyX),(247,arithX),(246,assertX),(245,callX),(243,ifX),(244,jumpX),(248,loadX),(250,retX),(249,storeX)]
theorem isVar_e{n:Int}{r:Bool}(h:varOk n=r):EC Tryz.prog 121 0 [CI n] [] (CB r) [] 0:=by
 subst h
 refine (seat [] []).PU (mkM true []) (fn:=Tryz.f121) ⟨by kernel_rfl,by kernel_rfl,rfl⟩ (mkEs [eI 10 n]) noLps [] [.ati .i64 10 .nil] rfl (fun _=>?_)
 conv=>arg 4;cbv
 simp only [go_sem,Nat.reduceEqDiff,Nat.reduceAdd,Nat.reduceBEq,Int.reduceToNat]
 rfl
theorem isRel_e{n:Int}{r:Bool}(h:relOk n=r):EC Tryz.prog 122 0 [CI n] [] (CB r) [] 0:=by
 subst h
 refine (seat [] []).PU (mkM true []) (fn:=Tryz.f122) ⟨by kernel_rfl,by kernel_rfl,rfl⟩ (mkEs [eI 10 n]) noLps [] [.ati .i64 10 .nil] rfl (fun _=>?_)
 conv=>arg 4;cbv
 simp only [go_sem,Nat.reduceEqDiff,Nat.reduceAdd,Nat.reduceBEq,Int.reduceToNat]
 rfl
theorem below_e{n m:Int}{r:Bool}(h:below n m=r):EC Tryz.prog 98 0 [CI n,CI m] [] (CB r) [] 0:=by
 subst h
 refine (seat [] []).PU (mkM true []) (fn:=Tryz.f98) ⟨by kernel_rfl,by kernel_rfl,rfl⟩ (mkEs [eI 10 n,eI 30 m]) noLps [] [.ati .i64 10 .nil,.ati .i64 30 .nil] rfl (fun _=>?_)
 conv=>arg 4;cbv
 simp only [go_sem,Nat.reduceEqDiff,Nat.reduceAdd,Nat.reduceBEq,Int.reduceToNat]
 rfl
def insXs(o:X):List X:=[.agg (ofL [o,.ati .i64 11 .nil,.ati .i64 12 .nil,.ati .i64 13 .nil,.ati .i64 14 .nil,.ati .i64 15 .nil,.ati .i64 16 .nil,.ati .i64 17 .nil]),.ati .i64 30 .nil,.ati .i64 50 .nil]
noncomputable def insEnv(i:InsIns)(p s:Int):Env:=mkEs [eInsIns 10 i,eI 30 p,eI 50 s,eB 221000 (varOk i.D),eB 227000 (varOk i.A),eB 233000 (varOk i.B),eB 715000 (itvOk ⟨i.Lo,i.Hi⟩),eB 1012000 (relOk i.Rel),eB 1017000 (below i.To s),eB 1313000 (below i.To s),eB 1613000 (below i.To p),eB 1912000 (relOk i.Rel)]
theorem iInsOk_pu{o:X}{i0 i1 i2 i3 i4 i5 i6 i7 p s:Int}{r:Bool}(ho:o=.int .i64 i0∨o=.ati .i64 10 .nil)(h:(runP (mkM true [4,2,7,28,1,2,1,8,1,11,1,6,1,6,1,3]) (kbO [] [] [] codeM) 55 Tryz.f55 [] (insXs o)).Holds noLps (CB r) (evE Tryz.prog (insEnv ⟨i0,i1,i2,i3,i4,i5,i6,i7⟩ p s)) (evE Tryz.prog (insEnv ⟨i0,i1,i2,i3,i4,i5,i6,i7⟩ p s)) []):
 EC Tryz.prog 55 0 [.agg [CI i0,CI i1,CI i2,CI i3,CI i4,CI i5,CI i6,CI i7],CI p,CI s] [] (CB r) [] 0:=
 (seat [] [] [] codeM).PU _ ⟨by kernel_rfl,by kernel_rfl,rfl⟩ _ noLps [] (insXs o) (by rcases ho with rfl|rfl<;>simp only [insXs,ofL,insEnv,go_sem,Nat.reduceEqDiff,Nat.reduceAdd,Nat.reduceBEq,Int.reduceToNat]) (fun _=>h)
set_option maxHeartbeats 1000000 in
theorem iInsOk_e{i0 i1 i2 i3 i4 i5 i6 i7 p s:Int}{r:Bool}(h:insOk ⟨i0,i1,i2,i3,i4,i5,i6,i7⟩ p s=r):
 EC Tryz.prog 55 0 [.agg [CI i0,CI i1,CI i2,CI i3,CI i4,CI i5,CI i6,CI i7],CI p,CI s] [] (CB r) [] 0:=by
 subst h
 rcases (by omega:i0=1∨i0=2∨i0=3∨i0=4∨i0=5∨i0=6∨i0=7∨i0=8∨i0=9∨i0=10∨i0=11∨i0=12∨(i0<1∨12<i0)) with rfl|rfl|rfl|rfl|rfl|rfl|rfl|rfl|rfl|rfl|rfl|rfl|hq
 iterate 12 (refine iInsOk_pu (o:=.int .i64 _) (.inl rfl) ?_;rotate_left)
 refine iInsOk_pu (o:=.ati .i64 10 .nil) (.inr rfl) ?_
 all_goals (conv=>arg 4;cbv)
 all_goals simp only [insEnv,go_sem,Nat.reduceEqDiff,Nat.reduceAdd,Nat.reduceBEq,Int.reduceToNat]
 all_goals repeat' (first|with_reducible apply And.intro|intro _)
 all_goals first|exact codeOf_e rfl|exact isVar_e rfl|exact iItvOk_e rfl|exact isRel_e rfl|exact below_e rfl|exact arithIns_e|exact anyIns_e|exact loadIns_e|exact storeIns_e|exact ifIns_e|exact jumpIns_e|exact callIns_e|exact assertIns_e|exact retIns_e|skip
 all_goals first|(exact codeOf_e (by simp only [codeC];(repeat' split)<;>first|rfl|omega))|skip
 all_goals (simp only [insOk,formOk,restOk];simp;try grind)
end Go.Proofs.YtjakhnhnjhafgaaGreat.Wk
namespace Ow
def idxF{α:Type}(q:α→Bool)(l:List α):Int:=if l.any q then (l.findIdx q:Int) else -1
theorem any_next{α:Type}{q:α→Bool}{l:List α}{k:Int}{d:α}(h0:0≤k)(h1:k<l.length)(h:(l.take k.toNat).any q=false)(hk:q (l.getD k.toNat d)=false):(l.take (k+1).toNat).any q=false:=by
 have e:(k+1).toNat=k.toNat+1:=by omega
 have hl:k.toNat<l.length:=by omega
 rw [List.getD_eq_getElem?_getD,List.getElem?_eq_getElem hl] at hk
 rw [e,List.take_succ_eq_append_getElem hl,List.any_append,h]
 simpa using hk
theorem idxF_no{α:Type}{q:α→Bool}{l:List α}{k:Int}(h1:¬k<l.length)(h:(l.take k.toNat).any q=false):idxF q l=-1:=by
 rw [List.take_of_length_le (by omega)] at h
 simp [idxF,h]
theorem idxF_at{α:Type}{q:α→Bool}{l:List α}{k:Int}{d:α}(h0:0≤k)(h1:k<l.length)(h:(l.take k.toNat).any q=false)(hk:q (l.getD k.toNat d)=true):idxF q l=k:=by
 have hl:k.toNat<l.length:=by omega
 rw [List.getD_eq_getElem?_getD,List.getElem?_eq_getElem hl] at hk
 have hk':q l[k.toNat]=true:=hk
 have ha:l.any q=true:=List.any_eq_true.2 ⟨_,List.getElem_mem hl,hk'⟩
 have hf:l.findIdx q=k.toNat:=by
  rw [List.findIdx_eq hl]
  refine ⟨hk',fun j hj=>?_⟩
  have:=List.any_eq_false.1 h (l[j]'(by omega)) (by rw [List.mem_take_iff_getElem];exact ⟨j,by omega,rfl⟩)
  simpa using this
 simp [idxF,ha,hf];omega
theorem idxF_any{α:Type}{q:α→Bool}{l:List α}:decide (0≤idxF q l)=l.any q:=by
 unfold idxF;split<;>simp_all
theorem wf_sl{n:Nat}{els:List (List D)}(h:wfC (.d (.sl n els))):(els.length:Int)≤9223372036854775807:=by
 have:els.length≤Go.maxLen:=by first|exact h|(cases h;assumption)|(unfold wfC WfD at h;exact h)
 unfold Go.maxLen at this;omega
end Ow
namespace Go.Proofs.YtjakhnhnjhafgaaGreat.Wk
open Go Go.RowKit Go.Deep Ow
set_option maxRecDepth 100000
theorem prgNot_e{procs:List PrcProc}{n:Int}{i0:Int}{i1:Int}{i2:Int}{i3:Int}{i4:Int}{i5:Int}{i6:Int}{i7:Int}{r:Bool}(h:(!insOk (⟨i0,i1,i2,i3,i4,i5,i6,i7⟩:InsIns) procs.length n)=r):EC Tryz.prog 119 0 [.agg [CI i0,CI i1,CI i2,CI i3,CI i4,CI i5,CI i6,CI i7],.d (.ep [.sl 3 (procs.map dPrcProc)]),.d (.ep [.lit (.int .i64 n)])] [] (CB r) [] 0:=by
 subst h
 refine (seat [] []).PU (mkM true []) (fn:=Tryz.f119) ⟨by kernel_rfl,by kernel_rfl,rfl⟩ (mkEs [eInsIns 10 ⟨i0,i1,i2,i3,i4,i5,i6,i7⟩,eLPrcProc 30 procs,eI 50 n,eB 115000 (insOk (⟨i0,i1,i2,i3,i4,i5,i6,i7⟩:InsIns) procs.length n)]) noLps [] [xInsIns 10,.ep (.cons (xLPrcProc 30) .nil),.ep (.cons (.ati .i64 50 .nil) .nil)] (by simp only [go_sem,Nat.reduceEqDiff,Nat.reduceAdd,Nat.reduceBEq,Int.reduceToNat]) (fun _=>?_)
 conv=>arg 4;cbv
 simp only [go_sem,Nat.reduceEqDiff,Nat.reduceAdd,Nat.reduceBEq,Int.reduceToNat,iInsOk_e]
theorem idxIns_e{procs:List PrcProc}{n:Int}{l:List InsIns}{r:Int}(h:(idxF (fun i=>!insOk i procs.length n) l)=r):EC Tryz.prog 169 0 [.d (.sl 8 (l.map dInsIns)),.fn (.func 119) [] [.d (.ep [.sl 3 (procs.map dPrcProc)]),.d (.ep [.lit (.int .i64 n)])]] [] (CI r) [] 0:=by
 subst h
 refine (seat [] []).PU (mkM true [2,2,2,1,2,10]) (fn:=Tryz.f169) ⟨by kernel_rfl,by kernel_rfl,rfl⟩ (mkEs [eLInsIns 10 l,eLPrcProc 30 procs,eI 50 n]) (consL ⟨Int,fun ee k=>0≤k∧k≤l.length∧(l.take k.toNat).any (fun i=>!insOk i procs.length n)=false,fun ee k=>mkEs [eI 1 k,eB 415000 (!insOk (l.getD k.toNat zInsIns) procs.length n)],fun ee k=>(l.length-k).toNat⟩ noLps) [(0,fun s=>(0,(s.kl (mkM true [2,2,2,1,2,10])).upd [(8,xi 100000001)]))] [xLInsIns 10,.fn 119 .nil (.cons (.ep (.cons (xLPrcProc 30) .nil)) (.cons (.ep (.cons (.ati .i64 50 .nil) .nil)) .nil))] (by simp only [go_sem,Nat.reduceEqDiff,Nat.reduceAdd,Nat.reduceBEq,Int.reduceToNat]) (fun _=>?_)
 conv=>arg 4;cbv
 simp (maxSteps:=4000000) only [go_sem,Nat.reduceEqDiff,Nat.reduceAdd,Nat.reduceBEq,Int.reduceToNat,Nat.reduceDiv,Nat.reduceMod,lput,consL]
 rename_i hwf
 have hw:=wf_sl (hwf _ List.mem_cons_self)
 simp only [List.length_map] at hw
 repeat' (first|with_reducible apply And.intro|intro _)
 all_goals (try (simp (disch:=omega) only [wrapI] at *))
 all_goals first|omega|(simp;done)|exact prgNot_e rfl|exact (idxF_no ‹_› (by grind)).symm|skip
 all_goals first|exact (idxF_at (d:=zInsIns) (by omega) (by omega) (by grind) (by simp_all)).symm|exact (any_next (d:=zInsIns) (by omega) (by omega) (by grind) (by simp_all))|skip
theorem anyInsF_e{procs:List PrcProc}{n:Int}{l:List InsIns}{r:Bool}(h:(l.any (fun i=>!insOk i procs.length n))=r):EC Tryz.prog 118 0 [.d (.sl 8 (l.map dInsIns)),.fn (.func 119) [] [.d (.ep [.sl 3 (procs.map dPrcProc)]),.d (.ep [.lit (.int .i64 n)])]] [] (CB r) [] 0:=by
 subst h
 refine (seat [] []).PU (mkM true []) (fn:=Tryz.f118) ⟨by kernel_rfl,by kernel_rfl,rfl⟩ (mkEs [eLInsIns 10 l,eLPrcProc 30 procs,eI 50 n,eI 112000 (idxF (fun i=>!insOk i procs.length n) l)]) noLps [] [xLInsIns 10,.fn 119 .nil (.cons (.ep (.cons (xLPrcProc 30) .nil)) (.cons (.ep (.cons (.ati .i64 50 .nil) .nil)) .nil))] (by simp only [go_sem,Nat.reduceEqDiff,Nat.reduceAdd,Nat.reduceBEq,Int.reduceToNat]) (fun _=>?_)
 conv=>arg 4;cbv
 simp only [go_sem,Nat.reduceEqDiff,Nat.reduceAdd,Nat.reduceBEq,Int.reduceToNat]
 repeat' (first|with_reducible apply And.intro|intro _)
 all_goals first|exact idxIns_e rfl|exact idxF_any|(rw [←idxF_any];rfl)
theorem procOk_eq{c:PrcProc}{n:Int}(h1:1≤c.Code.length):procOk c n=(itvOk ⟨c.Lo,c.Hi⟩&&decide (c.Code.length≤10)&&!c.Code.any (fun i=>!insOk i n c.Code.length)&&insEnds (c.Code.getD (c.Code.length-1) zInsIns)):=by
 have e1:decide (1≤c.Code.length)=true:=by simpa using h1
 have e2:c.Code.getLast?.elim false insEnds=insEnds (c.Code.getD (c.Code.length-1) zInsIns):=by
  rw [List.getLast?_eq_getElem?,List.getD_eq_getElem?_getD,List.getElem?_eq_getElem (by omega)];rfl
 have e3:c.Code.all (fun i=>insOk i n c.Code.length)=!c.Code.any (fun i=>!insOk i n c.Code.length):=by rw [List.all_eq_not_any_not]
 simp only [procOk,e1,e2,e3,Bool.and_true]
theorem procOk_bad{c:PrcProc}{n:Int}(h:itvOk ⟨c.Lo,c.Hi⟩=false∨(c.Code.length:Int)<1∨(c.Code.length:Int) > 10∨insEnds (c.Code.getD (c.Code.length-1) zInsIns)=false∨c.Code.any (fun i=>!insOk i n c.Code.length)=true):procOk c n=false:=by
 by_cases h1:1≤c.Code.length
 · rw [procOk_eq h1]
   rcases h with h|h|h|h|h
   · simp [h]
   · omega
   · have:¬c.Code.length≤10:=by omega
     simp [this]
   · simp only [h,Bool.and_false]
   · simp only [h,Bool.not_true,Bool.and_false,Bool.false_and]
 · simp [procOk,h1]
theorem procOk_good{c:PrcProc}{n:Int}(h:¬(itvOk ⟨c.Lo,c.Hi⟩=false∨(c.Code.length:Int)<1∨(c.Code.length:Int) > 10∨insEnds (c.Code.getD (c.Code.length-1) zInsIns)=false))(h2:¬c.Code.any (fun i=>!insOk i n c.Code.length)=true):procOk c n=true:=by
 simp only [not_or,Bool.not_eq_false,Bool.not_eq_true] at h h2
 obtain ⟨a,b,d,e⟩:=h
 have hd:c.Code.length≤10:=by omega
 rw [procOk_eq (by omega),a,e,h2]
 simp [hd]
theorem last_ix{l:List InsIns}(h:¬(l.length:Int)<1)(h2:¬(l.length:Int) > 10):IntKind.i64.wrap ((l.length:Int)-1)=(l.length:Int)-1∧((l.length:Int)-1).toNat=l.length-1:=⟨by rw [wrapI]<;>omega,by omega⟩
theorem prcItv_e{c0:Int}{c1:Int}{c2:List InsIns}{r:ItvItv}(h:(⟨(⟨c0,c1,c2⟩:PrcProc).Lo,(⟨c0,c1,c2⟩:PrcProc).Hi⟩:ItvItv)=r):EC Tryz.prog 116 0 [.agg [CI c0,CI c1,.d (.sl 8 (c2.map dInsIns))]] [] (.agg [CI r.Lo,CI r.Hi]) [] 0:=by
 subst h
 refine (seat [] []).PU (mkM true []) (fn:=Tryz.f116) ⟨by kernel_rfl,by kernel_rfl,rfl⟩ (mkEs [ePrcProc 10 ⟨c0,c1,c2⟩]) noLps [] [xPrcProc 10] (by simp only [go_sem,Nat.reduceEqDiff,Nat.reduceAdd,Nat.reduceBEq,Int.reduceToNat]) (fun _=>?_)
 conv=>arg 4;cbv
 simp only [go_sem,Nat.reduceEqDiff,Nat.reduceAdd,Nat.reduceBEq,Int.reduceToNat]
theorem iEnds_e{i0:Int}{i1:Int}{i2:Int}{i3:Int}{i4:Int}{i5:Int}{i6:Int}{i7:Int}{r:Bool}(h:insEnds (⟨i0,i1,i2,i3,i4,i5,i6,i7⟩:InsIns)=r):EC Tryz.prog 117 0 [.agg [CI i0,CI i1,CI i2,CI i3,CI i4,CI i5,CI i6,CI i7]] [] (CB r) [] 0:=by
 subst h
 refine (seat [] []).PU (mkM true []) (fn:=Tryz.f117) ⟨by kernel_rfl,by kernel_rfl,rfl⟩ (mkEs [eInsIns 10 ⟨i0,i1,i2,i3,i4,i5,i6,i7⟩]) noLps [] [xInsIns 10] rfl (fun _=>?_)
 conv=>arg 4;cbv
 simp only [go_sem,Nat.reduceEqDiff,Nat.reduceAdd,Nat.reduceBEq,Int.reduceToNat]
 simp [insEnds]
theorem jPrgOk_e{p0:List PrcProc}{r:Bool}(h:prgOk (⟨p0⟩:PrgProg)=r):EC Tryz.prog 54 0 [.agg [.d (.sl 3 (p0.map dPrcProc))]] [] (CB r) [] 0:=by
 subst h
 refine (seat [] []).PU (mkF [(3,fun s=>[s.at_ 1]),(9,fun s=>[s.at_ 5])] (mkM true [3,1,2,11,3,33])) (fn:=Tryz.f54) ⟨by kernel_rfl,by kernel_rfl,rfl⟩ (mkEs [ePrgProg 10 ⟨p0⟩]) (consL ⟨Int,fun ee k=>0≤k∧k≤(⟨p0⟩:PrgProg).Procs.length∧((⟨p0⟩:PrgProg).Procs.take k.toNat).all (fun c=>procOk c (⟨p0⟩:PrgProg).Procs.length)=true,fun ee k=>mkEs [eI 1 k,eItvItv 711000 ⟨((⟨p0⟩:PrgProg).Procs.getD k.toNat zPrcProc).Lo,((⟨p0⟩:PrgProg).Procs.getD k.toNat zPrcProc).Hi⟩,eB 712000 (itvOk ⟨((⟨p0⟩:PrgProg).Procs.getD k.toNat zPrcProc).Lo,((⟨p0⟩:PrgProg).Procs.getD k.toNat zPrcProc).Hi⟩),eB 729000 (insEnds (((⟨p0⟩:PrgProg).Procs.getD k.toNat zPrcProc).Code.getD (((⟨p0⟩:PrgProg).Procs.getD k.toNat zPrcProc).Code.length-1) zInsIns)),eB 913000 (((⟨p0⟩:PrgProg).Procs.getD k.toNat zPrcProc).Code.any (fun i=>!insOk i (⟨p0⟩:PrgProg).Procs.length ((⟨p0⟩:PrgProg).Procs.getD k.toNat zPrcProc).Code.length))],fun ee k=>((⟨p0⟩:PrgProg).Procs.length-k).toNat⟩ noLps) [(0,fun s=>(0,(s.kl (mkF [(3,fun s=>[s.at_ 1]),(9,fun s=>[s.at_ 5])] (mkM true [3,1,2,11,3,33]))).upd [(19,xi 100000001)]))] [xPrgProg 10] (by simp only [go_sem,Nat.reduceEqDiff,Nat.reduceAdd,Nat.reduceBEq,Int.reduceToNat]) (fun _=>?_)
 conv=>arg 4;cbv
 simp (maxSteps:=4000000) only [go_sem,Nat.reduceEqDiff,Nat.reduceAdd,Nat.reduceBEq,Int.reduceToNat,Nat.reduceDiv,Nat.reduceMod,lput,consL]
 repeat' (first|with_reducible apply And.intro|intro _)
 all_goals first|omega|(simp;done)|exact prcItv_e (r:=⟨_,_⟩) rfl|exact iItvOk_e rfl|exact anyInsF_e rfl|skip
 all_goals first|(have hl:=last_ix ‹_› ‹_›;first|omega|(rw [hl.1,hl.2];exact iEnds_e rfl))|skip
 all_goals (try (simp (disch:=omega) only [wrapI] at *))
 all_goals first|omega|skip
 · rename_i h;rcases h with h|h<;>simp [prgOk]<;>omega
 · rename_i _ hn x hx hl h
   have hb:procOk (p0.getD x.toNat zPrcProc) p0.length=false:=procOk_bad (h.elim .inl fun h=>.inr (h.elim .inl fun h=>.inr (h.elim .inl fun h=>.inr (.inl h))))
   simp only [prgOk,@all_bad _ p0 (fun c=>procOk c p0.length) x zPrcProc hx.1 hl hb,Bool.and_false]
 · rename_i _ hn x hx hl h h2
   have hb:procOk (p0.getD x.toNat zPrcProc) p0.length=false:=procOk_bad (.inr (.inr (.inr (.inr h2))))
   simp only [prgOk,@all_bad _ p0 (fun c=>procOk c p0.length) x zPrcProc hx.1 hl hb,Bool.and_false]
 · rename_i _ hn x hx hl h
   rw [tk_all p0 _ x zPrcProc hx.1 hl,hx.2.2,procOk_good h.1 (by rw [h.2];exact Bool.false_ne_true)];rfl
 · rename_i _ hn x hx hl
   rw [tk_end (by omega)] at hx
   simp only [prgOk,hx.2.2,Bool.and_true]
   simp;omega
end Go.Proofs.YtjakhnhnjhafgaaGreat.Wk
