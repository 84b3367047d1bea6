/- A part of the proof. -/
import Derived.WalkKit
import Derived.ProofKit
import Derived.Below
import Derived.Deep.Slices
import Derived.Deep.Draws
import Derived.Maps.AppendAt
import Derived.Laws.AppendOwnNone
import Derived.OwnWalk
import Derived.OpenShut
import Derived.ChangeArms
import Derived.Test.YtjakhnhnjhafgaaGreatChecked
import Derived.Handy
import Derived.Deep.QuietTactic
import Derived.BigQuiet
import Derived.Deep.RegionWith
import Derived.WalkSpells
import Derived.WalkLawsBesides
import Derived.Lib.Hide
set_option linter.unusedVariables false
set_option linter.unusedSimpArgs false
namespace Ow
open Go Go.RowKit Go.Deep
structure Chg (F:List Nat) (w w':World):Prop where
 os:w'.os=w.os
 tape:w'.tape=w.tape
 output:w'.output=w.output
 size:w.heap.size≤w'.heap.size
 block:∀k,k<w.heap.size→k∉F→w'.heap[k]? = w.heap[k]?
section
variable {F G:List Nat} {w w1 w':World}
theorem Chg.refl(F:List Nat)(w:World):Chg F w w:=⟨rfl,rfl,rfl,Nat.le_refl _,fun _ _ _=>rfl⟩
theorem Chg.trans(h:Chg F w w1)(k:Chg G w1 w')(hG:∀g∈G,g∈F∨w.heap.size≤g):Chg F w w':=
 ⟨k.os.trans h.os,k.tape.trans h.tape,k.output.trans h.output,Nat.le_trans h.size k.size,fun i hi hn=>
   (k.block i (Nat.lt_of_lt_of_le hi h.size) (fun hg=>by rcases hG i hg with h1|h1;exact hn h1;omega)).trans (h.block i hi hn)⟩
theorem Chg.trans0(h:Chg F w w1)(k:Chg [] w1 w'):Chg F w w':=h.trans k (fun g hg=>by cases hg)
theorem Chg.mono(h:Chg F w w')(hF:∀g∈F,g∈G):Chg G w w':=⟨h.os,h.tape,h.output,h.size,fun k hk hn=>h.block k hk (fun hf=>hn (hF k hf))⟩
theorem Chg.of0(h:Chg [] w w'):Chg F w w':=h.mono (fun g hg=>by cases hg)
theorem Chg.drew(h:Chg F w w'):Chg F w w'.drew:=⟨h.os,h.tape,h.output,h.size,h.block⟩
theorem Chg.drewN(h:Chg F w w')(n:Nat):Chg F w (w'.drewN n):=⟨h.os,h.tape,h.output,h.size,h.block⟩
theorem Chg.alloc(h:Chg F w w')(o:Obj):Chg F w (w'.alloc o):=
 h.trans0 ⟨rfl,rfl,rfl,by simp,fun k hk _=>Below.heap_alloc _ _ _ hk⟩
theorem Chg.setCell(h:Chg F w w'){p:Addr}(hp:p.block∈F∨w.heap.size≤p.block)(u:Value):Chg F w (w'.setCell p u):=
 h.trans (G:=[p.block]) ⟨rfl,rfl,rfl,by simp [World.setCell],fun k _ hn=>Below.heap_setCell _ _ _ _ (fun e=>hn (by simp [e]))⟩ (fun g hg=>by simp at hg;subst hg;exact hp)
theorem Chg.below(h:Chg [] w w'):Below w.heap.size w w':=⟨h.os,h.tape,h.output,h.size,fun k hk=>h.block k hk (by simp)⟩
theorem Chg.cell(h:Chg F w w'){p:Addr}(hp:p.block<w.heap.size)(hn:p.block∉F):w'.cell? p=w.cell? p:=World.cell?_of_block (w:=w) (h.block p.block hp hn)
theorem Chg.cell0(h:Chg [] w w'){p:Addr}{v:Value}(hv:w.cell? p=some v):w'.cell? p=some v:=
 (World.cell?_of_block (w:=w) (h.block p.block (World.block_lt_of_cell? _ _ hv) (by simp))).trans hv
theorem Chg.cells(h:Chg [] w w'):(∀b o,b<w.heap.size→w'.cell? ⟨b,o,none⟩=w.cell? ⟨b,o,none⟩)∧(∀b o,b<w.heap.size→w'.frozen? ⟨b,o,none⟩=w.frozen? ⟨b,o,none⟩):=
 ⟨fun b o hb=>World.cell?_of_block (w:=w) (a:=⟨b,o,none⟩) (h.block b hb (by simp)),fun b o hb=>World.frozen?_of_block (w:=w) (a:=⟨b,o,none⟩) (h.block b hb (by simp))⟩
theorem Chg.grown{row:Option Nat}(h:Chg F w w1)(hg:w1.grownBy w' row)(hr:∀k,row=some k→k∈F∨w.heap.size≤k):Chg F w w':=
 h.trans (G:=row.toList) ⟨hg.os,hg.tape,hg.output,hg.size,fun k hk hn=>hg.block k hk (fun e=>hn (by simp [←e]))⟩ (fun g hg'=>hr g (by simpa using hg'))
end
def I64(n:Int):Prop:=-9223372036854775808≤n∧n≤9223372036854775807
class Rp (α:Type) where
 sz:Nat
 R : World→α→List Value→List Nat→Prop
 len:∀{w x cs F},R w x cs F→cs.length=sz
 keep:∀{w w' x cs F},R w x cs F→(∀b∈F,w'.heap[b]? = w.heap[b]?)→R w' x cs F
 lt:∀{w x cs F},R w x cs F→∀b∈F,b<w.heap.size
 one:∀{w x cs F},R w x cs F→∀u∈cs,u.oneCell'=true
open Rp (R sz)
theorem Rp.chg{α:Type}[Rp α]{w w':World}{x:α}{cs:List Value}{F G:List Nat}(h:R w x cs F)(hc:Chg G w w')(hd:∀b∈F,b∉G):R w' x cs F:=
 Rp.keep h (fun b hb=>hc.block b (Rp.lt h b hb) (hd b hb))
theorem Rp.chg0{α:Type}[Rp α]{w w':World}{x:α}{cs:List Value}{F:List Nat}(h:R w x cs F)(hc:Chg [] w w'):R w' x cs F:=Rp.chg h hc (by simp)
instance : Rp Int where
 sz:=1
 R:=fun _ x cs F=>cs=[.int .i64 x]∧F=[]∧I64 x
 len:=fun h=>by rw [h.1];rfl
 keep:=fun h _=>h
 lt:=fun h b hb=>by rw [h.2.1] at hb;cases hb
 one:=fun h u hu=>by rw [h.1] at hu;simp at hu;subst hu;rfl
instance : Rp UInt8 where
 sz:=1
 R:=fun _ x cs F=>cs=[.int .u8 x.toNat]∧F=[]
 len:=fun h=>by rw [h.1];rfl
 keep:=fun h _=>h
 lt:=fun h b hb=>by rw [h.2] at hb;cases hb
 one:=fun h u hu=>by rw [h.1] at hu;simp at hu;subst hu;rfl
instance {α β:Type} [Rp α] [Rp β]:Rp (α×β) where
 sz:=sz α+sz β
 R:=fun w x cs F=>∃c1 c2 F1 F2,cs=c1++c2∧F=F1++F2∧R w x.1 c1 F1∧R w x.2 c2 F2
 len:=fun ⟨c1,c2,F1,F2,h1,h2,h3,h4⟩=>by rw [h1,List.length_append,Rp.len h3,Rp.len h4]
 keep:=fun ⟨c1,c2,F1,F2,h1,h2,h3,h4⟩ hk=>⟨c1,c2,F1,F2,h1,h2,Rp.keep h3 (fun b hb=>hk b (by rw [h2];simp [hb])),Rp.keep h4 (fun b hb=>hk b (by rw [h2];simp [hb]))⟩
 lt:=fun ⟨c1,c2,F1,F2,h1,h2,h3,h4⟩ b hb=>by rw [h2,List.mem_append] at hb;exact hb.elim (Rp.lt h3 b) (Rp.lt h4 b)
 one:=fun ⟨c1,c2,F1,F2,h1,h2,h3,h4⟩ u hu=>by rw [h1,List.mem_append] at hu;exact hu.elim (Rp.one h3 u) (Rp.one h4 u)
@[reducible] def Rp.by_{α β:Type}[Rp β](f:α→β):Rp α where
 sz:=sz β
 R:=fun w x cs F=>R w (f x) cs F
 len:=fun h=>Rp.len h
 keep:=fun h hk=>Rp.keep h hk
 lt:=fun h=>Rp.lt h
 one:=fun h=>Rp.one h
structure Row {α:Type} [Rp α] (w:World) (xs:List α) (b off:Nat) (C:Nat→List Value) (Fs:Nat→List Nat):Prop where
 lt:b<w.heap.size
 cell:∀i (h:i<xs.length),∀j,j<sz α→w.cell? ⟨b,off+i*sz α+j,none⟩=(C i)[j]?
 elem:∀i (h:i<xs.length),R w xs[i] (C i) (Fs i)
def footOf(b n:Nat)(Fs:Nat→List Nat):List Nat:=b::(List.range n).flatMap Fs
def RL{α:Type}[Rp α](w:World)(xs:List α)(v:Value)(F:List Nat):Prop:=
 ∃ (A:Option Addr) (cap:Nat),v=.slice A xs.length cap∧xs.length≤cap∧cap≤maxLen ∧
  ((xs=[]∧F=[]∧(A=none→cap=0))∨∃b off C Fs,A=some ⟨b,off,none⟩∧F=footOf b xs.length Fs∧xs≠[]∧Row w xs b off C Fs)
theorem Row.keep{α:Type}[Rp α]{w w':World}{xs:List α}{b off:Nat}{C:Nat→List Value}{Fs:Nat→List Nat}(h:Row w xs b off C Fs)
 (hk:∀g∈footOf b xs.length Fs,w'.heap[g]? = w.heap[g]?):Row w' xs b off C Fs:=by
 have hb:=hk b (by simp [footOf])
 refine ⟨?_,fun i hi j hj=>(World.cell?_of_block (w:=w) hb).trans (h.cell i hi j hj),fun i hi=>Rp.keep (h.elem i hi) (fun g hg=>hk g ?_)⟩
 · rcases Nat.lt_or_ge b w'.heap.size with h1|h1
   · exact h1
   · rw [Array.getElem?_eq_none h1,Array.getElem?_eq_getElem h.lt] at hb;cases hb
 · simp only [footOf,List.mem_cons,List.mem_flatMap,List.mem_range]
   exact Or.inr ⟨i,hi,hg⟩
instance {α:Type} [Rp α]:Rp (List α) where
 sz:=1
 R:=fun w xs cs F=>∃v,cs=[v]∧RL w xs v F
 len:=fun ⟨v,h,_⟩=>by rw [h];rfl
 keep:=fun ⟨v,h,A,cap,h1,h2,h3,h4⟩ hk=>by
  refine ⟨v,h,A,cap,h1,h2,h3,?_⟩
  rcases h4 with h4|⟨b,off,C,Fs,e1,e2,e3,e4⟩
  · exact Or.inl h4
  · exact Or.inr ⟨b,off,C,Fs,e1,e2,e3,e4.keep (by rw [←e2];exact hk)⟩
 lt := fun ⟨v,h,A,cap,h1,h2,h3,h4⟩ b hb=>by
  rcases h4 with ⟨_,h4,_⟩|⟨b',off,C,Fs,e1,e2,e3,e4⟩
  · rw [h4] at hb;cases hb
  · rw [e2] at hb
    simp only [footOf,List.mem_cons,List.mem_flatMap,List.mem_range] at hb
    rcases hb with rfl|⟨i,hi,hg⟩
    · exact e4.lt
    · exact Rp.lt (e4.elem i hi) b hg
 one:=fun ⟨v,h,A,cap,h1,_⟩ u hu=>by rw [h] at hu;simp at hu;subst hu;rw [h1];rfl
theorem R_int{w:World}{x:Int}{cs:List Value}{F:List Nat}:R w x cs F↔cs=[.int .i64 x]∧F=[]∧I64 x:=Iff.rfl
theorem sz_int : sz Int=1:=rfl
section
variable {α:Type} [Rp α] {w w':World} {xs:List α} {v:Value} {F G:List Nat}
theorem RL.rp(h:RL w xs v F):R w xs [v] F:=⟨v,rfl,h⟩
theorem RL.of(h:R w xs [v] F):RL w xs v F:=by obtain ⟨v',h1,h2⟩:=h;simp at h1;subst h1;exact h2
theorem RL.chg(h:RL w xs v F)(hc:Chg G w w')(hd:∀b∈F,b∉G):RL w' xs v F:=RL.of (Rp.chg h.rp hc hd)
theorem RL.chg0(h:RL w xs v F)(hc:Chg [] w w'):RL w' xs v F:=RL.of (Rp.chg0 h.rp hc)
theorem RL.lt(h:RL w xs v F):∀b∈F,b<w.heap.size:=Rp.lt h.rp
theorem RL.form(h:RL w xs v F):∃A cap,v=.slice A xs.length cap∧xs.length≤cap∧cap≤maxLen:=by
 obtain ⟨A,cap,h1,h2,h3,_⟩:=h
 exact ⟨A,cap,h1,h2,h3⟩
theorem RL.elem(h:RL w xs v F){i:Nat}(hi:i<xs.length):∃b off cap cs Fi,v=.slice (some ⟨b,off,none⟩) xs.length cap∧R w xs[i] cs Fi∧(∀j,j<sz α→w.cell? ⟨b,off+i*sz α+j,none⟩=cs[j]?)∧(∀g∈Fi,g∈F):=by
 obtain ⟨A,cap,h1,h2,h3,h4⟩:=h
 rcases h4 with ⟨rfl,_⟩|⟨b,off,C,Fs,rfl,rfl,e3,e4⟩
 · simp at hi
 · refine ⟨b,off,cap,C i,Fs i,h1,e4.elem i hi,e4.cell i hi,fun g hg=>?_⟩
   simp only [footOf,List.mem_cons,List.mem_flatMap,List.mem_range]
   exact Or.inr ⟨i,hi,hg⟩
theorem RL.nil_ : RL w ([]:List α) (.slice none 0 0) []:=⟨none,0,rfl,Nat.le_refl _,by unfold maxLen;omega,Or.inl ⟨rfl,rfl,fun _=>rfl⟩⟩
end
theorem nodup_foot{b n:Nat}{Fs:Nat→List Nat}(h:(footOf b n Fs).Nodup):
 (∀i,i<n→b∉Fs i)∧(∀i,i<n→(Fs i).Nodup)∧∀i j,i<n→j<n→i≠j→∀g∈Fs i,g∉Fs j:=by
 rw [footOf,List.nodup_cons] at h
 obtain ⟨h1,h2⟩:=h
 refine ⟨fun i hi hg=>h1 (by simp only [List.mem_flatMap,List.mem_range];exact ⟨i,hi,hg⟩),?_⟩
 rw [List.flatMap_def,List.Nodup,List.pairwise_flatten] at h2
 obtain ⟨h3,h4⟩:=h2
 refine ⟨fun i hi=>h3 _ (List.mem_map.2 ⟨i,List.mem_range.2 hi,rfl⟩),?_⟩
 have key:∀i j,i<j→j<n→∀g∈Fs i,g∉Fs j:=by
  intro i j hij hj g hg hg'
  rw [List.pairwise_map] at h4
  have h5:=List.pairwise_iff_getElem.1 h4 i j (by simp;omega) (by simp;omega) hij
  simp only [List.getElem_range] at h5
  exact h5 g hg g hg' rfl
 intro i j hi hj hne g hg hg'
 rcases Nat.lt_or_gt_of_ne hne with h|h
 · exact key i j h hj g hg hg'
 · exact key j i h hi g hg' hg
structure Own (w:World) (F:List Nat):Prop where
 nodup:F.Nodup
 free:∀b∈F,∃c e,w.heap[b]? = some (.cells c e (0,0))
theorem Own.nil_(w:World):Own w []:=⟨List.nodup_nil,fun b hb=>by cases hb⟩
theorem Own.frozen{w:World}{F:List Nat}(h:Own w F){b o:Nat}(hb:b∈F):w.frozen? ⟨b,o,none⟩=false:=by
 obtain ⟨c,e,he⟩:=h.free b hb
 simp [World.frozen?,he]
theorem Own.keep{w w':World}{F:List Nat}(h:Own w F)(hk:∀b∈F,w'.heap[b]? = w.heap[b]?):Own w' F:=
 ⟨h.nodup,fun b hb=>by obtain ⟨c,e,he⟩:=h.free b hb;exact ⟨c,e,(hk b hb).trans he⟩⟩
theorem Own.lt{w:World}{F:List Nat}(h:Own w F):∀b∈F,b<w.heap.size:=fun b hb=>by
 obtain ⟨c,e,he⟩:=h.free b hb
 rcases Nat.lt_or_ge b w.heap.size with h1|h1
 · exact h1
 · rw [Array.getElem?_eq_none h1] at he;cases he
theorem Own.chg{w w':World}{F G:List Nat}(h:Own w F)(hc:Chg G w w')(hd:∀b∈F,b∉G):Own w' F:=
 h.keep (fun b hb=>hc.block b (h.lt b hb) (hd b hb))
theorem Own.chg0{w w':World}{F:List Nat}(h:Own w F)(hc:Chg [] w w'):Own w' F:=h.chg hc (by simp)
theorem Own.setCell{w:World}{F:List Nat}(h:Own w F)(p:Addr)(u:Value):Own (w.setCell p u) F:=
 ⟨h.nodup,fun b hb=>by
   obtain ⟨c,e,he⟩:=h.free b hb
   by_cases hp:p.block=b
   · simp only [World.setCell,Array.getElem?_modify,hp,if_true,he,Option.map_some]
     exact ⟨_,_,rfl⟩
   · exact ⟨c,e,(Below.heap_setCell w p u b (by omega)).trans he⟩⟩
theorem Own.left{w:World}{F G:List Nat}(h:Own w (F++G)):Own w F:=⟨(List.nodup_append.1 h.nodup).1,fun b hb=>h.free b (by simp [hb])⟩
theorem Own.right{w:World}{F G:List Nat}(h:Own w (F++G)):Own w G:=⟨(List.nodup_append.1 h.nodup).2.1,fun b hb=>h.free b (by simp [hb])⟩
theorem Own.apart{w:World}{F G:List Nat}(h:Own w (F++G)):∀b∈F,b∉G:=fun b hb hg=>(List.nodup_append.1 h.nodup).2.2 b hb b hg rfl
theorem Own.append{w:World}{F G:List Nat}(h:Own w F)(k:Own w G)(hd:∀b∈F,b∉G):Own w (F++G):=
 ⟨List.nodup_append.2 ⟨h.nodup,k.nodup,fun a ha b hb e=>hd a ha (e▸hb)⟩,fun b hb=>by
   rw [List.mem_append] at hb;exact hb.elim (h.free b) (k.free b)⟩
theorem Own.over{w w':World}{F G:List Nat}(h:Own w F)(k:Own w' G)(hc:Chg G w w'):Own w' F:=
 ⟨h.nodup,fun b hb=>by
   by_cases hg:b∈G
   · exact k.free b hg
   · obtain ⟨c,e,he⟩:=h.free b hb
     exact ⟨c,e,(hc.block b (h.lt b hb) hg).trans he⟩⟩
section
variable {α:Type} [Rp α] {w w':World} {xs:List α} {v:Value} {F G:List Nat}
theorem RL.open_(h:RL w xs v F)(hn:F.Nodup){i:Nat}(hi:i<xs.length):
 ∃ b off cap cs Fi,v=.slice (some ⟨b,off,none⟩) xs.length cap∧R w xs[i] cs Fi∧(∀j,j<sz α→w.cell? ⟨b,off+i*sz α+j,none⟩=cs[j]?) ∧
  (∀g∈Fi,g∈F)∧b∈F∧b∉Fi∧Fi.Nodup ∧
  ∀ (w':World) (x':α) (cs':List Value),R w' x' cs' Fi→(∀j,j<sz α→w'.cell? ⟨b,off+i*sz α+j,none⟩=cs'[j]?) →
   (∀g∈F,g≠b→g∉Fi→w'.heap[g]? = w.heap[g]?)→(∀o,(o<off+i*sz α∨off+(i+1)*sz α≤o)→w'.cell? ⟨b,o,none⟩=w.cell? ⟨b,o,none⟩)→w.heap.size≤w'.heap.size →
   RL w' (xs.set i x') v F:=by
 obtain ⟨A,cap,h1,h2,h3,h4⟩:=h
 rcases h4 with ⟨rfl,_⟩|⟨b,off,C,Fs,rfl,rfl,e3,e4⟩
 · simp at hi
 obtain ⟨n1,n2,n3⟩:=nodup_foot hn
 refine ⟨b,off,cap,C i,Fs i,h1,e4.elem i hi,e4.cell i hi,fun g hg=>?_,by simp [footOf],n1 i hi,n2 i hi,?_⟩
 · simp only [footOf,List.mem_cons,List.mem_flatMap,List.mem_range]
   exact Or.inr ⟨i,hi,hg⟩
 intro w' x' cs' hx hcell hoth hrow hsz
 refine ⟨some ⟨b,off,none⟩,cap,by simpa using h1,by simpa using h2,h3,Or.inr ⟨b,off,fun k=>if k=i then cs' else C k,Fs,rfl,by simp,?_,?_⟩⟩
 · intro e;apply e3;exact List.eq_nil_of_length_eq_zero (by have:=congrArg List.length e;simpa using this)
 refine ⟨Nat.lt_of_lt_of_le e4.lt hsz,fun k hk j hj=>?_,fun k hk=>?_⟩
 · rw [List.length_set] at hk
   by_cases hki:k=i
   · subst hki;simp only [if_true];exact hcell j hj
   · simp only [hki,if_false]
     rw [hrow _ ?_]
     · exact e4.cell k hk j hj
     · rcases Nat.lt_or_gt_of_ne hki with h|h
       · left
         have:(k+1)*sz α≤i*sz α:=Nat.mul_le_mul_right _ h
         rw [Nat.add_mul] at this;omega
       · right
         have:(i+1)*sz α≤k*sz α:=Nat.mul_le_mul_right _ h
         omega
 · rw [List.length_set] at hk
   by_cases hki:k=i
   · subst hki;simp only [if_true,List.getElem_set_self];exact hx
   · simp only [hki,if_false,List.getElem_set_ne (Ne.symm hki)]
     refine Rp.keep (e4.elem k hk) (fun g hg=>hoth g ?_ (fun e=>n1 k hk (e▸hg)) (fun e=>n3 k i hk hi hki g hg e))
     simp only [footOf,List.mem_cons,List.mem_flatMap,List.mem_range]
     exact Or.inr ⟨k,hk,hg⟩
end
structure Elt (w w':World) (b lo:Nat) (cs:List Value) (Fi F:List Nat):Prop where
 cell:∀j,j<cs.length→w'.cell? ⟨b,lo+j,none⟩=cs[j]?
 oth:∀g∈F,g≠b→g∉Fi→w'.heap[g]? = w.heap[g]?
 row:∀o,(o<lo∨lo+cs.length≤o)→w'.cell? ⟨b,o,none⟩=w.cell? ⟨b,o,none⟩
 size:w.heap.size≤w'.heap.size
theorem Elt.store{w w':World}{b lo:Nat}{cs:List Value}{Fi F:List Nat}(h:Elt w w' b lo cs Fi F)(j:Nat)(hj:j<cs.length)(u:Value):
 Elt w (w'.setCell ⟨b,lo+j,none⟩ u) b lo (cs.set j u) Fi F:=by
 have hcj:w'.cell? ⟨b,lo+j,none⟩=some cs[j]:=by rw [h.cell j hj,List.getElem?_eq_getElem hj]
 refine ⟨fun i hi=>?_,fun g hg hgb hgF=>(Below.heap_setCell _ _ _ _ hgb).trans (h.oth g hg hgb hgF),fun o ho=>?_,by simpa using h.size⟩
 · rw [List.length_set] at hi
   by_cases hij:j=i
   · subst hij
     rw [World.cell?_setCell_same _ _ _ hcj,List.getElem?_set_self hi]
   · rw [World.cell?_setCell_other _ _ _ _ (by intro e;injection e with _ e;omega),List.getElem?_set_ne hij]
     exact h.cell i hi
 · rw [List.length_set] at ho
   rw [World.cell?_setCell_other _ _ _ _ (by intro e;injection e with _ e;omega)]
   exact h.row o ho
theorem Elt.store0{w w':World}{b lo:Nat}{cs:List Value}{Fi F:List Nat}(h:Elt w w' b lo cs Fi F)(hj:0<cs.length)(u:Value):
 Elt w (w'.setCell ⟨b,lo,none⟩ u) b lo (cs.set 0 u) Fi F:=h.store 0 hj u
theorem Elt.call{w w' w1:World}{b lo:Nat}{cs:List Value}{Fi F G:List Nat}(h:Elt w w' b lo cs Fi F)(hF:∀g∈F,g<w.heap.size)(hbF:b∈F)(hb:b∉Fi)(hc:Chg G w' w1)(hG:∀g∈G,g∈Fi):Elt w w1 b lo cs Fi F:=by
 have e:w1.heap[b]? = w'.heap[b]?:=hc.block b (Nat.lt_of_lt_of_le (hF b hbF) h.size) (fun hg=>hb (hG b hg))
 exact ⟨fun j hj=>(World.cell?_of_block (w:=w') e).trans (h.cell j hj),fun g hg hgb hgF=>(hc.block g (Nat.lt_of_lt_of_le (hF g hg) h.size) (fun h'=>hgF (hG g h'))).trans (h.oth g hg hgb hgF),
  fun o ho=>(World.cell?_of_block (w:=w') e).trans (h.row o ho),Nat.le_trans h.size hc.size⟩
section
variable {α:Type} [Rp α] {w w':World} {xs:List α} {v:Value} {F G:List Nat}
theorem RL.open_elt(h:RL w xs v F)(hn:F.Nodup){i:Nat}(hi:i<xs.length):
 ∃ b off cap cs Fi,v=.slice (some ⟨b,off,none⟩) xs.length cap∧R w xs[i] cs Fi∧(∀j,j<sz α→w.cell? ⟨b,off+i*sz α+j,none⟩=cs[j]?) ∧
  (∀g∈Fi,g∈F)∧b∈F∧b∉Fi∧Fi.Nodup∧Elt w w b (off+i*sz α) cs Fi F ∧
  ∀ (w':World) (x':α) (cs':List Value),R w' x' cs' Fi→Elt w w' b (off+i*sz α) cs' Fi F→RL w' (xs.set i x') v F:=by
 obtain ⟨b,off,cap,cs,Fi,h1,h2,h3,h4,h5,h6,h7,h8⟩:=h.open_ hn hi
 have hl:=Rp.len h2
 refine ⟨b,off,cap,cs,Fi,h1,h2,h3,h4,h5,h6,h7,⟨fun j hj=>h3 j (by omega),fun _ _ _ _=>rfl,fun _ _=>rfl,Nat.le_refl _⟩,fun w' x' cs' hx hE=>?_⟩
 have hl':=Rp.len hx
 refine h8 w' x' cs' hx (fun j hj=>hE.cell j (by omega)) hE.oth (fun o ho=>hE.row o ?_) hE.size
 rw [hl']
 rw [Nat.add_mul,Nat.one_mul] at ho
 omega
end
class Zr (α:Type) [Rp α] where
 zero:α
 zcells:List Value
 zr:∀w,R w zero zcells []
open Zr (zero zcells zr)
theorem getElem?_div_block(C:Nat→List Value)(s:Nat)(hs:0<s)(hC:∀i,(C i).length=s)(n i j:Nat)(hi:i<n)(hj:j<s):
 ((List.range n).flatMap C)[i*s+j]? = (C i)[j]?:=by
 induction n with
 | zero=>omega
 | succ n ih=>
   have hlen:((List.range n).flatMap C).length=n*s:=by
    clear ih hi
    induction n with
    | zero=>simp
    | succ n ih2=>simp [List.range_succ,hC,Nat.add_mul,ih2]
   rw [List.range_succ,List.flatMap_append,List.flatMap_singleton]
   by_cases h:i<n
   · rw [List.getElem?_append_left]
     · exact ih h
     · rw [hlen]
       have:(i+1)*s≤n*s:=Nat.mul_le_mul_right _ h
       rw [Nat.add_mul] at this;omega
   · have:i=n:=by omega
     subst this
     rw [List.getElem?_append_right (by omega),hlen,show i*s+j-i*s=j by omega]
section
variable {α:Type} [Rp α] {w w':World} {xs:List α} {v:Value} {F G:List Nat}
end
section
variable {α:Type} [Rp α] [Zr α]
end
theorem ownsRow_lt{w:World}{base:Nat}{e:TypeId}{size n:Nat}{v:Value}{xs:List Value}(h:w.ownsRow base e size v n xs):∀g,v.ownBlock=some g→base≤g∧g<w.heap.size:=by
 intro g hg
 rcases h.2 with ⟨rfl,_⟩|⟨g',cap,cur,rfl,hb,hc,_⟩
 · simp [Value.ownBlock] at hg
 · simp only [Value.ownBlock,Option.some.injEq] at hg
   subst hg
   refine ⟨hb,?_⟩
   rcases Nat.lt_or_ge g' w.heap.size with h3|h3
   · exact h3
   · rw [Array.getElem?_eq_none h3] at hc;cases hc
theorem RL.of_own{α:Type}[Rp α]{w:World}{base:Nat}{e:TypeId}{v:Value}{n:Nat}{cells:List Value}{xs:List α}(C:Nat→List Value)(Fs:Nat→List Nat)
 (h:w.ownsRow base e (sz α) v n cells) (hn:n=xs.length)
 (hC:∀i,i<xs.length→∀j,j<sz α→cells[i*sz α+j]? = (C i)[j]?) (hR:∀i (hi:i<xs.length),R w xs[i] (C i) (Fs i))
 (hO:Own w ((List.range xs.length).flatMap Fs)) (hg:∀g,v.ownBlock=some g→g∉(List.range xs.length).flatMap Fs) :
 ∃ F,RL w xs v F∧Own w F∧∀g∈F,v.ownBlock=some g∨g∈(List.range xs.length).flatMap Fs:=by
 subst hn
 obtain ⟨h1,h2⟩:=h
 rcases h2 with ⟨rfl,h2⟩|⟨g,cap,cur,rfl,hb,hc,hle,hcap,hsz,htk⟩
 · have:xs=[]:=List.eq_nil_of_length_eq_zero h2
   subst this
   exact ⟨[],RL.nil_,Own.nil_ _,by simp⟩
 · by_cases hx:xs=[]
   · subst hx
     exact ⟨[],⟨_,_,rfl,by simp,hcap,Or.inl ⟨rfl,rfl,by simp⟩⟩,Own.nil_ _,by simp⟩
   · refine ⟨footOf g xs.length Fs,⟨_,_,rfl,hle,hcap,Or.inr ⟨g,0,C,Fs,rfl,rfl,hx,⟨?_,?_,hR⟩⟩⟩,⟨?_,?_⟩,?_⟩
     · rcases Nat.lt_or_ge g w.heap.size with h3|h3
       · exact h3
       · rw [Array.getElem?_eq_none h3] at hc;cases hc
     · intro i hi j hj
       rw [←hC i hi j hj,←htk]
       have hij:i*sz α+j<xs.length*sz α:=by
        have:(i+1)*sz α≤xs.length*sz α:=Nat.mul_le_mul_right _ hi
        rw [Nat.add_mul] at this;omega
       rw [List.getElem?_take_of_lt hij]
       simp [World.cell?,hc]
     · rw [footOf,List.nodup_cons]
       exact ⟨hg g rfl,hO.nodup⟩
     · intro b hb'
       rcases List.mem_cons.1 hb' with rfl|hb'
       · exact ⟨_,_,hc⟩
       · exact hO.free b hb'
     · intro b hb'
       rcases List.mem_cons.1 hb' with rfl|hb'
       · exact Or.inl rfl
       · exact Or.inr hb'
def Fresh{α:Type}[Rp α](xs:List α)(w:World)(e:Ending)(w':World):Prop:=∃v G,e=.returned v∧Chg [] w w'∧RL w' xs v G∧Own w' G∧∀g∈G,w.heap.size≤g
theorem Fresh.mk_{α:Type}[Rp α]{xs:List α}{w w':World}{v:Value}{G:List Nat}(h1:Chg [] w w')(h2:RL w' xs v G)(h3:Own w' G)(h4:∀g∈G,w.heap.size≤g):Fresh xs w (.returned v) w':=⟨v,G,rfl,h1,h2,h3,h4⟩
class Mk (α:Type) where
 mark:α→Int→α
 cnt:α→Nat
open Mk (mark cnt)
section
variable {α:Type} [Mk α]
class Sz (α:Type) where
 size:α→Nat
end
theorem Chg.r{F:List Nat}{w w':World}{a:Addr}(h:Chg F w w')(v:Value)(hb:w.heap.size≤a.block:=by first|(simp;done)|(simp;omega)):Chg F w (w'.setCell a v):=h.setCell (Or.inr hb) v
theorem Chg.l{F:List Nat}{w w':World}{a:Addr}(h:Chg F w w')(v:Value)(hb:a.block∈F:=by first|(simp;done)|(simp;omega)):Chg F w (w'.setCell a v):=h.setCell (Or.inl hb) v
theorem pS(a:Act)(d:Nat)(v:Value):a.put (some d) v={ a with tmps:=a.tmps.setIfInBounds d v }:=rfl
theorem pN(a:Act)(v:Value):a.put none v=a:=rfl
theorem pA{α:Type}(l:List α)(i:Nat)(x:α):l.toArray.setIfInBounds i x=(l.set i x).toArray:=List.setIfInBounds_toArray ..
theorem pZ{α:Type}(x y:α)(l:List α):(x::l).set 0 y=y::l:=rfl
theorem pC{α:Type}(x y:α)(l:List α)(i:Nat):(x::l).set (i+1) y=x::l.set i y:=rfl
theorem Chg.c{F:List Nat}{w w':World}(h:Chg F w w':=by repeat (with_reducible first|refine Chg.r ?_ _|refine Chg.alloc ?_ _|refine Chg.drewN ?_ _|refine Chg.drew ?_|exact Chg.refl _ _|assumption)):Chg F w w':=h
theorem Chg.g{F:List Nat}{w w':World}(h:Chg F w w':=by repeat (with_reducible first|refine Chg.l ?_ _|refine Chg.alloc ?_ _|refine Chg.drewN ?_ _|refine Chg.drew ?_|exact Chg.refl _ _|assumption)):Chg F w w':=h
theorem Chg.q{F:List Nat}{w w':World}(h:Chg F w w':=by (repeat (first|with_reducible exact Chg.refl _ _|with_reducible refine Chg.setCell ?_ (Or.inr (by first|(simp;done)|(simp;omega))) _|with_reducible refine Chg.drewN ?_ _|with_reducible refine Chg.drew ?_|with_reducible refine Chg.alloc ?_ _|with_reducible refine Chg.trans0 ?_ ‹Chg [] _ _›))):Chg F w w':=h
theorem Chg.k{F:List Nat}{w w':World}(h:Chg F w w':=by repeat (with_reducible first|refine Chg.r ?_ _|refine Chg.alloc ?_ _|refine Chg.drewN ?_ _|refine Chg.drew ?_|exact Chg.refl _ _|assumption|refine Chg.trans0 ?_ (by assumption))):Chg F w w':=h
end Ow
namespace Ow
open Go Go.RowKit Go.Deep
open Rp (R sz)
structure Cells {α:Type} [Rp α] (w:World) (ys:List α) (news:List Value) (C:Nat→List Value) (Fs:Nat→List Nat) (F:List Nat):Prop where
 len:news.length=ys.length*sz α
 at_:∀i,i<ys.length→∀j,j<sz α→news[i*sz α+j]? = (C i)[j]?
 elem:∀i (hi:i<ys.length),R w ys[i] (C i) (Fs i)
 sub:∀i,i<ys.length→∀g∈Fs i,g∈F
 one:∀u∈news,u.oneCell'=true
theorem RL.cells{α:Type}[Rp α](hs:0<sz α){w:World}{ys:List α}{v:Value}{F:List Nat}(h:RL w ys v F):
 ∃ news C Fs,Cells w ys news C Fs F∧((v=.slice none 0 0∧ys=[])∨∃ad cap,v=.slice (some ad) ys.length cap∧∀j u,news[j]? = some u→w.cell? (ad.add j)=some u):=by
 obtain ⟨A,cap,rfl,h2,h3,h4⟩:=h
 rcases h4 with ⟨rfl,rfl,h5⟩|⟨b,off,C,Fs,rfl,rfl,e3,e4⟩
 · refine ⟨[],fun _=>[],fun _=>[],⟨by simp,by simp,by simp,by simp,by simp⟩,?_⟩
   rcases A with _|ad
   · rw [h5 rfl];exact Or.inl ⟨rfl,rfl⟩
   · exact Or.inr ⟨ad,cap,rfl,by simp⟩
 · have hC:∀i,i<ys.length→(C i).length=sz α:=fun i hi=>Rp.len (e4.elem i hi)
   let C':Nat→List Value:=fun i=>if i<ys.length then C i else List.replicate (sz α) default
   have hC':∀i,(C' i).length=sz α:=fun i=>by
    show (if i<ys.length then C i else _).length=_
    split
    · rename_i hi;exact hC i hi
    · simp
   have hCe:∀i,i<ys.length→C' i=C i:=fun i hi=>if_pos hi
   have hat:∀i,i<ys.length→∀j,j<sz α→((List.range ys.length).flatMap C')[i*sz α+j]? = (C i)[j]?:=fun i hi j hj=>by
    rw [getElem?_div_block C' (sz α) hs hC' _ i j hi hj,hCe i hi]
   have hlen:((List.range ys.length).flatMap C').length=ys.length*sz α:=by
    generalize ys.length=n
    induction n with
    | zero=>simp
    | succ n ih=>rw [List.range_succ,List.flatMap_append,List.length_append,ih,List.flatMap_singleton,hC',Nat.add_mul,Nat.one_mul]
   refine ⟨(List.range ys.length).flatMap C',C,Fs,⟨hlen,hat,e4.elem,fun i hi g hg=>?_,?_⟩,Or.inr ⟨⟨b,off,none⟩,cap,rfl,fun j u hu=>?_⟩⟩
   · simp only [footOf,List.mem_cons,List.mem_flatMap,List.mem_range]
     exact Or.inr ⟨i,hi,hg⟩
   · intro u hu
     simp only [List.mem_flatMap,List.mem_range] at hu
     obtain ⟨i,hi,hu⟩:=hu
     rw [hCe i hi] at hu
     exact Rp.one (e4.elem i hi) u hu
   · have hj:j<ys.length*sz α:=by
      rw [←hlen];exact (List.getElem?_eq_some_iff.1 hu).1
     have hd:j / sz α<ys.length:=by rw [Nat.div_lt_iff_lt_mul hs];exact hj
     have hm:j % sz α<sz α:=Nat.mod_lt _ hs
     have he:j / sz α*sz α+j % sz α=j:=by rw [Nat.mul_comm];exact Nat.div_add_mod j (sz α)
     have h6:=e4.cell _ hd _ hm
     rw [←hat _ hd _ hm,he,hu,Nat.add_assoc,he] at h6
     have:(Addr.add ⟨b,off,none⟩ j)=⟨b,off+j,none⟩:=by unfold Addr.add;split<;>simp_all
     rw [this];exact h6
theorem wpList_append_RL{α:Type}[Rp α]{P:Program}{w:World}{ops:Array Oper}{rest:List Oper}{o:Oper}{a:Act}{Q:Exit→Act→World→Prop}(hgd:o.guard=none)(s x:Operand)(t:TypeId)
 (ho:o.op=.call { callee:=.builtin .append,args:=#[s,x],argTypes:=#[t,t] })
 (base:Nat) (e:TypeId) (i:TypeInfo) (z:Value) (size bytes:Nat) (ht:P.underlying t=some (.slice e)) (hi:P.info? e=some i) (hz:i.zero=some z)
 (hsize:i.size=size) (hby:i.bytes=bytes) (hzs:z.cells.size=size) (hsz:0<size)
 (v:Value) (n:Nat) (xs:List Value) (hs:a.eval s=v) (hown:w.ownsRow base e size v n xs)
 (ys:List α) (vy:Value) (Fy:List Nat) (hx:a.eval x=vy) (hy:RL w ys vy Fy) (hsa:sz α=size)
 (h63:n+ys.length≤maxLen) (hbytes:(n+ys.length)*bytes≤140737488355328) (hbase:base≤w.heap.size)
 (h:∀v' w' news C Fs,w'.ownsRow base e size v' (n+ys.length) (xs++news)→Cells w ys news C Fs Fy→w.grownBy w' v.ownBlock→(v'.ownBlock=v.ownBlock∨v'.ownBlock=some w.heap.size)→wpList P ops Q rest (a.put o.dst v') w') :
 wpList P ops Q (o::rest) a w:=by
 obtain ⟨news,C,Fs,hc,h1⟩:=hy.cells (by rw [hsa];exact hsz)
 rcases h1 with ⟨rfl,rfl⟩|⟨ad,cap,rfl,h1⟩
 · have hnews:news=[]:=List.eq_nil_of_length_eq_zero (by rw [hc.len];simp)
   subst hnews
   exact wpList_append_own_none hgd s x t ho base e i size ht hi v n xs hs hown hx (h v w [] C Fs (by simpa using hown) hc (World.grownBy.refl w _) (Or.inl rfl))
 · exact wpList_append_own_at w hgd s x t ho base e i z size bytes ht hi hz hsize hby hzs hsz v n xs hs hown ad ys.length cap news hx (by rw [hc.len,hsa]) h1 hc.one h63 hbytes hbase
    (fun v' w' h2 h3 _ h5=>h v' w' news C Fs h2 hc h3 h5)
theorem ownsRow_empty(w:World)(base:Nat)(e:TypeId)(size:Nat)(hb:base≤w.heap.size):(w.alloc (.cells #[] e)).ownsRow base e size (.slice (some ⟨w.heap.size,0,none⟩) 0 0) 0 []:=
 ⟨by simp,Or.inr ⟨w.heap.size,0,#[],rfl,hb,heap_alloc_new w _,by omega,by unfold maxLen;omega,by simp,by simp⟩⟩
theorem ownsRow_nil(w:World)(base:Nat)(e:TypeId)(size:Nat):w.ownsRow base e size (.slice none 0 0) 0 []:=⟨by simp,Or.inl ⟨rfl,rfl⟩⟩
theorem RL.of_cells{α:Type}[Rp α]{w w0:World}{base:Nat}{e:TypeId}{v:Value}{n:Nat}{news:List Value}{ys:List α}{C:Nat→List Value}{Fs:Nat→List Nat}{F:List Nat}
 (h:w.ownsRow base e (sz α) v n news) (hn:n=ys.length) (hc:Cells w0 ys news C Fs F) (hF:F=[]) :
 ∃ G,RL w ys v G∧Own w G∧∀g∈G,base≤g:=by
 have hFs:∀i,i<ys.length→Fs i=[]:=fun i hi=>List.eq_nil_iff_forall_not_mem.2 (fun g hg=>by have:=hc.sub i hi g hg;rw [hF] at this;cases this)
 have hO:(List.range ys.length).flatMap (fun _=>([]:List Nat))=[]:=by simp
 obtain ⟨G,h1,h2,h3⟩:=RL.of_own C (fun _=>[]) h hn hc.at_ (fun i hi=>by
  have:=hc.elem i hi
  rw [hFs i hi] at this
  exact Rp.keep this (by simp)) (by rw [hO];exact Own.nil_ _) (by simp)
 exact ⟨G,h1,h2,fun g hg=>by
  rcases h3 g hg with h4|h4
  · exact (ownsRow_lt h g h4).1
  · simp at h4⟩
end Ow
namespace Ow
open Go Go.RowKit Go.Deep
open Rp (R sz)
structure InsIns where
 Op:Int
 D : Int
 A : Int
 B : Int
 Rel:Int
 Lo:Int
 Hi:Int
 To:Int
 deriving DecidableEq
instance : Rp InsIns:=Rp.by_ (fun x=>(x.Op,x.D,x.A,x.B,x.Rel,x.Lo,x.Hi,x.To))
theorem R_InsIns{w:World}{x:InsIns}{cs:List Value}{F:List Nat}:R w x cs F↔(cs=[.int .i64 x.Op,.int .i64 x.D,.int .i64 x.A,.int .i64 x.B,.int .i64 x.Rel,.int .i64 x.Lo,.int .i64 x.Hi,.int .i64 x.To]∧F=[]∧I64 x.Op∧I64 x.D∧I64 x.A∧I64 x.B∧I64 x.Rel∧I64 x.Lo∧I64 x.Hi∧I64 x.To):=by
 constructor
 · intro h
   obtain ⟨_,_,_,_,rfl,rfl,h0,h0'⟩:=h
   obtain ⟨rfl,rfl,g0⟩:=h0
   obtain ⟨_,_,_,_,rfl,rfl,h1,h1'⟩:=h0'
   obtain ⟨rfl,rfl,g1⟩:=h1
   obtain ⟨_,_,_,_,rfl,rfl,h2,h2'⟩:=h1'
   obtain ⟨rfl,rfl,g2⟩:=h2
   obtain ⟨_,_,_,_,rfl,rfl,h3,h3'⟩:=h2'
   obtain ⟨rfl,rfl,g3⟩:=h3
   obtain ⟨_,_,_,_,rfl,rfl,h4,h4'⟩:=h3'
   obtain ⟨rfl,rfl,g4⟩:=h4
   obtain ⟨_,_,_,_,rfl,rfl,h5,h5'⟩:=h4'
   obtain ⟨rfl,rfl,g5⟩:=h5
   obtain ⟨_,_,_,_,rfl,rfl,h6,h6'⟩:=h5'
   obtain ⟨rfl,rfl,g6⟩:=h6
   obtain ⟨rfl,rfl,g7⟩:=h6'
   exact ⟨by simp,by simp,g0,g1,g2,g3,g4,g5,g6,g7⟩
 · rintro ⟨rfl,rfl,g0,g1,g2,g3,g4,g5,g6,g7⟩
   exact ⟨_,_,[],[],by first|rfl|simp,by first|rfl|simp,⟨rfl,rfl,g0⟩,⟨_,_,[],[],by first|rfl|simp,by first|rfl|simp,⟨rfl,rfl,g1⟩,⟨_,_,[],[],by first|rfl|simp,by first|rfl|simp,⟨rfl,rfl,g2⟩,⟨_,_,[],[],by first|rfl|simp,by first|rfl|simp,⟨rfl,rfl,g3⟩,⟨_,_,[],[],by first|rfl|simp,by first|rfl|simp,⟨rfl,rfl,g4⟩,⟨_,_,[],[],by first|rfl|simp,by first|rfl|simp,⟨rfl,rfl,g5⟩,⟨_,_,[],[],by first|rfl|simp,by first|rfl|simp,⟨rfl,rfl,g6⟩,⟨rfl,rfl,g7⟩⟩⟩⟩⟩⟩⟩⟩
theorem sz_InsIns : sz InsIns=8:=rfl
structure PrcProc where
 Lo:Int
 Hi:Int
 Code:(List InsIns)
 deriving DecidableEq
instance : Rp PrcProc:=Rp.by_ (fun x=>(x.Lo,x.Hi,x.Code))
theorem R_PrcProc{w:World}{x:PrcProc}{cs:List Value}{F:List Nat}:R w x cs F↔∃vCode FCode,(cs=[.int .i64 x.Lo,.int .i64 x.Hi,vCode]∧F=FCode∧I64 x.Lo∧I64 x.Hi∧RL w x.Code vCode FCode):=by
 constructor
 · intro h
   obtain ⟨_,_,_,_,rfl,rfl,h0,h0'⟩:=h
   obtain ⟨rfl,rfl,g0⟩:=h0
   obtain ⟨_,_,_,_,rfl,rfl,h1,h1'⟩:=h0'
   obtain ⟨rfl,rfl,g1⟩:=h1
   obtain ⟨_,rfl,g2⟩:=h1'
   exact ⟨_,_,by simp,by simp,g0,g1,g2⟩
 · rintro ⟨vCode,FCode,rfl,rfl,g0,g1,g2⟩
   exact ⟨_,_,[],F,by first|rfl|simp,by first|rfl|simp,⟨rfl,rfl,g0⟩,⟨_,_,[],F,by first|rfl|simp,by first|rfl|simp,⟨rfl,rfl,g1⟩,⟨_,rfl,g2⟩⟩⟩
theorem sz_PrcProc : sz PrcProc=3:=rfl
structure PrgProg where
 Procs:(List PrcProc)
 deriving DecidableEq
structure ItvItv where
 Lo:Int
 Hi:Int
 deriving DecidableEq
structure AbsState where
 On:Bool
 Vars:(List ItvItv)
 Cells:ItvItv
 deriving DecidableEq
structure SumSum where
 On:Bool
 Out:ItvItv
 deriving DecidableEq
structure RunFrame where
 Proc:Int
 Pc:Int
 Vars:(List Int)
 Cells:(List Int)
 deriving DecidableEq
instance : Rp RunFrame:=Rp.by_ (fun x=>(x.Proc,x.Pc,x.Vars,x.Cells))
theorem R_RunFrame{w:World}{x:RunFrame}{cs:List Value}{F:List Nat}:R w x cs F↔∃vVars FVars vCells FCells,(cs=[.int .i64 x.Proc,.int .i64 x.Pc,vVars,vCells]∧F=FVars++(FCells)∧I64 x.Proc∧I64 x.Pc∧RL w x.Vars vVars FVars∧RL w x.Cells vCells FCells):=by
 constructor
 · intro h
   obtain ⟨_,_,_,_,rfl,rfl,h0,h0'⟩:=h
   obtain ⟨rfl,rfl,g0⟩:=h0
   obtain ⟨_,_,_,_,rfl,rfl,h1,h1'⟩:=h0'
   obtain ⟨rfl,rfl,g1⟩:=h1
   obtain ⟨_,_,_,_,rfl,rfl,h2,h2'⟩:=h1'
   obtain ⟨_,rfl,g2⟩:=h2
   obtain ⟨_,rfl,g3⟩:=h2'
   exact ⟨_,_,_,_,by simp,by simp,g0,g1,g2,g3⟩
 · rintro ⟨vVars,FVars,vCells,FCells,rfl,rfl,g0,g1,g2,g3⟩
   exact ⟨_,_,[],FVars++(FCells),by first|rfl|simp,by first|rfl|simp,⟨rfl,rfl,g0⟩,⟨_,_,[],FVars++(FCells),by first|rfl|simp,by first|rfl|simp,⟨rfl,rfl,g1⟩,⟨_,_,FVars,FCells,by first|rfl|simp,by first|rfl|simp,⟨_,rfl,g2⟩,⟨_,rfl,g3⟩⟩⟩⟩
theorem sz_RunFrame : sz RunFrame=4:=rfl
structure RunRun where
 State:Int
 Frames:(List RunFrame)
 Out:Int
 Proc:Int
 Pc:Int
 deriving DecidableEq
end Ow
namespace Ow
def numOk(n:Int):Bool:=decide (-32768≤n)&&decide (n≤32767)
def numWrap(n:Int):Int:=(n+32768) % 65536-32768
def numDo(op a b:Int):Int×Bool:=
 if numOk a&&numOk b then
  if op=1 then (numWrap (a+b),true)
  else if op=2 then (numWrap (a-b),true)
  else if op=3 then (numWrap (a*b),true)
  else if op=4 then (if b=0 then (0,false) else (numWrap (a.tdiv b),true))
  else (0,false)
 else (0,false)
def relHolds(rel a b:Int):Bool:=
 if rel=1 then decide (a<b) else if rel=2 then decide (a≤b) else if rel=3 then a==b else if rel=4 then a != b else false
theorem numOk_iff(n:Int):numOk n=true↔-32768≤n∧n≤32767:=by simp [numOk]
theorem numWrap_ok(n:Int):-32768≤numWrap n∧numWrap n≤32767:=by unfold numWrap;omega
def itvOk(a:ItvItv):Bool:=numOk a.Lo&&numOk a.Hi&&decide (a.Lo≤a.Hi)
def varOk(n:Int):Bool:=decide (0≤n)&&decide (n<4)
def relOk(n:Int):Bool:=decide (1≤n)&&decide (n≤4)
def below(n many:Int):Bool:=decide (0≤n)&&decide (n<many)
def formOk(i:InsIns):Bool:=
 if i.Op≤4 then i.Rel==0&&i.Lo==0&&i.Hi==0&&i.To==0
 else if i.Op=5 then i.A==0&&i.B==0&&i.Rel==0&&i.To==0
 else if i.Op=6 then i.B==0&&i.Rel==0&&i.Lo==0&&i.Hi==0&&i.To==0
 else if i.Op=7 then i.D==0&&i.Rel==0&&i.Lo==0&&i.Hi==0&&i.To==0
 else if i.Op=8 then i.D==0&&i.Lo==0&&i.Hi==0
 else if i.Op=9 then i.D==0&&i.A==0&&i.B==0&&i.Rel==0&&i.Lo==0&&i.Hi==0
 else if i.Op=10 then i.B==0&&i.Rel==0&&i.Lo==0&&i.Hi==0
 else if i.Op=11 then i.D==0&&i.Lo==0&&i.Hi==0&&i.To==0
 else i.D==0&&i.B==0&&i.Rel==0&&i.Lo==0&&i.Hi==0&&i.To==0
def restOk(i:InsIns)(procs size:Int):Bool:=
 if i.Op=5 then itvOk ⟨i.Lo,i.Hi⟩
 else if i.Op=8 then relOk i.Rel&&below i.To size
 else if i.Op=9 then below i.To size
 else if i.Op=10 then below i.To procs
 else if i.Op=11 then relOk i.Rel
 else true
def insOk(i:InsIns)(procs size:Int):Bool:=
 decide (1≤i.Op)&&decide (i.Op≤12)&&formOk i&&varOk i.D&&varOk i.A&&varOk i.B&&restOk i procs size
def insRisks(op:Int):Bool:=op==4||op==6||op==7||op==10||op==11
def insEnds(i:InsIns):Bool:=i.Op==12||i.Op==9
def insZero : InsIns:={ Op:=0,D:=0,A:=0,B:=0,Rel:=0,Lo:=0,Hi:=0,To:=0 }
def procOk(c:PrcProc)(procs:Int):Bool:=
 itvOk ⟨c.Lo,c.Hi⟩&&decide (1≤c.Code.length)&&decide (c.Code.length≤10)&&c.Code.all (fun i=>insOk i procs c.Code.length)&&(c.Code.getLast?.elim false insEnds)
def prgOk(p:PrgProg):Bool:=decide (1≤p.Procs.length)&&decide (p.Procs.length≤4)&&p.Procs.all (fun c=>procOk c p.Procs.length)
def prgAt(p:PrgProg)(proc pc:Int):Option InsIns:=
 if proc<0∨pc<0 then none else p.Procs[proc.toNat]?.bind fun c=>c.Code[pc.toNat]?
def numsOk(l:List Int)(n:Nat):Bool:=l.length==n&&l.all numOk
def frameOk(p:PrgProg)(f:RunFrame):Bool:=(prgAt p f.Proc f.Pc).isSome&&numsOk f.Vars 4&&numsOk f.Cells 4
def nestOk(p:PrgProg):List RunFrame→Bool
 | []=>true
 | [f]=>frameOk p f
 | f::g::r=>frameOk p f&&((prgAt p f.Proc f.Pc).elim false fun i=>i.Op==10&&i.To==g.Proc)&&nestOk p (g::r)
def runOk(p:PrgProg)(r:RunRun):Bool:=
 prgOk p&&decide (1≤r.State)&&decide (r.State≤4)&&numOk r.Out&&(r.State==2||r.Out==0) &&
 (if r.State=3 then (prgAt p r.Proc r.Pc).elim false (fun i=>insRisks i.Op) else r.Proc==0&&r.Pc==0) &&
 (if r.State=1 then decide (1≤r.Frames.length)&&decide (r.Frames.length≤5)&&nestOk p r.Frames else r.Frames.isEmpty)
def runZero : RunRun:={ State:=0,Frames:=[],Out:=0,Proc:=0,Pc:=0 }
def runFail(f:RunFrame):RunRun:={ State:=3,Frames:=[],Out:=0,Proc:=f.Proc,Pc:=f.Pc }
def runDeep : RunRun:={ State:=4,Frames:=[],Out:=0,Proc:=0,Pc:=0 }
def runDone(n:Int):RunRun:={ State:=2,Frames:=[],Out:=n,Proc:=0,Pc:=0 }
def entered(proc arg:Int):RunFrame:={ Proc:=proc,Pc:=0,Vars:=[arg,0,0,0],Cells:=[0,0,0,0] }
def setLast(l:List RunFrame)(f:RunFrame):List RunFrame:=l.dropLast++[f]
def goes(fs:List RunFrame):RunRun:={ State:=1,Frames:=fs,Out:=0,Proc:=0,Pc:=0 }
def getI(l:List Int)(k:Int):Int:=l.getD k.toNat 0
def setI(l:List Int)(k:Int)(v:Int):List Int:=l.set k.toNat v
def stepAt(p:PrgProg)(fs:List RunFrame)(f:RunFrame)(i:InsIns)(inp:Int):RunRun:=
 let a:=getI f.Vars i.A
 let b:=getI f.Vars i.B
 let set (n:Int):RunRun:=goes (setLast fs { f with Vars:=setI f.Vars i.D n,Pc:=f.Pc+1 })
 let go (pc:Int):RunRun:=goes (setLast fs { f with Pc:=pc })
 if i.Op≤4 then (if (numDo i.Op a b).2 then set (numDo i.Op a b).1 else runFail f)
 else if i.Op=5 then set (i.Lo+inp % (i.Hi-i.Lo+1))
 else if i.Op=6 then (if below a 4 then set (getI f.Cells a) else runFail f)
 else if i.Op=7 then (if below a 4 then goes (setLast fs { f with Cells:=setI f.Cells a b,Pc:=f.Pc+1 }) else runFail f)
 else if i.Op=8 then go (if relHolds i.Rel a b then i.To else f.Pc+1)
 else if i.Op=9 then go i.To
 else if i.Op=10 then
  (match p.Procs[i.To.toNat]? with
  | none=>runZero
  | some c=>if c.Lo≤a∧a≤c.Hi then (if fs.length=5 then runDeep else goes (fs++[entered i.To a])) else runFail f)
 else if i.Op=11 then (if relHolds i.Rel a b then go (f.Pc+1) else runFail f)
 else
  (match fs.dropLast.getLast? with
  | none=>runDone a
  | some g=>goes (setLast fs.dropLast { g with Vars:=setI g.Vars ((prgAt p g.Proc g.Pc).getD insZero).D a,Pc:=g.Pc+1 }))
def stepped(p:PrgProg)(r:RunRun)(inp:Int):RunRun:=
 match r.Frames.getLast? with
 | none=>runZero
 | some f=>stepAt p r.Frames f ((prgAt p f.Proc f.Pc).getD insZero) inp
def runStep(p:PrgProg)(r:RunRun)(inp:Int):RunRun:=
 if runOk p r then (if r.State=1 then stepped p r inp else r) else runZero
end Ow
namespace Ow
open Go Go.RowKit Go.Deep
open Rp (R sz)
def Opens(P:Program)(t:TypeId)(α:Type)[Rp α]:Prop:=
 ∀ (H:Type) (enc:TypeId×Value→H) (w:World) (base:Nat) (spare:Nat→Bool) (held:Bool) (fuel:Nat) (cs:List Value) (x:DataW H×List MemPlace),
  DataW.trod enc P w base spare held fuel t cs=some x→∃(a:α) (F:List Nat),R w a cs F
theorem opens_u8{P:Program}{t:TypeId}(ht:P.underlying t=some (.int .u8)):Opens P t UInt8:=by
 intro H enc w base spare held fuel cs x h
 obtain ⟨n,rfl,-,hw⟩:=DataW.trod_int ht h
 have hb:=Go.bounds_u8 hw
 refine ⟨UInt8.ofNat n.toNat,[],?_,rfl⟩
 rw [UInt8.toNat_ofNat',Nat.mod_eq_of_lt (by omega)]
 congr 2
 omega
theorem opens_list{α:Type}[Rp α]{P:Program}{t e:TypeId}(ht:P.underlying t=some (.slice e))(hc:P.cellsOf e=sz α)(hs:0<sz α)(he:Opens P e α):Opens P t (List α):=by
 intro H enc w base spare held fuel cs x h
 rcases open_slice ht h with ⟨rfl,-⟩|⟨ad,len,cap,m,n,D,Pl,rfl,-,hl,hm,hmm,-,hx⟩
 · exact ⟨[],[],_,rfl,RL.nil_⟩
 · by_cases h0:len=0
   · subst h0
     exact ⟨[],[],_,rfl,some ad,cap,rfl,by simp,hm,Or.inl ⟨rfl,rfl,by simp⟩⟩
   · have hlm:len≤m:=by rw [hmm];split<;>omega
     have key:∀i,i<len→∃(p:Option (α×List Value×List Nat)),∃a C F,p=some (a,C,F)∧w.cells? base (ad.add (i*sz α)) (sz α)=some C∧R w a C F:=fun i hi=>by
      obtain ⟨cs',h1,h2⟩:=hx i (by omega)
      obtain ⟨a,F,hr⟩:=he H enc w base spare held n cs' _ h2
      rw [hc] at h1
      exact ⟨some (a,cs',F),a,cs',F,rfl,h1,hr⟩
     obtain ⟨f,hf⟩:=choose_lt (α:=Option (α×List Value×List Nat)) key
     obtain ⟨a0,C0,F0,-,hc0,-⟩:=hf 0 (by omega)
     have hsp:ad.spot=none:=by
      obtain ⟨_,_,h3⟩:=World.cells?_some hc0
      have h4:=h3 0 hs
      have hl4:=(World.cells?_some hc0).2.1
      rw [List.getElem?_eq_getElem (by omega)] at h4
      rw [show (ad.add (0*sz α)).add 0=ad by unfold Addr.add;simp] at h4
      exact World.cell?_spot h4
     obtain ⟨b,off,spot⟩:=ad
     simp only at hsp
     subst hsp
     have hb:b<w.heap.size:=by
      obtain ⟨_,_,h3⟩:=World.cells?_some hc0
      have h4:=h3 0 hs
      have hl4:=(World.cells?_some hc0).2.1
      rw [List.getElem?_eq_getElem (by omega)] at h4
      rw [show ((Addr.mk b off none).add (0*sz α)).add 0=⟨b,off,none⟩ by unfold Addr.add;simp] at h4
      exact World.block_lt_of_cell? _ _ h4
     let xs:List α:=(List.range len).filterMap fun i=>(f i).map (·.1)
     have hxs:∀k,k≤len→((List.range k).filterMap fun i=>(f i).map (·.1)).length=k∧∀i,i<k→∀a C F,f i=some (a,C,F)→((List.range k).filterMap fun i=>(f i).map (·.1))[i]? = some a:=by
      intro k
      induction k with
      | zero=>intro _;simp
      | succ k ih=>
        intro hk
        obtain ⟨ih1,ih2⟩:=ih (by omega)
        obtain ⟨a,C,F,hfa,-,-⟩:=hf k (by omega)
        have e:((List.range (k+1)).filterMap fun i=>(f i).map (·.1))=((List.range k).filterMap fun i=>(f i).map (·.1))++[a]:=by
         rw [List.range_succ,List.filterMap_append]
         simp [hfa]
        rw [e]
        refine ⟨by simp [ih1],fun i hi a' C' F' hfi=>?_⟩
        by_cases hik:i<k
        · rw [List.getElem?_append_left (by omega)];exact ih2 i hik a' C' F' hfi
        · have:i=k:=by omega
          subst this
          rw [hfi] at hfa
          cases hfa
          rw [List.getElem?_append_right (by omega),ih1];simp
     obtain ⟨hlen,hat⟩:=hxs len (Nat.le_refl _)
     refine ⟨xs,footOf b xs.length (fun i=>((f i).map (·.2.2)).getD []),_,rfl,some ⟨b,off,none⟩,cap,by simp only [xs,hlen],by simp only [xs,hlen];exact hl,hm,
      Or.inr ⟨b,off,fun i=>((f i).map (·.2.1)).getD [],fun i=>((f i).map (·.2.2)).getD [],rfl,rfl,?_,hb,?_,?_⟩⟩
     · intro hnil
       have:xs.length=0:=by rw [hnil];rfl
       simp only [xs,hlen] at this
       omega
     · intro i hi j hj
       simp only [xs,hlen] at hi
       obtain ⟨a,C,F,hfa,hca,-⟩:=hf i hi
       obtain ⟨_,_,h3⟩:=World.cells?_some hca
       have h4:=h3 j hj
       rw [add_add] at h4
       have:(Addr.add ⟨b,off,none⟩ (i*sz α+j))=⟨b,off+i*sz α+j,none⟩:=by
        unfold Addr.add;split
        · simp_all
        · simp [Nat.add_assoc]
       rw [this] at h4
       simp only [hfa,Option.map_some,Option.getD_some]
       exact h4
     · intro i hi
       have hi':=hi
       simp only [xs,hlen] at hi'
       obtain ⟨a,C,F,hfa,-,hra⟩:=hf i hi'
       have h5:=hat i hi' a C F hfa
       have h6:xs[i]=a:=by
        have:xs[i]? = some a:=h5
        rw [List.getElem?_eq_getElem hi] at this
        exact Option.some.inj this
       simp only [hfa,Option.map_some,Option.getD_some,h6]
       exact hra
theorem Opens.trod{P:Program}{t:TypeId}{α:Type}[Rp α](h:Opens P t α){H:Type}{enc:TypeId×Value→H}{w:World}{base:Nat}{spare:Nat→Bool}{held:Bool}{v:Value}{d:DataW H}{ps:List MemPlace}
 (hd:DataW.Trod enc P w base spare held t v d ps):∃(a:α) (F:List Nat),R w a v.cells.toList F:=by
 obtain ⟨fuel,hf⟩:=hd
 exact h H enc w base spare held fuel _ _ hf
end Ow
namespace Go.Proofs.YtjakhnhnjhafgaaGreat.Wk
open Go Go.RowKit Go.Deep Ow
open Rp (R sz)
theorem implNumOk_c(n:Int)(w:World):Calls Tryz.prog 63 #[.int .i64 n] w fun e w'=>e=.returned (.bool (numOk n))∧w=w':=by
 by_cases h1:-32768≤n
 all_goals by_cases h2:n≤32767
 all_goals
  go_enter Tryz.func63,Tryz.ntmps63
  go_wp2
  go_ret
  exact ⟨by simp [numOk,h1,h2],rfl⟩
theorem implBelow_c(n m:Int)(w:World):Calls Tryz.prog 98 #[.int .i64 n,.int .i64 m] w fun e w'=>e=.returned (.bool (below n m))∧w=w':=by
 by_cases h1:0≤n
 all_goals by_cases h2:n<m
 all_goals
  go_enter Tryz.func98,Tryz.ntmps98
  go_wp2
  go_ret
  exact ⟨by simp [below,h1,h2],rfl⟩
abbrev insV(i:InsIns):Value:=.agg #[.int .i64 i.Op,.int .i64 i.D,.int .i64 i.A,.int .i64 i.B,.int .i64 i.Rel,.int .i64 i.Lo,.int .i64 i.Hi,.int .i64 i.To]
end Go.Proofs.YtjakhnhnjhafgaaGreat.Wk
namespace Go.Proofs.YtjakhnhnjhafgaaGreat.Wk
open Go Go.RowKit Go.Deep Ow
open Rp (R sz)
theorem mulB{a b:Int}(ha:-32768≤a∧a≤32767)(hb:-32768≤b∧b≤32767):-1073741824≤a*b∧a*b≤1073741824:=by
 have h1:a.natAbs≤32768:=by omega
 have h2:b.natAbs≤32768:=by omega
 have h3:=Nat.mul_le_mul h1 h2
 rw [←Int.natAbs_mul] at h3
 omega
theorem tdivB{a b:Int}(ha:-32768≤a∧a≤32767):-32768≤a.tdiv b∧a.tdiv b≤32768:=by
 have h1:a.natAbs≤32768:=by omega
 have h3:=Nat.div_le_self a.natAbs b.natAbs
 have h4:(a.tdiv b).natAbs=a.natAbs / b.natAbs:=Int.natAbs_tdiv a b
 generalize a.tdiv b=q at h4 ⊢
 generalize a.natAbs / b.natAbs=d at h3 h4
 omega
theorem implNumWrap_c(n:Int)(w:World):Calls Tryz.prog 206 #[.int .i64 n] w fun e w'=>e=.returned (.int .i64 (numWrap n))∧w=w':=by
 have h16:IntKind.i16.wrap n=numWrap n:=by
  simp [IntKind.wrap,IntKind.signed,IntKind.bits]
  unfold numWrap
  split<;>omega
 have hb:=numWrap_ok n
 have h64:wrap64 (numWrap n)=numWrap n:=by unfold wrap64;omega
 go_enter Tryz.func206,Tryz.ntmps206
 go_wp2
 go_ret
 exact ⟨rfl,rfl⟩
theorem implRelHolds_c(r a b:Int)(w:World):Calls Tryz.prog 178 #[.int .i64 r,.int .i64 a,.int .i64 b] w fun e w'=>e=.returned (.bool (relHolds r a b))∧w=w':=by
 by_cases h1:r=1
 · subst h1
   go_enter Tryz.func178,Tryz.ntmps178
   go_wp2
   go_ret
   exact ⟨rfl,rfl⟩
 by_cases h2:r=2
 · subst h2
   go_enter Tryz.func178,Tryz.ntmps178
   go_wp2
   go_ret
   exact ⟨rfl,rfl⟩
 by_cases h3:r=3
 · subst h3
   go_enter Tryz.func178,Tryz.ntmps178
   go_wp2
   go_ret
   exact ⟨rfl,rfl⟩
 by_cases h4:r=4
 · subst h4
   go_enter Tryz.func178,Tryz.ntmps178
   go_wp2
   go_ret
   exact ⟨rfl,rfl⟩
 go_enter Tryz.func178,Tryz.ntmps178
 go_wp2
 go_ret
 exact ⟨by simp [relHolds,h1,h2,h3,h4],rfl⟩
end Go.Proofs.YtjakhnhnjhafgaaGreat.Wk
