/- A part of the proof. -/
import Derived.Test.YtjakhnhnjhafgaaGreatK30
import Derived.Test.YtjakhnhnjhafgaaGreatK19
set_option linter.unusedVariables false
set_option linter.unusedSimpArgs false
namespace Go.Proofs.YtjakhnhnjhafgaaGreat.Wk
open Go Go.RowKit Go.Deep Ow
set_option maxRecDepth 100000
theorem kLone_e{i:InsIns}{r:PrgProg}(h:owLone i=r):EC Tryz.prog 13 0 [.agg [CI i.Op,CI i.D,CI i.A,CI i.B,CI i.Rel,CI i.Lo,CI i.Hi,CI i.To]] [] (.agg [.d (.sl 3 (r.Procs.map dPrcProc))]) [] 0:=by
 subst h
 refine (seat [] []).PB (mkM true []) (fn:=Tryz.f13) ⟨by kernel_rfl,by kernel_rfl,rfl⟩ (Nat.le_refl 0) (mkEs [eInsIns 10 i,ePrgProg 900 (owLone i)]) noLps [] [xInsIns 10] [] (by simp only [go_sem,Nat.reduceEqDiff,Nat.reduceAdd,Nat.reduceBEq,Int.reduceToNat]) rfl (xPrgProg 900) [] (by simp only [go_sem,Nat.reduceEqDiff,Nat.reduceAdd,Nat.reduceBEq,Int.reduceToNat]) rfl (fun _=>?_)
 conv=>arg 4;cbv
 simp only [go_sem,Nat.reduceEqDiff,Nat.reduceAdd,Nat.reduceBEq,Int.reduceToNat]
 simp only [beq_iff_eq,Bool.or_eq_true];rfl
end Go.Proofs.YtjakhnhnjhafgaaGreat.Wk
namespace Ow
open Go Go.RowKit Go.Deep
theorem EC.gone{P:Program}{f:FuncId}{args args2:List C}{h:Hp}{val:C}{k:Nat}(e:EC P f 0 args [] val [] 0)(hT:Each (Arg id 0 h.get) args2 args):EC P f k args2 h val [] k:=
 ⟨e.1,Nat.le_refl _,fun ρ F RO w vs hs hρ hr=>by
   have hW:Weak 0 h ⟨args2,h,k⟩ ⟨args,[],0⟩:=⟨hT.1,fun i a f h1 h2=>hT.2 i a f h1 h2,(fun l B hB=>by cases hB),(fun l B hB=>hB),Nat.zero_le _⟩
   obtain ⟨ρ1,F1,RO1,x1,a1⟩:=Ent.weak hW ρ F RO w vs ⟨hs,hr,hρ,Nat.zero_le _⟩
   refine (e.2.2 ρ1 F1 RO1 w vs a1.sim (fun l hl=>a1.dom l hl) a1.rel).mono ?_
   rintro e w' ⟨ρ',F',RO',v,he,hx,hv,hd⟩
   have x:=x1.trans hx
   have hn:∀l p,ρ' l=some p→ρ l=some p:=fun l p hl=>absurd (hd l (by rw [hl];simp)) (Nat.not_lt_zero _)
   refine ⟨ρ,F,RO',v,he,⟨x.chg,fun _ _=>rfl,x.ro,x.ro',⟨(fun l B hB=>by cases hB),(fun l l' B B' _ hB=>by cases hB),(fun l B hB=>by cases hB),x.sim.ro⟩,fun b ⟨l,B,hB,_⟩=>(by cases hB)⟩,hv.mono hn (fun _ h=>h) (fun _ _=>rfl),hρ⟩⟩
theorem Arg.dat{σ:Nat→Nat}{n:Nat}{hv:Nat→Option Blk}(x:D):Arg σ n hv (.d x) (.d x):=.vw _ _ (.d x)
theorem Arg.aggD{σ:Nat→Nat}{n:Nat}{hv:Nat→Option Blk}(xs:List D):Arg σ n hv (.agg (xs.map .d)) (.agg (xs.map .d)):=.agg _ _ rfl fun i a f h1 h2=>by
 rw [h1] at h2
 cases h2
 rw [List.getElem?_map] at h1
 obtain ⟨x,-,rfl⟩:=Option.map_eq_some_iff.1 h1
 exact .dat x
theorem Each.cons'{A:C→C→Prop}{x y:C}{xs ys:List C}(h:A x y)(h2:Each A xs ys):Each A (x::xs) (y::ys):=Each.cons h h2
end Ow
