/- A part of the proof. -/
import Derived.Test.YtjakhnhnjhafgaaGreatK25
set_option linter.unusedVariables false
set_option linter.unusedSimpArgs false
namespace Go.Proofs.YtjakhnhnjhafgaaGreat.Wk
open Go Go.RowKit Go.Deep Ow
set_option maxRecDepth 100000
theorem meet_ok{a b:ItvItv}(ha:itvOk a=true)(hb:itvOk b=true):itvOk ⟨mx a.Lo b.Lo,mn a.Hi b.Hi⟩=decide (mx a.Lo b.Lo≤mn a.Hi b.Hi):=by
 simp only [itvOk,numOk,Bool.and_eq_true,decide_eq_true_eq,mx,mn] at *
 grind
theorem sItvMeet_e{a0:Int}{a1:Int}{b0:Int}{b1:Int}{r0:ItvItv}{r1:Bool}(h0:(itvMeet (⟨a0,a1⟩:ItvItv) (⟨b0,b1⟩:ItvItv)).1=r0)(h1:(itvMeet (⟨a0,a1⟩:ItvItv) (⟨b0,b1⟩:ItvItv)).2=r1):EC Tryz.prog 214 0 [.agg [CI a0,CI a1],.agg [CI b0,CI b1]] [] (.tup [.agg [CI r0.Lo,CI r0.Hi],CB r1]) [] 0:=by
 subst h0 h1
 refine (seat [] []).PU (mkM true []) (fn:=Tryz.f214) ⟨by kernel_rfl,by kernel_rfl,rfl⟩ (mkEs [eItvItv 10 ⟨a0,a1⟩,eItvItv 30 ⟨b0,b1⟩,eB 111000 (itvOk (⟨a0,a1⟩:ItvItv)),eB 115000 (itvOk (⟨b0,b1⟩:ItvItv))]) noLps [] [xItvItv 10,xItvItv 30] rfl (fun _=>?_)
 conv=>arg 4;cbv
 simp only [go_sem,Nat.reduceEqDiff,Nat.reduceAdd,Nat.reduceBEq,Int.reduceToNat,ItvOk_e]
 repeat' (first|with_reducible apply And.intro|intro _)
 all_goals (cases h1:itvOk ⟨a0,a1⟩<;>cases h2:itvOk ⟨b0,b1⟩<;>first|(simp_all [itvMeet,meet_ok];done)|(simp_all [itvMeet,meet_ok];intros;omega)|skip)
 · rename_i hg
   have hm:itvMeet ⟨a0,a1⟩ ⟨b0,b1⟩=(⟨0,0⟩,false):=by
    simp only [itvMeet,h1,h2,meet_ok h1 h2,Bool.true_and]
    rw [if_neg]
    simp only [decide_eq_true_eq,mx,mn];omega
   rw [hm]
 · rename_i hg
   have hm:itvMeet ⟨a0,a1⟩ ⟨b0,b1⟩=(⟨mx a0 b0,mn a1 b1⟩,true):=by
    simp only [itvMeet,h1,h2,meet_ok h1 h2,Bool.true_and]
    rw [if_pos]
    have hq:=Int.not_lt.1 hg;simp only [decide_eq_true_eq,mx,mn] at hq ⊢;exact hq
   rw [hm]
theorem sItvJoin_e{a0:Int}{a1:Int}{b0:Int}{b1:Int}{r:ItvItv}(h:itvJoin (⟨a0,a1⟩:ItvItv) (⟨b0,b1⟩:ItvItv)=r):EC Tryz.prog 196 0 [.agg [CI a0,CI a1],.agg [CI b0,CI b1]] [] (.agg [CI r.Lo,CI r.Hi]) [] 0:=by
 subst h
 refine (seat [] []).PU (mkM true []) (fn:=Tryz.f196) ⟨by kernel_rfl,by kernel_rfl,rfl⟩ (mkEs [eItvItv 10 ⟨a0,a1⟩,eItvItv 30 ⟨b0,b1⟩,eB 111000 (itvOk (⟨a0,a1⟩:ItvItv)),eB 115000 (itvOk (⟨b0,b1⟩:ItvItv))]) noLps [] [xItvItv 10,xItvItv 30] rfl (fun _=>?_)
 conv=>arg 4;cbv
 simp only [go_sem,Nat.reduceEqDiff,Nat.reduceAdd,Nat.reduceBEq,Int.reduceToNat,ItvOk_e]
 grind [itvJoin]
theorem sItvAll_e{r:ItvItv}(h:(⟨-32768,32767⟩:ItvItv)=r):EC Tryz.prog 222 0 [] [] (.agg [CI r.Lo,CI r.Hi]) [] 0:=by
 subst h
 refine (seat [] []).PU (mkM true []) (fn:=Tryz.f222) ⟨by kernel_rfl,by kernel_rfl,rfl⟩ (mkEs []) noLps [] [] rfl (fun _=>?_)
 conv=>arg 4;cbv
 simp only [go_sem,Nat.reduceEqDiff,Nat.reduceAdd,Nat.reduceBEq,Int.reduceToNat]
theorem iItvAll_e{r:ItvItv}(h:(⟨-32768,32767⟩:ItvItv)=r):EC Tryz.prog 220 0 [] [] (.agg [CI r.Lo,CI r.Hi]) [] 0:=by
 subst h
 refine (seat [] []).PU (mkM true []) (fn:=Tryz.f220) ⟨by kernel_rfl,by kernel_rfl,rfl⟩ (mkEs []) noLps [] [] rfl (fun _=>?_)
 conv=>arg 4;cbv
 simp only [go_sem,Nat.reduceEqDiff,Nat.reduceAdd,Nat.reduceBEq,Int.reduceToNat]
end Go.Proofs.YtjakhnhnjhafgaaGreat.Wk
namespace Go.Proofs.YtjakhnhnjhafgaaGreat.Wk
open Go Go.RowKit Go.Deep Ow
set_option maxRecDepth 100000
def numW(n:Int):Int:=(n+32768) % 65536-32768
theorem tmodW{n:Int}:n.tmod 65536=if 0≤n then n % 65536 else -((-n) % 65536):=by
 split
 · rename_i h;exact Int.tmod_eq_emod_of_nonneg h
 · have h:0≤-n:=by omega
   rw [←Int.tmod_eq_emod_of_nonneg h,Int.neg_tmod,Int.neg_neg]
theorem sNumW_e{n:Int}{r:Int}(h:numW n=r):EC Tryz.prog 140 0 [CI n] [] (CI r) [] 0:=by
 subst h
 refine (seat [] []).PU (mkM true []) (fn:=Tryz.f140) ⟨by kernel_rfl,by kernel_rfl,rfl⟩ (mkEs [eInt 10 n]) noLps [] [xInt 10] rfl (fun _=>?_)
 conv=>arg 4;cbv
 simp only [go_sem,Nat.reduceEqDiff,Nat.reduceAdd,Nat.reduceBEq,Int.reduceToNat]
 have ht:n.tmod 65536=if 0≤n then n % 65536 else -((-n) % 65536):=tmodW
 rw [ht];unfold numW
 (repeat' split)<;>(try simp only [decide_eq_true_eq] at *)<;>(try simp (disch:=omega) only [wrapI] at *)<;>omega
theorem iNumW_e{n:Int}{r:Int}(h:numW n=r):EC Tryz.prog 206 0 [CI n] [] (CI r) [] 0:=by
 subst h
 refine (seat [] []).PU (mkM true []) (fn:=Tryz.f206) ⟨by kernel_rfl,by kernel_rfl,rfl⟩ (mkEs [eInt 10 n]) noLps [] [xInt 10] rfl (fun _=>?_)
 conv=>arg 4;cbv
 simp only [go_sem,Nat.reduceEqDiff,Nat.reduceAdd,Nat.reduceBEq,Int.reduceToNat]
 have h16:IntKind.i16.wrap n=numW n:=by
  simp [IntKind.wrap,IntKind.signed,IntKind.bits]
  unfold numW
  split<;>omega
 have hb:-32768≤numW n∧numW n≤32767:=by unfold numW;omega
 rw [h16,wrapI]<;>omega
end Go.Proofs.YtjakhnhnjhafgaaGreat.Wk
namespace Go.Proofs.YtjakhnhnjhafgaaGreat.Wk
open Go Go.RowKit Go.Deep Ow
set_option maxRecDepth 100000
def turnW(n:Int):Int:=IntKind.i64.wrap (n+32768) / 65536
theorem wrap_rng{y:Int}:-9223372036854775808≤IntKind.i64.wrap y∧IntKind.i64.wrap y≤9223372036854775807:=by
 simp [IntKind.wrap,IntKind.signed,IntKind.bits]
 split<;>omega
theorem tdivW{n:Int}:n.tdiv 65536=if 0≤n then n / 65536 else -((-n) / 65536):=by
 split
 · rename_i h;exact Int.tdiv_eq_ediv_of_nonneg h
 · have h:0≤-n:=by omega
   rw [←Int.tdiv_eq_ediv_of_nonneg h,Int.neg_tdiv,Int.neg_neg]
theorem sTurn_e{n:Int}{r:Int}(h:turnW n=r):EC Tryz.prog 221 0 [CI n] [] (CI r) [] 0:=by
 subst h
 refine (seat [] []).PU (mkM true []) (fn:=Tryz.f221) ⟨by kernel_rfl,by kernel_rfl,rfl⟩ (mkEs [eInt 10 n]) noLps [] [xInt 10] rfl (fun _=>?_)
 conv=>arg 4;cbv
 simp only [go_sem,Nat.reduceEqDiff,Nat.reduceAdd,Nat.reduceBEq,Int.reduceToNat]
 unfold turnW
 have hr:=@wrap_rng (n+32768)
 simp only [Int.sub_neg]
 generalize IntKind.i64.wrap (n+32768)=x at *
 simp only [tmodW,tdivW]
 (repeat' split)<;>(try simp only [decide_eq_true_eq] at *)<;>(try simp (disch:=omega) only [wrapI] at *)<;>omega
def itvFold(lo hi:Int):ItvItv:=if lo > hi∨lo < -1099511627776∨hi > 1099511627776 then ⟨0,0⟩ else if turnW lo≠turnW hi then ⟨-32768,32767⟩ else ⟨numW lo,numW hi⟩
theorem sItvFold_e{lo:Int}{hi:Int}{r:ItvItv}(h:itvFold lo hi=r):EC Tryz.prog 215 0 [CI lo,CI hi] [] (.agg [CI r.Lo,CI r.Hi]) [] 0:=by
 subst h
 refine (seat [] []).PU (mkM true []) (fn:=Tryz.f215) ⟨by kernel_rfl,by kernel_rfl,rfl⟩ (mkEs [eInt 10 lo,eInt 30 hi,eB 111000 (l1In lo (-1099511627776) 1099511627776),eB 115000 (l1In hi (-1099511627776) 1099511627776),eI 311000 (turnW lo),eI 313000 (turnW hi),eItvItv 410000 ⟨-32768,32767⟩,eI 511000 (numW lo),eI 513000 (numW hi)]) noLps [] [xInt 10,xInt 30] rfl (fun _=>?_)
 conv=>arg 4;cbv
 simp only [go_sem,Nat.reduceEqDiff,Nat.reduceAdd,Nat.reduceBEq,Int.reduceToNat]
 repeat' (first|with_reducible apply And.intro|intro _)
 all_goals first|exact l1In_e rfl|exact .inr (l1In_e rfl)|exact sTurn_e rfl|exact sNumW_e rfl|exact sItvAll_e (r:=⟨_,_⟩) rfl|skip
 all_goals grind [itvFold,l1In]
theorem turn_num{n:Int}(h:-1099511627776≤n)(h2:n≤1099511627776):IntKind.i64.wrap (n-numW n)=65536*turnW n:=by
 have e:n-numW n=65536*((n+32768) / 65536):=by unfold numW;omega
 rw [e,turnW]
 rw [wrapI (n:=n+32768) (by omega) (by omega),wrapI (by omega) (by omega)]
theorem iItvFold_e{lo:Int}{hi:Int}{r:ItvItv}(h:itvFold lo hi=r):EC Tryz.prog 213 0 [CI lo,CI hi] [] (.agg [CI r.Lo,CI r.Hi]) [] 0:=by
 subst h
 refine (seat [] []).PU (mkM true []) (fn:=Tryz.f213) ⟨by kernel_rfl,by kernel_rfl,rfl⟩ (mkEs [eInt 10 lo,eInt 30 hi,eI 312000 (numW lo),eI 316000 (numW hi),eItvItv 410000 ⟨-32768,32767⟩,eI 511000 (numW lo),eI 513000 (numW hi)]) noLps [] [xInt 10,xInt 30] rfl (fun _=>?_)
 conv=>arg 4;cbv
 simp only [go_sem,Nat.reduceEqDiff,Nat.reduceAdd,Nat.reduceBEq,Int.reduceToNat]
 repeat' (first|with_reducible apply And.intro|intro _)
 all_goals first|exact iNumW_e rfl|exact iItvAll_e (r:=⟨_,_⟩) rfl|skip
 all_goals grind [itvFold,turn_num]
end Go.Proofs.YtjakhnhnjhafgaaGreat.Wk
namespace Go.Proofs.YtjakhnhnjhafgaaGreat.Wk
open Go Go.RowKit Go.Deep Ow
set_option maxRecDepth 100000
def span4(a b c d:Int):ItvItv:=⟨mn (mn a b) (mn c d),mx (mx a b) (mx c d)⟩
theorem sSpan_e{a:Int}{b:Int}{c:Int}{d:Int}{r:ItvItv}(h:span4 a b c d=r):EC Tryz.prog 216 0 [CI a,CI b,CI c,CI d] [] (.agg [CI r.Lo,CI r.Hi]) [] 0:=by
 subst h
 refine (seat [] []).PU (mkM true []) (fn:=Tryz.f216) ⟨by kernel_rfl,by kernel_rfl,rfl⟩ (mkEs [eInt 10 a,eInt 30 b,eInt 50 c,eInt 70 d]) noLps [] [xInt 10,xInt 30,xInt 50,xInt 70] rfl (fun _=>?_)
 conv=>arg 4;cbv
 simp only [go_sem,Nat.reduceEqDiff,Nat.reduceAdd,Nat.reduceBEq,Int.reduceToNat]
 first|rfl|(simp [span4,mn,mx];done)|grind [span4,mn,mx]
end Go.Proofs.YtjakhnhnjhafgaaGreat.Wk
namespace Go.Proofs.YtjakhnhnjhafgaaGreat.Wk
open Go Go.RowKit Go.Deep Ow
set_option maxRecDepth 100000
def qd(x y:Int):Int:=IntKind.i64.wrap (x.tdiv y)
def divNeg(a b:ItvItv):ItvItv:=span4 (qd a.Lo b.Lo) (qd a.Lo (mn b.Hi (-1))) (qd a.Hi b.Lo) (qd a.Hi (mn b.Hi (-1)))
def divAcr(a b:ItvItv):ItvItv:=span4 a.Lo (qd a.Lo b.Hi) a.Hi (qd a.Hi b.Hi)
def divB(a b:ItvItv):ItvItv:=
 if b.Lo≥0 then span4 (qd a.Lo (mx b.Lo 1)) (qd a.Lo b.Hi) (qd a.Hi (mx b.Lo 1)) (qd a.Hi b.Hi)
 else if b.Hi≤0 then divNeg a b else ⟨mn (divNeg a b).Lo (divAcr a b).Lo,mx (divNeg a b).Hi (divAcr a b).Hi⟩
theorem sDiv_e{a b r:ItvItv}(ha:itvOk a=true)(hb:itvOk b=true)(hz:b.Lo≠0∨b.Hi≠0)(h:divB a b=r):EC Tryz.prog 217 0 [.agg [CI a.Lo,CI a.Hi],.agg [CI b.Lo,CI b.Hi]] [] (.agg [CI r.Lo,CI r.Hi]) [] 0:=by
 subst h
 refine (seat [] []).PU (mkM true []) (fn:=Tryz.f217) ⟨by kernel_rfl,by kernel_rfl,rfl⟩ (mkEs [eItvItv 10 a,eItvItv 30 b,eItvItv 328000 (divB a b),eItvItv 528000 (divNeg a b),eItvItv 824000 (divAcr a b)]) noLps [] [xItvItv 10,xItvItv 30] rfl (fun _=>?_)
 conv=>arg 4;cbv
 simp only [go_sem,Nat.reduceEqDiff,Nat.reduceAdd,Nat.reduceBEq,Int.reduceToNat]
 have hl:b.Lo≤b.Hi:=by simp only [itvOk,Bool.and_eq_true,decide_eq_true_eq] at hb;first|exact hb.2|exact hb.1.2|exact hb.2.2|omega
 repeat' (first|with_reducible apply And.intro|intro _)
 all_goals first
  | omega
  | (split<;>simp_all<;>omega)
  | exact sSpan_e rfl
  | exact sSpan_e (r:=divB a b) (by unfold divB;rw [if_pos ‹b.Lo≥0›];rfl)
  | (rw [divB,if_neg (by assumption),if_pos (by assumption)];done)
  | (rw [divB,if_neg (by assumption),if_neg (by assumption)];rfl)
  | (rw [divB,if_neg (by assumption),if_neg (by assumption)];done)
  | (grind [divB])
end Go.Proofs.YtjakhnhnjhafgaaGreat.Wk
namespace Go.Proofs.YtjakhnhnjhafgaaGreat.Wk
open Go Go.RowKit Go.Deep Ow
set_option maxRecDepth 100000
abbrev W64(n:Int):Int:=IntKind.i64.wrap n
def mulQ(a b:ItvItv):ItvItv:=span4 (W64 (a.Lo*b.Lo)) (W64 (a.Lo*b.Hi)) (W64 (a.Hi*b.Lo)) (W64 (a.Hi*b.Hi))
def doB(op:Int)(a b:ItvItv):ItvItv:=
 if op=1 then ⟨W64 (a.Lo+b.Lo),W64 (a.Hi+b.Hi)⟩ else if op=2 then ⟨W64 (a.Lo-b.Hi),W64 (a.Hi-b.Lo)⟩
 else if op=3 then mulQ a b else divB a b
def doOk(op:Int)(a b:ItvItv):Bool:=itvOk a&&itvOk b&&decide (1≤op)&&decide (op≤4)&&(decide (op≠4)||decide (b.Lo≠0)||decide (b.Hi≠0))
def doV(op:Int)(a b:ItvItv):ItvItv:=if doOk op a b=true then itvFold (doB op a b).Lo (doB op a b).Hi else ⟨0,0⟩
theorem sItvDo_e{op:Int}{a0:Int}{a1:Int}{b0:Int}{b1:Int}{r0:ItvItv}{r1:Bool}(h0:((doV op (⟨a0,a1⟩:ItvItv) (⟨b0,b1⟩:ItvItv),doOk op (⟨a0,a1⟩:ItvItv) (⟨b0,b1⟩:ItvItv))).1=r0)(h1:((doV op (⟨a0,a1⟩:ItvItv) (⟨b0,b1⟩:ItvItv),doOk op (⟨a0,a1⟩:ItvItv) (⟨b0,b1⟩:ItvItv))).2=r1):EC Tryz.prog 198 0 [CI op,.agg [CI a0,CI a1],.agg [CI b0,CI b1]] [] (.tup [.agg [CI r0.Lo,CI r0.Hi],CB r1]) [] 0:=by
 subst h0 h1
 refine (seat [] []).PU (mkM true [3,1,6,9,1,73]) (fn:=Tryz.f198) ⟨by kernel_rfl,by kernel_rfl,rfl⟩ (mkEs [eInt 10 op,eItvItv 30 ⟨a0,a1⟩,eItvItv 50 ⟨b0,b1⟩,eB 111000 (itvOk (⟨a0,a1⟩:ItvItv)),eB 115000 (itvOk (⟨b0,b1⟩:ItvItv)),eItvItv 520000 (itvFold (IntKind.i64.wrap ((⟨a0,a1⟩:ItvItv).Lo+(⟨b0,b1⟩:ItvItv).Lo)) (IntKind.i64.wrap ((⟨a0,a1⟩:ItvItv).Hi+(⟨b0,b1⟩:ItvItv).Hi))),eItvItv 720000 (itvFold (IntKind.i64.wrap ((⟨a0,a1⟩:ItvItv).Lo-(⟨b0,b1⟩:ItvItv).Hi)) (IntKind.i64.wrap ((⟨a0,a1⟩:ItvItv).Hi-(⟨b0,b1⟩:ItvItv).Lo))),eItvItv 930000 (mulQ (⟨a0,a1⟩:ItvItv) (⟨b0,b1⟩:ItvItv)),eItvItv 1014000 (itvFold (mulQ (⟨a0,a1⟩:ItvItv) (⟨b0,b1⟩:ItvItv)).Lo (mulQ (⟨a0,a1⟩:ItvItv) (⟨b0,b1⟩:ItvItv)).Hi),eItvItv 1312000 (divB (⟨a0,a1⟩:ItvItv) (⟨b0,b1⟩:ItvItv)),eItvItv 1414000 (itvFold (divB (⟨a0,a1⟩:ItvItv) (⟨b0,b1⟩:ItvItv)).Lo (divB (⟨a0,a1⟩:ItvItv) (⟨b0,b1⟩:ItvItv)).Hi)]) noLps [] [xInt 10,xItvItv 30,xItvItv 50] rfl (fun _=>?_)
 conv=>arg 4;cbv
 simp only [go_sem,Nat.reduceEqDiff,Nat.reduceAdd,Nat.reduceBEq,Int.reduceToNat]
 repeat' (first|with_reducible apply And.intro|intro _)
 all_goals first|exact ItvOk_e rfl|exact .inr (ItvOk_e rfl)|exact sItvFold_e rfl|exact sSpan_e rfl|skip
 all_goals first|(refine @sDiv_e ⟨a0,a1⟩ ⟨b0,b1⟩ _ ?_ ?_ ?_ rfl<;>first|assumption|(simp_all;done)|grind)|skip
 all_goals first
  | (have e:doOk op ⟨a0,a1⟩ ⟨b0,b1⟩=false:=by (unfold doOk;cases h1:itvOk ⟨a0,a1⟩<;>cases h2:itvOk ⟨b0,b1⟩<;>simp_all<;>omega)
     simp only [doV,e];rfl)
  | (have e:doOk op ⟨a0,a1⟩ ⟨b0,b1⟩=true:=by (unfold doOk;cases h1:itvOk ⟨a0,a1⟩<;>cases h2:itvOk ⟨b0,b1⟩<;>simp_all<;>omega)
     simp [doV,e,doB, *];done)
  | (have e:doOk op ⟨a0,a1⟩ ⟨b0,b1⟩=true:=by (unfold doOk;cases h1:itvOk ⟨a0,a1⟩<;>cases h2:itvOk ⟨b0,b1⟩<;>simp_all<;>omega)
     subst_vars;simp only [doV,e,doB];rfl)
end Go.Proofs.YtjakhnhnjhafgaaGreat.Wk
