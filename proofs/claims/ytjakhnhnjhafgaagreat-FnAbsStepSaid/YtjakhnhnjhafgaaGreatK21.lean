/- A part of the proof. -/
import Derived.Test.YtjakhnhnjhafgaaGreatK20
import Derived.Test.YtjakhnhnjhafgaaGreatK19
import Derived.MapKept
import Derived.WideMake
import Derived.Test.YtjakhnhnjhafgaaGreatK01
set_option linter.unusedVariables false
set_option linter.unusedSimpArgs false
namespace Go.Proofs.YtjakhnhnjhafgaaGreat.Wk
open Go Go.RowKit Go.Deep Ow
set_option maxRecDepth 100000
theorem iNumOk_e{n:Int}{r:Bool}(h:numOk n=r):EC Tryz.prog 63 0 [CI n] [] (CB r) [] 0:=by
 subst h
 refine (seat [] []).PU (mkM true []) (fn:=Tryz.f63) ⟨by kernel_rfl,by kernel_rfl,rfl⟩ (mkEs [eInt 10 n]) noLps [] [xInt 10] rfl (fun _=>?_)
 conv=>arg 4;cbv
 simp only [go_sem,Nat.reduceEqDiff,Nat.reduceAdd,Nat.reduceBEq,Int.reduceToNat]
 simp [numOk]
theorem iItvOk_e{a0:Int}{a1:Int}{r:Bool}(h:itvOk (⟨a0,a1⟩:ItvItv)=r):EC Tryz.prog 113 0 [.agg [CI a0,CI a1]] [] (CB r) [] 0:=by
 subst h
 refine (seat [] []).PU (mkM true []) (fn:=Tryz.f113) ⟨by kernel_rfl,by kernel_rfl,rfl⟩ (mkEs [eItvItv 10 ⟨a0,a1⟩,eB 112000 (numOk (⟨a0,a1⟩:ItvItv).Lo),eB 116000 (numOk (⟨a0,a1⟩:ItvItv).Hi)]) noLps [] [xItvItv 10] rfl (fun _=>?_)
 conv=>arg 4;cbv
 simp only [go_sem,Nat.reduceEqDiff,Nat.reduceAdd,Nat.reduceBEq,Int.reduceToNat,iNumOk_e]
 simp [itvOk,Bool.and_assoc]
theorem bothOk_e{a0:Int}{a1:Int}{b0:Int}{b1:Int}{r:Bool}(h:(itvOk (⟨a0,a1⟩:ItvItv)&&itvOk (⟨b0,b1⟩:ItvItv))=r):EC Tryz.prog 170 0 [.agg [CI a0,CI a1],.agg [CI b0,CI b1]] [] (CB r) [] 0:=by
 subst h
 refine (seat [] []).PU (mkM true []) (fn:=Tryz.f170) ⟨by kernel_rfl,by kernel_rfl,rfl⟩ (mkEs [eItvItv 10 ⟨a0,a1⟩,eItvItv 30 ⟨b0,b1⟩,eB 111000 (itvOk (⟨a0,a1⟩:ItvItv)),eB 114000 (itvOk (⟨b0,b1⟩:ItvItv))]) noLps [] [xItvItv 10,xItvItv 30] rfl (fun _=>?_)
 conv=>arg 4;cbv
 simp only [go_sem,Nat.reduceEqDiff,Nat.reduceAdd,Nat.reduceBEq,Int.reduceToNat,iItvOk_e]
theorem iItvHas_e{a0:Int}{a1:Int}{n:Int}{r:Bool}(h:itvHas (⟨a0,a1⟩:ItvItv) n=r):EC Tryz.prog 108 0 [.agg [CI a0,CI a1],CI n] [] (CB r) [] 0:=by
 subst h
 refine (seat [] []).PU (mkM true []) (fn:=Tryz.f108) ⟨by kernel_rfl,by kernel_rfl,rfl⟩ (mkEs [eItvItv 10 ⟨a0,a1⟩,eInt 30 n,eB 111000 (itvOk (⟨a0,a1⟩:ItvItv))]) noLps [] [xItvItv 10,xInt 30] rfl (fun _=>?_)
 conv=>arg 4;cbv
 simp only [go_sem,Nat.reduceEqDiff,Nat.reduceAdd,Nat.reduceBEq,Int.reduceToNat,iItvOk_e]
 grind [itvHas,l1In]
theorem iItvIn_e{a0:Int}{a1:Int}{b0:Int}{b1:Int}{r:Bool}(h:itvIn (⟨a0,a1⟩:ItvItv) (⟨b0,b1⟩:ItvItv)=r):EC Tryz.prog 123 0 [.agg [CI a0,CI a1],.agg [CI b0,CI b1]] [] (CB r) [] 0:=by
 subst h
 refine (seat [] []).PU (mkM true []) (fn:=Tryz.f123) ⟨by kernel_rfl,by kernel_rfl,rfl⟩ (mkEs [eItvItv 10 ⟨a0,a1⟩,eItvItv 30 ⟨b0,b1⟩,eB 112000 (itvOk (⟨a0,a1⟩:ItvItv)&&itvOk (⟨b0,b1⟩:ItvItv))]) noLps [] [xItvItv 10,xItvItv 30] rfl (fun _=>?_)
 conv=>arg 4;cbv
 simp only [go_sem,Nat.reduceEqDiff,Nat.reduceAdd,Nat.reduceBEq,Int.reduceToNat,bothOk_e]
 grind [itvIn]
theorem cellIndexes_e{r:ItvItv}(h:(⟨0,3⟩:ItvItv)=r):EC Tryz.prog 124 0 [] [] (.agg [CI r.Lo,CI r.Hi]) [] 0:=by
 subst h
 refine (seat [] []).PU (mkM true []) (fn:=Tryz.f124) ⟨by kernel_rfl,by kernel_rfl,rfl⟩ (mkEs []) noLps [] [] rfl (fun _=>?_)
 conv=>arg 4;cbv
 simp only [go_sem,Nat.reduceEqDiff,Nat.reduceAdd,Nat.reduceBEq,Int.reduceToNat]
theorem cutItv_e{a0:Int}{a1:Int}{lo:Int}{hi:Int}{r:ItvItv}(h:(⟨mx (⟨a0,a1⟩:ItvItv).Lo lo,mn (⟨a0,a1⟩:ItvItv).Hi hi⟩:ItvItv)=r):EC Tryz.prog 190 0 [.agg [CI a0,CI a1],CI lo,CI hi] [] (.agg [CI r.Lo,CI r.Hi]) [] 0:=by
 subst h
 refine (seat [] []).PU (mkM true []) (fn:=Tryz.f190) ⟨by kernel_rfl,by kernel_rfl,rfl⟩ (mkEs [eItvItv 10 ⟨a0,a1⟩,eInt 30 lo,eInt 50 hi]) noLps [] [xItvItv 10,xInt 30,xInt 50] rfl (fun _=>?_)
 conv=>arg 4;cbv
 simp only [go_sem,Nat.reduceEqDiff,Nat.reduceAdd,Nat.reduceBEq,Int.reduceToNat]
def without(a b:ItvItv):ItvItv:=if b.Lo≠b.Hi then a else if a.Lo=b.Lo then ⟨IntKind.i64.wrap (a.Lo+1),a.Hi⟩ else if a.Hi=b.Lo then ⟨a.Lo,IntKind.i64.wrap (a.Hi-1)⟩ else a
theorem without_e{a0:Int}{a1:Int}{b0:Int}{b1:Int}{r:ItvItv}(h:without (⟨a0,a1⟩:ItvItv) (⟨b0,b1⟩:ItvItv)=r):EC Tryz.prog 192 0 [.agg [CI a0,CI a1],.agg [CI b0,CI b1]] [] (.agg [CI r.Lo,CI r.Hi]) [] 0:=by
 subst h
 refine (seat [] []).PU (mkM true []) (fn:=Tryz.f192) ⟨by kernel_rfl,by kernel_rfl,rfl⟩ (mkEs [eItvItv 10 ⟨a0,a1⟩,eItvItv 30 ⟨b0,b1⟩]) noLps [] [xItvItv 10,xItvItv 30] rfl (fun _=>?_)
 conv=>arg 4;cbv
 simp only [go_sem,Nat.reduceEqDiff,Nat.reduceAdd,Nat.reduceBEq,Int.reduceToNat]
 grind [without]
theorem lessRel_e{a0:Int}{a1:Int}{b0:Int}{b1:Int}{r0:ItvItv}{r1:ItvItv}(h0:(((⟨mx (⟨a0,a1⟩:ItvItv).Lo (-32768),mn (⟨a0,a1⟩:ItvItv).Hi (IntKind.i64.wrap ((⟨b0,b1⟩:ItvItv).Hi-1))⟩:ItvItv),(⟨mx (⟨b0,b1⟩:ItvItv).Lo (IntKind.i64.wrap ((⟨a0,a1⟩:ItvItv).Lo+1)),mn (⟨b0,b1⟩:ItvItv).Hi 32767⟩:ItvItv))).1=r0)(h1:(((⟨mx (⟨a0,a1⟩:ItvItv).Lo (-32768),mn (⟨a0,a1⟩:ItvItv).Hi (IntKind.i64.wrap ((⟨b0,b1⟩:ItvItv).Hi-1))⟩:ItvItv),(⟨mx (⟨b0,b1⟩:ItvItv).Lo (IntKind.i64.wrap ((⟨a0,a1⟩:ItvItv).Lo+1)),mn (⟨b0,b1⟩:ItvItv).Hi 32767⟩:ItvItv))).2=r1):EC Tryz.prog 252 0 [.agg [],.agg [CI a0,CI a1],.agg [CI b0,CI b1]] [] (.tup [.agg [CI r0.Lo,CI r0.Hi],.agg [CI r1.Lo,CI r1.Hi]]) [] 0:=by
 subst h0 h1
 refine (seat [] []).PU (mkM true []) (fn:=Tryz.f252) ⟨by kernel_rfl,by kernel_rfl,rfl⟩ (mkEs [eItvItv 30 ⟨a0,a1⟩,eItvItv 50 ⟨b0,b1⟩,eItvItv 114000 ⟨mx (⟨a0,a1⟩:ItvItv).Lo (-32768),mn (⟨a0,a1⟩:ItvItv).Hi (IntKind.i64.wrap ((⟨b0,b1⟩:ItvItv).Hi-1))⟩,eItvItv 119000 ⟨mx (⟨b0,b1⟩:ItvItv).Lo (IntKind.i64.wrap ((⟨a0,a1⟩:ItvItv).Lo+1)),mn (⟨b0,b1⟩:ItvItv).Hi 32767⟩]) noLps [] [.agg .nil,xItvItv 30,xItvItv 50] rfl (fun _=>?_)
 conv=>arg 4;cbv
 simp only [go_sem,Nat.reduceEqDiff,Nat.reduceAdd,Nat.reduceBEq,Int.reduceToNat]
 repeat' (first|with_reducible apply And.intro|intro _)
 all_goals first|exact cutItv_e rfl|rfl|skip
theorem mostRel_e{a0:Int}{a1:Int}{b0:Int}{b1:Int}{r0:ItvItv}{r1:ItvItv}(h0:(((⟨mx (⟨a0,a1⟩:ItvItv).Lo (-32768),mn (⟨a0,a1⟩:ItvItv).Hi (⟨b0,b1⟩:ItvItv).Hi⟩:ItvItv),(⟨mx (⟨b0,b1⟩:ItvItv).Lo (⟨a0,a1⟩:ItvItv).Lo,mn (⟨b0,b1⟩:ItvItv).Hi 32767⟩:ItvItv))).1=r0)(h1:(((⟨mx (⟨a0,a1⟩:ItvItv).Lo (-32768),mn (⟨a0,a1⟩:ItvItv).Hi (⟨b0,b1⟩:ItvItv).Hi⟩:ItvItv),(⟨mx (⟨b0,b1⟩:ItvItv).Lo (⟨a0,a1⟩:ItvItv).Lo,mn (⟨b0,b1⟩:ItvItv).Hi 32767⟩:ItvItv))).2=r1):EC Tryz.prog 253 0 [.agg [],.agg [CI a0,CI a1],.agg [CI b0,CI b1]] [] (.tup [.agg [CI r0.Lo,CI r0.Hi],.agg [CI r1.Lo,CI r1.Hi]]) [] 0:=by
 subst h0 h1
 refine (seat [] []).PU (mkM true []) (fn:=Tryz.f253) ⟨by kernel_rfl,by kernel_rfl,rfl⟩ (mkEs [eItvItv 30 ⟨a0,a1⟩,eItvItv 50 ⟨b0,b1⟩,eItvItv 113000 ⟨mx (⟨a0,a1⟩:ItvItv).Lo (-32768),mn (⟨a0,a1⟩:ItvItv).Hi (⟨b0,b1⟩:ItvItv).Hi⟩,eItvItv 117000 ⟨mx (⟨b0,b1⟩:ItvItv).Lo (⟨a0,a1⟩:ItvItv).Lo,mn (⟨b0,b1⟩:ItvItv).Hi 32767⟩]) noLps [] [.agg .nil,xItvItv 30,xItvItv 50] rfl (fun _=>?_)
 conv=>arg 4;cbv
 simp only [go_sem,Nat.reduceEqDiff,Nat.reduceAdd,Nat.reduceBEq,Int.reduceToNat]
 repeat' (first|with_reducible apply And.intro|intro _)
 all_goals first|exact cutItv_e rfl|rfl|skip
theorem sameRel_e{a0:Int}{a1:Int}{b0:Int}{b1:Int}{r0:ItvItv}{r1:ItvItv}(h0:(((⟨mx (⟨a0,a1⟩:ItvItv).Lo (⟨b0,b1⟩:ItvItv).Lo,mn (⟨a0,a1⟩:ItvItv).Hi (⟨b0,b1⟩:ItvItv).Hi⟩:ItvItv),(⟨mx (⟨a0,a1⟩:ItvItv).Lo (⟨b0,b1⟩:ItvItv).Lo,mn (⟨a0,a1⟩:ItvItv).Hi (⟨b0,b1⟩:ItvItv).Hi⟩:ItvItv))).1=r0)(h1:(((⟨mx (⟨a0,a1⟩:ItvItv).Lo (⟨b0,b1⟩:ItvItv).Lo,mn (⟨a0,a1⟩:ItvItv).Hi (⟨b0,b1⟩:ItvItv).Hi⟩:ItvItv),(⟨mx (⟨a0,a1⟩:ItvItv).Lo (⟨b0,b1⟩:ItvItv).Lo,mn (⟨a0,a1⟩:ItvItv).Hi (⟨b0,b1⟩:ItvItv).Hi⟩:ItvItv))).2=r1):EC Tryz.prog 251 0 [.agg [],.agg [CI a0,CI a1],.agg [CI b0,CI b1]] [] (.tup [.agg [CI r0.Lo,CI r0.Hi],.agg [CI r1.Lo,CI r1.Hi]]) [] 0:=by
 subst h0 h1
 refine (seat [] []).PU (mkM true []) (fn:=Tryz.f251) ⟨by kernel_rfl,by kernel_rfl,rfl⟩ (mkEs [eItvItv 30 ⟨a0,a1⟩,eItvItv 50 ⟨b0,b1⟩,eItvItv 115000 ⟨mx (⟨a0,a1⟩:ItvItv).Lo (⟨b0,b1⟩:ItvItv).Lo,mn (⟨a0,a1⟩:ItvItv).Hi (⟨b0,b1⟩:ItvItv).Hi⟩]) noLps [] [.agg .nil,xItvItv 30,xItvItv 50] rfl (fun _=>?_)
 conv=>arg 4;cbv
 simp only [go_sem,Nat.reduceEqDiff,Nat.reduceAdd,Nat.reduceBEq,Int.reduceToNat]
 repeat' (first|with_reducible apply And.intro|intro _)
 all_goals first|exact cutItv_e rfl|rfl|skip
theorem otherRel_e{a0:Int}{a1:Int}{b0:Int}{b1:Int}{r0:ItvItv}{r1:ItvItv}(h0:((without (⟨a0,a1⟩:ItvItv) (⟨b0,b1⟩:ItvItv),without (⟨b0,b1⟩:ItvItv) (⟨a0,a1⟩:ItvItv))).1=r0)(h1:((without (⟨a0,a1⟩:ItvItv) (⟨b0,b1⟩:ItvItv),without (⟨b0,b1⟩:ItvItv) (⟨a0,a1⟩:ItvItv))).2=r1):EC Tryz.prog 254 0 [.agg [],.agg [CI a0,CI a1],.agg [CI b0,CI b1]] [] (.tup [.agg [CI r0.Lo,CI r0.Hi],.agg [CI r1.Lo,CI r1.Hi]]) [] 0:=by
 subst h0 h1
 refine (seat [] []).PU (mkM true []) (fn:=Tryz.f254) ⟨by kernel_rfl,by kernel_rfl,rfl⟩ (mkEs [eItvItv 30 ⟨a0,a1⟩,eItvItv 50 ⟨b0,b1⟩,eItvItv 112000 (without (⟨a0,a1⟩:ItvItv) (⟨b0,b1⟩:ItvItv)),eItvItv 115000 (without (⟨b0,b1⟩:ItvItv) (⟨a0,a1⟩:ItvItv))]) noLps [] [.agg .nil,xItvItv 30,xItvItv 50] rfl (fun _=>?_)
 conv=>arg 4;cbv
 simp only [go_sem,Nat.reduceEqDiff,Nat.reduceAdd,Nat.reduceBEq,Int.reduceToNat]
 repeat' (first|with_reducible apply And.intro|intro _)
 all_goals first|exact without_e rfl|rfl|skip
end Go.Proofs.YtjakhnhnjhafgaaGreat.Wk
namespace Go.Proofs.YtjakhnhnjhafgaaGreat.Wk
open Go Go.RowKit Go.Deep Ow
set_option maxRecDepth 100000
def k10 : Ki:=.cons (.int .i64) (.cons (.int .i64) (.cons (.int .i64) (.cons (.int .i64) (.cons (.int .i64) (.cons (.int .i64) (.cons (.int .i64) (.cons (.int .i64) (.cons (.int .i64) (.cons (.int .i64) .nil)))))))))
def r10(i:Nat):X:=ofL [.ati .i64 i .nil,.ati .i64 (i+1) .nil,.ati .i64 (i+2) .nil,.ati .i64 (i+3) .nil,.ati .i64 (i+4) .nil,.ati .i64 (i+5) .nil,.ati .i64 (i+6) .nil,.ati .i64 (i+7) .nil,.ati .i64 (i+8) .nil,.ati .i64 (i+9) .nil]
def b10(l i:Nat):XB:=⟨l,k10,.cons (r10 i) .nil⟩
def stC(V:List ItvItv)(c:ItvItv):List C:=[CI (V.getD 0 zItvItv).Lo,CI (V.getD 0 zItvItv).Hi,CI (V.getD 1 zItvItv).Lo,CI (V.getD 1 zItvItv).Hi,CI (V.getD 2 zItvItv).Lo,CI (V.getD 2 zItvItv).Hi,CI (V.getD 3 zItvItv).Lo,CI (V.getD 3 zItvItv).Hi,CI c.Lo,CI c.Hi]
abbrev eSt(i:Nat)(V:List ItvItv)(c:ItvItv):En3:={ I:=[(i,(V.getD 0 zItvItv).Lo),(i+1,(V.getD 0 zItvItv).Hi),(i+2,(V.getD 1 zItvItv).Lo),(i+3,(V.getD 1 zItvItv).Hi),(i+4,(V.getD 2 zItvItv).Lo),(i+5,(V.getD 2 zItvItv).Hi),(i+6,(V.getD 3 zItvItv).Lo),(i+7,(V.getD 3 zItvItv).Hi),(i+8,c.Lo),(i+9,c.Hi)] }
def itvMeet(a b:ItvItv):ItvItv×Bool:=if itvOk a&&itvOk b&&itvOk ⟨mx a.Lo b.Lo,mn a.Hi b.Hi⟩ then (⟨mx a.Lo b.Lo,mn a.Hi b.Hi⟩,true) else (⟨0,0⟩,false)
theorem four{α:Type}{V:List α}(h:V.length=4):∃a b c d,V=[a,b,c,d]:=by
 match V,h with | [a,b,c,d],_=>exact ⟨a,b,c,d,rfl⟩
def narV(V:List ItvItv)(v:Int)(a:ItvItv):List ItvItv:=V.set v.toNat (itvMeet (V.getD v.toNat zItvItv) a).1
theorem iItvMeet_e{a0:Int}{a1:Int}{b0:Int}{b1:Int}{r0:ItvItv}{r1:Bool}(h0:(itvMeet (⟨a0,a1⟩:ItvItv) (⟨b0,b1⟩:ItvItv)).1=r0)(h1:(itvMeet (⟨a0,a1⟩:ItvItv) (⟨b0,b1⟩:ItvItv)).2=r1):EC Tryz.prog 211 0 [.agg [CI a0,CI a1],.agg [CI b0,CI b1]] [] (.tup [.agg [CI r0.Lo,CI r0.Hi],CB r1]) [] 0:=by
 subst h0 h1
 refine (seat [] []).PU (mkM true []) (fn:=Tryz.f211) ⟨by kernel_rfl,by kernel_rfl,rfl⟩ (mkEs [eItvItv 10 ⟨a0,a1⟩,eItvItv 30 ⟨b0,b1⟩,eItvItv 115000 ⟨mx (⟨a0,a1⟩:ItvItv).Lo (⟨b0,b1⟩:ItvItv).Lo,mn (⟨a0,a1⟩:ItvItv).Hi (⟨b0,b1⟩:ItvItv).Hi⟩,eB 212000 (itvOk (⟨a0,a1⟩:ItvItv)&&itvOk (⟨b0,b1⟩:ItvItv)),eB 216000 (itvOk ⟨mx (⟨a0,a1⟩:ItvItv).Lo (⟨b0,b1⟩:ItvItv).Lo,mn (⟨a0,a1⟩:ItvItv).Hi (⟨b0,b1⟩:ItvItv).Hi⟩)]) noLps [] [xItvItv 10,xItvItv 30] rfl (fun _=>?_)
 conv=>arg 4;cbv
 simp only [go_sem,Nat.reduceEqDiff,Nat.reduceAdd,Nat.reduceBEq,Int.reduceToNat,cutItv_e,bothOk_e,iItvOk_e]
 refine ⟨cutItv_e rfl,?_⟩
 grind [itvMeet]
theorem narrow_e{V:List ItvItv}{c:ItvItv}{v a0 a1:Int}(hl:V.length=4)(h0:0≤v)(h4:v<4):
 EC Tryz.prog 188 1 [.ptr 0 10 0 0,CI v,.agg [CI a0,CI a1]] [(0,.c 10 [stC V c])] (CB (itvMeet (V.getD v.toNat zItvItv) ⟨a0,a1⟩).2) [(0,.c 10 [stC (narV V v ⟨a0,a1⟩) c])] 1:=by
 obtain ⟨w0,w1,w2,w3,rfl⟩:=four hl
 refine (seat [] []).PB (mkM true []) (fn:=Tryz.f188) ⟨by kernel_rfl,by kernel_rfl,rfl⟩ (Nat.le_refl 1)
  (mkEs [eSt 10 ([w0,w1,w2,w3]:List ItvItv) c,eI 30 v,eItvItv 50 ⟨a0,a1⟩,
    eItvItv 117000 (itvMeet (([w0,w1,w2,w3]:List ItvItv).getD v.toNat zItvItv) ⟨a0,a1⟩).1,eB 117030 (itvMeet (([w0,w1,w2,w3]:List ItvItv).getD v.toNat zItvItv) ⟨a0,a1⟩).2,eB 900 (itvMeet (([w0,w1,w2,w3]:List ItvItv).getD v.toNat zItvItv) ⟨a0,a1⟩).2,eSt 910 (narV [w0,w1,w2,w3] v ⟨a0,a1⟩) c])
  noLps [] [.ptr 0 10 (.int .i64 0) 0,.ati .i64 30 .nil,xItvItv 50] [b10 0 10] rfl rfl
  (.atb 900 .nil) [b10 0 910] rfl rfl (fun _=>?_)
 conv=>arg 4;cbv
 simp only [go_sem,Nat.reduceEqDiff,Nat.reduceAdd,Nat.reduceBEq,Int.reduceToNat]
 rcases (by omega:v=0∨v=1∨v=2∨v=3) with rfl|rfl|rfl|rfl<;>refine ⟨⟨by omega,fun _=>?_⟩,by omega,?_⟩
 all_goals simp [narV]
 all_goals exact iItvMeet_e rfl rfl
end Go.Proofs.YtjakhnhnjhafgaaGreat.Wk
namespace Ow
open Go Go.RowKit Go.Deep
theorem EC.ofLit{P:Program}{f:FuncId}{args:List C}{v:Value}(hf:FnOk P f)(h:∀(ρ:Pl) (RO:Nat→Prop) (w:World) (vs:Array Value),RelT ρ RO w args vs→Calls P f vs w fun e w'=>e=.returned v∧Chg [] w w'):
 EC P f 0 args [] (.d (.lit v)) [] 0:=
 ⟨hf, Nat.le_refl _,fun ρ F RO w vs hs hρ ha=>(h ρ RO w vs ha).mono (fun e w' ⟨he,hc⟩=>⟨ρ,F,RO,v,he,
   ⟨(ChgP.of hc).mono (fun b hb=>by cases hb),fun _ _=>rfl,fun _ h=>h,fun _ h=>.inl h,
     ⟨fun l B h=>(by cases h),fun l l' B B' _ h=>(by cases h),fun l B h=>(by cases h),fun b hb=>Nat.lt_of_lt_of_le (hs.ro b hb) hc.size⟩,
     fun b ⟨l,B,h,_⟩=>(by cases h)⟩,.d _ _ (.lit v),hρ⟩)⟩
theorem FnIs.ok{P:Program}{f:FuncId}{fn:Func}(F:FnIs P f fn):FnOk P f:=⟨fn,bodyOf fn,F.f,F.n,F.body⟩
def valL : List C→Option (List Value)
 | []=>some []
 | .d (.lit v)::cs=>(valL cs).map (v::·)
 | _::_=>none
def valT : List C→Option (List Value)
 | []=>some []
 | .d (.lit v)::cs=>(valT cs).map (v::·)
 | .agg az::cs=>(valL az).bind (fun a=>(valT cs).map (.agg a.toArray::·))
 | _::_=>none
section
variable {ρ:Pl} {RO:Nat→Prop} {w:World}
theorem RelC.lit{v u:Value}(h:RelC ρ RO w (.d (.lit v)) u):u=v:=by
 cases h with
 | d x v h=>cases h;rfl
theorem valL_ok : ∀{cs:List C} {us vs:List Value},valL cs=some us→vs.length=cs.length→(∀(i:Nat) (c:C) (v:Value),cs[i]? = some c→vs[i]? = some v→RelC ρ RO w c v)→vs=us:=by
 intro cs
 induction cs with
 | nil=>intro us vs h hl _;cases h;cases vs with|nil=>rfl|cons _ _=>cases hl
 | cons c cs ih=>
   intro us vs h hl hr
   cases vs with
   | nil=>cases hl
   | cons v vs=>
     unfold valL at h
     split at h
     · rename_i h0;cases h0
     · rename_i x cs' h0
       cases h0
       cases hc:valL cs with
       | none=>rw [hc] at h;cases h
       | some us'=>
         rw [hc] at h
         cases h
         rw [RelC.lit (hr 0 _ _ rfl rfl),ih hc (by simpa using hl) (fun i c v h1 h2=>hr (i+1) c v h1 h2)]
     · cases h
theorem valT_ok : ∀{cs:List C} {us vs:List Value},valT cs=some us→vs.length=cs.length→(∀(i:Nat) (c:C) (v:Value),cs[i]? = some c→vs[i]? = some v→RelC ρ RO w c v)→vs=us:=by
 intro cs
 induction cs with
 | nil=>intro us vs h hl _;cases h;cases vs with|nil=>rfl|cons _ _=>cases hl
 | cons c cs ih=>
   intro us vs h hl hr
   cases vs with
   | nil=>cases hl
   | cons v vs=>
     unfold valT at h
     split at h
     · rename_i h0;cases h0
     · rename_i x cs' h0
       cases h0
       cases hc:valT cs with
       | none=>rw [hc] at h;cases h
       | some us'=>
         rw [hc] at h
         cases h
         rw [RelC.lit (hr 0 _ _ rfl rfl),ih hc (by simpa using hl) (fun i c v h1 h2=>hr (i+1) c v h1 h2)]
     · rename_i az cs' h0
       cases h0
       cases ha:valL az with
       | none=>rw [ha] at h;cases h
       | some a=>
         cases hc:valT cs with
         | none=>rw [ha,hc] at h;cases h
         | some us'=>
           rw [ha,hc] at h
           cases h
           have h1:=hr 0 _ _ rfl rfl
           have hv:v=.agg a.toArray:=by
            cases h1 with
            | agg cs vs2 hl2 one rel=>rw [valL_ok ha hl2 rel]
           rw [hv,ih hc (by simpa using hl) (fun i c v h1 h2=>hr (i+1) c v h1 h2)]
     · cases h
theorem RelT.vals{T:List C}{vs:Array Value}{us:List Value}(h:RelT ρ RO w T vs)(hv:valT T=some us):vs=us.toArray:=by
 have:=valT_ok (ρ:=ρ) (RO:=RO) (w:=w) hv (vs:=vs.toList) (by simpa using h.len) (fun i c v h1 h2=>h.rel i c v h1 (by simpa using h2))
 rw [←this]
end
end Ow
namespace Ow
open Go Go.RowKit Go.Deep
def litL : List C→Option (List Value)
 | []=>some []
 | .d (.lit v)::cs=>if v.oneCell' then (litL cs).map (v::·) else none
 | _::_=>none
def litT : List C→Option (List Value)
 | []=>some []
 | .d (.lit v)::cs=>(litT cs).map (v::·)
 | .agg az::cs=>(litL az).bind (fun a=>(litT cs).map (.agg a.toArray::·))
 | _::_=>none
section
variable {ρ:Pl} {RO:Nat→Prop} {w:World}
theorem litL_ok : ∀{cs:List C} {us:List Value},litL cs=some us→us.length=cs.length∧(∀v∈us,v.oneCell'=true)∧(∀(i:Nat) (c:C) (v:Value),cs[i]? = some c→us[i]? = some v→RelC ρ RO w c v):=by
 intro cs
 induction cs with
 | nil=>intro us h;cases h;exact ⟨rfl,by simp,fun i c v h=>by simp at h⟩
 | cons c cs ih=>
   intro us h
   unfold litL at h
   split at h
   · rename_i h0;cases h0
   · rename_i x cs' h0
     cases h0
     split at h
     · rename_i hone
       cases hc:litL cs with
       | none=>rw [hc] at h;cases h
       | some us'=>
         rw [hc] at h
         cases h
         obtain ⟨h1,h2,h3⟩:=ih hc
         refine ⟨by simp [h1],fun v hv=>?_,fun i c v hc hv=>?_⟩
         · rcases List.mem_cons.1 hv with rfl|hv
           · exact hone
           · exact h2 v hv
         · cases i with
           | zero=>cases hc;cases hv;exact .d _ _ (.lit _)
           | succ i=>exact h3 i c v hc hv
     · cases h
   · cases h
theorem litT_ok : ∀{cs:List C} {us:List Value},litT cs=some us→us.length=cs.length∧(∀(i:Nat) (c:C) (v:Value),cs[i]? = some c→us[i]? = some v→RelC ρ RO w c v):=by
 intro cs
 induction cs with
 | nil=>intro us h;cases h;exact ⟨rfl,fun i c v h=>by simp at h⟩
 | cons c cs ih=>
   intro us h
   unfold litT at h
   split at h
   · rename_i h0;cases h0
   · rename_i x cs' h0
     cases h0
     cases hc:litT cs with
     | none=>rw [hc] at h;cases h
     | some us'=>
       rw [hc] at h
       cases h
       obtain ⟨h1,h3⟩:=ih hc
       refine ⟨by simp [h1],fun i c v hc hv=>?_⟩
       cases i with
       | zero=>cases hc;cases hv;exact .d _ _ (.lit _)
       | succ i=>exact h3 i c v hc hv
   · rename_i az cs' h0
     cases h0
     cases ha:litL az with
     | none=>rw [ha] at h;cases h
     | some a=>
       cases hc:litT cs with
       | none=>rw [ha,hc] at h;cases h
       | some us'=>
         rw [ha,hc] at h
         cases h
         obtain ⟨h1,h3⟩:=ih hc
         obtain ⟨g1,g2,g3⟩:=litL_ok (ρ:=ρ) (RO:=RO) (w:=w) ha
         refine ⟨by simp [h1],fun i c v hc hv=>?_⟩
         cases i with
         | zero=>cases hc;cases hv;exact .agg _ _ g1 g2 g3
         | succ i=>exact h3 i c v hc hv
   · cases h
theorem litT_rel{T:List C}{us:List Value}(h:litT T=some us):RelT ρ RO w T us.toArray:=by
 obtain ⟨h1,h2⟩:=litT_ok (ρ:=ρ) (RO:=RO) (w:=w) h
 exact ⟨by simpa using h1,fun i c v hc hv=>h2 i c v hc (by simpa using hv)⟩
def litR : C→Option Value
 | .d (.lit v)=>some v
 | .agg az=>(valL az).map fun a=>.agg a.toArray
 | .tup az=>(valT az).map fun a=>.tuple a.toArray
 | _=>none
theorem litR_ok{c:C}{u v:Value}(h:litR c=some u)(hr:RelC ρ RO w c v):v=u:=by
 unfold litR at h
 split at h
 · cases h;exact RelC.lit hr
 · rename_i az
   cases ha:valL az with
   | none=>rw [ha] at h;cases h
   | some a=>
     rw [ha] at h;cases h
     cases hr with
     | agg cs vs hl one rel=>rw [valL_ok ha hl rel]
 · rename_i az
   cases ha:valT az with
   | none=>rw [ha] at h;cases h
   | some a=>
     rw [ha] at h;cases h
     cases hr with
     | tup cs vs hl rel=>rw [valT_ok ha hl rel]
 · cases h
end
theorem EC.calls{P:Program}{f:FuncId}{args:List C}{val:C}{RO:Nat→Prop}{w:World}{vs:Array Value}(e:EC P f 0 args [] val [] 0)(hro:∀b,RO b→b<w.heap.size)(ha:RelT (fun _=>none) RO w args vs):
 Calls P f vs w fun e w'=>∃RO' v,e=.returned v∧Chg [] w w'∧(∀b,RO b→RO' b)∧(∀b,RO' b→RO b∨w.heap.size≤b)∧(∀b,RO' b→b<w'.heap.size)∧RelC (fun _=>none) RO' w' val v:=by
 refine (e.2.2 (fun _=>none) (fun _=>[]) RO w vs ⟨fun l B h=>(by cases h),fun l l' B B' _ h=>(by cases h),fun l B h=>(by cases h),hro⟩ (fun l h=>absurd rfl h) ha).mono ?_
 rintro e w' ⟨ρ',F',RO',v,he,hx,hv,hρ⟩
 have hn:ρ'=fun _=>none:=funext fun l=>by
  cases hl:ρ' l with
  | none=>rfl
  | some p=>exact absurd (hρ l (by rw [hl];exact nofun)) (Nat.not_lt_zero l)
 subst hn
 refine ⟨RO',v,he,(hx.chg.mono (fun b hb=>?_)).to,hx.ro,fun b hb=>?_,hx.sim.ro,hv⟩
 · obtain ⟨l,B,h,_⟩:=hb;cases h
 · rcases hx.ro' b hb with h|h|h
   · exact .inl h
   · obtain ⟨l,B,h,_⟩:=h;cases h
   · exact .inr h
theorem EC.lit{P:Program}{f:FuncId}{args:List C}{val:C}{us:List Value}{u:Value}(e:EC P f 0 args [] val [] 0)(ha:litT args=some us)(hv:litR val=some u)(w:World):
 Calls P f us.toArray w fun e w'=>e=.returned u∧Chg [] w w':=by
 refine (e.calls (RO:=fun _=>False) (w:=w) (fun b h=>h.elim) (litT_rel ha)).mono ?_
 rintro e w' ⟨RO',v,rfl,hc,-,-,-,hr⟩
 exact ⟨by rw [litR_ok hv hr],hc⟩
def litV : C→Option Value
 | .d (.lit v)=>some v
 | .agg az=>(litL az).map fun a=>.agg a.toArray
 | .tup az=>(litT az).map fun a=>.tuple a.toArray
 | _=>none
theorem litV_ok{ρ:Pl}{RO:Nat→Prop}{w:World}{c:C}{u:Value}(h:litV c=some u):RelC ρ RO w c u:=by
 unfold litV at h
 split at h
 · cases h;exact .d _ _ (.lit _)
 · rename_i az
   cases ha:litL az with
   | none=>rw [ha] at h;cases h
   | some a=>
     rw [ha] at h;cases h
     obtain ⟨h1,h2,h3⟩:=litL_ok (ρ:=ρ) (RO:=RO) (w:=w) ha
     exact .agg _ _ h1 h2 h3
 · rename_i az
   cases ha:litT az with
   | none=>rw [ha] at h;cases h
   | some a=>
     rw [ha] at h;cases h
     obtain ⟨h1,h3⟩:=litT_ok (ρ:=ρ) (RO:=RO) (w:=w) ha
     exact .tup _ _ h1 h3
 · cases h
theorem EC.ofVal{P:Program}{f:FuncId}{args:List C}{val:C}{u:Value}(hf:FnOk P f)(hv:litV val=some u)(h:∀(ρ:Pl) (RO:Nat→Prop) (w:World) (vs:Array Value),(∀b,RO b→b<w.heap.size)→RelT ρ RO w args vs→Calls P f vs w fun e w'=>e=.returned u∧Chg [] w w'):
 EC P f 0 args [] val [] 0:=
 ⟨hf, Nat.le_refl _,fun ρ F RO w vs hs hρ ha=>(h ρ RO w vs hs.ro ha).mono (fun e w' ⟨he,hc⟩=>⟨ρ,F,RO,u,he,
   ⟨(ChgP.of hc).mono (fun b hb=>by cases hb),fun _ _=>rfl,fun _ h=>h,fun _ h=>.inl h,
     ⟨fun l B h=>(by cases h),fun l l' B B' _ h=>(by cases h),fun l B h=>(by cases h),fun b hb=>Nat.lt_of_lt_of_le (hs.ro b hb) hc.size⟩,
     fun b ⟨l,B,h,_⟩=>(by cases h)⟩,litV_ok hv,hρ⟩)⟩
end Ow
namespace Go.Proofs.YtjakhnhnjhafgaaGreat.Wk
open Go Go.RowKit Go.Deep Ow
def entK : Nat→List (Int×Value)→List MapEntry
 | _,[]=>[]
 | i,(k,v)::r=>{ key:=.int .i64 k,val:=v,born:=i }::entK (i+1) r
def lookK(s:Int):List (Int×Value)→Option Value
 | []=>none
 | (k,v)::r=>if k=s then some v else lookK s r
theorem findNow_entK(s:Int):∀(l:List (Int×Value)) (i j:Nat),∃k,Instr.findNow (.int .i64) (.int .i64 s) (entK i l) j=some ((lookK s l).map fun v=>(k,v))
 | [],i,j=>⟨0,rfl⟩
 | (k, v)::r,i,j=>by
   obtain ⟨k2,h2⟩:=findNow_entK s r (i+1) (j+1)
   by_cases h:k=s
   · refine ⟨j,?_⟩
     subst h
     simp [entK,Instr.findNow,Instr.sameNow,lookK]
   · refine ⟨k2,?_⟩
     have hs:¬s=k:=fun e=>h e.symm
     have hb:(s==k)=false:=by simp [hs]
     simp only [entK,Instr.findNow,Instr.sameNow,lookK,h,hb,if_true,if_false]
     exact h2
theorem run_insert_newK{P:Program}(w:World)(mty kt et:TypeId)(r clock:Nat)(es:Array MapEntry)(s:Int)(val:Value)(hm:P.underlying mty=some (.map kt et))(hk:P.underlying kt=some (.int .i64))(hb:w.heap[r]? = some (.map es clock))
 (hn:Instr.findNow (.int .i64) (.int .i64 s) es.toList 0=some none) :
 (Instr.mapUpdate mty (.map (some r)) (.int .i64 s) val).run P w=.ok () { w with heap:=w.heap.setIfInBounds r (.map (es.push { key:=.int .i64 s,val:=val,born:=clock }) (clock+1)) }:=by
 have hc:(Instr.checkKey false 10000 kt (.int .i64 s)).run P w=.ok () w:=MapKept.run_checkKey (k:=.int .i64 s) hk (by simp [MapKept.IsKey]) false 9999
 simp [Instr.mapUpdate,run_underlying hm,MapKept.run_getObj_map hb,hc,MapKept.run_findKey hk hn,MapKept.run_setObj_map _ hb,Result.andThen]
structure MapAt (w W:World) (es:List (Int×Value)):Prop where
 chg:Chg [] w W
 size:w.heap.size<W.heap.size
 map:W.heap[w.heap.size]? = some (.map (entK 0 es).toArray es.length)
theorem MapAt.nil_(w:World):MapAt w (w.alloc (.map #[] 0)) []:=
 ⟨(Chg.refl [] w).alloc _,by simp,heap_alloc_new w _⟩
theorem entK_app(i:Nat)(a:List (Int×Value))(k:Int)(v:Value):entK i (a++[(k,v)])=entK i a++[{ key:=.int .i64 k,val:=v,born:=i+a.length }]:=by
 induction a generalizing i with
 | nil=>rfl
 | cons x r ih=>
   obtain ⟨k',v'⟩:=x
   simp only [List.cons_append,entK,ih,List.length_cons]
   congr 4;omega
theorem MapAt.ins{w W:World}{es:List (Int×Value)}(h:MapAt w W es)(k:Int)(v:Value)(hk:lookK k es=none):
 ∃ W',(Instr.mapUpdate 239 (.map (some w.heap.size)) (.int .i64 k) v).run Tryz.prog W=.ok () W'∧MapAt w W' (es++[(k,v)]):=by
 obtain ⟨j,hj⟩:=findNow_entK k es 0 0
 rw [hk] at hj
 refine ⟨_,run_insert_newK W 239 3 237 w.heap.size es.length _ _ v Tryz.underlying239 Tryz.underlying3 h.map (by simpa using hj),?_,?_,?_⟩
 · exact ⟨h.chg.os,h.chg.tape,h.chg.output,by simpa using h.chg.size,fun b hb hn=>by
    show (W.heap.setIfInBounds _ _)[b]? = _
    rw [Array.getElem?_setIfInBounds_ne (by omega)];exact h.chg.block b hb hn⟩
 · simpa using h.size
 · show (W.heap.setIfInBounds _ _)[_]? = _
   rw [Array.getElem?_setIfInBounds_self_of_lt h.size,entK_app]
   simp
def relE : List (Int×Value):=[(1,.iface 262 (.agg #[])),(2,.iface 263 (.agg #[])),(3,.iface 242 (.agg #[])),(4,.iface 264 (.agg #[]))]
set_option maxRecDepth 100000 in
set_option maxHeartbeats 4000000 in
theorem relations_c(w:World):Calls Tryz.prog 189 #[] w (fun e w'=>e=.returned (.map (some w.heap.size))∧MapAt w w' relE):=by
 have hmk:=fun t=>run_makeMap_plain (P:=Tryz.prog) w t
 have h0:=Lib.hid (MapAt.nil_ w)
 go_enter Tryz.func189,Tryz.ntmps189
 go_wp2
 obtain ⟨W1,r1,g1⟩:=h0.out.ins 1 (.iface 262 (.agg #[])) rfl
 have h1:=Lib.hid g1
 clear g1
 rw [r1]
 clear r1
 go_wp2
 obtain ⟨W2,r2,g2⟩:=h1.out.ins 2 (.iface 263 (.agg #[])) rfl
 have h2:=Lib.hid g2
 clear g2
 rw [r2]
 clear r2
 go_wp2
 obtain ⟨W3,r3,g3⟩:=h2.out.ins 3 (.iface 242 (.agg #[])) rfl
 have h3:=Lib.hid g3
 clear g3
 rw [r3]
 clear r3
 go_wp2
 obtain ⟨W4,r4,g4⟩:=h3.out.ins 4 (.iface 264 (.agg #[])) rfl
 have h4:=Lib.hid g4
 clear g4
 rw [r4]
 clear r4
 go_wp2
 go_ret
 exact ⟨rfl,h4.out⟩
theorem zeroRel(w:World):(zeroValue 237).run Tryz.prog w=.ok .nilIface w:=by kernel_rfl
theorem run_lookK(W:World)(n clock:Nat)(es:List (Int×Value))(s:Int)(hb:W.heap[n]? = some (.map (entK 0 es).toArray clock)):
 (Instr.lookup 239 (.map (some n)) (.int .i64 s) true).run Tryz.prog W=.ok (.tuple #[(lookK s es).getD .nilIface,.bool (lookK s es).isSome]) W:=by
 have hm:=Tryz.underlying239
 have hk:=Tryz.underlying3
 have hc:∀b,(Instr.checkKey b 10000 3 (.int .i64 s)).run Tryz.prog W=.ok () W:=fun b=>MapKept.run_checkKey (k:=.int .i64 s) hk (by simp [MapKept.IsKey]) b 9999
 obtain ⟨j,hj⟩:=findNow_entK s es 0 0
 have hf:(Instr.findKey 3 (.int .i64 s) (entK 0 es)).run Tryz.prog W=_:=MapKept.run_findKey hk hj
 rcases hl:lookK s es with _|v
 · rw [hl] at hf
   simp [Instr.lookup,run_underlying hm,MapKept.run_getObj_map hb,hc,hf,zeroRel,Result.andThen]
 · rw [hl] at hf
   simp [Instr.lookup,run_underlying hm,MapKept.run_getObj_map hb,hc,hf,Result.andThen]
end Go.Proofs.YtjakhnhnjhafgaaGreat.Wk
