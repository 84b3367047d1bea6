/- A part of the proof. -/
import Derived.Test.YtjakhnhnjhafgaaGreatK29
import Derived.Test.YtjakhnhnjhafgaaGreatK30
set_option linter.unusedVariables false
set_option linter.unusedSimpArgs false
namespace Go.Proofs.YtjakhnhnjhafgaaGreat.Wk
open Go Go.RowKit Go.Deep Ow
set_option maxRecDepth 100000
def dEdge(e:Edge):List D:=[DI e.to,.ep (stD e.V e.c)]
abbrev kEdge : Ki:=.cons (.int .i64) (.cons .any .nil)
@[go_sem] theorem map_Edge{l:List Edge}:(l.map dEdge).map kEdge.row=l.map dEdge:=by
 rw [List.map_map];exact List.map_congr_left fun e _=>rfl
theorem edgesRet_e{V:List ItvItv}{c:ItvItv}{procs:List PrcProc}{sums:List SumSum}{d a b rel lo hi to pc:Int}:EC Tryz.prog 99 0 [.d (.ep (stD V c)),.agg [.d (.sl 3 (procs.map dPrcProc))],.d (.sl 3 (sums.map dSumSum)),.agg [CI 12,CI d,CI a,CI b,CI rel,CI lo,CI hi,CI to],CI pc] [] (.d (.sl 2 (([]:List Edge).map dEdge))) [] 0:=by
 refine (seat [] [] [(151,k10.ls)] codeM).PB (mkM true []) (fn:=Tryz.f99) ⟨by kernel_rfl,by kernel_rfl,rfl⟩ (Nat.le_refl 0)
  (mkEs [eSt 10 V c,eI 31 d,eI 32 a,eI 33 b,eI 34 rel,eI 35 lo,eI 36 hi,eI 37 to,eI 38 pc,eLPrcProc 40 procs,eLSumSum 42 sums,eL 900 (([]:List Edge).map dEdge)])
  noLps [] [.ep (r10 10),.agg (ofL [xLPrcProc 40]),xLSumSum 42,.agg (ofL [.int .i64 12,.ati .i64 31 .nil,.ati .i64 32 .nil,.ati .i64 33 .nil,.ati .i64 34 .nil,.ati .i64 35 .nil,.ati .i64 36 .nil,.ati .i64 37 .nil]),.ati .i64 38 .nil] [] (by simp only [ofL,stD,DI,r10,go_sem,Nat.reduceEqDiff,Nat.reduceAdd,Nat.reduceBEq,Int.reduceToNat]) rfl
  (.atl kEdge 900 .nil) [] (by simp only [map_Edge,go_sem,Nat.reduceEqDiff,Nat.reduceAdd,Nat.reduceBEq,Int.reduceToNat]) rfl (fun _=>?_)
 conv=>arg 4;cbv
 simp only [go_sem,Nat.reduceEqDiff,Nat.reduceAdd,Nat.reduceBEq,Int.reduceToNat]
 repeat' (first|with_reducible apply And.intro|intro _)
 all_goals first
  | (refine codeOf_e ?_;simp [codeC];done)
  | exact stcopy_e
  | rfl
  | skip
theorem edgesJump_e{V:List ItvItv}{c:ItvItv}{procs:List PrcProc}{sums:List SumSum}{d a b rel lo hi to pc:Int}:EC Tryz.prog 99 0 [.d (.ep (stD V c)),.agg [.d (.sl 3 (procs.map dPrcProc))],.d (.sl 3 (sums.map dSumSum)),.agg [CI 9,CI d,CI a,CI b,CI rel,CI lo,CI hi,CI to],CI pc] [] (.d (.sl 2 ([(⟨to,V,c⟩:Edge)].map dEdge))) [] 0:=by
 refine (seat [] [] [(151,k10.ls)] codeM).PB (mkM true []) (fn:=Tryz.f99) ⟨by kernel_rfl,by kernel_rfl,rfl⟩ (Nat.le_refl 0)
  (mkEs [eSt 10 V c,eI 31 d,eI 32 a,eI 33 b,eI 34 rel,eI 35 lo,eI 36 hi,eI 37 to,eI 38 pc,eLPrcProc 40 procs,eLSumSum 42 sums,eSt 713000 V c,eL 900 ([(⟨to,V,c⟩:Edge)].map dEdge)])
  noLps [] [.ep (r10 10),.agg (ofL [xLPrcProc 40]),xLSumSum 42,.agg (ofL [.int .i64 9,.ati .i64 31 .nil,.ati .i64 32 .nil,.ati .i64 33 .nil,.ati .i64 34 .nil,.ati .i64 35 .nil,.ati .i64 36 .nil,.ati .i64 37 .nil]),.ati .i64 38 .nil] [] (by simp only [ofL,stD,DI,r10,go_sem,Nat.reduceEqDiff,Nat.reduceAdd,Nat.reduceBEq,Int.reduceToNat]) rfl
  (.atl kEdge 900 .nil) [] (by simp only [map_Edge,go_sem,Nat.reduceEqDiff,Nat.reduceAdd,Nat.reduceBEq,Int.reduceToNat]) rfl (fun _=>?_)
 conv=>arg 4;cbv
 simp only [go_sem,Nat.reduceEqDiff,Nat.reduceAdd,Nat.reduceBEq,Int.reduceToNat]
 repeat' (first|with_reducible apply And.intro|intro _)
 all_goals first
  | (refine codeOf_e ?_;simp [codeC];done)
  | exact stcopy_e
  | rfl
  | skip
theorem edgesIf_e{V:List ItvItv}{c:ItvItv}{procs:List PrcProc}{sums:List SumSum}{d a b rel lo hi to pc:Int}(hl:V.length=4)(ha:0≤a)(ha4:a<4)(hb:0≤b)(hb4:b<4):EC Tryz.prog 99 0 [.d (.ep (stD V c)),.agg [.d (.sl 3 (procs.map dPrcProc))],.d (.sl 3 (sums.map dSumSum)),.agg [CI 8,CI d,CI a,CI b,CI rel,CI lo,CI hi,CI to],CI pc] [] (.d (.sl 2 ((relG (itvRel rel (V.getD a.toNat zItvItv) (V.getD b.toNat zItvItv)) V a b c to++relG (itvNot rel (V.getD a.toNat zItvItv) (V.getD b.toNat zItvItv)) V a b c (IntKind.i64.wrap (pc+1))).map dEdge))) [] 0:=by
 refine (seat [] [] [(151,k10.ls)] codeM).PB (mkS [(16,14)] (mkI [16] (mkV [(12,fun s=>s.own0 14 kEdge)] (mkM true [])))) (fn:=Tryz.f99) ⟨by kernel_rfl,by kernel_rfl,rfl⟩ (Nat.le_refl 0)
  (mkEs [eSt 10 V c,eI 31 d,eI 32 a,eI 33 b,eI 34 rel,eI 35 lo,eI 36 hi,eI 37 to,eI 38 pc,eLPrcProc 40 procs,eLSumSum 42 sums,eSt 1111000 V c,eSt 1113000 V c,eB 1217000 (relV (itvRel rel (V.getD a.toNat zItvItv) (V.getD b.toNat zItvItv)) V a b).2,eSt 1217200 (relV (itvRel rel (V.getD a.toNat zItvItv) (V.getD b.toNat zItvItv)) V a b).1 c,eB 1417000 (relV (itvNot rel (V.getD a.toNat zItvItv) (V.getD b.toNat zItvItv)) V a b).2,eSt 1417200 (relV (itvNot rel (V.getD a.toNat zItvItv) (V.getD b.toNat zItvItv)) V a b).1 c,eL 900 ((relG (itvRel rel (V.getD a.toNat zItvItv) (V.getD b.toNat zItvItv)) V a b c to++relG (itvNot rel (V.getD a.toNat zItvItv) (V.getD b.toNat zItvItv)) V a b c (IntKind.i64.wrap (pc+1))).map dEdge)])
  noLps [] [.ep (r10 10),.agg (ofL [xLPrcProc 40]),xLSumSum 42,.agg (ofL [.int .i64 8,.ati .i64 31 .nil,.ati .i64 32 .nil,.ati .i64 33 .nil,.ati .i64 34 .nil,.ati .i64 35 .nil,.ati .i64 36 .nil,.ati .i64 37 .nil]),.ati .i64 38 .nil] [] (by simp only [ofL,stD,DI,r10,go_sem,Nat.reduceEqDiff,Nat.reduceAdd,Nat.reduceBEq,Int.reduceToNat]) rfl
  (.atl kEdge 900 .nil) [] (by simp only [map_Edge,go_sem,Nat.reduceEqDiff,Nat.reduceAdd,Nat.reduceBEq,Int.reduceToNat]) rfl (fun _=>?_)
 conv=>arg 4;cbv
 simp only [go_sem,Nat.reduceEqDiff,Nat.reduceAdd,Nat.reduceBEq,Int.reduceToNat]
 repeat' (first|with_reducible apply And.intro|intro _)
 all_goals first
  | (refine codeOf_e ?_;simp [codeC];done)
  | exact stcopy_e
  | rfl
  | skip
 all_goals first
  | exact relate_e hl ha ha4 hb hb4
  | exact relateN_e hl ha ha4 hb hb4
  | (cases h1:(relV (itvRel rel (V.getD a.toNat zItvItv) (V.getD b.toNat zItvItv)) V a b).2<;>cases h2:(relV (itvNot rel (V.getD a.toNat zItvItv) (V.getD b.toNat zItvItv)) V a b).2<;>simp only [relG,h1,h2,if_true,Bool.false_eq_true,if_false]<;>rfl)
  | (simp;done)
  | (split<;>simp;done)
  | skip
theorem edgesAct1_e{V:List ItvItv}{c:ItvItv}{procs:List PrcProc}{sums:List SumSum}{d a b rel lo hi to pc:Int}{R:Bool}{V2:List ItvItv}{c2:ItvItv}(hA:EC Tryz.prog 154 1 [.ptr 0 10 0 0,.agg [.d (.sl 3 (procs.map dPrcProc))],.d (.sl 3 (sums.map dSumSum)),.agg [CI 1,CI d,CI a,CI b,CI rel,CI lo,CI hi,CI to]] [(0,.c 10 [stC V c])] (CB R) [(0,.c 10 [stC V2 c2])] 1):EC Tryz.prog 99 0 [.d (.ep (stD V c)),.agg [.d (.sl 3 (procs.map dPrcProc))],.d (.sl 3 (sums.map dSumSum)),.agg [CI 1,CI d,CI a,CI b,CI rel,CI lo,CI hi,CI to],CI pc] [] (.d (.sl 2 ((if R=true then [(⟨IntKind.i64.wrap (pc+1),V2,c2⟩:Edge)] else []).map dEdge))) [] 0:=by
 refine (seat [] [] [(151,k10.ls)] codeM).PB (mkM true []) (fn:=Tryz.f99) ⟨by kernel_rfl,by kernel_rfl,rfl⟩ (Nat.le_refl 0)
  (mkEs [eSt 10 V c,eI 31 d,eI 32 a,eI 33 b,eI 34 rel,eI 35 lo,eI 36 hi,eI 37 to,eI 38 pc,eLPrcProc 40 procs,eLSumSum 42 sums,eSt 1711000 V c,eB 1814000 R,eSt 1814200 V2 c2,eL 900 ((if R=true then [(⟨IntKind.i64.wrap (pc+1),V2,c2⟩:Edge)] else []).map dEdge)])
  noLps [] [.ep (r10 10),.agg (ofL [xLPrcProc 40]),xLSumSum 42,.agg (ofL [.int .i64 1,.ati .i64 31 .nil,.ati .i64 32 .nil,.ati .i64 33 .nil,.ati .i64 34 .nil,.ati .i64 35 .nil,.ati .i64 36 .nil,.ati .i64 37 .nil]),.ati .i64 38 .nil] [] (by simp only [ofL,stD,DI,r10,go_sem,Nat.reduceEqDiff,Nat.reduceAdd,Nat.reduceBEq,Int.reduceToNat]) rfl
  (.atl kEdge 900 .nil) [] (by simp only [map_Edge,go_sem,Nat.reduceEqDiff,Nat.reduceAdd,Nat.reduceBEq,Int.reduceToNat]) rfl (fun _=>?_)
 conv=>arg 4;cbv
 simp only [go_sem,Nat.reduceEqDiff,Nat.reduceAdd,Nat.reduceBEq,Int.reduceToNat]
 repeat' (first|with_reducible apply And.intro|intro _)
 all_goals first
  | (refine codeOf_e ?_;simp [codeC];done)
  | exact stcopy_e
  | rfl
  | skip
 all_goals first
  | exact hA
  | (simp_all;done)
  | (simp_all;rfl)
  | skip
theorem edgesAct2_e{V:List ItvItv}{c:ItvItv}{procs:List PrcProc}{sums:List SumSum}{d a b rel lo hi to pc:Int}{R:Bool}{V2:List ItvItv}{c2:ItvItv}(hA:EC Tryz.prog 154 1 [.ptr 0 10 0 0,.agg [.d (.sl 3 (procs.map dPrcProc))],.d (.sl 3 (sums.map dSumSum)),.agg [CI 2,CI d,CI a,CI b,CI rel,CI lo,CI hi,CI to]] [(0,.c 10 [stC V c])] (CB R) [(0,.c 10 [stC V2 c2])] 1):EC Tryz.prog 99 0 [.d (.ep (stD V c)),.agg [.d (.sl 3 (procs.map dPrcProc))],.d (.sl 3 (sums.map dSumSum)),.agg [CI 2,CI d,CI a,CI b,CI rel,CI lo,CI hi,CI to],CI pc] [] (.d (.sl 2 ((if R=true then [(⟨IntKind.i64.wrap (pc+1),V2,c2⟩:Edge)] else []).map dEdge))) [] 0:=by
 refine (seat [] [] [(151,k10.ls)] codeM).PB (mkM true []) (fn:=Tryz.f99) ⟨by kernel_rfl,by kernel_rfl,rfl⟩ (Nat.le_refl 0)
  (mkEs [eSt 10 V c,eI 31 d,eI 32 a,eI 33 b,eI 34 rel,eI 35 lo,eI 36 hi,eI 37 to,eI 38 pc,eLPrcProc 40 procs,eLSumSum 42 sums,eSt 1711000 V c,eB 1814000 R,eSt 1814200 V2 c2,eL 900 ((if R=true then [(⟨IntKind.i64.wrap (pc+1),V2,c2⟩:Edge)] else []).map dEdge)])
  noLps [] [.ep (r10 10),.agg (ofL [xLPrcProc 40]),xLSumSum 42,.agg (ofL [.int .i64 2,.ati .i64 31 .nil,.ati .i64 32 .nil,.ati .i64 33 .nil,.ati .i64 34 .nil,.ati .i64 35 .nil,.ati .i64 36 .nil,.ati .i64 37 .nil]),.ati .i64 38 .nil] [] (by simp only [ofL,stD,DI,r10,go_sem,Nat.reduceEqDiff,Nat.reduceAdd,Nat.reduceBEq,Int.reduceToNat]) rfl
  (.atl kEdge 900 .nil) [] (by simp only [map_Edge,go_sem,Nat.reduceEqDiff,Nat.reduceAdd,Nat.reduceBEq,Int.reduceToNat]) rfl (fun _=>?_)
 conv=>arg 4;cbv
 simp only [go_sem,Nat.reduceEqDiff,Nat.reduceAdd,Nat.reduceBEq,Int.reduceToNat]
 repeat' (first|with_reducible apply And.intro|intro _)
 all_goals first
  | (refine codeOf_e ?_;simp [codeC];done)
  | exact stcopy_e
  | rfl
  | skip
 all_goals first
  | exact hA
  | (simp_all;done)
  | (simp_all;rfl)
  | skip
theorem edgesAct3_e{V:List ItvItv}{c:ItvItv}{procs:List PrcProc}{sums:List SumSum}{d a b rel lo hi to pc:Int}{R:Bool}{V2:List ItvItv}{c2:ItvItv}(hA:EC Tryz.prog 154 1 [.ptr 0 10 0 0,.agg [.d (.sl 3 (procs.map dPrcProc))],.d (.sl 3 (sums.map dSumSum)),.agg [CI 3,CI d,CI a,CI b,CI rel,CI lo,CI hi,CI to]] [(0,.c 10 [stC V c])] (CB R) [(0,.c 10 [stC V2 c2])] 1):EC Tryz.prog 99 0 [.d (.ep (stD V c)),.agg [.d (.sl 3 (procs.map dPrcProc))],.d (.sl 3 (sums.map dSumSum)),.agg [CI 3,CI d,CI a,CI b,CI rel,CI lo,CI hi,CI to],CI pc] [] (.d (.sl 2 ((if R=true then [(⟨IntKind.i64.wrap (pc+1),V2,c2⟩:Edge)] else []).map dEdge))) [] 0:=by
 refine (seat [] [] [(151,k10.ls)] codeM).PB (mkM true []) (fn:=Tryz.f99) ⟨by kernel_rfl,by kernel_rfl,rfl⟩ (Nat.le_refl 0)
  (mkEs [eSt 10 V c,eI 31 d,eI 32 a,eI 33 b,eI 34 rel,eI 35 lo,eI 36 hi,eI 37 to,eI 38 pc,eLPrcProc 40 procs,eLSumSum 42 sums,eSt 1711000 V c,eB 1814000 R,eSt 1814200 V2 c2,eL 900 ((if R=true then [(⟨IntKind.i64.wrap (pc+1),V2,c2⟩:Edge)] else []).map dEdge)])
  noLps [] [.ep (r10 10),.agg (ofL [xLPrcProc 40]),xLSumSum 42,.agg (ofL [.int .i64 3,.ati .i64 31 .nil,.ati .i64 32 .nil,.ati .i64 33 .nil,.ati .i64 34 .nil,.ati .i64 35 .nil,.ati .i64 36 .nil,.ati .i64 37 .nil]),.ati .i64 38 .nil] [] (by simp only [ofL,stD,DI,r10,go_sem,Nat.reduceEqDiff,Nat.reduceAdd,Nat.reduceBEq,Int.reduceToNat]) rfl
  (.atl kEdge 900 .nil) [] (by simp only [map_Edge,go_sem,Nat.reduceEqDiff,Nat.reduceAdd,Nat.reduceBEq,Int.reduceToNat]) rfl (fun _=>?_)
 conv=>arg 4;cbv
 simp only [go_sem,Nat.reduceEqDiff,Nat.reduceAdd,Nat.reduceBEq,Int.reduceToNat]
 repeat' (first|with_reducible apply And.intro|intro _)
 all_goals first
  | (refine codeOf_e ?_;simp [codeC];done)
  | exact stcopy_e
  | rfl
  | skip
 all_goals first
  | exact hA
  | (simp_all;done)
  | (simp_all;rfl)
  | skip
theorem edgesAct4_e{V:List ItvItv}{c:ItvItv}{procs:List PrcProc}{sums:List SumSum}{d a b rel lo hi to pc:Int}{R:Bool}{V2:List ItvItv}{c2:ItvItv}(hA:EC Tryz.prog 154 1 [.ptr 0 10 0 0,.agg [.d (.sl 3 (procs.map dPrcProc))],.d (.sl 3 (sums.map dSumSum)),.agg [CI 4,CI d,CI a,CI b,CI rel,CI lo,CI hi,CI to]] [(0,.c 10 [stC V c])] (CB R) [(0,.c 10 [stC V2 c2])] 1):EC Tryz.prog 99 0 [.d (.ep (stD V c)),.agg [.d (.sl 3 (procs.map dPrcProc))],.d (.sl 3 (sums.map dSumSum)),.agg [CI 4,CI d,CI a,CI b,CI rel,CI lo,CI hi,CI to],CI pc] [] (.d (.sl 2 ((if R=true then [(⟨IntKind.i64.wrap (pc+1),V2,c2⟩:Edge)] else []).map dEdge))) [] 0:=by
 refine (seat [] [] [(151,k10.ls)] codeM).PB (mkM true []) (fn:=Tryz.f99) ⟨by kernel_rfl,by kernel_rfl,rfl⟩ (Nat.le_refl 0)
  (mkEs [eSt 10 V c,eI 31 d,eI 32 a,eI 33 b,eI 34 rel,eI 35 lo,eI 36 hi,eI 37 to,eI 38 pc,eLPrcProc 40 procs,eLSumSum 42 sums,eSt 1711000 V c,eB 1814000 R,eSt 1814200 V2 c2,eL 900 ((if R=true then [(⟨IntKind.i64.wrap (pc+1),V2,c2⟩:Edge)] else []).map dEdge)])
  noLps [] [.ep (r10 10),.agg (ofL [xLPrcProc 40]),xLSumSum 42,.agg (ofL [.int .i64 4,.ati .i64 31 .nil,.ati .i64 32 .nil,.ati .i64 33 .nil,.ati .i64 34 .nil,.ati .i64 35 .nil,.ati .i64 36 .nil,.ati .i64 37 .nil]),.ati .i64 38 .nil] [] (by simp only [ofL,stD,DI,r10,go_sem,Nat.reduceEqDiff,Nat.reduceAdd,Nat.reduceBEq,Int.reduceToNat]) rfl
  (.atl kEdge 900 .nil) [] (by simp only [map_Edge,go_sem,Nat.reduceEqDiff,Nat.reduceAdd,Nat.reduceBEq,Int.reduceToNat]) rfl (fun _=>?_)
 conv=>arg 4;cbv
 simp only [go_sem,Nat.reduceEqDiff,Nat.reduceAdd,Nat.reduceBEq,Int.reduceToNat]
 repeat' (first|with_reducible apply And.intro|intro _)
 all_goals first
  | (refine codeOf_e ?_;simp [codeC];done)
  | exact stcopy_e
  | rfl
  | skip
 all_goals first
  | exact hA
  | (simp_all;done)
  | (simp_all;rfl)
  | skip
theorem edgesAct5_e{V:List ItvItv}{c:ItvItv}{procs:List PrcProc}{sums:List SumSum}{d a b rel lo hi to pc:Int}{R:Bool}{V2:List ItvItv}{c2:ItvItv}(hA:EC Tryz.prog 154 1 [.ptr 0 10 0 0,.agg [.d (.sl 3 (procs.map dPrcProc))],.d (.sl 3 (sums.map dSumSum)),.agg [CI 5,CI d,CI a,CI b,CI rel,CI lo,CI hi,CI to]] [(0,.c 10 [stC V c])] (CB R) [(0,.c 10 [stC V2 c2])] 1):EC Tryz.prog 99 0 [.d (.ep (stD V c)),.agg [.d (.sl 3 (procs.map dPrcProc))],.d (.sl 3 (sums.map dSumSum)),.agg [CI 5,CI d,CI a,CI b,CI rel,CI lo,CI hi,CI to],CI pc] [] (.d (.sl 2 ((if R=true then [(⟨IntKind.i64.wrap (pc+1),V2,c2⟩:Edge)] else []).map dEdge))) [] 0:=by
 refine (seat [] [] [(151,k10.ls)] codeM).PB (mkM true []) (fn:=Tryz.f99) ⟨by kernel_rfl,by kernel_rfl,rfl⟩ (Nat.le_refl 0)
  (mkEs [eSt 10 V c,eI 31 d,eI 32 a,eI 33 b,eI 34 rel,eI 35 lo,eI 36 hi,eI 37 to,eI 38 pc,eLPrcProc 40 procs,eLSumSum 42 sums,eSt 1711000 V c,eB 1814000 R,eSt 1814200 V2 c2,eL 900 ((if R=true then [(⟨IntKind.i64.wrap (pc+1),V2,c2⟩:Edge)] else []).map dEdge)])
  noLps [] [.ep (r10 10),.agg (ofL [xLPrcProc 40]),xLSumSum 42,.agg (ofL [.int .i64 5,.ati .i64 31 .nil,.ati .i64 32 .nil,.ati .i64 33 .nil,.ati .i64 34 .nil,.ati .i64 35 .nil,.ati .i64 36 .nil,.ati .i64 37 .nil]),.ati .i64 38 .nil] [] (by simp only [ofL,stD,DI,r10,go_sem,Nat.reduceEqDiff,Nat.reduceAdd,Nat.reduceBEq,Int.reduceToNat]) rfl
  (.atl kEdge 900 .nil) [] (by simp only [map_Edge,go_sem,Nat.reduceEqDiff,Nat.reduceAdd,Nat.reduceBEq,Int.reduceToNat]) rfl (fun _=>?_)
 conv=>arg 4;cbv
 simp only [go_sem,Nat.reduceEqDiff,Nat.reduceAdd,Nat.reduceBEq,Int.reduceToNat]
 repeat' (first|with_reducible apply And.intro|intro _)
 all_goals first
  | (refine codeOf_e ?_;simp [codeC];done)
  | exact stcopy_e
  | rfl
  | skip
 all_goals first
  | exact hA
  | (simp_all;done)
  | (simp_all;rfl)
  | skip
theorem edgesAct6_e{V:List ItvItv}{c:ItvItv}{procs:List PrcProc}{sums:List SumSum}{d a b rel lo hi to pc:Int}{R:Bool}{V2:List ItvItv}{c2:ItvItv}(hA:EC Tryz.prog 154 1 [.ptr 0 10 0 0,.agg [.d (.sl 3 (procs.map dPrcProc))],.d (.sl 3 (sums.map dSumSum)),.agg [CI 6,CI d,CI a,CI b,CI rel,CI lo,CI hi,CI to]] [(0,.c 10 [stC V c])] (CB R) [(0,.c 10 [stC V2 c2])] 1):EC Tryz.prog 99 0 [.d (.ep (stD V c)),.agg [.d (.sl 3 (procs.map dPrcProc))],.d (.sl 3 (sums.map dSumSum)),.agg [CI 6,CI d,CI a,CI b,CI rel,CI lo,CI hi,CI to],CI pc] [] (.d (.sl 2 ((if R=true then [(⟨IntKind.i64.wrap (pc+1),V2,c2⟩:Edge)] else []).map dEdge))) [] 0:=by
 refine (seat [] [] [(151,k10.ls)] codeM).PB (mkM true []) (fn:=Tryz.f99) ⟨by kernel_rfl,by kernel_rfl,rfl⟩ (Nat.le_refl 0)
  (mkEs [eSt 10 V c,eI 31 d,eI 32 a,eI 33 b,eI 34 rel,eI 35 lo,eI 36 hi,eI 37 to,eI 38 pc,eLPrcProc 40 procs,eLSumSum 42 sums,eSt 1711000 V c,eB 1814000 R,eSt 1814200 V2 c2,eL 900 ((if R=true then [(⟨IntKind.i64.wrap (pc+1),V2,c2⟩:Edge)] else []).map dEdge)])
  noLps [] [.ep (r10 10),.agg (ofL [xLPrcProc 40]),xLSumSum 42,.agg (ofL [.int .i64 6,.ati .i64 31 .nil,.ati .i64 32 .nil,.ati .i64 33 .nil,.ati .i64 34 .nil,.ati .i64 35 .nil,.ati .i64 36 .nil,.ati .i64 37 .nil]),.ati .i64 38 .nil] [] (by simp only [ofL,stD,DI,r10,go_sem,Nat.reduceEqDiff,Nat.reduceAdd,Nat.reduceBEq,Int.reduceToNat]) rfl
  (.atl kEdge 900 .nil) [] (by simp only [map_Edge,go_sem,Nat.reduceEqDiff,Nat.reduceAdd,Nat.reduceBEq,Int.reduceToNat]) rfl (fun _=>?_)
 conv=>arg 4;cbv
 simp only [go_sem,Nat.reduceEqDiff,Nat.reduceAdd,Nat.reduceBEq,Int.reduceToNat]
 repeat' (first|with_reducible apply And.intro|intro _)
 all_goals first
  | (refine codeOf_e ?_;simp [codeC];done)
  | exact stcopy_e
  | rfl
  | skip
 all_goals first
  | exact hA
  | (simp_all;done)
  | (simp_all;rfl)
  | skip
theorem edgesAct7_e{V:List ItvItv}{c:ItvItv}{procs:List PrcProc}{sums:List SumSum}{d a b rel lo hi to pc:Int}{R:Bool}{V2:List ItvItv}{c2:ItvItv}(hA:EC Tryz.prog 154 1 [.ptr 0 10 0 0,.agg [.d (.sl 3 (procs.map dPrcProc))],.d (.sl 3 (sums.map dSumSum)),.agg [CI 7,CI d,CI a,CI b,CI rel,CI lo,CI hi,CI to]] [(0,.c 10 [stC V c])] (CB R) [(0,.c 10 [stC V2 c2])] 1):EC Tryz.prog 99 0 [.d (.ep (stD V c)),.agg [.d (.sl 3 (procs.map dPrcProc))],.d (.sl 3 (sums.map dSumSum)),.agg [CI 7,CI d,CI a,CI b,CI rel,CI lo,CI hi,CI to],CI pc] [] (.d (.sl 2 ((if R=true then [(⟨IntKind.i64.wrap (pc+1),V2,c2⟩:Edge)] else []).map dEdge))) [] 0:=by
 refine (seat [] [] [(151,k10.ls)] codeM).PB (mkM true []) (fn:=Tryz.f99) ⟨by kernel_rfl,by kernel_rfl,rfl⟩ (Nat.le_refl 0)
  (mkEs [eSt 10 V c,eI 31 d,eI 32 a,eI 33 b,eI 34 rel,eI 35 lo,eI 36 hi,eI 37 to,eI 38 pc,eLPrcProc 40 procs,eLSumSum 42 sums,eSt 1711000 V c,eB 1814000 R,eSt 1814200 V2 c2,eL 900 ((if R=true then [(⟨IntKind.i64.wrap (pc+1),V2,c2⟩:Edge)] else []).map dEdge)])
  noLps [] [.ep (r10 10),.agg (ofL [xLPrcProc 40]),xLSumSum 42,.agg (ofL [.int .i64 7,.ati .i64 31 .nil,.ati .i64 32 .nil,.ati .i64 33 .nil,.ati .i64 34 .nil,.ati .i64 35 .nil,.ati .i64 36 .nil,.ati .i64 37 .nil]),.ati .i64 38 .nil] [] (by simp only [ofL,stD,DI,r10,go_sem,Nat.reduceEqDiff,Nat.reduceAdd,Nat.reduceBEq,Int.reduceToNat]) rfl
  (.atl kEdge 900 .nil) [] (by simp only [map_Edge,go_sem,Nat.reduceEqDiff,Nat.reduceAdd,Nat.reduceBEq,Int.reduceToNat]) rfl (fun _=>?_)
 conv=>arg 4;cbv
 simp only [go_sem,Nat.reduceEqDiff,Nat.reduceAdd,Nat.reduceBEq,Int.reduceToNat]
 repeat' (first|with_reducible apply And.intro|intro _)
 all_goals first
  | (refine codeOf_e ?_;simp [codeC];done)
  | exact stcopy_e
  | rfl
  | skip
 all_goals first
  | exact hA
  | (simp_all;done)
  | (simp_all;rfl)
  | skip
theorem edgesAct10_e{V:List ItvItv}{c:ItvItv}{procs:List PrcProc}{sums:List SumSum}{d a b rel lo hi to pc:Int}{R:Bool}{V2:List ItvItv}{c2:ItvItv}(hA:EC Tryz.prog 154 1 [.ptr 0 10 0 0,.agg [.d (.sl 3 (procs.map dPrcProc))],.d (.sl 3 (sums.map dSumSum)),.agg [CI 10,CI d,CI a,CI b,CI rel,CI lo,CI hi,CI to]] [(0,.c 10 [stC V c])] (CB R) [(0,.c 10 [stC V2 c2])] 1):EC Tryz.prog 99 0 [.d (.ep (stD V c)),.agg [.d (.sl 3 (procs.map dPrcProc))],.d (.sl 3 (sums.map dSumSum)),.agg [CI 10,CI d,CI a,CI b,CI rel,CI lo,CI hi,CI to],CI pc] [] (.d (.sl 2 ((if R=true then [(⟨IntKind.i64.wrap (pc+1),V2,c2⟩:Edge)] else []).map dEdge))) [] 0:=by
 refine (seat [] [] [(151,k10.ls)] codeM).PB (mkM true []) (fn:=Tryz.f99) ⟨by kernel_rfl,by kernel_rfl,rfl⟩ (Nat.le_refl 0)
  (mkEs [eSt 10 V c,eI 31 d,eI 32 a,eI 33 b,eI 34 rel,eI 35 lo,eI 36 hi,eI 37 to,eI 38 pc,eLPrcProc 40 procs,eLSumSum 42 sums,eSt 1711000 V c,eB 1814000 R,eSt 1814200 V2 c2,eL 900 ((if R=true then [(⟨IntKind.i64.wrap (pc+1),V2,c2⟩:Edge)] else []).map dEdge)])
  noLps [] [.ep (r10 10),.agg (ofL [xLPrcProc 40]),xLSumSum 42,.agg (ofL [.int .i64 10,.ati .i64 31 .nil,.ati .i64 32 .nil,.ati .i64 33 .nil,.ati .i64 34 .nil,.ati .i64 35 .nil,.ati .i64 36 .nil,.ati .i64 37 .nil]),.ati .i64 38 .nil] [] (by simp only [ofL,stD,DI,r10,go_sem,Nat.reduceEqDiff,Nat.reduceAdd,Nat.reduceBEq,Int.reduceToNat]) rfl
  (.atl kEdge 900 .nil) [] (by simp only [map_Edge,go_sem,Nat.reduceEqDiff,Nat.reduceAdd,Nat.reduceBEq,Int.reduceToNat]) rfl (fun _=>?_)
 conv=>arg 4;cbv
 simp only [go_sem,Nat.reduceEqDiff,Nat.reduceAdd,Nat.reduceBEq,Int.reduceToNat]
 repeat' (first|with_reducible apply And.intro|intro _)
 all_goals first
  | (refine codeOf_e ?_;simp [codeC];done)
  | exact stcopy_e
  | rfl
  | skip
 all_goals first
  | exact hA
  | (simp_all;done)
  | (simp_all;rfl)
  | skip
theorem edgesAct11_e{V:List ItvItv}{c:ItvItv}{procs:List PrcProc}{sums:List SumSum}{d a b rel lo hi to pc:Int}{R:Bool}{V2:List ItvItv}{c2:ItvItv}(hA:EC Tryz.prog 154 1 [.ptr 0 10 0 0,.agg [.d (.sl 3 (procs.map dPrcProc))],.d (.sl 3 (sums.map dSumSum)),.agg [CI 11,CI d,CI a,CI b,CI rel,CI lo,CI hi,CI to]] [(0,.c 10 [stC V c])] (CB R) [(0,.c 10 [stC V2 c2])] 1):EC Tryz.prog 99 0 [.d (.ep (stD V c)),.agg [.d (.sl 3 (procs.map dPrcProc))],.d (.sl 3 (sums.map dSumSum)),.agg [CI 11,CI d,CI a,CI b,CI rel,CI lo,CI hi,CI to],CI pc] [] (.d (.sl 2 ((if R=true then [(⟨IntKind.i64.wrap (pc+1),V2,c2⟩:Edge)] else []).map dEdge))) [] 0:=by
 refine (seat [] [] [(151,k10.ls)] codeM).PB (mkM true []) (fn:=Tryz.f99) ⟨by kernel_rfl,by kernel_rfl,rfl⟩ (Nat.le_refl 0)
  (mkEs [eSt 10 V c,eI 31 d,eI 32 a,eI 33 b,eI 34 rel,eI 35 lo,eI 36 hi,eI 37 to,eI 38 pc,eLPrcProc 40 procs,eLSumSum 42 sums,eSt 1711000 V c,eB 1814000 R,eSt 1814200 V2 c2,eL 900 ((if R=true then [(⟨IntKind.i64.wrap (pc+1),V2,c2⟩:Edge)] else []).map dEdge)])
  noLps [] [.ep (r10 10),.agg (ofL [xLPrcProc 40]),xLSumSum 42,.agg (ofL [.int .i64 11,.ati .i64 31 .nil,.ati .i64 32 .nil,.ati .i64 33 .nil,.ati .i64 34 .nil,.ati .i64 35 .nil,.ati .i64 36 .nil,.ati .i64 37 .nil]),.ati .i64 38 .nil] [] (by simp only [ofL,stD,DI,r10,go_sem,Nat.reduceEqDiff,Nat.reduceAdd,Nat.reduceBEq,Int.reduceToNat]) rfl
  (.atl kEdge 900 .nil) [] (by simp only [map_Edge,go_sem,Nat.reduceEqDiff,Nat.reduceAdd,Nat.reduceBEq,Int.reduceToNat]) rfl (fun _=>?_)
 conv=>arg 4;cbv
 simp only [go_sem,Nat.reduceEqDiff,Nat.reduceAdd,Nat.reduceBEq,Int.reduceToNat]
 repeat' (first|with_reducible apply And.intro|intro _)
 all_goals first
  | (refine codeOf_e ?_;simp [codeC];done)
  | exact stcopy_e
  | rfl
  | skip
 all_goals first
  | exact hA
  | (simp_all;done)
  | (simp_all;rfl)
  | skip
end Go.Proofs.YtjakhnhnjhafgaaGreat.Wk
