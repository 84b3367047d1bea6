/- A part of the proof. -/
import Derived.Test.YtjakhnhnjhafgaaGreatK25
set_option linter.unusedVariables false
set_option linter.unusedSimpArgs false
namespace Go.Proofs.YtjakhnhnjhafgaaGreat.Wk
open Go Go.RowKit Go.Deep Ow
set_option maxRecDepth 100000
def divV(V:List ItvItv)(b:Int):List ItvItv:=V.set b.toNat (without (V.getD b.toNat zItvItv) ⟨0,0⟩)
theorem actArith1_e{V:List ItvItv}{c:ItvItv}{procs:List PrcProc}{sums:List SumSum}{d a b rel lo hi to:Int}(hl:V.length=4){R:ItvItv→ItvItv→ItvItv×Bool}(hd:0≤d)(hd4:d<4)(ha:0≤a)(ha4:a<4)(hb:0≤b)(hb4:b<4)(hD:∀x y:ItvItv,EC Tryz.prog 191 0 [CI 1,.agg [CI x.Lo,CI x.Hi],.agg [CI y.Lo,CI y.Hi]] [] (.tup [.agg [CI (R x y).1.Lo,CI (R x y).1.Hi],CB (R x y).2]) [] 0):
 EC Tryz.prog 154 1 [.ptr 0 10 0 0,.agg [.d (.sl 3 (procs.map dPrcProc))],.d (.sl 3 (sums.map dSumSum)),.agg [CI 1,CI d,CI a,CI b,CI rel,CI lo,CI hi,CI to]] [(0,.c 10 [stC V c])] (CB (R (V.getD a.toNat zItvItv) (V.getD b.toNat zItvItv)).2) [(0,.c 10 [stC (if (R (V.getD a.toNat zItvItv) (V.getD b.toNat zItvItv)).2=true then V.set d.toNat (R (V.getD a.toNat zItvItv) (V.getD b.toNat zItvItv)).1 else V) c])] 1:=by
 obtain ⟨w0,w1,w2,w3,rfl⟩:=four hl
 refine (seat [] [] [] codeM).PB (mkM true []) (fn:=Tryz.f154) ⟨by kernel_rfl,by kernel_rfl,rfl⟩ (Nat.le_refl 1)
  (mkEs [eSt 10 ([w0,w1,w2,w3]:List ItvItv) c,eI 31 d,eI 32 a,eI 33 b,eI 34 rel,eI 35 lo,eI 36 hi,eI 37 to,eLPrcProc 40 procs,eLSumSum 42 sums,eItvItv 726000 (R (([w0,w1,w2,w3]:List ItvItv).getD a.toNat zItvItv) (([w0,w1,w2,w3]:List ItvItv).getD b.toNat zItvItv)).1,eB 726030 (R (([w0,w1,w2,w3]:List ItvItv).getD a.toNat zItvItv) (([w0,w1,w2,w3]:List ItvItv).getD b.toNat zItvItv)).2,eB 900 (R (([w0,w1,w2,w3]:List ItvItv).getD a.toNat zItvItv) (([w0,w1,w2,w3]:List ItvItv).getD b.toNat zItvItv)).2,eSt 910 (if (R (([w0,w1,w2,w3]:List ItvItv).getD a.toNat zItvItv) (([w0,w1,w2,w3]:List ItvItv).getD b.toNat zItvItv)).2=true then ([w0,w1,w2,w3]:List ItvItv).set d.toNat (R (([w0,w1,w2,w3]:List ItvItv).getD a.toNat zItvItv) (([w0,w1,w2,w3]:List ItvItv).getD b.toNat zItvItv)).1 else ([w0,w1,w2,w3]:List ItvItv)) c])
  noLps [] [.ptr 0 10 (.int .i64 0) 0,.agg (ofL [xLPrcProc 40]),xLSumSum 42,.agg (ofL [.int .i64 1,.ati .i64 31 .nil,.ati .i64 32 .nil,.ati .i64 33 .nil,.ati .i64 34 .nil,.ati .i64 35 .nil,.ati .i64 36 .nil,.ati .i64 37 .nil])] [b10 0 10] (by simp only [ofL,go_sem,Nat.reduceEqDiff,Nat.reduceAdd,Nat.reduceBEq,Int.reduceToNat]) rfl
  (.atb 900 .nil) [b10 0 910] rfl rfl (fun _=>?_)
 conv=>arg 4;cbv
 simp only [go_sem,Nat.reduceEqDiff,Nat.reduceAdd,Nat.reduceBEq,Int.reduceToNat]
 repeat' (first|with_reducible apply And.intro|intro _)
 all_goals first
  | omega
  | (simp;done)
  | (refine codeOf_e ?_;simp [codeC];done)
  | (simp (disch:=omega) only [sel4Lo,sel4Hi];exact hD _ _)
  | exact iSingle_e (r:=⟨0,0⟩) rfl
  | (simp (disch:=omega) only [sel4Lo,sel4Hi];exact without_e rfl)
  | (symm;assumption)
  | (rename_i hk;simp only [hk,if_true,Bool.false_eq_true,if_false];done)
  | (rename_i hk;simp only [hk,if_true,Bool.false_eq_true,if_false];simp (disch:=first|omega|simp) only [set4Lo,set4Hi]<;>(repeat' split)<;>first|rfl|(simp_all;done)|(exfalso;simp_all;omega))
  | (simp_all;done)
theorem actArith2_e{V:List ItvItv}{c:ItvItv}{procs:List PrcProc}{sums:List SumSum}{d a b rel lo hi to:Int}(hl:V.length=4){R:ItvItv→ItvItv→ItvItv×Bool}(hd:0≤d)(hd4:d<4)(ha:0≤a)(ha4:a<4)(hb:0≤b)(hb4:b<4)(hD:∀x y:ItvItv,EC Tryz.prog 191 0 [CI 2,.agg [CI x.Lo,CI x.Hi],.agg [CI y.Lo,CI y.Hi]] [] (.tup [.agg [CI (R x y).1.Lo,CI (R x y).1.Hi],CB (R x y).2]) [] 0):
 EC Tryz.prog 154 1 [.ptr 0 10 0 0,.agg [.d (.sl 3 (procs.map dPrcProc))],.d (.sl 3 (sums.map dSumSum)),.agg [CI 2,CI d,CI a,CI b,CI rel,CI lo,CI hi,CI to]] [(0,.c 10 [stC V c])] (CB (R (V.getD a.toNat zItvItv) (V.getD b.toNat zItvItv)).2) [(0,.c 10 [stC (if (R (V.getD a.toNat zItvItv) (V.getD b.toNat zItvItv)).2=true then V.set d.toNat (R (V.getD a.toNat zItvItv) (V.getD b.toNat zItvItv)).1 else V) c])] 1:=by
 obtain ⟨w0,w1,w2,w3,rfl⟩:=four hl
 refine (seat [] [] [] codeM).PB (mkM true []) (fn:=Tryz.f154) ⟨by kernel_rfl,by kernel_rfl,rfl⟩ (Nat.le_refl 1)
  (mkEs [eSt 10 ([w0,w1,w2,w3]:List ItvItv) c,eI 31 d,eI 32 a,eI 33 b,eI 34 rel,eI 35 lo,eI 36 hi,eI 37 to,eLPrcProc 40 procs,eLSumSum 42 sums,eItvItv 726000 (R (([w0,w1,w2,w3]:List ItvItv).getD a.toNat zItvItv) (([w0,w1,w2,w3]:List ItvItv).getD b.toNat zItvItv)).1,eB 726030 (R (([w0,w1,w2,w3]:List ItvItv).getD a.toNat zItvItv) (([w0,w1,w2,w3]:List ItvItv).getD b.toNat zItvItv)).2,eB 900 (R (([w0,w1,w2,w3]:List ItvItv).getD a.toNat zItvItv) (([w0,w1,w2,w3]:List ItvItv).getD b.toNat zItvItv)).2,eSt 910 (if (R (([w0,w1,w2,w3]:List ItvItv).getD a.toNat zItvItv) (([w0,w1,w2,w3]:List ItvItv).getD b.toNat zItvItv)).2=true then ([w0,w1,w2,w3]:List ItvItv).set d.toNat (R (([w0,w1,w2,w3]:List ItvItv).getD a.toNat zItvItv) (([w0,w1,w2,w3]:List ItvItv).getD b.toNat zItvItv)).1 else ([w0,w1,w2,w3]:List ItvItv)) c])
  noLps [] [.ptr 0 10 (.int .i64 0) 0,.agg (ofL [xLPrcProc 40]),xLSumSum 42,.agg (ofL [.int .i64 2,.ati .i64 31 .nil,.ati .i64 32 .nil,.ati .i64 33 .nil,.ati .i64 34 .nil,.ati .i64 35 .nil,.ati .i64 36 .nil,.ati .i64 37 .nil])] [b10 0 10] (by simp only [ofL,go_sem,Nat.reduceEqDiff,Nat.reduceAdd,Nat.reduceBEq,Int.reduceToNat]) rfl
  (.atb 900 .nil) [b10 0 910] rfl rfl (fun _=>?_)
 conv=>arg 4;cbv
 simp only [go_sem,Nat.reduceEqDiff,Nat.reduceAdd,Nat.reduceBEq,Int.reduceToNat]
 repeat' (first|with_reducible apply And.intro|intro _)
 all_goals first
  | omega
  | (simp;done)
  | (refine codeOf_e ?_;simp [codeC];done)
  | (simp (disch:=omega) only [sel4Lo,sel4Hi];exact hD _ _)
  | exact iSingle_e (r:=⟨0,0⟩) rfl
  | (simp (disch:=omega) only [sel4Lo,sel4Hi];exact without_e rfl)
  | (symm;assumption)
  | (rename_i hk;simp only [hk,if_true,Bool.false_eq_true,if_false];done)
  | (rename_i hk;simp only [hk,if_true,Bool.false_eq_true,if_false];simp (disch:=first|omega|simp) only [set4Lo,set4Hi]<;>(repeat' split)<;>first|rfl|(simp_all;done)|(exfalso;simp_all;omega))
  | (simp_all;done)
theorem actArith3_e{V:List ItvItv}{c:ItvItv}{procs:List PrcProc}{sums:List SumSum}{d a b rel lo hi to:Int}(hl:V.length=4){R:ItvItv→ItvItv→ItvItv×Bool}(hd:0≤d)(hd4:d<4)(ha:0≤a)(ha4:a<4)(hb:0≤b)(hb4:b<4)(hD:∀x y:ItvItv,EC Tryz.prog 191 0 [CI 3,.agg [CI x.Lo,CI x.Hi],.agg [CI y.Lo,CI y.Hi]] [] (.tup [.agg [CI (R x y).1.Lo,CI (R x y).1.Hi],CB (R x y).2]) [] 0):
 EC Tryz.prog 154 1 [.ptr 0 10 0 0,.agg [.d (.sl 3 (procs.map dPrcProc))],.d (.sl 3 (sums.map dSumSum)),.agg [CI 3,CI d,CI a,CI b,CI rel,CI lo,CI hi,CI to]] [(0,.c 10 [stC V c])] (CB (R (V.getD a.toNat zItvItv) (V.getD b.toNat zItvItv)).2) [(0,.c 10 [stC (if (R (V.getD a.toNat zItvItv) (V.getD b.toNat zItvItv)).2=true then V.set d.toNat (R (V.getD a.toNat zItvItv) (V.getD b.toNat zItvItv)).1 else V) c])] 1:=by
 obtain ⟨w0,w1,w2,w3,rfl⟩:=four hl
 refine (seat [] [] [] codeM).PB (mkM true []) (fn:=Tryz.f154) ⟨by kernel_rfl,by kernel_rfl,rfl⟩ (Nat.le_refl 1)
  (mkEs [eSt 10 ([w0,w1,w2,w3]:List ItvItv) c,eI 31 d,eI 32 a,eI 33 b,eI 34 rel,eI 35 lo,eI 36 hi,eI 37 to,eLPrcProc 40 procs,eLSumSum 42 sums,eItvItv 726000 (R (([w0,w1,w2,w3]:List ItvItv).getD a.toNat zItvItv) (([w0,w1,w2,w3]:List ItvItv).getD b.toNat zItvItv)).1,eB 726030 (R (([w0,w1,w2,w3]:List ItvItv).getD a.toNat zItvItv) (([w0,w1,w2,w3]:List ItvItv).getD b.toNat zItvItv)).2,eB 900 (R (([w0,w1,w2,w3]:List ItvItv).getD a.toNat zItvItv) (([w0,w1,w2,w3]:List ItvItv).getD b.toNat zItvItv)).2,eSt 910 (if (R (([w0,w1,w2,w3]:List ItvItv).getD a.toNat zItvItv) (([w0,w1,w2,w3]:List ItvItv).getD b.toNat zItvItv)).2=true then ([w0,w1,w2,w3]:List ItvItv).set d.toNat (R (([w0,w1,w2,w3]:List ItvItv).getD a.toNat zItvItv) (([w0,w1,w2,w3]:List ItvItv).getD b.toNat zItvItv)).1 else ([w0,w1,w2,w3]:List ItvItv)) c])
  noLps [] [.ptr 0 10 (.int .i64 0) 0,.agg (ofL [xLPrcProc 40]),xLSumSum 42,.agg (ofL [.int .i64 3,.ati .i64 31 .nil,.ati .i64 32 .nil,.ati .i64 33 .nil,.ati .i64 34 .nil,.ati .i64 35 .nil,.ati .i64 36 .nil,.ati .i64 37 .nil])] [b10 0 10] (by simp only [ofL,go_sem,Nat.reduceEqDiff,Nat.reduceAdd,Nat.reduceBEq,Int.reduceToNat]) rfl
  (.atb 900 .nil) [b10 0 910] rfl rfl (fun _=>?_)
 conv=>arg 4;cbv
 simp only [go_sem,Nat.reduceEqDiff,Nat.reduceAdd,Nat.reduceBEq,Int.reduceToNat]
 repeat' (first|with_reducible apply And.intro|intro _)
 all_goals first
  | omega
  | (simp;done)
  | (refine codeOf_e ?_;simp [codeC];done)
  | (simp (disch:=omega) only [sel4Lo,sel4Hi];exact hD _ _)
  | exact iSingle_e (r:=⟨0,0⟩) rfl
  | (simp (disch:=omega) only [sel4Lo,sel4Hi];exact without_e rfl)
  | (symm;assumption)
  | (rename_i hk;simp only [hk,if_true,Bool.false_eq_true,if_false];done)
  | (rename_i hk;simp only [hk,if_true,Bool.false_eq_true,if_false];simp (disch:=first|omega|simp) only [set4Lo,set4Hi]<;>(repeat' split)<;>first|rfl|(simp_all;done)|(exfalso;simp_all;omega))
  | (simp_all;done)
set_option maxHeartbeats 1000000 in
theorem actArith4_e{V:List ItvItv}{c:ItvItv}{procs:List PrcProc}{sums:List SumSum}{d a b rel lo hi to:Int}(hl:V.length=4){R:ItvItv→ItvItv→ItvItv×Bool}(hd:0≤d)(hd4:d<4)(ha:0≤a)(ha4:a<4)(hb:0≤b)(hb4:b<4)(hD:∀x y:ItvItv,EC Tryz.prog 191 0 [CI 4,.agg [CI x.Lo,CI x.Hi],.agg [CI y.Lo,CI y.Hi]] [] (.tup [.agg [CI (R x y).1.Lo,CI (R x y).1.Hi],CB (R x y).2]) [] 0):
 EC Tryz.prog 154 1 [.ptr 0 10 0 0,.agg [.d (.sl 3 (procs.map dPrcProc))],.d (.sl 3 (sums.map dSumSum)),.agg [CI 4,CI d,CI a,CI b,CI rel,CI lo,CI hi,CI to]] [(0,.c 10 [stC V c])] (CB (R (V.getD a.toNat zItvItv) (V.getD b.toNat zItvItv)).2) [(0,.c 10 [stC (if (R (V.getD a.toNat zItvItv) (V.getD b.toNat zItvItv)).2=true then (divV V b).set d.toNat (R (V.getD a.toNat zItvItv) (V.getD b.toNat zItvItv)).1 else V) c])] 1:=by
 obtain ⟨w0,w1,w2,w3,rfl⟩:=four hl
 refine (seat [] [] [] codeM).PB (mkM true []) (fn:=Tryz.f154) ⟨by kernel_rfl,by kernel_rfl,rfl⟩ (Nat.le_refl 1)
  (mkEs [eSt 10 ([w0,w1,w2,w3]:List ItvItv) c,eI 31 d,eI 32 a,eI 33 b,eI 34 rel,eI 35 lo,eI 36 hi,eI 37 to,eLPrcProc 40 procs,eLSumSum 42 sums,eItvItv 726000 (R (([w0,w1,w2,w3]:List ItvItv).getD a.toNat zItvItv) (([w0,w1,w2,w3]:List ItvItv).getD b.toNat zItvItv)).1,eB 726030 (R (([w0,w1,w2,w3]:List ItvItv).getD a.toNat zItvItv) (([w0,w1,w2,w3]:List ItvItv).getD b.toNat zItvItv)).2,eItvItv 1120000 ⟨0,0⟩,eItvItv 1121000 (without (([w0,w1,w2,w3]:List ItvItv).getD b.toNat zItvItv) ⟨0,0⟩),eB 900 (R (([w0,w1,w2,w3]:List ItvItv).getD a.toNat zItvItv) (([w0,w1,w2,w3]:List ItvItv).getD b.toNat zItvItv)).2,eSt 910 (if (R (([w0,w1,w2,w3]:List ItvItv).getD a.toNat zItvItv) (([w0,w1,w2,w3]:List ItvItv).getD b.toNat zItvItv)).2=true then (divV ([w0,w1,w2,w3]:List ItvItv) b).set d.toNat (R (([w0,w1,w2,w3]:List ItvItv).getD a.toNat zItvItv) (([w0,w1,w2,w3]:List ItvItv).getD b.toNat zItvItv)).1 else ([w0,w1,w2,w3]:List ItvItv)) c])
  noLps [] [.ptr 0 10 (.int .i64 0) 0,.agg (ofL [xLPrcProc 40]),xLSumSum 42,.agg (ofL [.int .i64 4,.ati .i64 31 .nil,.ati .i64 32 .nil,.ati .i64 33 .nil,.ati .i64 34 .nil,.ati .i64 35 .nil,.ati .i64 36 .nil,.ati .i64 37 .nil])] [b10 0 10] (by simp only [ofL,go_sem,Nat.reduceEqDiff,Nat.reduceAdd,Nat.reduceBEq,Int.reduceToNat]) rfl
  (.atb 900 .nil) [b10 0 910] rfl rfl (fun _=>?_)
 conv=>arg 4;cbv
 simp only [go_sem,Nat.reduceEqDiff,Nat.reduceAdd,Nat.reduceBEq,Int.reduceToNat]
 repeat' (first|with_reducible apply And.intro|intro _)
 all_goals first
  | omega
  | (simp;done)
  | (refine codeOf_e ?_;simp [codeC];done)
  | (simp (disch:=omega) only [sel4Lo,sel4Hi];exact hD _ _)
  | exact iSingle_e (r:=⟨0,0⟩) rfl
  | (simp (disch:=omega) only [sel4Lo,sel4Hi];exact without_e rfl)
  | (symm;assumption)
  | (rename_i hk;simp only [hk,if_true,Bool.false_eq_true,if_false];done)
  | (rename_i hk;simp only [hk,if_true,Bool.false_eq_true,if_false,divV];simp (disch:=first|omega|simp) only [set4Lo,set4Hi]<;>(repeat' split)<;>first|rfl|(simp_all;done)|(exfalso;simp_all;omega))
  | (simp_all;done)
end Go.Proofs.YtjakhnhnjhafgaaGreat.Wk
