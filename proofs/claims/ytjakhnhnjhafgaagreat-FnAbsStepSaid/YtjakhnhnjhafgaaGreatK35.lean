/- A part of the proof. -/
import Derived.Test.YtjakhnhnjhafgaaGreatK31
import Derived.Test.YtjakhnhnjhafgaaGreatK29
set_option linter.unusedVariables false
set_option linter.unusedSimpArgs false
namespace Go.Proofs.YtjakhnhnjhafgaaGreat.Wk
open Go Go.RowKit Go.Deep Ow
set_option maxRecDepth 100000
theorem fails1_e{V:List ItvItv}{c:ItvItv}{procs:List PrcProc}{d a b rel lo hi to:Int}(hl:V.length=4):EC Tryz.prog 56 0 [.d (.ep (stD V c)),.agg [.d (.sl 3 (procs.map dPrcProc))],.agg [CI 1,CI d,CI a,CI b,CI rel,CI lo,CI hi,CI to]] [] (CB false) [] 0:=by
 obtain ⟨w0,w1,w2,w3,rfl⟩:=four hl
 refine (seat [] [] [] codeM).PU (mkM true []) (fn:=Tryz.f56) ⟨by kernel_rfl,by kernel_rfl,rfl⟩
  (mkEs [eSt 10 [w0,w1,w2,w3] c,eI 31 d,eI 32 a,eI 33 b,eI 34 rel,eI 35 lo,eI 36 hi,eI 37 to,eLPrcProc 40 procs])
  noLps [] [.ep (r10 10),.agg (ofL [xLPrcProc 40]),.agg (ofL [.int .i64 1,.ati .i64 31 .nil,.ati .i64 32 .nil,.ati .i64 33 .nil,.ati .i64 34 .nil,.ati .i64 35 .nil,.ati .i64 36 .nil,.ati .i64 37 .nil])] (by simp only [b10,r10,k10,Ki.len,ofL,XB.den,rowsC,List.map_cons,List.map_nil,stC,stD,DI,go_sem,Nat.reduceEqDiff,Nat.reduceAdd,Nat.reduceBEq,Int.reduceToNat]) (fun _=>?_)
 conv=>arg 4;cbv
 simp only [go_sem,Nat.reduceEqDiff,Nat.reduceAdd,Nat.reduceBEq,Int.reduceToNat]
 repeat' (first|with_reducible apply And.intro|intro _)
 all_goals first
  | (refine codeOf_e ?_;simp [codeC];done)
  | omega
  | rfl
  | skip
theorem fails2_e{V:List ItvItv}{c:ItvItv}{procs:List PrcProc}{d a b rel lo hi to:Int}(hl:V.length=4):EC Tryz.prog 56 0 [.d (.ep (stD V c)),.agg [.d (.sl 3 (procs.map dPrcProc))],.agg [CI 2,CI d,CI a,CI b,CI rel,CI lo,CI hi,CI to]] [] (CB false) [] 0:=by
 obtain ⟨w0,w1,w2,w3,rfl⟩:=four hl
 refine (seat [] [] [] codeM).PU (mkM true []) (fn:=Tryz.f56) ⟨by kernel_rfl,by kernel_rfl,rfl⟩
  (mkEs [eSt 10 [w0,w1,w2,w3] c,eI 31 d,eI 32 a,eI 33 b,eI 34 rel,eI 35 lo,eI 36 hi,eI 37 to,eLPrcProc 40 procs])
  noLps [] [.ep (r10 10),.agg (ofL [xLPrcProc 40]),.agg (ofL [.int .i64 2,.ati .i64 31 .nil,.ati .i64 32 .nil,.ati .i64 33 .nil,.ati .i64 34 .nil,.ati .i64 35 .nil,.ati .i64 36 .nil,.ati .i64 37 .nil])] (by simp only [b10,r10,k10,Ki.len,ofL,XB.den,rowsC,List.map_cons,List.map_nil,stC,stD,DI,go_sem,Nat.reduceEqDiff,Nat.reduceAdd,Nat.reduceBEq,Int.reduceToNat]) (fun _=>?_)
 conv=>arg 4;cbv
 simp only [go_sem,Nat.reduceEqDiff,Nat.reduceAdd,Nat.reduceBEq,Int.reduceToNat]
 repeat' (first|with_reducible apply And.intro|intro _)
 all_goals first
  | (refine codeOf_e ?_;simp [codeC];done)
  | omega
  | rfl
  | skip
theorem fails3_e{V:List ItvItv}{c:ItvItv}{procs:List PrcProc}{d a b rel lo hi to:Int}(hl:V.length=4):EC Tryz.prog 56 0 [.d (.ep (stD V c)),.agg [.d (.sl 3 (procs.map dPrcProc))],.agg [CI 3,CI d,CI a,CI b,CI rel,CI lo,CI hi,CI to]] [] (CB false) [] 0:=by
 obtain ⟨w0,w1,w2,w3,rfl⟩:=four hl
 refine (seat [] [] [] codeM).PU (mkM true []) (fn:=Tryz.f56) ⟨by kernel_rfl,by kernel_rfl,rfl⟩
  (mkEs [eSt 10 [w0,w1,w2,w3] c,eI 31 d,eI 32 a,eI 33 b,eI 34 rel,eI 35 lo,eI 36 hi,eI 37 to,eLPrcProc 40 procs])
  noLps [] [.ep (r10 10),.agg (ofL [xLPrcProc 40]),.agg (ofL [.int .i64 3,.ati .i64 31 .nil,.ati .i64 32 .nil,.ati .i64 33 .nil,.ati .i64 34 .nil,.ati .i64 35 .nil,.ati .i64 36 .nil,.ati .i64 37 .nil])] (by simp only [b10,r10,k10,Ki.len,ofL,XB.den,rowsC,List.map_cons,List.map_nil,stC,stD,DI,go_sem,Nat.reduceEqDiff,Nat.reduceAdd,Nat.reduceBEq,Int.reduceToNat]) (fun _=>?_)
 conv=>arg 4;cbv
 simp only [go_sem,Nat.reduceEqDiff,Nat.reduceAdd,Nat.reduceBEq,Int.reduceToNat]
 repeat' (first|with_reducible apply And.intro|intro _)
 all_goals first
  | (refine codeOf_e ?_;simp [codeC];done)
  | omega
  | rfl
  | skip
theorem fails5_e{V:List ItvItv}{c:ItvItv}{procs:List PrcProc}{d a b rel lo hi to:Int}(hl:V.length=4):EC Tryz.prog 56 0 [.d (.ep (stD V c)),.agg [.d (.sl 3 (procs.map dPrcProc))],.agg [CI 5,CI d,CI a,CI b,CI rel,CI lo,CI hi,CI to]] [] (CB false) [] 0:=by
 obtain ⟨w0,w1,w2,w3,rfl⟩:=four hl
 refine (seat [] [] [] codeM).PU (mkM true []) (fn:=Tryz.f56) ⟨by kernel_rfl,by kernel_rfl,rfl⟩
  (mkEs [eSt 10 [w0,w1,w2,w3] c,eI 31 d,eI 32 a,eI 33 b,eI 34 rel,eI 35 lo,eI 36 hi,eI 37 to,eLPrcProc 40 procs])
  noLps [] [.ep (r10 10),.agg (ofL [xLPrcProc 40]),.agg (ofL [.int .i64 5,.ati .i64 31 .nil,.ati .i64 32 .nil,.ati .i64 33 .nil,.ati .i64 34 .nil,.ati .i64 35 .nil,.ati .i64 36 .nil,.ati .i64 37 .nil])] (by simp only [b10,r10,k10,Ki.len,ofL,XB.den,rowsC,List.map_cons,List.map_nil,stC,stD,DI,go_sem,Nat.reduceEqDiff,Nat.reduceAdd,Nat.reduceBEq,Int.reduceToNat]) (fun _=>?_)
 conv=>arg 4;cbv
 simp only [go_sem,Nat.reduceEqDiff,Nat.reduceAdd,Nat.reduceBEq,Int.reduceToNat]
 repeat' (first|with_reducible apply And.intro|intro _)
 all_goals first
  | (refine codeOf_e ?_;simp [codeC];done)
  | omega
  | rfl
  | skip
theorem fails8_e{V:List ItvItv}{c:ItvItv}{procs:List PrcProc}{d a b rel lo hi to:Int}(hl:V.length=4):EC Tryz.prog 56 0 [.d (.ep (stD V c)),.agg [.d (.sl 3 (procs.map dPrcProc))],.agg [CI 8,CI d,CI a,CI b,CI rel,CI lo,CI hi,CI to]] [] (CB false) [] 0:=by
 obtain ⟨w0,w1,w2,w3,rfl⟩:=four hl
 refine (seat [] [] [] codeM).PU (mkM true []) (fn:=Tryz.f56) ⟨by kernel_rfl,by kernel_rfl,rfl⟩
  (mkEs [eSt 10 [w0,w1,w2,w3] c,eI 31 d,eI 32 a,eI 33 b,eI 34 rel,eI 35 lo,eI 36 hi,eI 37 to,eLPrcProc 40 procs])
  noLps [] [.ep (r10 10),.agg (ofL [xLPrcProc 40]),.agg (ofL [.int .i64 8,.ati .i64 31 .nil,.ati .i64 32 .nil,.ati .i64 33 .nil,.ati .i64 34 .nil,.ati .i64 35 .nil,.ati .i64 36 .nil,.ati .i64 37 .nil])] (by simp only [b10,r10,k10,Ki.len,ofL,XB.den,rowsC,List.map_cons,List.map_nil,stC,stD,DI,go_sem,Nat.reduceEqDiff,Nat.reduceAdd,Nat.reduceBEq,Int.reduceToNat]) (fun _=>?_)
 conv=>arg 4;cbv
 simp only [go_sem,Nat.reduceEqDiff,Nat.reduceAdd,Nat.reduceBEq,Int.reduceToNat]
 repeat' (first|with_reducible apply And.intro|intro _)
 all_goals first
  | (refine codeOf_e ?_;simp [codeC];done)
  | omega
  | rfl
  | skip
theorem fails9_e{V:List ItvItv}{c:ItvItv}{procs:List PrcProc}{d a b rel lo hi to:Int}(hl:V.length=4):EC Tryz.prog 56 0 [.d (.ep (stD V c)),.agg [.d (.sl 3 (procs.map dPrcProc))],.agg [CI 9,CI d,CI a,CI b,CI rel,CI lo,CI hi,CI to]] [] (CB false) [] 0:=by
 obtain ⟨w0,w1,w2,w3,rfl⟩:=four hl
 refine (seat [] [] [] codeM).PU (mkM true []) (fn:=Tryz.f56) ⟨by kernel_rfl,by kernel_rfl,rfl⟩
  (mkEs [eSt 10 [w0,w1,w2,w3] c,eI 31 d,eI 32 a,eI 33 b,eI 34 rel,eI 35 lo,eI 36 hi,eI 37 to,eLPrcProc 40 procs])
  noLps [] [.ep (r10 10),.agg (ofL [xLPrcProc 40]),.agg (ofL [.int .i64 9,.ati .i64 31 .nil,.ati .i64 32 .nil,.ati .i64 33 .nil,.ati .i64 34 .nil,.ati .i64 35 .nil,.ati .i64 36 .nil,.ati .i64 37 .nil])] (by simp only [b10,r10,k10,Ki.len,ofL,XB.den,rowsC,List.map_cons,List.map_nil,stC,stD,DI,go_sem,Nat.reduceEqDiff,Nat.reduceAdd,Nat.reduceBEq,Int.reduceToNat]) (fun _=>?_)
 conv=>arg 4;cbv
 simp only [go_sem,Nat.reduceEqDiff,Nat.reduceAdd,Nat.reduceBEq,Int.reduceToNat]
 repeat' (first|with_reducible apply And.intro|intro _)
 all_goals first
  | (refine codeOf_e ?_;simp [codeC];done)
  | omega
  | rfl
  | skip
theorem fails12_e{V:List ItvItv}{c:ItvItv}{procs:List PrcProc}{d a b rel lo hi to:Int}(hl:V.length=4):EC Tryz.prog 56 0 [.d (.ep (stD V c)),.agg [.d (.sl 3 (procs.map dPrcProc))],.agg [CI 12,CI d,CI a,CI b,CI rel,CI lo,CI hi,CI to]] [] (CB false) [] 0:=by
 obtain ⟨w0,w1,w2,w3,rfl⟩:=four hl
 refine (seat [] [] [] codeM).PU (mkM true []) (fn:=Tryz.f56) ⟨by kernel_rfl,by kernel_rfl,rfl⟩
  (mkEs [eSt 10 [w0,w1,w2,w3] c,eI 31 d,eI 32 a,eI 33 b,eI 34 rel,eI 35 lo,eI 36 hi,eI 37 to,eLPrcProc 40 procs])
  noLps [] [.ep (r10 10),.agg (ofL [xLPrcProc 40]),.agg (ofL [.int .i64 12,.ati .i64 31 .nil,.ati .i64 32 .nil,.ati .i64 33 .nil,.ati .i64 34 .nil,.ati .i64 35 .nil,.ati .i64 36 .nil,.ati .i64 37 .nil])] (by simp only [b10,r10,k10,Ki.len,ofL,XB.den,rowsC,List.map_cons,List.map_nil,stC,stD,DI,go_sem,Nat.reduceEqDiff,Nat.reduceAdd,Nat.reduceBEq,Int.reduceToNat]) (fun _=>?_)
 conv=>arg 4;cbv
 simp only [go_sem,Nat.reduceEqDiff,Nat.reduceAdd,Nat.reduceBEq,Int.reduceToNat]
 repeat' (first|with_reducible apply And.intro|intro _)
 all_goals first
  | (refine codeOf_e ?_;simp [codeC];done)
  | omega
  | rfl
  | skip
theorem fails4_e{V:List ItvItv}{c:ItvItv}{procs:List PrcProc}{d a b rel lo hi to:Int}(hb:0≤b)(hb4:b<4)(hl:V.length=4):EC Tryz.prog 56 0 [.d (.ep (stD V c)),.agg [.d (.sl 3 (procs.map dPrcProc))],.agg [CI 4,CI d,CI a,CI b,CI rel,CI lo,CI hi,CI to]] [] (CB (itvHas (V.getD b.toNat zItvItv) 0)) [] 0:=by
 obtain ⟨w0,w1,w2,w3,rfl⟩:=four hl
 refine (seat [] [] [] codeM).PU (mkM true []) (fn:=Tryz.f56) ⟨by kernel_rfl,by kernel_rfl,rfl⟩
  (mkEs [eSt 10 [w0,w1,w2,w3] c,eI 31 d,eI 32 a,eI 33 b,eI 34 rel,eI 35 lo,eI 36 hi,eI 37 to,eLPrcProc 40 procs,eB 421000 (itvHas (([w0,w1,w2,w3]:List ItvItv).getD b.toNat zItvItv) 0)])
  noLps [] [.ep (r10 10),.agg (ofL [xLPrcProc 40]),.agg (ofL [.int .i64 4,.ati .i64 31 .nil,.ati .i64 32 .nil,.ati .i64 33 .nil,.ati .i64 34 .nil,.ati .i64 35 .nil,.ati .i64 36 .nil,.ati .i64 37 .nil])] (by simp only [b10,r10,k10,Ki.len,ofL,XB.den,rowsC,List.map_cons,List.map_nil,stC,stD,DI,go_sem,Nat.reduceEqDiff,Nat.reduceAdd,Nat.reduceBEq,Int.reduceToNat]) (fun _=>?_)
 conv=>arg 4;cbv
 simp only [go_sem,Nat.reduceEqDiff,Nat.reduceAdd,Nat.reduceBEq,Int.reduceToNat]
 repeat' (first|with_reducible apply And.intro|intro _)
 all_goals first
  | (refine codeOf_e ?_;simp [codeC];done)
  | omega
  | rfl
  | (simp (disch:=omega) only [sel4Lo,sel4Hi];exact iItvHas_e rfl)
  | skip
theorem fails6_e{V:List ItvItv}{c:ItvItv}{procs:List PrcProc}{d a b rel lo hi to:Int}(ha:0≤a)(ha4:a<4)(hl:V.length=4):EC Tryz.prog 56 0 [.d (.ep (stD V c)),.agg [.d (.sl 3 (procs.map dPrcProc))],.agg [CI 6,CI d,CI a,CI b,CI rel,CI lo,CI hi,CI to]] [] (CB (!itvIn (V.getD a.toNat zItvItv) ⟨0,3⟩)) [] 0:=by
 obtain ⟨w0,w1,w2,w3,rfl⟩:=four hl
 refine (seat [] [] [] codeM).PU (mkM true []) (fn:=Tryz.f56) ⟨by kernel_rfl,by kernel_rfl,rfl⟩
  (mkEs [eSt 10 [w0,w1,w2,w3] c,eI 31 d,eI 32 a,eI 33 b,eI 34 rel,eI 35 lo,eI 36 hi,eI 37 to,eLPrcProc 40 procs,eItvItv 717000 ⟨0,3⟩,eB 718000 (itvIn (([w0,w1,w2,w3]:List ItvItv).getD a.toNat zItvItv) ⟨0,3⟩)])
  noLps [] [.ep (r10 10),.agg (ofL [xLPrcProc 40]),.agg (ofL [.int .i64 6,.ati .i64 31 .nil,.ati .i64 32 .nil,.ati .i64 33 .nil,.ati .i64 34 .nil,.ati .i64 35 .nil,.ati .i64 36 .nil,.ati .i64 37 .nil])] (by simp only [b10,r10,k10,Ki.len,ofL,XB.den,rowsC,List.map_cons,List.map_nil,stC,stD,DI,go_sem,Nat.reduceEqDiff,Nat.reduceAdd,Nat.reduceBEq,Int.reduceToNat]) (fun _=>?_)
 conv=>arg 4;cbv
 simp only [go_sem,Nat.reduceEqDiff,Nat.reduceAdd,Nat.reduceBEq,Int.reduceToNat]
 repeat' (first|with_reducible apply And.intro|intro _)
 all_goals first
  | (refine codeOf_e ?_;simp [codeC];done)
  | omega
  | rfl
  | exact cellIndexes_e (r:=⟨0,3⟩) rfl
  | (simp (disch:=omega) only [sel4Lo,sel4Hi];exact iItvIn_e (b0:=0) (b1:=3) rfl)
  | skip
theorem fails7_e{V:List ItvItv}{c:ItvItv}{procs:List PrcProc}{d a b rel lo hi to:Int}(ha:0≤a)(ha4:a<4)(hl:V.length=4):EC Tryz.prog 56 0 [.d (.ep (stD V c)),.agg [.d (.sl 3 (procs.map dPrcProc))],.agg [CI 7,CI d,CI a,CI b,CI rel,CI lo,CI hi,CI to]] [] (CB (!itvIn (V.getD a.toNat zItvItv) ⟨0,3⟩)) [] 0:=by
 obtain ⟨w0,w1,w2,w3,rfl⟩:=four hl
 refine (seat [] [] [] codeM).PU (mkM true []) (fn:=Tryz.f56) ⟨by kernel_rfl,by kernel_rfl,rfl⟩
  (mkEs [eSt 10 [w0,w1,w2,w3] c,eI 31 d,eI 32 a,eI 33 b,eI 34 rel,eI 35 lo,eI 36 hi,eI 37 to,eLPrcProc 40 procs,eItvItv 1017000 ⟨0,3⟩,eB 1018000 (itvIn (([w0,w1,w2,w3]:List ItvItv).getD a.toNat zItvItv) ⟨0,3⟩)])
  noLps [] [.ep (r10 10),.agg (ofL [xLPrcProc 40]),.agg (ofL [.int .i64 7,.ati .i64 31 .nil,.ati .i64 32 .nil,.ati .i64 33 .nil,.ati .i64 34 .nil,.ati .i64 35 .nil,.ati .i64 36 .nil,.ati .i64 37 .nil])] (by simp only [b10,r10,k10,Ki.len,ofL,XB.den,rowsC,List.map_cons,List.map_nil,stC,stD,DI,go_sem,Nat.reduceEqDiff,Nat.reduceAdd,Nat.reduceBEq,Int.reduceToNat]) (fun _=>?_)
 conv=>arg 4;cbv
 simp only [go_sem,Nat.reduceEqDiff,Nat.reduceAdd,Nat.reduceBEq,Int.reduceToNat]
 repeat' (first|with_reducible apply And.intro|intro _)
 all_goals first
  | (refine codeOf_e ?_;simp [codeC];done)
  | omega
  | rfl
  | exact cellIndexes_e (r:=⟨0,3⟩) rfl
  | (simp (disch:=omega) only [sel4Lo,sel4Hi];exact iItvIn_e (b0:=0) (b1:=3) rfl)
  | skip
theorem fails10_e{V:List ItvItv}{c:ItvItv}{procs:List PrcProc}{d a b rel lo hi to:Int}(ha:0≤a)(ha4:a<4)(ht:0≤to)(htp:to<procs.length)(hl:V.length=4):EC Tryz.prog 56 0 [.d (.ep (stD V c)),.agg [.d (.sl 3 (procs.map dPrcProc))],.agg [CI 10,CI d,CI a,CI b,CI rel,CI lo,CI hi,CI to]] [] (CB (!itvIn (V.getD a.toNat zItvItv) ⟨(procs.getD to.toNat zPrcProc).Lo,(procs.getD to.toNat zPrcProc).Hi⟩)) [] 0:=by
 obtain ⟨w0,w1,w2,w3,rfl⟩:=four hl
 refine (seat [] [] [] codeM).PU (mkM true []) (fn:=Tryz.f56) ⟨by kernel_rfl,by kernel_rfl,rfl⟩
  (mkEs [eSt 10 [w0,w1,w2,w3] c,eI 31 d,eI 32 a,eI 33 b,eI 34 rel,eI 35 lo,eI 36 hi,eI 37 to,eLPrcProc 40 procs,eItvItv 1323000 ⟨(procs.getD to.toNat zPrcProc).Lo,(procs.getD to.toNat zPrcProc).Hi⟩,eB 1324000 (itvIn (([w0,w1,w2,w3]:List ItvItv).getD a.toNat zItvItv) ⟨(procs.getD to.toNat zPrcProc).Lo,(procs.getD to.toNat zPrcProc).Hi⟩)])
  noLps [] [.ep (r10 10),.agg (ofL [xLPrcProc 40]),.agg (ofL [.int .i64 10,.ati .i64 31 .nil,.ati .i64 32 .nil,.ati .i64 33 .nil,.ati .i64 34 .nil,.ati .i64 35 .nil,.ati .i64 36 .nil,.ati .i64 37 .nil])] (by simp only [b10,r10,k10,Ki.len,ofL,XB.den,rowsC,List.map_cons,List.map_nil,stC,stD,DI,go_sem,Nat.reduceEqDiff,Nat.reduceAdd,Nat.reduceBEq,Int.reduceToNat]) (fun _=>?_)
 conv=>arg 4;cbv
 simp only [go_sem,Nat.reduceEqDiff,Nat.reduceAdd,Nat.reduceBEq,Int.reduceToNat]
 repeat' (first|with_reducible apply And.intro|intro _)
 all_goals first
  | (refine codeOf_e ?_;simp [codeC];done)
  | omega
  | rfl
  | exact prcItv_e (r:=⟨_,_⟩) rfl
  | (simp (disch:=omega) only [sel4Lo,sel4Hi];exact iItvIn_e rfl)
  | skip
theorem fails11_e{V:List ItvItv}{c:ItvItv}{procs:List PrcProc}{d a b rel lo hi to:Int}(ha:0≤a)(ha4:a<4)(hb:0≤b)(hb4:b<4)(hl:V.length=4):EC Tryz.prog 56 0 [.d (.ep (stD V c)),.agg [.d (.sl 3 (procs.map dPrcProc))],.agg [CI 11,CI d,CI a,CI b,CI rel,CI lo,CI hi,CI to]] [] (CB (itvNot rel (V.getD a.toNat zItvItv) (V.getD b.toNat zItvItv)).2.2) [] 0:=by
 obtain ⟨w0,w1,w2,w3,rfl⟩:=four hl
 refine (seat [] [] [] codeM).PU (mkM true []) (fn:=Tryz.f56) ⟨by kernel_rfl,by kernel_rfl,rfl⟩
  (mkEs [eSt 10 [w0,w1,w2,w3] c,eI 31 d,eI 32 a,eI 33 b,eI 34 rel,eI 35 lo,eI 36 hi,eI 37 to,eLPrcProc 40 procs,eItvItv 1626000 (itvNot rel (([w0,w1,w2,w3]:List ItvItv).getD a.toNat zItvItv) (([w0,w1,w2,w3]:List ItvItv).getD b.toNat zItvItv)).1,eItvItv 1626030 (itvNot rel (([w0,w1,w2,w3]:List ItvItv).getD a.toNat zItvItv) (([w0,w1,w2,w3]:List ItvItv).getD b.toNat zItvItv)).2.1,eB 1626060 (itvNot rel (([w0,w1,w2,w3]:List ItvItv).getD a.toNat zItvItv) (([w0,w1,w2,w3]:List ItvItv).getD b.toNat zItvItv)).2.2])
  noLps [] [.ep (r10 10),.agg (ofL [xLPrcProc 40]),.agg (ofL [.int .i64 11,.ati .i64 31 .nil,.ati .i64 32 .nil,.ati .i64 33 .nil,.ati .i64 34 .nil,.ati .i64 35 .nil,.ati .i64 36 .nil,.ati .i64 37 .nil])] (by simp only [b10,r10,k10,Ki.len,ofL,XB.den,rowsC,List.map_cons,List.map_nil,stC,stD,DI,go_sem,Nat.reduceEqDiff,Nat.reduceAdd,Nat.reduceBEq,Int.reduceToNat]) (fun _=>?_)
 conv=>arg 4;cbv
 simp only [go_sem,Nat.reduceEqDiff,Nat.reduceAdd,Nat.reduceBEq,Int.reduceToNat]
 repeat' (first|with_reducible apply And.intro|intro _)
 all_goals first
  | (refine codeOf_e ?_;simp [codeC];done)
  | omega
  | rfl
  | (simp (disch:=omega) only [sel4Lo,sel4Hi];exact iItvNot_e rfl rfl rfl)
  | skip
theorem iFails_e{V:List ItvItv}{c:ItvItv}{procs:List PrcProc}{i:InsIns}(hl:V.length=4)(hi:insOk i procs.length 10=true):
 EC Tryz.prog 56 0 [.d (.ep (stD V c)),.agg [.d (.sl 3 (procs.map dPrcProc))],.agg [CI i.Op,CI i.D,CI i.A,CI i.B,CI i.Rel,CI i.Lo,CI i.Hi,CI i.To]] [] (CB (failsV procs i V)) [] 0:=by
 obtain ⟨d0,d4,a0,a4,b0,b4,ht⟩:=ins_vars hi
 have ho:1≤i.Op∧i.Op≤12:=by simp only [insOk,Bool.and_eq_true,decide_eq_true_eq] at hi;omega
 obtain ⟨o,d,a,b,rel,lo,hi',to⟩:=i
 simp only at *
 rcases (by omega:o=1∨o=2∨o=3∨o=4∨o=5∨o=6∨o=7∨o=8∨o=9∨o=10∨o=11∨o=12) with rfl|rfl|rfl|rfl|rfl|rfl|rfl|rfl|rfl|rfl|rfl|rfl
 · exact fails1_e hl
 · exact fails2_e hl
 · exact fails3_e hl
 · exact fails4_e b0 b4 hl
 · exact fails5_e hl
 · exact fails6_e a0 a4 hl
 · exact fails7_e a0 a4 hl
 · exact fails8_e hl
 · exact fails9_e hl
 · exact fails10_e a0 a4 (ht rfl).1 (ht rfl).2 hl
 · exact fails11_e a0 a4 b0 b4 hl
 · exact fails12_e hl
theorem absFails_eq{p:PrgProg}{i:InsIns}{V:List ItvItv}{c:ItvItv}(hok:absOk ⟨true,V,c⟩=true):absFails p i ⟨true,V,c⟩=(prgOk p&&insOk i p.Procs.length 10&&failsV p.Procs i V):=by
 simp only [absFails,l7Fit,hok,failsV,Bool.and_true]
theorem absFailsOn_e{p:PrgProg}{i:InsIns}{V:List ItvItv}{c:ItvItv}(hok:absOk ⟨true,V,c⟩=true):EC Tryz.prog 9 0 [.agg [.d (.sl 3 (p.Procs.map dPrcProc))],.agg [CI i.Op,CI i.D,CI i.A,CI i.B,CI i.Rel,CI i.Lo,CI i.Hi,CI i.To],.agg [CB true,.d (.sl 2 (V.map dItvItv)),CI c.Lo,CI c.Hi]] [] (CB (absFails p i ⟨true,V,c⟩)) [] 0:=by
 rw [absFails_eq hok]
 refine (seat [] [] [(53,k10.ls)]).PB (mkF [(2,fun s=>[s.at_ 7])] (mkM true [])) (fn:=Tryz.f9) ⟨by kernel_rfl,by kernel_rfl,rfl⟩ (Nat.le_refl 0)
  (mkEs [ePrgProg 10 p,eInsIns 30 i,eAbsState 50 ⟨true,V,c⟩,eSt 111000 V c,eB 111200 true,eB 217000 (prgOk p),eB 224000 (insOk i p.Procs.length 10),eB 230000 (failsV p.Procs i V),eB 900 (prgOk p&&insOk i p.Procs.length 10&&failsV p.Procs i V)])
  noLps [] [xPrgProg 10,xInsIns 30,xAbsState 50] [] (by simp only [go_sem,Nat.reduceEqDiff,Nat.reduceAdd,Nat.reduceBEq,Int.reduceToNat]) rfl (.atb 900 .nil) [] (by simp only [go_sem,Nat.reduceEqDiff,Nat.reduceAdd,Nat.reduceBEq,Int.reduceToNat]) rfl (fun _=>?_)
 conv=>arg 4;cbv
 simp only [go_sem,Nat.reduceEqDiff,Nat.reduceAdd,Nat.reduceBEq,Int.reduceToNat]
 repeat' (first|with_reducible apply And.intro|intro _)
 all_goals first
  | exact stread_e hok
  | exact jPrgOk_e rfl
  | exact iInsOk_e rfl
  | exact .inr (iInsOk_e rfl)
  | exact iFails_e (absOn hok).1 (by assumption)
  | exact (Bool.and_assoc _ _ _).symm
  | skip
theorem absFailsOff_e{p:PrgProg}{i:InsIns}{on:Bool}{V:List ItvItv}{c:ItvItv}(hno:on=false∨absOk ⟨on,V,c⟩=false):EC Tryz.prog 9 0 [.agg [.d (.sl 3 (p.Procs.map dPrcProc))],.agg [CI i.Op,CI i.D,CI i.A,CI i.B,CI i.Rel,CI i.Lo,CI i.Hi,CI i.To],.agg [CB on,.d (.sl 2 (V.map dItvItv)),CI c.Lo,CI c.Hi]] [] (CB (absFails p i ⟨on,V,c⟩)) [] 0:=by
 have hz:absFails p i ⟨on,V,c⟩=false:=by
  rcases hno with h|h<;>simp [absFails,l7Fit,h]
 obtain ⟨ok,hrd⟩:∃ok,EC Tryz.prog 53 0 [.agg [CB on,.d (.sl 2 (V.map dItvItv)),CI c.Lo,CI c.Hi]] [] (.tup [.d (.lit (.pointer none)),CB ok]) [] 0:=by
  cases on with
  | false=>exact ⟨_,streadOff_e rfl⟩
  | true=>exact ⟨false,streadBad_e (by simpa using hno)⟩
 rw [hz]
 refine (seat [] [] [] [(53,fun _=>some (.tup (ofL [.nilP,.atb 80 .nil])))]).PU (mkM true []) (fn:=Tryz.f9) ⟨by kernel_rfl,by kernel_rfl,rfl⟩
  (mkEs [ePrgProg 10 p,eInsIns 30 i,eAbsState 50 ⟨on,V,c⟩,eB 80 ok,eB 217000 (prgOk p),eB 224000 (insOk i p.Procs.length 10)]) noLps [] [xPrgProg 10,xInsIns 30,xAbsState 50] (by simp only [go_sem,Nat.reduceEqDiff,Nat.reduceAdd,Nat.reduceBEq,Int.reduceToNat]) (fun _=>?_)
 conv=>arg 4;cbv
 simp only [go_sem,Nat.reduceEqDiff,Nat.reduceAdd,Nat.reduceBEq,Int.reduceToNat]
 repeat' (first|with_reducible apply And.intro|intro _)
 all_goals first
  | exact hrd
  | exact jPrgOk_e rfl
  | exact iInsOk_e rfl
  | exact .inr (iInsOk_e rfl)
  | skip
theorem jAbsFails_e{p:PrgProg}{i:InsIns}{s:AbsState}{r:Bool}(h:absFails p i s=r):EC Tryz.prog 9 0 [.agg [.d (.sl 3 (p.Procs.map dPrcProc))],.agg [CI i.Op,CI i.D,CI i.A,CI i.B,CI i.Rel,CI i.Lo,CI i.Hi,CI i.To],.agg [CB s.On,.d (.sl 2 (s.Vars.map dItvItv)),CI s.Cells.Lo,CI s.Cells.Hi]] [] (CB r) [] 0:=by
 subst h
 obtain ⟨on,V,c⟩:=s
 by_cases h:on=true∧absOk ⟨on,V,c⟩=true
 · obtain ⟨rfl,h2⟩:=h;exact absFailsOn_e h2
 · exact absFailsOff_e (by cases on<;>simp_all)
end Go.Proofs.YtjakhnhnjhafgaaGreat.Wk
