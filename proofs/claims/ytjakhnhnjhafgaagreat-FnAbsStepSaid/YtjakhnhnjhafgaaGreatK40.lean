/- A part of the proof. -/
import Derived.Test.YtjakhnhnjhafgaaGreatK39
set_option linter.unusedVariables false
set_option linter.unusedSimpArgs false
namespace Go.Proofs.YtjakhnhnjhafgaaGreat.Wk
open Go Go.RowKit Go.Deep Ow
set_option maxRecDepth 100000
set_option maxHeartbeats 2000000 in
theorem spoil_x(b:List UInt8)(p:Int)(i0:Int)(i1:Int)(i2:Int)(i3:Int)(i4:Int)(i5:Int)(i6:Int)(i7:Int)(h0:0≤p)(h1:p+2≤1000000000):∃a:InsIns×Int,(p≤a.2∧a.2≤p+2∧True)∧EC Tryz.prog 51 1 [.ptr 0 2 0 0,.agg [CI i0,CI i1,CI i2,CI i3,CI i4,CI i5,CI i6,CI i7]] (rdH b p) (.agg [CI a.1.Op,CI a.1.D,CI a.1.A,CI a.1.B,CI a.1.Rel,CI a.1.Lo,CI a.1.Hi,CI a.1.To]) (rdH b a.2) 1:=by
 have key:=(seat [] []).PX (mkM true [2,1,2,1,1,55]) (f:=51) (fn:=Tryz.f51) (args:=[.ptr 0 2 0 0,.agg [CI i0,CI i1,CI i2,CI i3,CI i4,CI i5,CI i6,CI i7]]) (h:=rdH b p) ⟨by kernel_rfl,by kernel_rfl,rfl⟩ (Nat.le_refl 1) (fun (t:Int×Int×Int×Int×Int×Int×Int×Int×Int×Int×Int×Int×Int×Int×Int×Int)=>match t with|⟨t0,t1,t2,t3,t4,t5,t6,t7,t8,t9,t10,t11,t12,t13,t14,t15⟩=>mkEs [eLU8 1 b,eI 2 p,eInsIns 10 ⟨i0,i1,i2,i3,i4,i5,i6,i7⟩,eInt 111000 (pickV b t0 t1),eI 111201 (pickP b t0 t1),eInt 412000 (pickV b t2 t3),eI 412201 (pickP b t2 t3),eInt 612000 (pickV b t4 t5),eI 612201 (pickP b t4 t5),eInt 812000 (pickV b t6 t7),eI 812201 (pickP b t6 t7),eInt 1012000 (pickV b t8 t9),eI 1012201 (pickP b t8 t9),eInt 1212000 (pickV b t10 t11),eI 1212201 (pickP b t10 t11),eInt 1412000 (pickV b t12 t13),eI 1412201 (pickP b t12 t13),eInt 212000 (pickV b t14 t15),eI 212201 (pickP b t14 t15)]) [.ptr 0 2 (.int .i64 0) 0,xInsIns 10] [rdX 0 (xLU8 1) (xi 2)] (fun ⟨t0,t1,t2,t3,t4,t5,t6,t7,t8,t9,t10,t11,t12,t13,t14,t15⟩=>by simp (maxSteps:=1000000) only [go_sem,Nat.reduceEqDiff,Nat.reduceAdd,Nat.reduceBEq,Int.reduceToNat]) (fun ⟨t0,t1,t2,t3,t4,t5,t6,t7,t8,t9,t10,t11,t12,t13,t14,t15⟩=>by simp (maxSteps:=1000000) only [go_sem,Nat.reduceEqDiff,Nat.reduceAdd,Nat.reduceBEq,Int.reduceToNat]) (xInsIns 900) [rdX 0 (xLU8 951) (xi 952)] (fun a:InsIns×Int=>p≤a.2∧a.2≤p+2∧True) (fun a=>mkEs [eInsIns 900 a.1,eLU8 951 b,eI 952 a.2]) ⟨(zInsIns,p),by simp<;>omega⟩ ?_
 · obtain ⟨a,h2,h3⟩:=key
   simp only [go_sem,Nat.reduceEqDiff,Nat.reduceAdd,Nat.reduceBEq,Int.reduceToNat] at h3
   exact ⟨a,h2,h3⟩
 conv=>arg 1;ext t;arg 3;cbv
 simp (maxSteps:=4000000) only [V.Ex,go_sem,Nat.reduceEqDiff,Nat.reduceAdd,Nat.reduceBEq,Int.reduceToNat]
 iterate 16 apply Exists.intro
 try dsimp +instances only
 repeat' (first|with_reducible apply And.intro|intro _)
 all_goals first|exact pick_e (b:=b) (by grind) (by grind)|(refine ⟨_,_,_,_,_,_,_,_,_,?_,rfl,rfl,rfl,rfl,rfl,rfl,rfl,rfl,rfl⟩;(repeat' (first|with_reducible apply And.intro|intro _));all_goals first|grind [wrapI]|grind (splits:=24) [wrapI]|exact sel_lo (by decide)|exact sel_hi (by decide)|(simp only [List.length_map,List.length_cons,List.length_nil];omega)|((repeat' split)<;>grind [wrapI]))|grind [wrapI]|grind (splits:=24) [wrapI]|exact sel_lo (by decide)|exact sel_hi (by decide)|(simp only [List.length_map,List.length_cons,List.length_nil];omega)|((repeat' split)<;>grind [wrapI])|exact (0:Int)
open Classical in
noncomputable def spoilF(b:List UInt8)(p:Int)(i:InsIns):InsIns×Int:=if h:0≤p∧p+2≤1000000000 then (spoil_x b p i.Op i.D i.A i.B i.Rel i.Lo i.Hi i.To h.1 h.2).choose else (zInsIns,p)
noncomputable def spoilV(b:List UInt8)(p:Int)(i:InsIns):InsIns:=(spoilF b p i).1
noncomputable def spoilP(b:List UInt8)(p:Int)(i:InsIns):Int:=(spoilF b p i).2
theorem spoil_e{b:List UInt8}{p:Int}{i0:Int}{i1:Int}{i2:Int}{i3:Int}{i4:Int}{i5:Int}{i6:Int}{i7:Int}(h0:0≤p)(h1:p+2≤1000000000):EC Tryz.prog 51 1 [.ptr 0 2 0 0,.agg [CI i0,CI i1,CI i2,CI i3,CI i4,CI i5,CI i6,CI i7]] (rdH b p) (.agg [CI (spoilV b p ⟨i0,i1,i2,i3,i4,i5,i6,i7⟩).Op,CI (spoilV b p ⟨i0,i1,i2,i3,i4,i5,i6,i7⟩).D,CI (spoilV b p ⟨i0,i1,i2,i3,i4,i5,i6,i7⟩).A,CI (spoilV b p ⟨i0,i1,i2,i3,i4,i5,i6,i7⟩).B,CI (spoilV b p ⟨i0,i1,i2,i3,i4,i5,i6,i7⟩).Rel,CI (spoilV b p ⟨i0,i1,i2,i3,i4,i5,i6,i7⟩).Lo,CI (spoilV b p ⟨i0,i1,i2,i3,i4,i5,i6,i7⟩).Hi,CI (spoilV b p ⟨i0,i1,i2,i3,i4,i5,i6,i7⟩).To]) (rdH b (spoilP b p ⟨i0,i1,i2,i3,i4,i5,i6,i7⟩)) 1:=by
 have:=(spoil_x b p i0 i1 i2 i3 i4 i5 i6 i7 h0 h1).choose_spec.2
 simp only [spoilV,spoilP,spoilF,dif_pos (show 0≤p∧p+2≤1000000000 from ⟨h0,h1⟩)];exact this
@[grind =] theorem spoil_i{b:List UInt8}{p:Int}{i0:Int}{i1:Int}{i2:Int}{i3:Int}{i4:Int}{i5:Int}{i6:Int}{i7:Int}:spoilP b p ⟨i0,i1,i2,i3,i4,i5,i6,i7⟩=max p (min (spoilP b p ⟨i0,i1,i2,i3,i4,i5,i6,i7⟩) (p+2)):=by
 simp only [spoilP,spoilF]
 split
 · rename_i h;have:=(spoil_x b p i0 i1 i2 i3 i4 i5 i6 i7 h.1 h.2).choose_spec.1;omega
 · omega
end Go.Proofs.YtjakhnhnjhafgaaGreat.Wk
namespace Go.Proofs.YtjakhnhnjhafgaaGreat.Wk
open Go Go.RowKit Go.Deep Ow
set_option maxRecDepth 100000
set_option maxHeartbeats 2000000 in
theorem loop_x(b:List UInt8)(p:Int)(h0:0≤p)(h1:p+10≤1000000000):∃a:PrcProc×Int,(p≤a.2∧a.2≤p+10∧1≤a.1.Code.length∧a.1.Code.length≤100)∧EC Tryz.prog 200 1 [.ptr 0 2 0 0] (rdH b p) (.agg [CI a.1.Lo,CI a.1.Hi,.d (.sl 8 (a.1.Code.map dInsIns))]) (rdH b a.2) 1:=by
 have key:=(seat [] []).PX (mkM true [1,1,4,67]) (f:=200) (fn:=Tryz.f200) (args:=[.ptr 0 2 0 0]) (h:=rdH b p) ⟨by kernel_rfl,by kernel_rfl,rfl⟩ (Nat.le_refl 1) (fun (t:Int×Int×Int×Int×Int×Int×Int×Int×Int×Int×Int×Int×Int×Int×Int×Int)=>match t with|⟨t0,t1,t2,t3,t4,t5,t6,t7,t8,t9,t10,t11,t12,t13,t14,t15⟩=>mkEs [eLU8 1 b,eI 2 p,eInt 112000 (pickV b t0 t1),eI 112201 (pickP b t0 t1),eInt 212000 (pickV b t2 t3),eI 212201 (pickP b t2 t3),eInt 312000 (pickV b t4 t5),eI 312201 (pickP b t4 t5),eInt 414000 (pickV b t6 t7),eI 414201 (pickP b t6 t7),eInt 421000 (pickV b t8 t9),eI 421201 (pickP b t8 t9),eInt 429000 (pickV b t10 t11),eI 429201 (pickP b t10 t11),eInt 713000 (pickV b t12 t13),eI 713201 (pickP b t12 t13),eInt 811000 (pickV b t14 t15),eI 811201 (pickP b t14 t15)]) [.ptr 0 2 (.int .i64 0) 0] [rdX 0 (xLU8 1) (xi 2)] (fun ⟨t0,t1,t2,t3,t4,t5,t6,t7,t8,t9,t10,t11,t12,t13,t14,t15⟩=>by simp (maxSteps:=1000000) only [go_sem,Nat.reduceEqDiff,Nat.reduceAdd,Nat.reduceBEq,Int.reduceToNat]) (fun ⟨t0,t1,t2,t3,t4,t5,t6,t7,t8,t9,t10,t11,t12,t13,t14,t15⟩=>by simp (maxSteps:=1000000) only [go_sem,Nat.reduceEqDiff,Nat.reduceAdd,Nat.reduceBEq,Int.reduceToNat]) (xPrcProc 900) [rdX 0 (xLU8 951) (xi 952)] (fun a:PrcProc×Int=>p≤a.2∧a.2≤p+10∧1≤a.1.Code.length∧a.1.Code.length≤100) (fun a=>mkEs [ePrcProc 900 a.1,eLU8 951 b,eI 952 a.2]) ⟨(⟨0,0,[zInsIns]⟩,p),by simp [zPrcProc]<;>omega⟩ ?_
 · obtain ⟨a,h2,h3⟩:=key
   simp only [go_sem,Nat.reduceEqDiff,Nat.reduceAdd,Nat.reduceBEq,Int.reduceToNat] at h3
   exact ⟨a,h2,h3⟩
 conv=>arg 1;ext t;arg 3;cbv
 simp (maxSteps:=4000000) only [V.Ex,go_sem,Nat.reduceEqDiff,Nat.reduceAdd,Nat.reduceBEq,Int.reduceToNat]
 iterate 16 apply Exists.intro
 try dsimp +instances only
 repeat' (first|with_reducible apply And.intro|intro _)
 all_goals first|exact pick_e (b:=b) (by grind) (by grind)|(refine ⟨_,_,_,_,?_,rfl,rfl,rfl,rfl⟩;(repeat' (first|with_reducible apply And.intro|intro _));all_goals first|grind [wrapI]|grind (splits:=24) [wrapI]|exact sel_lo (by decide)|exact sel_hi (by decide)|(simp only [List.length_map,List.length_cons,List.length_nil];omega)|((repeat' split)<;>grind [wrapI]))|grind [wrapI]|grind (splits:=24) [wrapI]|exact sel_lo (by decide)|exact sel_hi (by decide)|(simp only [List.length_map,List.length_cons,List.length_nil];omega)|((repeat' split)<;>grind [wrapI])|exact (0:Int)
open Classical in
noncomputable def loopF(b:List UInt8)(p:Int):PrcProc×Int:=if h:0≤p∧p+10≤1000000000 then (loop_x b p h.1 h.2).choose else (⟨0,0,[zInsIns]⟩,p)
noncomputable def loopV(b:List UInt8)(p:Int):PrcProc:=(loopF b p).1
noncomputable def loopP(b:List UInt8)(p:Int):Int:=(loopF b p).2
theorem loop_e{b:List UInt8}{p:Int}(h0:0≤p)(h1:p+10≤1000000000):EC Tryz.prog 200 1 [.ptr 0 2 0 0] (rdH b p) (.agg [CI (loopV b p).Lo,CI (loopV b p).Hi,.d (.sl 8 ((loopV b p).Code.map dInsIns))]) (rdH b (loopP b p)) 1:=by
 have:=(loop_x b p h0 h1).choose_spec.2
 simp only [loopV,loopP,loopF,dif_pos (show 0≤p∧p+10≤1000000000 from ⟨h0,h1⟩)];exact this
@[grind =] theorem loop_i{b:List UInt8}{p:Int}:loopP b p=max p (min (loopP b p) (p+10)):=by
 simp only [loopP,loopF]
 split
 · rename_i h;have:=(loop_x b p h.1 h.2).choose_spec.1;omega
 · omega
theorem loop_j{b:List UInt8}{p:Int}:1≤(loopV b p).Code.length∧(loopV b p).Code.length≤100:=by
 simp only [loopV,loopF]
 split
 · rename_i h;exact (loop_x b p h.1 h.2).choose_spec.1.2.2
 · simp [zPrcProc]<;>omega
end Go.Proofs.YtjakhnhnjhafgaaGreat.Wk
namespace Go.Proofs.YtjakhnhnjhafgaaGreat.Wk
open Go Go.RowKit Go.Deep Ow
set_option maxRecDepth 100000
set_option maxHeartbeats 2000000 in
theorem deep_x(b:List UInt8)(p:Int)(m:Int)(n:Int)(h0:0≤p)(h1:p+10≤1000000000):∃a:PrcProc×Int,(p≤a.2∧a.2≤p+10∧1≤a.1.Code.length∧a.1.Code.length≤100)∧EC Tryz.prog 201 1 [.ptr 0 2 0 0,CI m,CI n] (rdH b p) (.agg [CI a.1.Lo,CI a.1.Hi,.d (.sl 8 (a.1.Code.map dInsIns))]) (rdH b a.2) 1:=by
 have key:=(seat [] []).PX (mkM true [3,3,2,34]) (f:=201) (fn:=Tryz.f201) (args:=[.ptr 0 2 0 0,CI m,CI n]) (h:=rdH b p) ⟨by kernel_rfl,by kernel_rfl,rfl⟩ (Nat.le_refl 1) (fun (t:Int×Int×Int×Int×Int×Int×Int×Int)=>match t with|⟨t0,t1,t2,t3,t4,t5,t6,t7⟩=>mkEs [eLU8 1 b,eI 2 p,eInt 10 m,eInt 30 n,eInt 112000 (pickV b t0 t1),eI 112201 (pickP b t0 t1),eInt 217000 (pickV b t2 t3),eI 217201 (pickP b t2 t3),eInt 311000 (pickV b t4 t5),eI 311201 (pickP b t4 t5),eInt 414000 (pickV b t6 t7),eI 414201 (pickP b t6 t7)]) [.ptr 0 2 (.int .i64 0) 0,xInt 10,xInt 30] [rdX 0 (xLU8 1) (xi 2)] (fun ⟨t0,t1,t2,t3,t4,t5,t6,t7⟩=>by simp (maxSteps:=1000000) only [go_sem,Nat.reduceEqDiff,Nat.reduceAdd,Nat.reduceBEq,Int.reduceToNat]) (fun ⟨t0,t1,t2,t3,t4,t5,t6,t7⟩=>by simp (maxSteps:=1000000) only [go_sem,Nat.reduceEqDiff,Nat.reduceAdd,Nat.reduceBEq,Int.reduceToNat]) (xPrcProc 900) [rdX 0 (xLU8 951) (xi 952)] (fun a:PrcProc×Int=>p≤a.2∧a.2≤p+10∧1≤a.1.Code.length∧a.1.Code.length≤100) (fun a=>mkEs [ePrcProc 900 a.1,eLU8 951 b,eI 952 a.2]) ⟨(⟨0,0,[zInsIns]⟩,p),by simp [zPrcProc]<;>omega⟩ ?_
 · obtain ⟨a,h2,h3⟩:=key
   simp only [go_sem,Nat.reduceEqDiff,Nat.reduceAdd,Nat.reduceBEq,Int.reduceToNat] at h3
   exact ⟨a,h2,h3⟩
 conv=>arg 1;ext t;arg 3;cbv
 simp (maxSteps:=4000000) only [V.Ex,go_sem,Nat.reduceEqDiff,Nat.reduceAdd,Nat.reduceBEq,Int.reduceToNat]
 iterate 8 apply Exists.intro
 try dsimp +instances only
 repeat' (first|with_reducible apply And.intro|intro _)
 all_goals first|exact pick_e (b:=b) (by grind) (by grind)|(refine ⟨_,_,_,_,?_,rfl,rfl,rfl,rfl⟩;(repeat' (first|with_reducible apply And.intro|intro _));all_goals first|grind [wrapI]|grind (splits:=24) [wrapI]|exact sel_lo (by decide)|exact sel_hi (by decide)|(simp only [List.length_map,List.length_cons,List.length_nil];omega)|((repeat' split)<;>grind [wrapI]))|grind [wrapI]|grind (splits:=24) [wrapI]|exact sel_lo (by decide)|exact sel_hi (by decide)|(simp only [List.length_map,List.length_cons,List.length_nil];omega)|((repeat' split)<;>grind [wrapI])|exact (0:Int)
open Classical in
noncomputable def deepF(b:List UInt8)(p:Int)(m:Int)(n:Int):PrcProc×Int:=if h:0≤p∧p+10≤1000000000 then (deep_x b p m n h.1 h.2).choose else (⟨0,0,[zInsIns]⟩,p)
noncomputable def deepV(b:List UInt8)(p:Int)(m:Int)(n:Int):PrcProc:=(deepF b p m n).1
noncomputable def deepP(b:List UInt8)(p:Int)(m:Int)(n:Int):Int:=(deepF b p m n).2
theorem deep_e{b:List UInt8}{p:Int}{m:Int}{n:Int}(h0:0≤p)(h1:p+10≤1000000000):EC Tryz.prog 201 1 [.ptr 0 2 0 0,CI m,CI n] (rdH b p) (.agg [CI (deepV b p m n).Lo,CI (deepV b p m n).Hi,.d (.sl 8 ((deepV b p m n).Code.map dInsIns))]) (rdH b (deepP b p m n)) 1:=by
 have:=(deep_x b p m n h0 h1).choose_spec.2
 simp only [deepV,deepP,deepF,dif_pos (show 0≤p∧p+10≤1000000000 from ⟨h0,h1⟩)];exact this
@[grind =] theorem deep_i{b:List UInt8}{p:Int}{m:Int}{n:Int}:deepP b p m n=max p (min (deepP b p m n) (p+10)):=by
 simp only [deepP,deepF]
 split
 · rename_i h;have:=(deep_x b p m n h.1 h.2).choose_spec.1;omega
 · omega
theorem deep_j{b:List UInt8}{p:Int}{m:Int}{n:Int}:1≤(deepV b p m n).Code.length∧(deepV b p m n).Code.length≤100:=by
 simp only [deepV,deepF]
 split
 · rename_i h;exact (deep_x b p m n h.1 h.2).choose_spec.1.2.2
 · simp [zPrcProc]<;>omega
end Go.Proofs.YtjakhnhnjhafgaaGreat.Wk
