/- A part of the proof. -/
import Derived.Test.YtjakhnhnjhafgaaGreatK41
import Derived.Test.YtjakhnhnjhafgaaGreatK40
set_option linter.unusedVariables false
set_option linter.unusedSimpArgs false
namespace Go.Proofs.YtjakhnhnjhafgaaGreat.Wk
open Go Go.RowKit Go.Deep Ow
set_option maxRecDepth 100000
set_option maxHeartbeats 2000000 in
theorem calls_x(b:List UInt8)(p:Int)(m:Int)(h0:0≤p)(h1:p+20≤1000000000):∃a:PrcProc×Int,(p≤a.2∧a.2≤p+20∧1≤a.1.Code.length∧a.1.Code.length≤100)∧EC Tryz.prog 202 1 [.ptr 0 2 0 0,CI m] (rdH b p) (.agg [CI a.1.Lo,CI a.1.Hi,.d (.sl 8 (a.1.Code.map dInsIns))]) (rdH b a.2) 1:=by
 have key:=(seat [] [218]).PL (mkM true [2,2,3,36]) (f:=202) (fn:=Tryz.f202) (args:=[.ptr 0 2 0 0,CI m]) (h:=rdH b p) ⟨by kernel_rfl,by kernel_rfl,rfl⟩ (Nat.le_refl 1) (fun (t:Int×Int×Int×Int×Int)=>match t with|⟨t0,t1,t2,t3,hi⟩=>mkEs [eLU8 1 b,eI 2 p,eInt 10 m,eInt 111000 (pickV b t0 t1),eI 111201 (pickP b t0 t1),eInt 211000 (pickV b t2 t3),eI 211201 (pickP b t2 t3)]) (fun (t:Int×Int×Int×Int×Int)=>match t with|⟨t0,t1,t2,t3,hi⟩=>(consL ⟨Int×Int×List InsIns,fun _ x=>match x with|⟨k,q,l⟩=>0≤k∧k≤1+pickV b t2 t3∧k+l.length=1+pickV b t2 t3∧p≤q∧q+2*k=p+4+2*pickV b t2 t3,fun _ x=>match x with|⟨k,q,l⟩=>mkEs [eI 1 k,eI 2 q,eLInsIns 3 l,eInt 513000 (pickV b q 3),eI 513201 (q+1),eInt 517000 (pickV b (q+1) m),eI 517201 (q+1+1),eInt 611000 (pickV b q 2),eI 611201 (q+1),eInt 812000 (pickV b (q+1) 4),eI 812201 (q+1+1),ePrcProc 814000 ⟨0,hi,(if (pickV b q 2==0)=true then l++[⟨11,0,0,1,2,0,0,0⟩] else l)++[⟨12,0,pickV b (q+1) 4,0,0,0,0,0⟩]⟩],fun _ x=>match x with|⟨k,q,l⟩=>k.toNat⟩ noLps)) [(0,fun s=>(0,(((s.kl (mkM true [2,2,3,36])).upd [(6,xi 100000001)]).cell 0 0 1 (xi 100000002)).own ((s.kl (mkM true [2,2,3,36])).at_ 5) 0 2 kInsIns (.rws kInsIns 100000003 .nil)))] [.ptr 0 2 (.int .i64 0) 0,xInt 10] [rdX 0 (xLU8 1) (xi 2)] (fun ⟨t0,t1,t2,t3,hi⟩=>by simp (maxSteps:=1000000) only [go_sem,Nat.reduceEqDiff,Nat.reduceAdd,Nat.reduceBEq,Int.reduceToNat]) (fun ⟨t0,t1,t2,t3,hi⟩=>by simp (maxSteps:=1000000) only [go_sem,Nat.reduceEqDiff,Nat.reduceAdd,Nat.reduceBEq,Int.reduceToNat]) (xPrcProc 900) [rdX 0 (xLU8 951) (xi 952)] (fun a:PrcProc×Int=>p≤a.2∧a.2≤p+20∧1≤a.1.Code.length∧a.1.Code.length≤100) (fun a=>mkEs [ePrcProc 900 a.1,eLU8 951 b,eI 952 a.2]) ⟨(⟨0,0,[zInsIns]⟩,p),by simp [zPrcProc]<;>omega⟩ ?_
 · obtain ⟨a,h2,h3⟩:=key
   simp only [go_sem,Nat.reduceEqDiff,Nat.reduceAdd,Nat.reduceBEq,Int.reduceToNat] at h3
   exact ⟨a,h2,h3⟩
 conv=>arg 1;ext t;arg 4;cbv
 simp (maxSteps:=4000000) only [V.ExL,lput,consL,go_sem,Nat.reduceEqDiff,Nat.reduceAdd,Nat.reduceBEq,Int.reduceToNat,Nat.reduceDiv,Nat.reduceMod]
 iterate 5 apply Exists.intro
 try dsimp +instances only
 repeat' (first|with_reducible apply And.intro|intro _)
 all_goals first|exact pick_e (b:=b) (by grind) (by grind)|exact end_e (by grind) (by grind)|(refine ⟨_,_,_,_,?_,rfl,rfl,rfl,rfl⟩;(repeat' (first|with_reducible apply And.intro|intro _));all_goals first|grind [wrapI]|grind (splits:=24) [wrapI]|exact sel_lo (by decide)|exact sel_hi (by decide)|(simp only [List.length_map,List.length_cons,List.length_nil];omega)|((repeat' split)<;>grind [wrapI]))|((repeat (with_reducible apply Exists.intro));(refine And.intro ?_ ?_);rotate_left;(repeat' (first|with_reducible exact rfl|with_reducible apply And.intro));all_goals (first|grind [wrapI]|grind (splits:=24) [wrapI]|exact sel_lo (by decide)|exact sel_hi (by decide)|(simp only [List.length_map,List.length_cons,List.length_nil];omega)|((repeat' split)<;>grind [wrapI])|((repeat' (first|with_reducible apply And.intro|intro _));all_goals first|grind [wrapI]|grind (splits:=24) [wrapI]|exact sel_lo (by decide)|exact sel_hi (by decide)|(simp only [List.length_map,List.length_cons,List.length_nil];omega)|((repeat' split)<;>grind [wrapI]))))|grind [wrapI]|grind (splits:=24) [wrapI]|exact sel_lo (by decide)|exact sel_hi (by decide)|(simp only [List.length_map,List.length_cons,List.length_nil];omega)|((repeat' split)<;>grind [wrapI])|exact (0:Int)
open Classical in
noncomputable def callsF(b:List UInt8)(p:Int)(m:Int):PrcProc×Int:=if h:0≤p∧p+20≤1000000000 then (calls_x b p m h.1 h.2).choose else (⟨0,0,[zInsIns]⟩,p)
noncomputable def callsV(b:List UInt8)(p:Int)(m:Int):PrcProc:=(callsF b p m).1
noncomputable def callsP(b:List UInt8)(p:Int)(m:Int):Int:=(callsF b p m).2
theorem calls_e{b:List UInt8}{p:Int}{m:Int}(h0:0≤p)(h1:p+20≤1000000000):EC Tryz.prog 202 1 [.ptr 0 2 0 0,CI m] (rdH b p) (.agg [CI (callsV b p m).Lo,CI (callsV b p m).Hi,.d (.sl 8 ((callsV b p m).Code.map dInsIns))]) (rdH b (callsP b p m)) 1:=by
 have:=(calls_x b p m h0 h1).choose_spec.2
 simp only [callsV,callsP,callsF,dif_pos (show 0≤p∧p+20≤1000000000 from ⟨h0,h1⟩)];exact this
@[grind =] theorem calls_i{b:List UInt8}{p:Int}{m:Int}:callsP b p m=max p (min (callsP b p m) (p+20)):=by
 simp only [callsP,callsF]
 split
 · rename_i h;have:=(calls_x b p m h.1 h.2).choose_spec.1;omega
 · omega
theorem calls_j{b:List UInt8}{p:Int}{m:Int}:1≤(callsV b p m).Code.length∧(callsV b p m).Code.length≤100:=by
 simp only [callsV,callsF]
 split
 · rename_i h;exact (calls_x b p m h.1 h.2).choose_spec.1.2.2
 · simp [zPrcProc]<;>omega
end Go.Proofs.YtjakhnhnjhafgaaGreat.Wk
namespace Go.Proofs.YtjakhnhnjhafgaaGreat.Wk
open Go Go.RowKit Go.Deep Ow
set_option maxRecDepth 100000
set_option maxHeartbeats 2000000 in
theorem any_x(b:List UInt8)(p:Int)(m:Int)(n:Int)(h0:0≤p)(h1:p+510≤1000000000):∃a:PrcProc×Int,(p≤a.2∧a.2≤p+510∧1≤a.1.Code.length∧a.1.Code.length≤100)∧EC Tryz.prog 166 1 [.ptr 0 2 0 0,CI m,CI n] (rdH b p) (.agg [CI a.1.Lo,CI a.1.Hi,.d (.sl 8 (a.1.Code.map dInsIns))]) (rdH b a.2) 1:=by
 have key:=(seat [] []).PX (mkM true []) (f:=166) (fn:=Tryz.f166) (args:=[.ptr 0 2 0 0,CI m,CI n]) (h:=rdH b p) ⟨by kernel_rfl,by kernel_rfl,rfl⟩ (Nat.le_refl 1) (fun (t:Int×Int×Int×Int×Int×Int×Int×Int×Int×Int×Int×Int)=>match t with|⟨t0,t1,t2,t3,t4,t5,t6,t7,t8,t9,t10,t11⟩=>mkEs [eLU8 1 b,eI 2 p,eInt 10 m,eInt 30 n,eInt 111000 (pickV b t0 t1),eI 111201 (pickP b t0 t1),ePrcProc 311000 (loopV b t2),eI 311201 (loopP b t2),eInt 514000 (pickV b t3 t4),eI 514201 (pickP b t3 t4),ePrcProc 515000 (deepV b t5 t6 t7),eI 515201 (deepP b t5 t6 t7),ePrcProc 712000 (callsV b t8 t9),eI 712201 (callsP b t8 t9),ePrcProc 812000 (procV b t10 t11),eI 812201 (procP b t10 t11)]) [.ptr 0 2 (.int .i64 0) 0,xInt 10,xInt 30] [rdX 0 (xLU8 1) (xi 2)] (fun ⟨t0,t1,t2,t3,t4,t5,t6,t7,t8,t9,t10,t11⟩=>by simp (maxSteps:=1000000) only [go_sem,Nat.reduceEqDiff,Nat.reduceAdd,Nat.reduceBEq,Int.reduceToNat]) (fun ⟨t0,t1,t2,t3,t4,t5,t6,t7,t8,t9,t10,t11⟩=>by simp (maxSteps:=1000000) only [go_sem,Nat.reduceEqDiff,Nat.reduceAdd,Nat.reduceBEq,Int.reduceToNat]) (xPrcProc 900) [rdX 0 (xLU8 951) (xi 952)] (fun a:PrcProc×Int=>p≤a.2∧a.2≤p+510∧1≤a.1.Code.length∧a.1.Code.length≤100) (fun a=>mkEs [ePrcProc 900 a.1,eLU8 951 b,eI 952 a.2]) ⟨(⟨0,0,[zInsIns]⟩,p),by simp [zPrcProc]<;>omega⟩ ?_
 · obtain ⟨a,h2,h3⟩:=key
   simp only [go_sem,Nat.reduceEqDiff,Nat.reduceAdd,Nat.reduceBEq,Int.reduceToNat] at h3
   exact ⟨a,h2,h3⟩
 conv=>arg 1;ext t;arg 3;cbv
 simp (maxSteps:=4000000) only [V.Ex,go_sem,Nat.reduceEqDiff,Nat.reduceAdd,Nat.reduceBEq,Int.reduceToNat]
 iterate 12 apply Exists.intro
 try dsimp +instances only
 repeat' (first|with_reducible apply And.intro|intro _)
 all_goals first|exact pick_e (b:=b) (by grind) (by grind)|exact loop_e (b:=b) (by grind) (by grind)|exact deep_e (b:=b) (by grind) (by grind)|exact calls_e (b:=b) (by grind) (by grind)|exact proc_e (b:=b) (by grind) (by grind)|(refine ⟨_,_,_,_,?_,rfl,rfl,rfl,rfl⟩;(repeat' (first|with_reducible apply And.intro|intro _));all_goals first|grind [wrapI,loop_j,deep_j,calls_j,proc_j]|grind (splits:=24) [wrapI,loop_j,deep_j,calls_j,proc_j]|exact sel_lo (by decide)|exact sel_hi (by decide)|(simp only [List.length_map,List.length_cons,List.length_nil];omega)|((repeat' split)<;>grind [wrapI,loop_j,deep_j,calls_j,proc_j]))|grind [wrapI,loop_j,deep_j,calls_j,proc_j]|grind (splits:=24) [wrapI,loop_j,deep_j,calls_j,proc_j]|exact sel_lo (by decide)|exact sel_hi (by decide)|(simp only [List.length_map,List.length_cons,List.length_nil];omega)|((repeat' split)<;>grind [wrapI,loop_j,deep_j,calls_j,proc_j])|exact (0:Int)
open Classical in
noncomputable def anyF(b:List UInt8)(p:Int)(m:Int)(n:Int):PrcProc×Int:=if h:0≤p∧p+510≤1000000000 then (any_x b p m n h.1 h.2).choose else (⟨0,0,[zInsIns]⟩,p)
noncomputable def anyV(b:List UInt8)(p:Int)(m:Int)(n:Int):PrcProc:=(anyF b p m n).1
noncomputable def anyP(b:List UInt8)(p:Int)(m:Int)(n:Int):Int:=(anyF b p m n).2
theorem any_e{b:List UInt8}{p:Int}{m:Int}{n:Int}(h0:0≤p)(h1:p+510≤1000000000):EC Tryz.prog 166 1 [.ptr 0 2 0 0,CI m,CI n] (rdH b p) (.agg [CI (anyV b p m n).Lo,CI (anyV b p m n).Hi,.d (.sl 8 ((anyV b p m n).Code.map dInsIns))]) (rdH b (anyP b p m n)) 1:=by
 have:=(any_x b p m n h0 h1).choose_spec.2
 simp only [anyV,anyP,anyF,dif_pos (show 0≤p∧p+510≤1000000000 from ⟨h0,h1⟩)];exact this
@[grind =] theorem any_i{b:List UInt8}{p:Int}{m:Int}{n:Int}:anyP b p m n=max p (min (anyP b p m n) (p+510)):=by
 simp only [anyP,anyF]
 split
 · rename_i h;have:=(any_x b p m n h.1 h.2).choose_spec.1;omega
 · omega
theorem any_j{b:List UInt8}{p:Int}{m:Int}{n:Int}:1≤(anyV b p m n).Code.length∧(anyV b p m n).Code.length≤100:=by
 simp only [anyV,anyF]
 split
 · rename_i h;exact (any_x b p m n h.1 h.2).choose_spec.1.2.2
 · simp [zPrcProc]<;>omega
end Go.Proofs.YtjakhnhnjhafgaaGreat.Wk
namespace Go.Proofs.YtjakhnhnjhafgaaGreat.Wk
open Go Go.RowKit Go.Deep Ow
set_option maxRecDepth 100000
theorem selN(i:Int):sel [1,2,2,3,4,3] i=max 0 (min (sel [1,2,2,3,4,3] i) 4):=by
 have h1:0≤sel [1,2,2,3,4,3] i:=sel_lo (by decide)
 have h2:sel [1,2,2,3,4,3] i≤4:=sel_hi (by decide)
 omega
theorem selN1(i:Int)(h0:0≤i)(h:i<6):1≤sel [1,2,2,3,4,3] i:=by
 have:i=0∨i=1∨i=2∨i=3∨i=4∨i=5:=by omega
 rcases this with rfl|rfl|rfl|rfl|rfl|rfl<;>decide
set_option maxHeartbeats 2000000 in
theorem prog_x(b:List UInt8)(p:Int)(h0:0≤p)(h1:p+2100≤1000000000):∃a:PrgProg×Int,(p≤a.2∧a.2≤p+2100∧1≤a.1.Procs.length∧a.1.Procs.length≤4∧∀c∈a.1.Procs,1≤c.Code.length∧c.Code.length≤100)∧EC Tryz.prog 111 1 [.ptr 0 2 0 0] (rdH b p) (.agg [.osl 1 3 0 a.1.Procs.length]) (rdH b a.2++[(1,.c 3 (a.1.Procs.map (fun x=>(dPrcProc x).map C.d)))]) 2:=by
 have key:=(seat [] []).PL (mkM true [1,1,4,21]) (f:=111) (fn:=Tryz.f111) (args:=[.ptr 0 2 0 0]) (h:=rdH b p) ⟨by kernel_rfl,by kernel_rfl,rfl⟩ (show (1:Nat)≤2 by decide) (fun (t:Int×Int)=>match t with|⟨t0,t1⟩=>mkEs [eLU8 1 b,eI 2 p,eInt 112000 (pickV b t0 t1),eI 112201 (pickP b t0 t1)]) (fun (t:Int×Int)=>match t with|⟨t0,t1⟩=>(consL ⟨Int×Int×List PrcProc,fun _ x=>match x with|⟨k,q,l⟩=>0≤k∧k≤sel [1,2,2,3,4,3] (pickV b t0 t1)∧k=l.length∧p≤q∧q≤p+1+510*k∧∀c∈l,1≤c.Code.length∧c.Code.length≤100,fun _ x=>match x with|⟨k,q,l⟩=>mkEs [eI 1 k,eI 2 q,eLPrcProc 3 l,ePrcProc 615000 (anyV b q k (sel [1,2,2,3,4,3] (pickV b t0 t1))),eI 615201 (anyP b q k (sel [1,2,2,3,4,3] (pickV b t0 t1)))],fun _ x=>match x with|⟨k,q,l⟩=>(5-k).toNat⟩ noLps)) [(0,fun s=>(0,((((s.kl (mkM true [1,1,4,21])).upd [(5,xi 100000001)]).cell 0 0 1 (xi 100000002)).own ((s.kl (mkM true [1,1,4,21])).at_ 4) 0 0 kPrcProc (.rws kPrcProc 100000003 .nil)).gc 1))] [.ptr 0 2 (.int .i64 0) 0] [rdX 0 (xLU8 1) (xi 2)] (fun ⟨t0,t1⟩=>by simp (maxSteps:=1000000) only [go_sem,Nat.reduceEqDiff,Nat.reduceAdd,Nat.reduceBEq,Int.reduceToNat]) (fun ⟨t0,t1⟩=>by simp (maxSteps:=1000000) only [go_sem,Nat.reduceEqDiff,Nat.reduceAdd,Nat.reduceBEq,Int.reduceToNat]) (.agg (.cons (.osl 1 3 (.int .i64 0) (.rln (.rws kPrcProc 900 .nil))) .nil)) [rdX 0 (xLU8 951) (xi 952),⟨1,kPrcProc,.rws kPrcProc 900 .nil⟩] (fun a:PrgProg×Int=>p≤a.2∧a.2≤p+2100∧1≤a.1.Procs.length∧a.1.Procs.length≤4∧∀c∈a.1.Procs,1≤c.Code.length∧c.Code.length≤100) (fun a=>mkEs [ePrgProg 900 a.1,eLU8 951 b,eI 952 a.2]) ⟨(⟨[⟨0,0,[zInsIns]⟩]⟩,p),by simp [zPrgProg]<;>omega⟩ ?_
 · obtain ⟨a,h2,h3⟩:=key
   simp only [go_sem,Nat.reduceEqDiff,Nat.reduceAdd,Nat.reduceBEq,Int.reduceToNat] at h3
   exact ⟨a,h2,h3⟩
 conv=>arg 1;ext t;arg 4;cbv
 simp (maxSteps:=4000000) only [V.ExL,lput,consL,go_sem,Nat.reduceEqDiff,Nat.reduceAdd,Nat.reduceBEq,Int.reduceToNat,Nat.reduceDiv,Nat.reduceMod]
 iterate 2 apply Exists.intro
 try dsimp +instances only
 repeat' (first|with_reducible apply And.intro|intro _)
 all_goals first|exact pick_e (b:=b) (by grind) (by grind)|exact any_e (b:=b) (by grind) (by grind)|(refine ⟨_,_,?_,rfl,rfl⟩;(repeat' (first|with_reducible apply And.intro|intro _));all_goals first|grind [wrapI,selN,selN1,any_j]|grind (splits:=24) [wrapI,selN,selN1,any_j]|exact sel_lo (by decide)|exact sel_hi (by decide)|(simp only [List.length_map,List.length_cons,List.length_nil];omega)|((repeat' split)<;>grind [wrapI,selN,selN1,any_j]))|((repeat (with_reducible apply Exists.intro));(refine And.intro ?_ ?_);rotate_left;(repeat' (first|with_reducible exact rfl|with_reducible apply And.intro));all_goals (first|grind [wrapI,selN,selN1,any_j]|grind (splits:=24) [wrapI,selN,selN1,any_j]|exact sel_lo (by decide)|exact sel_hi (by decide)|(simp only [List.length_map,List.length_cons,List.length_nil];omega)|((repeat' split)<;>grind [wrapI,selN,selN1,any_j])|((repeat' (first|with_reducible apply And.intro|intro _));all_goals first|grind [wrapI,selN,selN1,any_j]|grind (splits:=24) [wrapI,selN,selN1,any_j]|exact sel_lo (by decide)|exact sel_hi (by decide)|(simp only [List.length_map,List.length_cons,List.length_nil];omega)|((repeat' split)<;>grind [wrapI,selN,selN1,any_j]))))|grind [wrapI,selN,selN1,any_j]|grind (splits:=24) [wrapI,selN,selN1,any_j]|exact sel_lo (by decide)|exact sel_hi (by decide)|(simp only [List.length_map,List.length_cons,List.length_nil];omega)|((repeat' split)<;>grind [wrapI,selN,selN1,any_j])|exact (0:Int)
open Classical in
noncomputable def progF(b:List UInt8)(p:Int):PrgProg×Int:=if h:0≤p∧p+2100≤1000000000 then (prog_x b p h.1 h.2).choose else (⟨[⟨0,0,[zInsIns]⟩]⟩,p)
noncomputable def progV(b:List UInt8)(p:Int):PrgProg:=(progF b p).1
noncomputable def progP(b:List UInt8)(p:Int):Int:=(progF b p).2
theorem prog_e{b:List UInt8}{p:Int}(h0:0≤p)(h1:p+2100≤1000000000):EC Tryz.prog 111 1 [.ptr 0 2 0 0] (rdH b p) (.agg [.osl 1 3 0 (progV b p).Procs.length]) (rdH b (progP b p)++[(1,.c 3 ((progV b p).Procs.map (fun x=>(dPrcProc x).map C.d)))]) 2:=by
 have:=(prog_x b p h0 h1).choose_spec.2
 simp only [progV,progP,progF,dif_pos (show 0≤p∧p+2100≤1000000000 from ⟨h0,h1⟩)];exact this
@[grind =] theorem prog_i{b:List UInt8}{p:Int}:progP b p=max p (min (progP b p) (p+2100)):=by
 simp only [progP,progF]
 split
 · rename_i h;have:=(prog_x b p h.1 h.2).choose_spec.1;omega
 · omega
theorem prog_j{b:List UInt8}{p:Int}:1≤(progV b p).Procs.length∧(progV b p).Procs.length≤4∧∀c∈(progV b p).Procs,1≤c.Code.length∧c.Code.length≤100:=by
 simp only [progV,progF]
 split
 · rename_i h;exact (prog_x b p h.1 h.2).choose_spec.1.2.2
 · simp [zPrgProg]<;>omega
end Go.Proofs.YtjakhnhnjhafgaaGreat.Wk
