/- A part of the proof. -/
import Derived.Test.YtjakhnhnjhafgaaGreatK43
import Derived.Test.YtjakhnhnjhafgaaGreatK44
set_option linter.unusedVariables false
set_option linter.unusedSimpArgs false
namespace Go.Proofs.YtjakhnhnjhafgaaGreat.Wk
open Go Go.RowKit Go.Deep Ow
set_option maxRecDepth 100000
set_option maxHeartbeats 2000000 in
theorem sum1_x(b:List UInt8)(p:Int)(n:Int)(h0:0≤p)(h1:p+30≤1000000000):∃a:SumSum×Int,(p≤a.2∧a.2≤p+30∧True)∧EC Tryz.prog 147 1 [.ptr 0 2 0 0,CI n] (rdH b p) (.agg [CB a.1.On,CI a.1.Out.Lo,CI a.1.Out.Hi]) (rdH b a.2) 1:=by
 have key:=(seat [] []).PX (mkM true []) (f:=147) (fn:=Tryz.f147) (args:=[.ptr 0 2 0 0,CI n]) (h:=rdH b p) ⟨by kernel_rfl,by kernel_rfl,rfl⟩ (Nat.le_refl 1) (fun (t:Int×Int×Int×Int×Int×Int×Int×Int)=>match t with|⟨t0,t1,t2,t3,t4,t5,t6,t7⟩=>mkEs [eLU8 1 b,eI 2 p,eInt 10 n,eBool 112000 (oddV b t0 t1),eI 112201 (oddP b t0 t1),eInt 211000 (pickV b t2 t3),eI 211201 (pickP b t2 t3),eInt 311000 (pickV b t4 t5),eI 311201 (pickP b t4 t5),eItvItv 511000 (itvV b t6 t7),eI 511201 (itvP b t6 t7)]) [.ptr 0 2 (.int .i64 0) 0,xInt 10] [rdX 0 (xLU8 1) (xi 2)] (fun ⟨t0,t1,t2,t3,t4,t5,t6,t7⟩=>by simp (maxSteps:=1000000) only [go_sem,Nat.reduceEqDiff,Nat.reduceAdd,Nat.reduceBEq,Int.reduceToNat]) (fun ⟨t0,t1,t2,t3,t4,t5,t6,t7⟩=>by simp (maxSteps:=1000000) only [go_sem,Nat.reduceEqDiff,Nat.reduceAdd,Nat.reduceBEq,Int.reduceToNat]) (xSumSum 900) [rdX 0 (xLU8 951) (xi 952)] (fun a:SumSum×Int=>p≤a.2∧a.2≤p+30∧True) (fun a=>mkEs [eSumSum 900 a.1,eLU8 951 b,eI 952 a.2]) ⟨(zSumSum,p),by simp<;>omega⟩ ?_
 · obtain ⟨a,h2,h3⟩:=key
   simp only [go_sem,Nat.reduceEqDiff,Nat.reduceAdd,Nat.reduceBEq,Int.reduceToNat] at h3
   exact ⟨a,h2,h3⟩
 conv=>arg 1;ext t;arg 3;cbv
 simp (maxSteps:=4000000) only [V.Ex,go_sem,Nat.reduceEqDiff,Nat.reduceAdd,Nat.reduceBEq,Int.reduceToNat]
 iterate 8 apply Exists.intro
 try dsimp +instances only
 repeat' (first|with_reducible apply And.intro|intro _)
 all_goals first|exact odd_e (b:=b) (by grind) (by grind)|exact pick_e (b:=b) (by grind) (by grind)|exact itv_e (b:=b) (by grind) (by grind)|(refine ⟨_,_,_,_,?_,rfl,rfl,rfl,rfl⟩;(repeat' (first|with_reducible apply And.intro|intro _));all_goals first|grind [wrapI]|grind (splits:=24) [wrapI]|exact sel_lo (by decide)|exact sel_hi (by decide)|(simp only [List.length_map,List.length_cons,List.length_nil];omega)|((repeat' split)<;>grind [wrapI]))|grind [wrapI]|grind (splits:=24) [wrapI]|exact sel_lo (by decide)|exact sel_hi (by decide)|(simp only [List.length_map,List.length_cons,List.length_nil];omega)|((repeat' split)<;>grind [wrapI])|exact (0:Int)
open Classical in
noncomputable def sum1F(b:List UInt8)(p:Int)(n:Int):SumSum×Int:=if h:0≤p∧p+30≤1000000000 then (sum1_x b p n h.1 h.2).choose else (zSumSum,p)
noncomputable def sum1V(b:List UInt8)(p:Int)(n:Int):SumSum:=(sum1F b p n).1
noncomputable def sum1P(b:List UInt8)(p:Int)(n:Int):Int:=(sum1F b p n).2
theorem sum1_e{b:List UInt8}{p:Int}{n:Int}(h0:0≤p)(h1:p+30≤1000000000):EC Tryz.prog 147 1 [.ptr 0 2 0 0,CI n] (rdH b p) (.agg [CB (sum1V b p n).On,CI (sum1V b p n).Out.Lo,CI (sum1V b p n).Out.Hi]) (rdH b (sum1P b p n)) 1:=by
 have:=(sum1_x b p n h0 h1).choose_spec.2
 simp only [sum1V,sum1P,sum1F,dif_pos (show 0≤p∧p+30≤1000000000 from ⟨h0,h1⟩)];exact this
@[grind =] theorem sum1_i{b:List UInt8}{p:Int}{n:Int}:sum1P b p n=max p (min (sum1P b p n) (p+30)):=by
 simp only [sum1P,sum1F]
 split
 · rename_i h;have:=(sum1_x b p n h.1 h.2).choose_spec.1;omega
 · omega
set_option maxHeartbeats 2000000 in
theorem sums_x(b:List UInt8)(p:Int)(pr0:List PrcProc)(n:Int)(h0:0≤p)(h1:p+300≤1000000000)(hp:pr0.length≤5):∃a:(List SumSum)×Int,(p≤a.2∧a.2≤p+300∧True)∧EC Tryz.prog 96 1 [.ptr 0 2 0 0,.agg [.d (.sl 3 (pr0.map dPrcProc))],CI n] (rdH b p) (.osl 1 3 0 a.1.length) (rdH b a.2++[(1,.c 3 (a.1.map (fun x=>(dSumSum x).map C.d)))]) 2:=by
 have key:=(seat [] []).PL (mkM true [3,1,1,1,3,35]) (f:=96) (fn:=Tryz.f96) (args:=[.ptr 0 2 0 0,.agg [.d (.sl 3 (pr0.map dPrcProc))],CI n]) (h:=rdH b p) ⟨by kernel_rfl,by kernel_rfl,rfl⟩ (show (1:Nat)≤2 by decide) (fun (_:Unit)=>mkEs [eLU8 1 b,eI 2 p,ePrgProg 10 ⟨pr0⟩,eInt 30 n]) (fun _=>(consL ⟨Int×Int×List SumSum,fun _ x=>match x with|⟨k,q,l⟩=>0≤k∧k≤pr0.length∧k=l.length∧p≤q∧q≤p+30*k,fun _ x=>match x with|⟨k,q,l⟩=>mkEs [eI 1 k,eI 2 q,eLSumSum 3 l,eSumSum 512000 (sum1V b q 99999),eI 512201 (sum1P b q 99999),eB 612000 (oddV b q n),eI 612201 (oddP b q n),eInt 711000 (pickV b (oddP b q n) 2),eI 711201 (oddP b q n+1),eInt 1014000 (pickV b (oddP b q n+1) l.length),eI 1014201 (oddP b q n+1+1),eSumSum 1016000 (sum1V b (oddP b q n+1+1) 1),eI 1016201 (sum1P b (oddP b q n+1+1) 1)],fun _ x=>match x with|⟨k,q,l⟩=>(pr0.length-k).toNat⟩ noLps)) [(0,fun s=>(0,((((s.kl (mkM true [3,1,1,1,3,35])).upd [(8,xi 100000001)]).cell 0 0 1 (xi 100000002)).grow ((s.kl (mkM true [3,1,1,1,3,35])).at_ 7) (.rws kSumSum 100000003 .nil))))] [.ptr 0 2 (.int .i64 0) 0,xPrgProg 10,xInt 30] [rdX 0 (xLU8 1) (xi 2)] (fun _=>by simp (maxSteps:=1000000) only [go_sem,Nat.reduceEqDiff,Nat.reduceAdd,Nat.reduceBEq,Int.reduceToNat]) (fun _=>by simp (maxSteps:=1000000) only [go_sem,Nat.reduceEqDiff,Nat.reduceAdd,Nat.reduceBEq,Int.reduceToNat]) (.osl 1 3 (.int .i64 0) (.rln (.rws kSumSum 900 .nil))) [rdX 0 (xLU8 951) (xi 952),⟨1,kSumSum,.rws kSumSum 900 .nil⟩] (fun a:(List SumSum)×Int=>p≤a.2∧a.2≤p+300∧True) (fun a=>mkEs [eLSumSum 900 a.1,eLU8 951 b,eI 952 a.2]) ⟨([],p),by simp<;>omega⟩ ?_
 · obtain ⟨a,h2,h3⟩:=key
   simp only [go_sem,Nat.reduceEqDiff,Nat.reduceAdd,Nat.reduceBEq,Int.reduceToNat] at h3
   exact ⟨a,h2,h3⟩
 conv=>arg 1;ext t;arg 4;cbv
 simp (maxSteps:=4000000) only [V.ExL,lput,consL,go_sem,Nat.reduceEqDiff,Nat.reduceAdd,Nat.reduceBEq,Int.reduceToNat,Nat.reduceDiv,Nat.reduceMod]
 refine ⟨(),?_⟩
 try dsimp +instances only
 repeat' (first|with_reducible apply And.intro|intro _)
 all_goals first|exact sum1_e (b:=b) (by grind) (by grind)|exact odd_e (b:=b) (by grind) (by grind)|exact pick_e (b:=b) (by grind) (by grind)|(refine ⟨_,_,?_,rfl,rfl⟩;(repeat' (first|with_reducible apply And.intro|intro _));all_goals first|grind [wrapI]|grind (splits:=24) [wrapI]|exact sel_lo (by decide)|exact sel_hi (by decide)|(simp only [List.length_map,List.length_cons,List.length_nil];omega)|((repeat' split)<;>grind [wrapI]))|((repeat (with_reducible apply Exists.intro));(refine And.intro ?_ ?_);rotate_left;(repeat' (first|with_reducible exact rfl|with_reducible apply And.intro));all_goals (first|grind [wrapI]|grind (splits:=24) [wrapI]|exact sel_lo (by decide)|exact sel_hi (by decide)|(simp only [List.length_map,List.length_cons,List.length_nil];omega)|((repeat' split)<;>grind [wrapI])|((repeat' (first|with_reducible apply And.intro|intro _));all_goals first|grind [wrapI]|grind (splits:=24) [wrapI]|exact sel_lo (by decide)|exact sel_hi (by decide)|(simp only [List.length_map,List.length_cons,List.length_nil];omega)|((repeat' split)<;>grind [wrapI]))))|grind [wrapI]|grind (splits:=24) [wrapI]|exact sel_lo (by decide)|exact sel_hi (by decide)|(simp only [List.length_map,List.length_cons,List.length_nil];omega)|((repeat' split)<;>grind [wrapI])|exact (0:Int)
open Classical in
noncomputable def sumsF(b:List UInt8)(p:Int)(pr:PrgProg)(n:Int):(List SumSum)×Int:=if h:0≤p∧p+300≤1000000000∧pr.Procs.length≤5 then (sums_x b p pr.Procs n h.1 h.2.1 h.2.2).choose else ([],p)
noncomputable def sumsV(b:List UInt8)(p:Int)(pr:PrgProg)(n:Int):(List SumSum):=(sumsF b p pr n).1
noncomputable def sumsP(b:List UInt8)(p:Int)(pr:PrgProg)(n:Int):Int:=(sumsF b p pr n).2
theorem sums_e{b:List UInt8}{p:Int}{pr0:List PrcProc}{n:Int}(h0:0≤p)(h1:p+300≤1000000000)(hp:pr0.length≤5):EC Tryz.prog 96 1 [.ptr 0 2 0 0,.agg [.d (.sl 3 (pr0.map dPrcProc))],CI n] (rdH b p) (.osl 1 3 0 (sumsV b p ⟨pr0⟩ n).length) (rdH b (sumsP b p ⟨pr0⟩ n)++[(1,.c 3 ((sumsV b p ⟨pr0⟩ n).map (fun x=>(dSumSum x).map C.d)))]) 2:=by
 have:=(sums_x b p pr0 n h0 h1 hp).choose_spec.2
 simp only [sumsV,sumsP,sumsF,dif_pos (show 0≤p∧p+300≤1000000000∧pr0.length≤5 from ⟨h0,h1,hp⟩)];exact this
@[grind =] theorem sums_i{b:List UInt8}{p:Int}{pr0:List PrcProc}{n:Int}:sumsP b p ⟨pr0⟩ n=max p (min (sumsP b p ⟨pr0⟩ n) (p+300)):=by
 simp only [sumsP,sumsF]
 split
 · rename_i h;have:=(sums_x b p pr0 n h.1 h.2.1 h.2.2).choose_spec.1;omega
 · omega
set_option maxHeartbeats 2000000 in
theorem nums_x(b:List UInt8)(p:Int)(n:Int)(h0:0≤p)(h1:p+100≤1000000000)(hn:0≤n∧n≤12):∃a:(List Int)×Int,(p≤a.2∧a.2≤p+100∧a.1.length=n.toNat∧∀x∈a.1,-32768≤x∧x≤32767)∧EC Tryz.prog 68 1 [.ptr 0 2 0 0,CI n] (rdH b p) (.d (.sl 1 (a.1.map dInt))) (rdH b a.2) 1:=by
 have key:=(seat [] []).PL (mkM true [2,2,3,12]) (f:=68) (fn:=Tryz.f68) (args:=[.ptr 0 2 0 0,CI n]) (h:=rdH b p) ⟨by kernel_rfl,by kernel_rfl,rfl⟩ (Nat.le_refl 1) (fun (_:Unit)=>mkEs [eLU8 1 b,eI 2 p,eInt 10 n]) (fun _=>(consL ⟨Int×Int×List Int,fun _ x=>match x with|⟨k,q,l⟩=>0≤k∧k≤n∧k=l.length∧p≤q∧q≤p+8*k∧∀x∈l,-32768≤x∧x≤32767,fun _ x=>match x with|⟨k,q,l⟩=>mkEs [eI 1 k,eI 2 q,eLInt 3 l,eInt 512000 (numV b q),eI 512201 (numP b q)],fun _ x=>match x with|⟨k,q,l⟩=>(12-k).toNat⟩ noLps)) [(0,fun s=>(0,((((s.kl (mkM true [2,2,3,12])).upd [(6,xi 100000001)]).cell 0 0 1 (xi 100000002)).grow ((s.kl (mkM true [2,2,3,12])).at_ 5) (.rws kInt 100000003 .nil))))] [.ptr 0 2 (.int .i64 0) 0,xInt 10] [rdX 0 (xLU8 1) (xi 2)] (fun _=>by simp (maxSteps:=1000000) only [go_sem,Nat.reduceEqDiff,Nat.reduceAdd,Nat.reduceBEq,Int.reduceToNat]) (fun _=>by simp (maxSteps:=1000000) only [go_sem,Nat.reduceEqDiff,Nat.reduceAdd,Nat.reduceBEq,Int.reduceToNat]) (xLInt 900) [rdX 0 (xLU8 951) (xi 952)] (fun a:(List Int)×Int=>p≤a.2∧a.2≤p+100∧a.1.length=n.toNat∧∀x∈a.1,-32768≤x∧x≤32767) (fun a=>mkEs [eLInt 900 a.1,eLU8 951 b,eI 952 a.2]) ⟨(List.replicate n.toNat 0,p),by simp<;>omega⟩ ?_
 · obtain ⟨a,h2,h3⟩:=key
   simp only [go_sem,Nat.reduceEqDiff,Nat.reduceAdd,Nat.reduceBEq,Int.reduceToNat] at h3
   exact ⟨a,h2,h3⟩
 conv=>arg 1;ext t;arg 4;cbv
 simp (maxSteps:=4000000) only [V.ExL,lput,consL,go_sem,Nat.reduceEqDiff,Nat.reduceAdd,Nat.reduceBEq,Int.reduceToNat,Nat.reduceDiv,Nat.reduceMod]
 refine ⟨(),?_⟩
 try dsimp +instances only
 repeat' (first|with_reducible apply And.intro|intro _)
 all_goals first|exact num_e (b:=b) (by grind) (by grind)|(refine ⟨_,_,?_,rfl,rfl⟩;(repeat' (first|with_reducible apply And.intro|intro _));all_goals first|grind [wrapI]|grind (splits:=24) [wrapI]|exact sel_lo (by decide)|exact sel_hi (by decide)|(simp only [List.length_map,List.length_cons,List.length_nil];omega)|((repeat' split)<;>grind [wrapI]))|((repeat (with_reducible apply Exists.intro));(refine And.intro ?_ ?_);rotate_left;(repeat' (first|with_reducible exact rfl|with_reducible apply And.intro));all_goals (first|grind [wrapI]|grind (splits:=24) [wrapI]|exact sel_lo (by decide)|exact sel_hi (by decide)|(simp only [List.length_map,List.length_cons,List.length_nil];omega)|((repeat' split)<;>grind [wrapI])|((repeat' (first|with_reducible apply And.intro|intro _));all_goals first|grind [wrapI]|grind (splits:=24) [wrapI]|exact sel_lo (by decide)|exact sel_hi (by decide)|(simp only [List.length_map,List.length_cons,List.length_nil];omega)|((repeat' split)<;>grind [wrapI]))))|grind [wrapI]|grind (splits:=24) [wrapI]|exact sel_lo (by decide)|exact sel_hi (by decide)|(simp only [List.length_map,List.length_cons,List.length_nil];omega)|((repeat' split)<;>grind [wrapI])|exact (0:Int)
open Classical in
noncomputable def numsF(b:List UInt8)(p:Int)(n:Int):(List Int)×Int:=if h:0≤p∧p+100≤1000000000∧0≤n∧n≤12 then (nums_x b p n h.1 h.2.1 h.2.2).choose else (List.replicate n.toNat 0,p)
noncomputable def numsV(b:List UInt8)(p:Int)(n:Int):(List Int):=(numsF b p n).1
noncomputable def numsP(b:List UInt8)(p:Int)(n:Int):Int:=(numsF b p n).2
theorem nums_e{b:List UInt8}{p:Int}{n:Int}(h0:0≤p)(h1:p+100≤1000000000)(hn:0≤n∧n≤12):EC Tryz.prog 68 1 [.ptr 0 2 0 0,CI n] (rdH b p) (.d (.sl 1 ((numsV b p n).map dInt))) (rdH b (numsP b p n)) 1:=by
 have:=(nums_x b p n h0 h1 hn).choose_spec.2
 simp only [numsV,numsP,numsF,dif_pos (show 0≤p∧p+100≤1000000000∧0≤n∧n≤12 from ⟨h0,h1,hn⟩)];exact this
theorem nums_j{b:List UInt8}{p:Int}{n:Int}:(numsV b p n).length=n.toNat∧∀x∈(numsV b p n),-32768≤x∧x≤32767:=by
 simp only [numsV,numsF]
 split
 · rename_i h;exact (nums_x b p n h.1 h.2.1 h.2.2).choose_spec.1.2.2
 · simp<;>omega
end Go.Proofs.YtjakhnhnjhafgaaGreat.Wk
namespace Go.Proofs.YtjakhnhnjhafgaaGreat.Wk
open Go Go.RowKit Go.Deep Ow
set_option maxRecDepth 100000
set_option maxHeartbeats 2000000 in
theorem dAbsStep_x(b:List UInt8):∃a:PrgProg×List SumSum×InsIns×Int×AbsState,True∧EC Tryz.prog 37 0 [.d (.sl 1 (b.map dU8))] [] (.tup [.agg [.d (.sl 3 (a.1.Procs.map dPrcProc))],.d (.sl 3 ((a.2.1).map dSumSum)),.agg [CI a.2.2.1.Op,CI a.2.2.1.D,CI a.2.2.1.A,CI a.2.2.1.B,CI a.2.2.1.Rel,CI a.2.2.1.Lo,CI a.2.2.1.Hi,CI a.2.2.1.To],CI (a.2.2.2.1),.agg [CB a.2.2.2.2.On,.d (.sl 2 (a.2.2.2.2.Vars.map dItvItv)),CI a.2.2.2.2.Cells.Lo,CI a.2.2.2.2.Cells.Hi]]) [] 0:=by
 have key:=(seat [96] [] [(46,[.sl (.cons (.int .u8) .nil),.int .i64])]).PX (mkM true []) (f:=37) (fn:=Tryz.f37) (args:=[.d (.sl 1 (b.map dU8))]) (h:=[]) ⟨by kernel_rfl,by kernel_rfl,rfl⟩ (Nat.le_refl 0) (fun (t:Int×Int×Int×Int×Int×Int×Int×Int)=>match t with|⟨t0,t1,t2,t3,t4,t5,t6,t7⟩=>mkEs [eLU8 10 b,ePrgProg 111000 (dAF b).1,eInsIns 111030 (dAF b).2.1,eAbsState 111060 (dAF b).2.2,eLU8 211000 (b.take 2000),eI 211001 0,eInt 311000 (pickV (b.take 2000) t0 t1),eI 311201 (pickP (b.take 2000) t0 t1),eLSumSum 412000 (sumsV (b.take 2000) t2 (dAF b).1 t3),eI 412201 (sumsP (b.take 2000) t2 (dAF b).1 t3),eBool 511000 (oddV (b.take 2000) t4 t5),eI 511201 (oddP (b.take 2000) t4 t5),eInt 612000 (pickV (b.take 2000) t6 t7),eI 612201 (pickP (b.take 2000) t6 t7)]) [xLU8 10] [] (fun ⟨t0,t1,t2,t3,t4,t5,t6,t7⟩=>by simp (maxSteps:=1000000) only [go_sem,Nat.reduceEqDiff,Nat.reduceAdd,Nat.reduceBEq,Int.reduceToNat]) (fun _=>rfl) (.tup (.cons (xPrgProg 900) (.cons (xLSumSum 910) (.cons (xInsIns 920) (.cons (xInt 930) (.cons (xAbsState 940) .nil)))))) [] (fun a:PrgProg×List SumSum×InsIns×Int×AbsState=>True) (fun a=>mkEs [ePrgProg 900 a.1,eLSumSum 910 a.2.1,eInsIns 920 a.2.2.1,eInt 930 a.2.2.2.1,eAbsState 940 a.2.2.2.2]) ⟨((⟨[]⟩:PrgProg),[],zInsIns,0,zAbsState),by simp⟩ ?_
 · obtain ⟨a,h2,h3⟩:=key
   simp only [go_sem,Nat.reduceEqDiff,Nat.reduceAdd,Nat.reduceBEq,Int.reduceToNat] at h3
   exact ⟨a,h2,h3⟩
 conv=>arg 1;ext t;arg 3;cbv
 simp (maxSteps:=4000000) only [V.Ex,go_sem,Nat.reduceEqDiff,Nat.reduceAdd,Nat.reduceBEq,Int.reduceToNat]
 have hs:sumsP (b.take 2000) (0+1) (dAF b).1 20=max (0+1) (min (sumsP (b.take 2000) (0+1) (dAF b).1 20) (0+1+300)):=sums_i (pr0:=(dAF b).1.Procs)
 iterate 8 apply Exists.intro
 try dsimp +instances only
 repeat' (first|with_reducible apply And.intro|intro _)
 all_goals first|exact pick_e (b:=b.take 2000) (by grind) (by grind)|exact sums_e (b:=b.take 2000) (by grind) (by grind) (dAF_len b)|exact odd_e (b:=b.take 2000) (by grind) (by grind)|exact open_e|exact dAF_e b|(refine ⟨_,_,_,_,_,_,_,_,_,_,_,_,_,_,_,?_,rfl,rfl,rfl,rfl,rfl,rfl,rfl,rfl,rfl,rfl,rfl,rfl,rfl,rfl,rfl⟩;(repeat' (first|with_reducible apply And.intro|intro _));all_goals first|grind [wrapI]|(repeat' split)<;>grind [wrapI])|grind [wrapI]|(repeat' split)<;>grind [wrapI]|exact (0:Int)
noncomputable def dAS(b:List UInt8):PrgProg×List SumSum×InsIns×Int×AbsState:=(dAbsStep_x b).choose
theorem dAS_e(b:List UInt8):EC Tryz.prog 37 0 [.d (.sl 1 (b.map dU8))] [] (.tup [.agg [.d (.sl 3 ((dAS b).1.Procs.map dPrcProc))],.d (.sl 3 (((dAS b).2.1).map dSumSum)),.agg [CI (dAS b).2.2.1.Op,CI (dAS b).2.2.1.D,CI (dAS b).2.2.1.A,CI (dAS b).2.2.1.B,CI (dAS b).2.2.1.Rel,CI (dAS b).2.2.1.Lo,CI (dAS b).2.2.1.Hi,CI (dAS b).2.2.1.To],CI ((dAS b).2.2.2.1),.agg [CB (dAS b).2.2.2.2.On,.d (.sl 2 ((dAS b).2.2.2.2.Vars.map dItvItv)),CI (dAS b).2.2.2.2.Cells.Lo,CI (dAS b).2.2.2.2.Cells.Hi]]) [] 0:=(dAbsStep_x b).choose_spec.2
set_option maxHeartbeats 2000000 in
theorem dInputs_x(b:List UInt8):∃a:Int×List Int,(a.2.length=12∧∀x∈a.2,-32768≤x∧x≤32767)∧EC Tryz.prog 17 0 [.d (.sl 1 (b.map dU8))] [] (.tup [CI (a.1),.d (.sl 1 ((a.2).map dInt))]) [] 0:=by
 have key:=(seat [] [] [(46,[.sl (.cons (.int .u8) .nil),.int .i64])]).PX (mkM true []) (f:=17) (fn:=Tryz.f17) (args:=[.d (.sl 1 (b.map dU8))]) (h:=[]) ⟨by kernel_rfl,by kernel_rfl,rfl⟩ (Nat.le_refl 0) (fun (t:Int×Int×Int)=>match t with|⟨t0,t1,t2⟩=>mkEs [eLU8 10 b,eLU8 111000 (b.take 2000),eI 111001 0,eInt 211000 (numV (b.take 2000) t0),eI 211201 (numP (b.take 2000) t0),eLInt 213000 (numsV (b.take 2000) t1 t2),eI 213201 (numsP (b.take 2000) t1 t2)]) [xLU8 10] [] (fun ⟨t0,t1,t2⟩=>by simp (maxSteps:=1000000) only [go_sem,Nat.reduceEqDiff,Nat.reduceAdd,Nat.reduceBEq,Int.reduceToNat]) (fun _=>rfl) (.tup (.cons (xInt 900) (.cons (xLInt 910) .nil))) [] (fun a:Int×List Int=>(a.2.length=12∧∀x∈a.2,-32768≤x∧x≤32767)) (fun a=>mkEs [eInt 900 a.1,eLInt 910 a.2]) ⟨(0,List.replicate 12 0),by simp⟩ ?_
 · obtain ⟨a,h2,h3⟩:=key
   simp only [go_sem,Nat.reduceEqDiff,Nat.reduceAdd,Nat.reduceBEq,Int.reduceToNat] at h3
   exact ⟨a,h2,h3⟩
 conv=>arg 1;ext t;arg 3;cbv
 simp (maxSteps:=4000000) only [V.Ex,go_sem,Nat.reduceEqDiff,Nat.reduceAdd,Nat.reduceBEq,Int.reduceToNat]
 iterate 3 apply Exists.intro
 try dsimp +instances only
 repeat' (first|with_reducible apply And.intro|intro _)
 all_goals first|exact num_e (b:=b.take 2000) (by grind) (by grind)|exact nums_e (b:=b.take 2000) (by grind) (by grind) (by omega)|exact open_e|exact dAF_e b|(refine ⟨_,_,?_,rfl,rfl⟩;(repeat' (first|with_reducible apply And.intro|intro _));all_goals first|exact nums_j.1|exact (nums_j.2 _ (by assumption)).1|exact (nums_j.2 _ (by assumption)).2|grind [wrapI]|(repeat' split)<;>grind [wrapI])|exact nums_j.1|exact (nums_j.2 _ (by assumption)).1|exact (nums_j.2 _ (by assumption)).2|grind [wrapI]|(repeat' split)<;>grind [wrapI]|exact (0:Int)
noncomputable def dIn(b:List UInt8):Int×List Int:=(dInputs_x b).choose
theorem dIn_len(b:List UInt8):(dIn b).2.length=12∧∀x∈(dIn b).2,-32768≤x∧x≤32767:=(dInputs_x b).choose_spec.1
theorem dIn_e(b:List UInt8):EC Tryz.prog 17 0 [.d (.sl 1 (b.map dU8))] [] (.tup [CI ((dIn b).1),.d (.sl 1 (((dIn b).2).map dInt))]) [] 0:=(dInputs_x b).choose_spec.2
end Go.Proofs.YtjakhnhnjhafgaaGreat.Wk
