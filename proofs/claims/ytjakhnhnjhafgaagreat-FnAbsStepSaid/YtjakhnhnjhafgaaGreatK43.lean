/- A part of the proof. -/
import Derived.Test.YtjakhnhnjhafgaaGreatK40
import Derived.Test.YtjakhnhnjhafgaaGreatK42
import Derived.Test.YtjakhnhnjhafgaaGreatK39
set_option linter.unusedVariables false
set_option linter.unusedSimpArgs false
namespace Go.Proofs.YtjakhnhnjhafgaaGreat.Wk
open Go Go.RowKit Go.Deep Ow
set_option maxRecDepth 100000
theorem codeG{l:List PrcProc}{i:Int}(h:∀c∈l,1≤c.Code.length∧c.Code.length≤100)(h0:0≤i)(h1:i<l.length):1≤(l.getD i.toNat zPrcProc).Code.length∧(l.getD i.toNat zPrcProc).Code.length≤100:=by
 rw [List.getD_eq_getElem?_getD,List.getElem?_eq_getElem (by omega)]
 exact h _ (List.getElem_mem _)
set_option maxHeartbeats 2000000 in
theorem progOr_x(b:List UInt8)(p:Int)(n:Int)(h0:0≤p)(h1:p+2200≤1000000000):∃a:PrgProg×Int,(p≤a.2∧a.2≤p+2200∧a.1.Procs.length≤5)∧EC Tryz.prog 47 1 [.ptr 0 2 0 0,CI n] (rdH b p) (.agg [.d (.sl 3 (a.1.Procs.map dPrcProc))]) (rdH b a.2) 1:=by
 have key:=(seat [111] []).PL (mkF [(17,fun s=>s.in_ 7),(24,fun s=>s.in_ 7),(9,fun s=>s.in_ 7)] (mkM true [2,2,5,21,1,77])) (f:=47) (fn:=Tryz.f47) (args:=[.ptr 0 2 0 0,CI n]) (h:=rdH b p) ⟨by kernel_rfl,by kernel_rfl,rfl⟩ (Nat.le_refl 1) (fun (t:Int×Int×Int×Int×Int×Int×Int×Int×Int×Int×InsIns)=>match t with|⟨t0,t1,t2,t3,t4,t5,t6,t7,t8,t9,t10⟩=>mkEs [eLU8 1 b,eI 2 p,eInt 10 n,ePrgProg 111000 (progV b t0),eI 111201 (progP b t0),eBool 212000 (oddV b t1 t2),eI 212201 (oddP b t1 t2),eInt 314000 (pickV b t3 t4),eI 314201 (pickP b t3 t4),eInt 514000 (pickV b t5 t6),eI 514201 (pickP b t5 t6),eInt 611000 (pickV b t7 t8),eI 611201 (pickP b t7 t8),eInsIns 2319000 (spoilV b t9 t10),eI 2319201 (spoilP b t9 t10)]) (fun (t:Int×Int×Int×Int×Int×Int×Int×Int×Int×Int×InsIns)=>match t with|⟨t0,t1,t2,t3,t4,t5,t6,t7,t8,t9,t10⟩=>(consL ⟨List PrcProc,fun _ l=>(l.length:Int)≤5,fun _ l=>mkEs [eLPrcProc 1 l],fun _ l=>6-l.length⟩ noLps)) [(1,fun s=>(0,(s.kl (mkF [(17,fun s=>s.in_ 7),(24,fun s=>s.in_ 7),(9,fun s=>s.in_ 7)] (mkM true [2,2,5,21,1,77]))).grow (((s.kl (mkF [(17,fun s=>s.in_ 7),(24,fun s=>s.in_ 7),(9,fun s=>s.in_ 7)] (mkM true [2,2,5,21,1,77]))).in_ 5).headD 0) (.rws kPrcProc 100000001 .nil)))] [.ptr 0 2 (.int .i64 0) 0,xInt 10] [rdX 0 (xLU8 1) (xi 2)] (fun ⟨t0,t1,t2,t3,t4,t5,t6,t7,t8,t9,t10⟩=>by simp (maxSteps:=1000000) only [go_sem,Nat.reduceEqDiff,Nat.reduceAdd,Nat.reduceBEq,Int.reduceToNat]) (fun ⟨t0,t1,t2,t3,t4,t5,t6,t7,t8,t9,t10⟩=>by simp (maxSteps:=1000000) only [go_sem,Nat.reduceEqDiff,Nat.reduceAdd,Nat.reduceBEq,Int.reduceToNat]) (xPrgProg 900) [rdX 0 (xLU8 951) (xi 952)] (fun a:PrgProg×Int=>p≤a.2∧a.2≤p+2200∧a.1.Procs.length≤5) (fun a=>mkEs [ePrgProg 900 a.1,eLU8 951 b,eI 952 a.2]) ⟨(zPrgProg,p),by simp [zPrgProg]<;>omega⟩ ?_
 · obtain ⟨a,h2,h3⟩:=key
   simp only [go_sem,Nat.reduceEqDiff,Nat.reduceAdd,Nat.reduceBEq,Int.reduceToNat] at h3
   exact ⟨a,h2,h3⟩
 conv=>arg 1;ext t;arg 4;cbv
 simp (maxSteps:=4000000) only [V.ExL,lput,consL,go_sem,Nat.reduceEqDiff,Nat.reduceAdd,Nat.reduceBEq,Int.reduceToNat,Nat.reduceDiv,Nat.reduceMod]
 iterate 18 apply Exists.intro
 try dsimp +instances only
 repeat' (first|with_reducible apply And.intro|intro _)
 all_goals first|exact prog_e (b:=b) (by grind) (by grind)|exact odd_e (b:=b) (by grind) (by grind)|exact pick_e (b:=b) (by grind) (by grind)|exact spoil_e (b:=b) (by grind) (by grind)|(refine ⟨_,_,?_,rfl,rfl⟩;(repeat' (first|with_reducible apply And.intro|intro _));all_goals first|grind [wrapI,prog_j,codeG]|grind (splits:=24) [wrapI,prog_j,codeG]|exact sel_lo (by decide)|exact sel_hi (by decide)|(simp only [List.length_map,List.length_cons,List.length_nil];omega)|((repeat' split)<;>grind [wrapI,prog_j,codeG]))|((repeat (with_reducible apply Exists.intro));(refine And.intro ?_ ?_);rotate_left;(repeat' (first|with_reducible exact rfl|with_reducible apply And.intro));all_goals (first|grind [wrapI,prog_j,codeG]|grind (splits:=24) [wrapI,prog_j,codeG]|exact sel_lo (by decide)|exact sel_hi (by decide)|(simp only [List.length_map,List.length_cons,List.length_nil];omega)|((repeat' split)<;>grind [wrapI,prog_j,codeG])|((repeat' (first|with_reducible apply And.intro|intro _));all_goals first|grind [wrapI,prog_j,codeG]|grind (splits:=24) [wrapI,prog_j,codeG]|exact sel_lo (by decide)|exact sel_hi (by decide)|(simp only [List.length_map,List.length_cons,List.length_nil];omega)|((repeat' split)<;>grind [wrapI,prog_j,codeG]))))|grind [wrapI,prog_j,codeG]|grind (splits:=24) [wrapI,prog_j,codeG]|exact sel_lo (by decide)|exact sel_hi (by decide)|(simp only [List.length_map,List.length_cons,List.length_nil];omega)|((repeat' split)<;>grind [wrapI,prog_j,codeG])|exact (0:Int)
open Classical in
noncomputable def progOrF(b:List UInt8)(p:Int)(n:Int):PrgProg×Int:=if h:0≤p∧p+2200≤1000000000 then (progOr_x b p n h.1 h.2).choose else (zPrgProg,p)
noncomputable def progOrV(b:List UInt8)(p:Int)(n:Int):PrgProg:=(progOrF b p n).1
noncomputable def progOrP(b:List UInt8)(p:Int)(n:Int):Int:=(progOrF b p n).2
theorem progOr_e{b:List UInt8}{p:Int}{n:Int}(h0:0≤p)(h1:p+2200≤1000000000):EC Tryz.prog 47 1 [.ptr 0 2 0 0,CI n] (rdH b p) (.agg [.d (.sl 3 ((progOrV b p n).Procs.map dPrcProc))]) (rdH b (progOrP b p n)) 1:=by
 have:=(progOr_x b p n h0 h1).choose_spec.2
 simp only [progOrV,progOrP,progOrF,dif_pos (show 0≤p∧p+2200≤1000000000 from ⟨h0,h1⟩)];exact this
@[grind =] theorem progOr_i{b:List UInt8}{p:Int}{n:Int}:progOrP b p n=max p (min (progOrP b p n) (p+2200)):=by
 simp only [progOrP,progOrF]
 split
 · rename_i h;have:=(progOr_x b p n h.1 h.2).choose_spec.1;omega
 · omega
theorem progOr_j{b:List UInt8}{p:Int}{n:Int}:(progOrV b p n).Procs.length≤5:=by
 simp only [progOrV,progOrF]
 split
 · rename_i h;exact (progOr_x b p n h.1 h.2).choose_spec.1.2.2
 · simp [zPrgProg]<;>omega
end Go.Proofs.YtjakhnhnjhafgaaGreat.Wk
namespace Go.Proofs.YtjakhnhnjhafgaaGreat.Wk
open Go Go.RowKit Go.Deep Ow
set_option maxRecDepth 100000
@[go_sem high] theorem qtk_ItvItv{l:List ItvItv}{m n:Nat}:List.map (fun r=>C.tup (List.map C.d r)) (List.take n (List.drop m (List.map dItvItv l)))=qItvItv ((l.drop m).take n):=by
 rw [←List.map_drop,←List.map_take,List.map_map];rfl
set_option maxHeartbeats 2000000 in
theorem state_x(b:List UInt8)(p:Int)(n:Int)(h0:0≤p)(h1:p+120≤1000000000):∃a:AbsState×Int,(p≤a.2∧a.2≤p+120∧a.1.Vars.length≤4)∧EC Tryz.prog 52 1 [.ptr 0 2 0 0,CI n] (rdH b p) (.agg [CB a.1.On,.osl 1 2 0 a.1.Vars.length,CI a.1.Cells.Lo,CI a.1.Cells.Hi]) (rdH b a.2++[(1,.c 2 (a.1.Vars.map (fun x=>(dItvItv x).map C.d)))]) 2:=by
 have key:=(seat [] []).PL (mkT [(17,fun s=>s.osl_ 5 1)] (mkM true [2,2,3,21,1,20])) (f:=52) (fn:=Tryz.f52) (args:=[.ptr 0 2 0 0,CI n]) (h:=rdH b p) ⟨by kernel_rfl,by kernel_rfl,rfl⟩ (show (1:Nat)≤2 by decide) (fun (t:Int×Int×Int×Int)=>match t with|⟨t0,t1,t2,t3⟩=>mkEs [eLU8 1 b,eI 2 p,eInt 10 n,eBool 111000 (oddV b t0 t1),eI 111201 (oddP b t0 t1),eItvItv 311000 (itvV b t2 t3),eI 311201 (itvP b t2 t3)]) (fun (t:Int×Int×Int×Int)=>match t with|⟨t0,t1,t2,t3⟩=>(consL ⟨Int×Int×List ItvItv,fun _ x=>match x with|⟨k,q,l⟩=>0≤k∧k≤4∧k=l.length∧p≤q∧q≤p+21+20*k,fun _ x=>match x with|⟨k,q,l⟩=>mkEs [eI 1 k,eI 2 q,eLItvItv 3 l,eItvItv 713000 (itvV b q 99999),eI 713201 (itvP b q 99999),eB 812000 (oddV b q n),eI 812201 (oddP b q n),eInt 911000 (pickV b (oddP b q n) 4),eI 911201 (oddP b q n+1),eInt 1413000 (pickV b (oddP b q n+1) 4),eI 1413201 (oddP b q n+1+1)],fun _ x=>match x with|⟨k,q,l⟩=>(4-k).toNat⟩ noLps)) [(0,fun s=>(0,((((s.kl (mkT [(17,fun s=>s.osl_ 5 1)] (mkM true [2,2,3,21,1,20]))).upd [(6,xi 100000001)]).cell 0 0 1 (xi 100000002)).own ((s.kl (mkT [(17,fun s=>s.osl_ 5 1)] (mkM true [2,2,3,21,1,20]))).at_ 5) 0 1 kItvItv (.rws kItvItv 100000003 .nil)).gc 1))] [.ptr 0 2 (.int .i64 0) 0,xInt 10] [rdX 0 (xLU8 1) (xi 2)] (fun ⟨t0,t1,t2,t3⟩=>by simp (maxSteps:=1000000) only [go_sem,Nat.reduceEqDiff,Nat.reduceAdd,Nat.reduceBEq,Int.reduceToNat]) (fun ⟨t0,t1,t2,t3⟩=>by simp (maxSteps:=1000000) only [go_sem,Nat.reduceEqDiff,Nat.reduceAdd,Nat.reduceBEq,Int.reduceToNat]) (.agg (.cons (.atb 900 .nil) (.cons (.osl 1 2 (.int .i64 0) (.rln (.rws kItvItv 901 .nil))) (.cons (.ati .i64 902 .nil) (.cons (.ati .i64 903 .nil) .nil))))) [rdX 0 (xLU8 951) (xi 952),⟨1,kItvItv,.rws kItvItv 901 .nil⟩] (fun a:AbsState×Int=>p≤a.2∧a.2≤p+120∧a.1.Vars.length≤4) (fun a=>mkEs [eAbsState 900 a.1,eLU8 951 b,eI 952 a.2]) ⟨(zAbsState,p),by simp [zAbsState]<;>omega⟩ ?_
 · obtain ⟨a,h2,h3⟩:=key
   simp only [go_sem,Nat.reduceEqDiff,Nat.reduceAdd,Nat.reduceBEq,Int.reduceToNat] at h3
   exact ⟨a,h2,h3⟩
 conv=>arg 1;ext t;arg 4;cbv
 simp (maxSteps:=4000000) only [V.ExL,lput,consL,go_sem,Nat.reduceEqDiff,Nat.reduceAdd,Nat.reduceBEq,Int.reduceToNat,Nat.reduceDiv,Nat.reduceMod]
 iterate 4 apply Exists.intro
 try dsimp +instances only
 repeat' (first|with_reducible apply And.intro|intro _)
 all_goals first|exact odd_e (b:=b) (by grind) (by grind)|exact itv_e (b:=b) (by grind) (by grind)|exact pick_e (b:=b) (by grind) (by grind)|(refine ⟨_,_,_,_,_,?_,rfl,rfl,rfl,rfl,rfl⟩;(repeat' (first|with_reducible apply And.intro|intro _));all_goals first|grind [wrapI]|grind (splits:=24) [wrapI]|exact sel_lo (by decide)|exact sel_hi (by decide)|(simp only [List.length_map,List.length_cons,List.length_nil];omega)|((repeat' split)<;>grind [wrapI]))|((repeat (with_reducible apply Exists.intro));(refine And.intro ?_ ?_);rotate_left;(repeat' (first|with_reducible exact rfl|with_reducible apply And.intro));all_goals (first|grind [wrapI]|grind (splits:=24) [wrapI]|exact sel_lo (by decide)|exact sel_hi (by decide)|(simp only [List.length_map,List.length_cons,List.length_nil];omega)|((repeat' split)<;>grind [wrapI])|((repeat' (first|with_reducible apply And.intro|intro _));all_goals first|grind [wrapI]|grind (splits:=24) [wrapI]|exact sel_lo (by decide)|exact sel_hi (by decide)|(simp only [List.length_map,List.length_cons,List.length_nil];omega)|((repeat' split)<;>grind [wrapI]))))|grind [wrapI]|grind (splits:=24) [wrapI]|exact sel_lo (by decide)|exact sel_hi (by decide)|(simp only [List.length_map,List.length_cons,List.length_nil];omega)|((repeat' split)<;>grind [wrapI])|exact (0:Int)
open Classical in
noncomputable def stateF(b:List UInt8)(p:Int)(n:Int):AbsState×Int:=if h:0≤p∧p+120≤1000000000 then (state_x b p n h.1 h.2).choose else (zAbsState,p)
noncomputable def stateV(b:List UInt8)(p:Int)(n:Int):AbsState:=(stateF b p n).1
noncomputable def stateP(b:List UInt8)(p:Int)(n:Int):Int:=(stateF b p n).2
theorem state_e{b:List UInt8}{p:Int}{n:Int}(h0:0≤p)(h1:p+120≤1000000000):EC Tryz.prog 52 1 [.ptr 0 2 0 0,CI n] (rdH b p) (.agg [CB (stateV b p n).On,.osl 1 2 0 (stateV b p n).Vars.length,CI (stateV b p n).Cells.Lo,CI (stateV b p n).Cells.Hi]) (rdH b (stateP b p n)++[(1,.c 2 ((stateV b p n).Vars.map (fun x=>(dItvItv x).map C.d)))]) 2:=by
 have:=(state_x b p n h0 h1).choose_spec.2
 simp only [stateV,stateP,stateF,dif_pos (show 0≤p∧p+120≤1000000000 from ⟨h0,h1⟩)];exact this
@[grind =] theorem state_i{b:List UInt8}{p:Int}{n:Int}:stateP b p n=max p (min (stateP b p n) (p+120)):=by
 simp only [stateP,stateF]
 split
 · rename_i h;have:=(state_x b p n h.1 h.2).choose_spec.1;omega
 · omega
end Go.Proofs.YtjakhnhnjhafgaaGreat.Wk
namespace Go.Proofs.YtjakhnhnjhafgaaGreat.Wk
open Go Go.RowKit Go.Deep Ow
set_option maxRecDepth 100000
theorem open_e{b:List UInt8}:EC Tryz.prog 46 0 [.d (.sl 1 (b.map dU8))] [] (.ptr 0 2 0 0) (rdH (b.take 2000) 0) 1:=by
 refine (seat [] []).PB (mkM true []) (fn:=Tryz.f46) ⟨by kernel_rfl,by kernel_rfl,rfl⟩ (show (0:Nat)≤1 by decide) (mkEs [eLU8 10 b,eLU8 60 (b.take 2000)]) noLps []
  [xLU8 10] [] ?_ rfl (.ptr 0 2 (.int .i64 0) 0) [rdX 0 (xLU8 60) (.int .i64 0)] rfl ?_ (fun _=>?_)
 · simp only [go_sem,Nat.reduceEqDiff,Nat.reduceAdd,Int.reduceToNat]
 · simp only [go_sem,Nat.reduceEqDiff,Nat.reduceAdd]
 conv=>arg 4;cbv
 simp only [go_sem,Nat.reduceEqDiff,Nat.reduceAdd,Nat.reduceBEq,Int.reduceToNat]
 refine ⟨by omega,?_⟩
 rw [List.drop_zero,Nat.sub_zero]
 split
 · rw [List.map_take]
 · rename_i h
   rw [List.take_of_length_le (by have:=of_decide_eq_false (Bool.eq_false_iff.2 h);omega)]
end Go.Proofs.YtjakhnhnjhafgaaGreat.Wk
