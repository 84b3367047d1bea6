/- A part of the proof. -/
import Derived.Test.YtjakhnhnjhafgaaGreatK39
set_option linter.unusedVariables false
set_option linter.unusedSimpArgs false
namespace Go.Proofs.YtjakhnhnjhafgaaGreat.Wk
open Go Go.RowKit Go.Deep Ow
set_option maxRecDepth 100000
set_option maxHeartbeats 2000000 in
theorem insd_x(b:List UInt8)(p:Int)(m:Int)(n:Int)(h0:0≤p)(h1:p+40≤1000000000):∃a:InsIns×Int,(p≤a.2∧a.2≤p+40∧True)∧EC Tryz.prog 48 1 [.ptr 0 2 0 0,CI m,CI n] (rdH b p) (.agg [CI a.1.Op,CI a.1.D,CI a.1.A,CI a.1.B,CI a.1.Rel,CI a.1.Lo,CI a.1.Hi,CI a.1.To]) (rdH b a.2) 1:=by
 have key:=(seat [] []).PX (mkM true [3,3,4,2,1,8,1,20,1,29,1,30]) (f:=48) (fn:=Tryz.f48) (args:=[.ptr 0 2 0 0,CI m,CI n]) (h:=rdH b p) ⟨by kernel_rfl,by kernel_rfl,rfl⟩ (Nat.le_refl 1) (fun (t:Int×Int×Int×Int×Int×Int×Int×Int×Int×Int×Int×Int×Int×Int×Int×Int×Int×Int×Int×Int×Int×Int×Int×Int×Int×Int×Int×Int×Int×Int×Int×Int×Int×Int×Int×Int×Int×Int×Int×Int×Int×Int×Int×Int×Int×Int×Int×Int×Int)=>match t with|⟨t0,t1,t2,t3,t4,t5,t6,t7,t8,t9,t10,t11,t12,t13,t14,t15,t16,t17,t18,t19,t20,t21,t22,t23,t24,t25,t26,t27,t28,t29,t30,t31,t32,t33,t34,t35,t36,t37,t38,t39,t40,t41,t42,t43,t44,t45,t46,t47,t48⟩=>mkEs [eLU8 1 b,eI 2 p,eInt 10 m,eInt 30 n,eInt 211000 (pickV b t0 t1),eI 211201 (pickP b t0 t1),eInt 611000 (numV b t2),eI 611201 (numP b t2),eInt 711000 (pickV b t3 t4),eI 711201 (pickP b t3 t4),eItvItv 911000 (itvV b t5 t6),eI 911201 (itvP b t5 t6),eInt 1011000 (pickV b t7 t8),eI 1011201 (pickP b t7 t8),eInt 1412000 (pickV b t9 t10),eI 1412201 (pickP b t9 t10),eInt 1416000 (pickV b t11 t12),eI 1416201 (pickP b t11 t12),eInt 1418000 (pickV b t13 t14),eI 1418201 (pickP b t13 t14),eInt 1420000 (pickV b t15 t16),eI 1420201 (pickP b t15 t16),eInt 1611000 (pickV b t17 t18),eI 1611201 (pickP b t17 t18),eInt 1613000 (pickV b t19 t20),eI 1613201 (pickP b t19 t20),eInt 1811000 (pickV b t21 t22),eI 1811201 (pickP b t21 t22),eInt 1813000 (pickV b t23 t24),eI 1813201 (pickP b t23 t24),eInt 2111000 (pickV b t25 t26),eI 2111201 (pickP b t25 t26),eInt 2113000 (pickV b t27 t28),eI 2113201 (pickP b t27 t28),eInt 2115000 (pickV b t29 t30),eI 2115201 (pickP b t29 t30),eInt 2119000 (pickV b t31 t32),eI 2119201 (pickP b t31 t32),eInt 2311000 (pickV b t33 t34),eI 2311201 (pickP b t33 t34),eInt 2313000 (pickV b t35 t36),eI 2313201 (pickP b t35 t36),eInt 2316000 (pickV b t37 t38),eI 2316201 (pickP b t37 t38),eInt 311000 (pickV b t39 t40),eI 311201 (pickP b t39 t40),eInt 313000 (pickV b t41 t42),eI 313201 (pickP b t41 t42),eInt 315000 (pickV b t43 t44),eI 315201 (pickP b t43 t44),eBool 2411000 (oddV b t45 t46),eI 2411201 (oddP b t45 t46),eInt 2512000 (pickV b t47 t48),eI 2512201 (pickP b t47 t48)]) [.ptr 0 2 (.int .i64 0) 0,xInt 10,xInt 30] [rdX 0 (xLU8 1) (xi 2)] (fun ⟨t0,t1,t2,t3,t4,t5,t6,t7,t8,t9,t10,t11,t12,t13,t14,t15,t16,t17,t18,t19,t20,t21,t22,t23,t24,t25,t26,t27,t28,t29,t30,t31,t32,t33,t34,t35,t36,t37,t38,t39,t40,t41,t42,t43,t44,t45,t46,t47,t48⟩=>by simp (maxSteps:=1000000) only [go_sem,Nat.reduceEqDiff,Nat.reduceAdd,Nat.reduceBEq,Int.reduceToNat]) (fun ⟨t0,t1,t2,t3,t4,t5,t6,t7,t8,t9,t10,t11,t12,t13,t14,t15,t16,t17,t18,t19,t20,t21,t22,t23,t24,t25,t26,t27,t28,t29,t30,t31,t32,t33,t34,t35,t36,t37,t38,t39,t40,t41,t42,t43,t44,t45,t46,t47,t48⟩=>by simp (maxSteps:=1000000) only [go_sem,Nat.reduceEqDiff,Nat.reduceAdd,Nat.reduceBEq,Int.reduceToNat]) (xInsIns 900) [rdX 0 (xLU8 951) (xi 952)] (fun a:InsIns×Int=>p≤a.2∧a.2≤p+40∧True) (fun a=>mkEs [eInsIns 900 a.1,eLU8 951 b,eI 952 a.2]) ⟨(zInsIns,p),by simp<;>omega⟩ ?_
 · obtain ⟨a,h2,h3⟩:=key
   simp only [go_sem,Nat.reduceEqDiff,Nat.reduceAdd,Nat.reduceBEq,Int.reduceToNat] at h3
   exact ⟨a,h2,h3⟩
 conv=>arg 1;ext t;arg 3;cbv
 simp (maxSteps:=4000000) only [V.Ex,go_sem,Nat.reduceEqDiff,Nat.reduceAdd,Nat.reduceBEq,Int.reduceToNat]
 iterate 49 apply Exists.intro
 try dsimp +instances only
 repeat' (first|with_reducible apply And.intro|intro _)
 all_goals first|exact pick_e (b:=b) (by grind) (by grind)|exact num_e (b:=b) (by grind) (by grind)|exact itv_e (b:=b) (by grind) (by grind)|exact odd_e (b:=b) (by grind) (by grind)|(refine ⟨_,_,_,_,_,_,_,_,_,?_,rfl,rfl,rfl,rfl,rfl,rfl,rfl,rfl,rfl⟩;(repeat' (first|with_reducible apply And.intro|intro _));all_goals first|grind [wrapI]|grind (splits:=24) [wrapI]|exact sel_lo (by decide)|exact sel_hi (by decide)|(simp only [List.length_map,List.length_cons,List.length_nil];omega)|((repeat' split)<;>grind [wrapI]))|grind [wrapI]|grind (splits:=24) [wrapI]|exact sel_lo (by decide)|exact sel_hi (by decide)|(simp only [List.length_map,List.length_cons,List.length_nil];omega)|((repeat' split)<;>grind [wrapI])|exact (0:Int)
open Classical in
noncomputable def insdF(b:List UInt8)(p:Int)(m:Int)(n:Int):InsIns×Int:=if h:0≤p∧p+40≤1000000000 then (insd_x b p m n h.1 h.2).choose else (zInsIns,p)
noncomputable def insdV(b:List UInt8)(p:Int)(m:Int)(n:Int):InsIns:=(insdF b p m n).1
noncomputable def insdP(b:List UInt8)(p:Int)(m:Int)(n:Int):Int:=(insdF b p m n).2
theorem insd_e{b:List UInt8}{p:Int}{m:Int}{n:Int}(h0:0≤p)(h1:p+40≤1000000000):EC Tryz.prog 48 1 [.ptr 0 2 0 0,CI m,CI n] (rdH b p) (.agg [CI (insdV b p m n).Op,CI (insdV b p m n).D,CI (insdV b p m n).A,CI (insdV b p m n).B,CI (insdV b p m n).Rel,CI (insdV b p m n).Lo,CI (insdV b p m n).Hi,CI (insdV b p m n).To]) (rdH b (insdP b p m n)) 1:=by
 have:=(insd_x b p m n h0 h1).choose_spec.2
 simp only [insdV,insdP,insdF,dif_pos (show 0≤p∧p+40≤1000000000 from ⟨h0,h1⟩)];exact this
@[grind =] theorem insd_i{b:List UInt8}{p:Int}{m:Int}{n:Int}:insdP b p m n=max p (min (insdP b p m n) (p+40)):=by
 simp only [insdP,insdF]
 split
 · rename_i h;have:=(insd_x b p m n h.1 h.2).choose_spec.1;omega
 · omega
end Go.Proofs.YtjakhnhnjhafgaaGreat.Wk
namespace Go.Proofs.YtjakhnhnjhafgaaGreat.Wk
open Go Go.RowKit Go.Deep Ow
set_option maxRecDepth 100000
theorem end_e{lo hi:Int}{l:List InsIns}{i0 i1 i2 i3 i4 i5 i6 i7:Int}{n:Nat}(hn:n=l.length)(hl:(l.length:Int)≤1000000):EC Tryz.prog 218 1 [.agg [CI lo,CI hi,.osl 0 8 0 n],.agg [CI i0,CI i1,CI i2,CI i3,CI i4,CI i5,CI i6,CI i7]]
 [(0,.c 8 (l.map (fun x=>(dInsIns x).map C.d)))] (.agg [CI lo,CI hi,.d (.sl 8 ((l++([⟨i0,i1,i2,i3,i4,i5,i6,i7⟩]:List InsIns)).map dInsIns))]) [] 1:=by
 subst hn
 refine (seat [] []).PB (mkM true []) (fn:=Tryz.f218) ⟨by kernel_rfl,by kernel_rfl,rfl⟩ (Nat.le_refl 1) (mkEs [eI 10 lo,eI 11 hi,eLInsIns 12 l,eInsIns 30 ⟨i0,i1,i2,i3,i4,i5,i6,i7⟩,eLInsIns 60 (l++([⟨i0,i1,i2,i3,i4,i5,i6,i7⟩]:List InsIns))]) noLps []
  [.agg (.cons (xi 10) (.cons (xi 11) (.cons (.osl 0 8 (.int .i64 0) (.rln (.rws kInsIns 12 .nil))) .nil))),xInsIns 30] [⟨0,kInsIns,.rws kInsIns 12 .nil⟩] ?_ ?_ (.agg (.cons (xi 10) (.cons (xi 11) (.cons (xLInsIns 60) .nil)))) [] ?_ rfl (fun _=>?_)
 · simp only [go_sem,Nat.reduceEqDiff,Nat.reduceAdd,Int.reduceToNat]
 · simp only [go_sem,Nat.reduceEqDiff,Nat.reduceAdd]
 · simp only [go_sem,Nat.reduceEqDiff,Nat.reduceAdd]
 conv=>arg 4;cbv
 simp only [go_sem,Nat.reduceEqDiff,Nat.reduceAdd,Nat.reduceBEq,Int.reduceToNat]
 omega
set_option maxHeartbeats 2000000 in
theorem proc_x(b:List UInt8)(p:Int)(m:Int)(h0:0≤p)(h1:p+500≤1000000000):∃a:PrcProc×Int,(p≤a.2∧a.2≤p+500∧1≤a.1.Code.length∧a.1.Code.length≤100)∧EC Tryz.prog 203 1 [.ptr 0 2 0 0,CI m] (rdH b p) (.agg [CI a.1.Lo,CI a.1.Hi,.d (.sl 8 (a.1.Code.map dInsIns))]) (rdH b a.2) 1:=by
 have key:=(seat [] [218]).PL (mkM true [2,2,5,52]) (f:=203) (fn:=Tryz.f203) (args:=[.ptr 0 2 0 0,CI m]) (h:=rdH b p) ⟨by kernel_rfl,by kernel_rfl,rfl⟩ (Nat.le_refl 1) (fun (t:Int×Int×Int×Int×Int×Int×Int×Int×Int×Int)=>match t with|⟨t0,t1,t2,t3,t4,t5,t6,t7,lo,hi⟩=>mkEs [eLU8 1 b,eI 2 p,eInt 10 m,eItvItv 111000 (itvV b t0 t1),eI 111201 (itvP b t0 t1),eInt 211000 (pickV b t2 t3),eI 211201 (pickP b t2 t3),eInt 318000 (pickV b t4 t5),eI 318201 (pickP b t4 t5),eInt 511000 (pickV b t6 t7),eI 511201 (pickP b t6 t7)]) (fun (t:Int×Int×Int×Int×Int×Int×Int×Int×Int×Int)=>match t with|⟨t0,t1,t2,t3,t4,t5,t6,t7,lo,hi⟩=>(consL ⟨Int×Int×List InsIns,fun _ x=>match x with|⟨k,q,l⟩=>0≤k∧k≤1+pickV b t6 t7∧k=l.length∧p≤q∧q≤p+24+40*k,fun _ x=>match x with|⟨k,q,l⟩=>mkEs [eI 1 k,eI 2 q,eLInsIns 3 l,eInsIns 915000 (insdV b q m (IntKind.i64.wrap (2+pickV b t6 t7))),eI 915201 (insdP b q m (IntKind.i64.wrap (2+pickV b t6 t7))),eB 1011000 (oddV b q 9),eI 1011201 (oddP b q 9),eI 1113000 (pickV b (oddP b q 9) (IntKind.i64.wrap (2+pickV b t6 t7))),eI 1113201 (oddP b q 9+1),ePrcProc 1115000 ⟨lo,hi,l++[⟨9,0,0,0,0,0,0,pickV b (oddP b q 9) (IntKind.i64.wrap (2+pickV b t6 t7))⟩]⟩,eI 1212000 (pickV b (oddP b q 9) 4),eI 1212201 (oddP b q 9+1),ePrcProc 1214000 ⟨lo,hi,l++[⟨12,0,pickV b (oddP b q 9) 4,0,0,0,0,0⟩]⟩],fun _ x=>match x with|⟨k,q,l⟩=>(12-k).toNat⟩ noLps)) [(0,fun s=>(0,(((s.kl (mkM true [2,2,5,52])).upd [(8,xi 100000001)]).cell 0 0 1 (xi 100000002)).own ((s.kl (mkM true [2,2,5,52])).at_ 6) 0 2 kInsIns (.rws kInsIns 100000003 .nil)))] [.ptr 0 2 (.int .i64 0) 0,xInt 10] [rdX 0 (xLU8 1) (xi 2)] (fun ⟨t0,t1,t2,t3,t4,t5,t6,t7,lo,hi⟩=>by simp (maxSteps:=1000000) only [go_sem,Nat.reduceEqDiff,Nat.reduceAdd,Nat.reduceBEq,Int.reduceToNat]) (fun ⟨t0,t1,t2,t3,t4,t5,t6,t7,lo,hi⟩=>by simp (maxSteps:=1000000) only [go_sem,Nat.reduceEqDiff,Nat.reduceAdd,Nat.reduceBEq,Int.reduceToNat]) (xPrcProc 900) [rdX 0 (xLU8 951) (xi 952)] (fun a:PrcProc×Int=>p≤a.2∧a.2≤p+500∧1≤a.1.Code.length∧a.1.Code.length≤100) (fun a=>mkEs [ePrcProc 900 a.1,eLU8 951 b,eI 952 a.2]) ⟨(⟨0,0,[zInsIns]⟩,p),by simp [zPrcProc]<;>omega⟩ ?_
 · obtain ⟨a,h2,h3⟩:=key
   simp only [go_sem,Nat.reduceEqDiff,Nat.reduceAdd,Nat.reduceBEq,Int.reduceToNat] at h3
   exact ⟨a,h2,h3⟩
 conv=>arg 1;ext t;arg 4;cbv
 simp (maxSteps:=4000000) only [V.ExL,lput,consL,go_sem,Nat.reduceEqDiff,Nat.reduceAdd,Nat.reduceBEq,Int.reduceToNat,Nat.reduceDiv,Nat.reduceMod]
 iterate 10 apply Exists.intro
 try dsimp +instances only
 repeat' (first|with_reducible apply And.intro|intro _)
 all_goals first|exact itv_e (b:=b) (by grind) (by grind)|exact pick_e (b:=b) (by grind) (by grind)|exact insd_e (b:=b) (by grind) (by grind)|exact odd_e (b:=b) (by grind) (by grind)|exact end_e (by grind) (by grind)|(refine ⟨_,_,_,_,?_,rfl,rfl,rfl,rfl⟩;(repeat' (first|with_reducible apply And.intro|intro _));all_goals first|grind [wrapI]|grind (splits:=24) [wrapI]|exact sel_lo (by decide)|exact sel_hi (by decide)|(simp only [List.length_map,List.length_cons,List.length_nil];omega)|((repeat' split)<;>grind [wrapI]))|((repeat (with_reducible apply Exists.intro));(refine And.intro ?_ ?_);rotate_left;(repeat' (first|with_reducible exact rfl|with_reducible apply And.intro));all_goals (first|grind [wrapI]|grind (splits:=24) [wrapI]|exact sel_lo (by decide)|exact sel_hi (by decide)|(simp only [List.length_map,List.length_cons,List.length_nil];omega)|((repeat' split)<;>grind [wrapI])|((repeat' (first|with_reducible apply And.intro|intro _));all_goals first|grind [wrapI]|grind (splits:=24) [wrapI]|exact sel_lo (by decide)|exact sel_hi (by decide)|(simp only [List.length_map,List.length_cons,List.length_nil];omega)|((repeat' split)<;>grind [wrapI]))))|grind [wrapI]|grind (splits:=24) [wrapI]|exact sel_lo (by decide)|exact sel_hi (by decide)|(simp only [List.length_map,List.length_cons,List.length_nil];omega)|((repeat' split)<;>grind [wrapI])|exact (0:Int)
open Classical in
noncomputable def procF(b:List UInt8)(p:Int)(m:Int):PrcProc×Int:=if h:0≤p∧p+500≤1000000000 then (proc_x b p m h.1 h.2).choose else (⟨0,0,[zInsIns]⟩,p)
noncomputable def procV(b:List UInt8)(p:Int)(m:Int):PrcProc:=(procF b p m).1
noncomputable def procP(b:List UInt8)(p:Int)(m:Int):Int:=(procF b p m).2
theorem proc_e{b:List UInt8}{p:Int}{m:Int}(h0:0≤p)(h1:p+500≤1000000000):EC Tryz.prog 203 1 [.ptr 0 2 0 0,CI m] (rdH b p) (.agg [CI (procV b p m).Lo,CI (procV b p m).Hi,.d (.sl 8 ((procV b p m).Code.map dInsIns))]) (rdH b (procP b p m)) 1:=by
 have:=(proc_x b p m h0 h1).choose_spec.2
 simp only [procV,procP,procF,dif_pos (show 0≤p∧p+500≤1000000000 from ⟨h0,h1⟩)];exact this
@[grind =] theorem proc_i{b:List UInt8}{p:Int}{m:Int}:procP b p m=max p (min (procP b p m) (p+500)):=by
 simp only [procP,procF]
 split
 · rename_i h;have:=(proc_x b p m h.1 h.2).choose_spec.1;omega
 · omega
theorem proc_j{b:List UInt8}{p:Int}{m:Int}:1≤(procV b p m).Code.length∧(procV b p m).Code.length≤100:=by
 simp only [procV,procF]
 split
 · rename_i h;exact (proc_x b p m h.1 h.2).choose_spec.1.2.2
 · simp [zPrcProc]<;>omega
end Go.Proofs.YtjakhnhnjhafgaaGreat.Wk
