/- A part of the proof. -/
import Derived.Test.YtjakhnhnjhafgaaGreatK40
import Derived.Test.YtjakhnhnjhafgaaGreatK43
import Derived.Test.YtjakhnhnjhafgaaGreatK28
set_option linter.unusedVariables false
set_option linter.unusedSimpArgs false
namespace Go.Proofs.YtjakhnhnjhafgaaGreat.Wk
open Go Go.RowKit Go.Deep Ow
set_option maxRecDepth 100000
theorem and3(x:Int):0≤arI .and .i64 x 3∧arI .and .i64 x 3≤3:=by
 show 0≤IntKind.i64.wrap ((BitVec.ofInt 64 x &&& BitVec.ofInt 64 3).toNat:Int)∧IntKind.i64.wrap ((BitVec.ofInt 64 x &&& BitVec.ofInt 64 3).toNat:Int)≤3
 have h:(BitVec.ofInt 64 x &&& BitVec.ofInt 64 3).toNat≤3:=by
  rw [BitVec.toNat_and];exact Nat.le_trans Nat.and_le_right (by decide)
 rw [wrapI (by omega) (by omega)];omega
theorem and3_hi{x:Int}{n:Nat}(h:n=4):arI .and .i64 x 3<n:=by have:=(and3 x).2;omega
set_option maxHeartbeats 2000000 in
theorem dAbsFails_x(b:List UInt8):∃a:PrgProg×InsIns×AbsState,a.1.Procs.length≤5∧EC Tryz.prog 8 0 [.d (.sl 1 (b.map dU8))] [] (.tup [.agg [.d (.sl 3 (a.1.Procs.map dPrcProc))],.agg [CI a.2.1.Op,CI a.2.1.D,CI a.2.1.A,CI a.2.1.B,CI a.2.1.Rel,CI a.2.1.Lo,CI a.2.1.Hi,CI a.2.1.To],.agg [CB a.2.2.On,.d (.sl 2 (a.2.2.Vars.map dItvItv)),CI a.2.2.Cells.Lo,CI a.2.2.Cells.Hi]]) [] 0:=by
 have key:=(seat [52] [] [(46,[.sl (.cons (.int .u8) .nil),.int .i64])]).PX (mkM true [1,1,7,78]) (f:=8) (fn:=Tryz.f8) (args:=[.d (.sl 1 (b.map dU8))]) (h:=[]) ⟨by kernel_rfl,by kernel_rfl,rfl⟩ (Nat.le_refl 0) (fun (t:Int×Int×Int×Int×Int×Int×Int×Int×Int×Int×Int×Int×Int×Int×Int×Int×Int×Int×Int×Int×Int×Int×Int×Int×Int×Int×Int×Int×InsIns×Int×Int×Int×Int×Int×Int)=>match t with|⟨t0,t1,t2,t3,t4,t5,t6,t7,t8,t9,t10,t11,t12,t13,t14,t15,t16,t17,t18,t19,t20,t21,t22,t23,t24,t25,t26,t27,t28,t29,t30,t31,t32,t33,t34⟩=>mkEs [eLU8 10 b,eLU8 111000 (b.take 2000),eI 111001 0,ePrgProg 211000 (progOrV (b.take 2000) t0 t1),eI 211201 (progOrP (b.take 2000) t0 t1),eInsIns 315000 (insdV (b.take 2000) t2 t3 t4),eI 315201 (insdP (b.take 2000) t2 t3 t4),eInt 411000 (pickV (b.take 2000) t5 t6),eI 411201 (pickP (b.take 2000) t5 t6),eInt 511000 (pickV (b.take 2000) t7 t8),eI 511201 (pickP (b.take 2000) t7 t8),eInt 513000 (pickV (b.take 2000) t9 t10),eI 513201 (pickP (b.take 2000) t9 t10),eInt 516000 (pickV (b.take 2000) t11 t12),eI 516201 (pickP (b.take 2000) t11 t12),eInt 519000 (pickV (b.take 2000) t13 t14),eI 519201 (pickP (b.take 2000) t13 t14),eInt 522000 (pickV (b.take 2000) t15 t16),eI 522201 (pickP (b.take 2000) t15 t16),eInt 524000 (pickV (b.take 2000) t17 t18),eI 524201 (pickP (b.take 2000) t17 t18),eInt 526000 (pickV (b.take 2000) t19 t20),eI 526201 (pickP (b.take 2000) t19 t20),eInt 530000 (pickV (b.take 2000) t21 t22),eI 530201 (pickP (b.take 2000) t21 t22),eInt 534000 (pickV (b.take 2000) t23 t24),eI 534201 (pickP (b.take 2000) t23 t24),eBool 611000 (oddV (b.take 2000) t25 t26),eI 611201 (oddP (b.take 2000) t25 t26),eInsIns 712000 (spoilV (b.take 2000) t27 t28),eI 712201 (spoilP (b.take 2000) t27 t28),eAbsState 811000 (stateV (b.take 2000) t29 t30),eI 811201 (stateP (b.take 2000) t29 t30),eB 911000 (absOk (stateV (b.take 2000) t29 t30)),eInt 918000 (pickV (b.take 2000) t31 t32),eI 918201 (pickP (b.take 2000) t31 t32),eInt 1023000 (pickV (b.take 2000) t33 t34),eI 1023201 (pickP (b.take 2000) t33 t34)]) [xLU8 10] [] (fun ⟨t0,t1,t2,t3,t4,t5,t6,t7,t8,t9,t10,t11,t12,t13,t14,t15,t16,t17,t18,t19,t20,t21,t22,t23,t24,t25,t26,t27,t28,t29,t30,t31,t32,t33,t34⟩=>by simp (maxSteps:=1000000) only [go_sem,Nat.reduceEqDiff,Nat.reduceAdd,Nat.reduceBEq,Int.reduceToNat]) (fun _=>rfl) (.tup (.cons (xPrgProg 900) (.cons (xInsIns 910) (.cons (xAbsState 920) .nil)))) [] (fun a:PrgProg×InsIns×AbsState=>a.1.Procs.length≤5) (fun a=>mkEs [ePrgProg 900 a.1,eInsIns 910 a.2.1,eAbsState 920 a.2.2]) ⟨(⟨[]⟩,zInsIns,zAbsState),by simp⟩ ?_
 · obtain ⟨a,h2,h3⟩:=key
   simp only [go_sem,Nat.reduceEqDiff,Nat.reduceAdd,Nat.reduceBEq,Int.reduceToNat] at h3
   exact ⟨a,h2,h3⟩
 conv=>arg 1;ext t;arg 3;cbv
 simp (maxSteps:=4000000) only [V.Ex,go_sem,Nat.reduceEqDiff,Nat.reduceAdd,Nat.reduceBEq,Int.reduceToNat]
 iterate 42 apply Exists.intro
 try dsimp +instances only
 repeat' (first|with_reducible apply And.intro|intro _)
 all_goals first|exact progOr_e (b:=b.take 2000) (by grind) (by grind)|exact insd_e (b:=b.take 2000) (by grind) (by grind)|exact pick_e (b:=b.take 2000) (by grind) (by grind)|exact odd_e (b:=b.take 2000) (by grind) (by grind)|exact spoil_e (b:=b.take 2000) (by grind) (by grind)|exact state_e (b:=b.take 2000) (by grind) (by grind)|exact open_e|exact AbsOk_e rfl|trivial|exact (and3 _).1|exact and3_hi (absOk_len (by assumption) (by assumption))|exact and3_hi (by grind [absOk])|(refine ⟨_,_,_,_,_,_,_,_,_,_,_,_,_,?_,rfl,rfl,rfl,rfl,rfl,rfl,rfl,rfl,rfl,rfl,rfl,rfl,rfl⟩;(repeat' (first|with_reducible apply And.intro|intro _));all_goals first|exact progOr_j|grind [wrapI,absOk]|(repeat' split)<;>grind [wrapI,absOk])|exact progOr_j|grind [wrapI,absOk]|(repeat' split)<;>grind [wrapI,absOk]|exact (0:Int)
noncomputable def dAF(b:List UInt8):PrgProg×InsIns×AbsState:=(dAbsFails_x b).choose
theorem dAF_e(b:List UInt8):EC Tryz.prog 8 0 [.d (.sl 1 (b.map dU8))] [] (.tup [.agg [.d (.sl 3 ((dAF b).1.Procs.map dPrcProc))],.agg [CI (dAF b).2.1.Op,CI (dAF b).2.1.D,CI (dAF b).2.1.A,CI (dAF b).2.1.B,CI (dAF b).2.1.Rel,CI (dAF b).2.1.Lo,CI (dAF b).2.1.Hi,CI (dAF b).2.1.To],.agg [CB (dAF b).2.2.On,.d (.sl 2 ((dAF b).2.2.Vars.map dItvItv)),CI (dAF b).2.2.Cells.Lo,CI (dAF b).2.2.Cells.Hi]]) [] 0:=(dAbsFails_x b).choose_spec.2
theorem dAF_len(b:List UInt8):(dAF b).1.Procs.length≤5:=(dAbsFails_x b).choose_spec.1
end Go.Proofs.YtjakhnhnjhafgaaGreat.Wk
