/- The program's RunMany returns what the reference's returns, for all arguments: the law FnExactRunMany returns true for every input, without conditions. -/
import Derived.Test.YtjakhnhnjhafgaaGreatRows
import Derived.Test.YtjakhnhnjhafgaaGreatManyLaw
import Derived.Test.YtjakhnhnjhafgaaGreatZOpen
import Derived.WalkKit
import Derived.ProofKit
import Derived.OpenShut
import Derived.Below
import Derived.Carry
namespace Go.Proofs.YtjakhnhnjhafgaaGreat.fnExactRunMany
open Go.ChangeShapes Go.WideShapes Go.ChangeAt Go.RowKit Ow
open Go.ChangeMaps (open_string shut_string)
set_option linter.unusedVariables false

theorem own : ownKnob Tryz.prog.godebug = none := by kernel_rfl
theorem laidOut : laidOutB Tryz.prog = true := by kernel_rfl
theorem op_int : Opens Tryz.prog 3 Int := opens_int Tryz.underlying3
theorem opens_InsIns : Opens Tryz.prog 259 InsIns := opens_by (fun (x : InsIns) => (x.Op, x.D, x.A, x.B, x.Rel, x.Lo, x.Hi, x.To)) (fun y => ({ Op := y.1, D := y.2.1, A := y.2.2.1, B := y.2.2.2.1, Rel := y.2.2.2.2.1, Lo := y.2.2.2.2.2.1, Hi := y.2.2.2.2.2.2.1, To := y.2.2.2.2.2.2.2 } : InsIns)) (fun _ => rfl) (opens_struct Tryz.underlying259 (by kernel_rfl) (opensAt_cons _ rfl rfl (by kernel_rfl) op_int (opensAt_cons _ rfl rfl (by kernel_rfl) op_int (opensAt_cons _ rfl rfl (by kernel_rfl) op_int (opensAt_cons _ rfl rfl (by kernel_rfl) op_int (opensAt_cons _ rfl rfl (by kernel_rfl) op_int (opensAt_cons _ rfl rfl (by kernel_rfl) op_int (opensAt_cons _ rfl rfl (by kernel_rfl) op_int (opensAt_last _ rfl rfl (by kernel_rfl) op_int)))))))))
theorem opens_InsInsS : Opens Tryz.prog 194 (List InsIns) := opens_list Tryz.underlying194 (by kernel_rfl) (by decide) opens_InsIns
theorem opens_PrcProc : Opens Tryz.prog 196 PrcProc := opens_by (fun (x : PrcProc) => (x.Lo, x.Hi, x.Code)) (fun y => ({ Lo := y.1, Hi := y.2.1, Code := y.2.2 } : PrcProc)) (fun _ => rfl) (opens_struct Tryz.underlying196 (by kernel_rfl) (opensAt_cons _ rfl rfl (by kernel_rfl) op_int (opensAt_cons _ rfl rfl (by kernel_rfl) op_int (opensAt_last _ rfl rfl (by kernel_rfl) opens_InsInsS))))
theorem opens_PrcProcS : Opens Tryz.prog 62 (List PrcProc) := opens_list Tryz.underlying62 (by kernel_rfl) (by decide) opens_PrcProc
theorem opens_PrgProg : Opens Tryz.prog 64 PrgProg := opens_by (fun (x : PrgProg) => x.Procs) (fun y => ({ Procs := y } : PrgProg)) (fun _ => rfl) (opens_struct Tryz.underlying64 (by kernel_rfl) (opensAt_last _ rfl rfl (by kernel_rfl) opens_PrcProcS))
theorem opens_IntS : Opens Tryz.prog 42 (List Int) := opens_list Tryz.underlying42 (by kernel_rfl) (by decide) op_int
theorem opens_RunFrame : Opens Tryz.prog 198 RunFrame := opens_by (fun (x : RunFrame) => (x.Proc, x.Pc, x.Vars, x.Cells)) (fun y => ({ Proc := y.1, Pc := y.2.1, Vars := y.2.2.1, Cells := y.2.2.2 } : RunFrame)) (fun _ => rfl) (opens_struct Tryz.underlying198 (by kernel_rfl) (opensAt_cons _ rfl rfl (by kernel_rfl) op_int (opensAt_cons _ rfl rfl (by kernel_rfl) op_int (opensAt_cons _ rfl rfl (by kernel_rfl) opens_IntS (opensAt_last _ rfl rfl (by kernel_rfl) opens_IntS)))))
theorem opens_RunFrameS : Opens Tryz.prog 65 (List RunFrame) := opens_list Tryz.underlying65 (by kernel_rfl) (by decide) opens_RunFrame
theorem opens_RunRun : Opens Tryz.prog 67 RunRun := opens_by (fun (x : RunRun) => (x.State, x.Frames, x.Out, x.Proc, x.Pc)) (fun y => ({ State := y.1, Frames := y.2.1, Out := y.2.2.1, Proc := y.2.2.2.1, Pc := y.2.2.2.2 } : RunRun)) (fun _ => rfl) (opens_struct Tryz.underlying67 (by kernel_rfl) (opensAt_cons _ rfl rfl (by kernel_rfl) op_int (opensAt_cons _ rfl rfl (by kernel_rfl) opens_RunFrameS (opensAt_cons _ rfl rfl (by kernel_rfl) op_int (opensAt_cons _ rfl rfl (by kernel_rfl) op_int (opensAt_last _ rfl rfl (by kernel_rfl) op_int))))))

set_option maxRecDepth 100000 in
set_option maxHeartbeats 1000000 in
theorem lifted (os : Os) (started : os.Started) (H : Type) (enc : TypeId × Value → H) :
    ReturnsInHanded {} Tryz.checked os 6 .any (Rows.fnExactRunManySpec.pre6 enc Tryz.prog Tryz.f6 Rows.fnExactRunManyRow.domain false) (Rows.fnExactRunManySpec.post enc Tryz.prog Tryz.f6 false true false false) := by
  refine returnsInHanded_of_change (C := Tryz.checked) own started (by kernel_rfl) Tryz.func6
    (ChangeSpec.witness6 (enc := enc) (C := Tryz.checked) false ⟨#[], #[.agg #[.slice none 0 0], .agg #[.int .i64 0, .slice none 0 0, .int .i64 0, .int .i64 0, .int .i64 0], .slice none 0 0, .int .i64 0], []⟩ 8 (by kernel_rfl) (by kernel_rfl) (by kernel_rfl) (by kernel_rfl)) ?_
  intro W base args ds gs before hval0 hW hcnd _
  have hval : ∀ (j : Nat) t v, Tryz.f6.params[j]? = some t → args[j]? = some v → Value.okWide Tryz.prog W .any base t v := hval0
  have hW' := hW
  obtain ⟨p, q, hA0, hV, rfl, hfz, hnd⟩ := hW
  have hA : DataW.TrodAll enc Tryz.prog W 0 (fun _ => true) true Tryz.f6.params.toList args.toList ds p := hA0
  rw [Tryz.params6] at hA hval
  obtain ⟨v0, vs0, d0, ds0, p0, q0, hargs, rfl, rfl, h0, r0⟩ := trodAll_cons hA
  obtain ⟨v1, vs1, d1, ds1, p1, q1, rfl, rfl, rfl, h1, r1⟩ := trodAll_cons r0
  obtain ⟨v2, vs2, d2, ds2, p2, q2, rfl, rfl, rfl, h2, r2⟩ := trodAll_cons r1
  obtain ⟨v3, vs3, d3, ds3, p3, q3, rfl, rfl, rfl, h3, r3⟩ := trodAll_cons r2
  obtain ⟨rfl, rfl, rfl⟩ := trodAll_nil r3
  obtain rfl : args = #[v0, v1, v2, v3] := by cases args; simp_all
  obtain ⟨rfl, rfl⟩ := trodVars_none hV
  have k0 := h0
  have lt0 : ∀ x ∈ p0, x.block < W.heap.size := by obtain ⟨m, hm⟩ := k0; exact DataW.trod_lt m _ _ _ hm
  obtain ⟨cs0, rfl, hsz0⟩ := okWide_struct Tryz.underlying64 (hval 0 64 v0 rfl rfl)
  obtain ⟨x0, F0, hR0⟩ := opens_PrgProg.trod h0
  obtain ⟨u0_Procs, G0_Procs, hcs0, -, g0_Procs⟩ := R_PrgProg.1 hR0
  obtain rfl : cs0 = #[u0_Procs] := Array.toList_inj.1 hcs0
  have k1 := h1
  have lt1 : ∀ x ∈ p1, x.block < W.heap.size := by obtain ⟨m, hm⟩ := k1; exact DataW.trod_lt m _ _ _ hm
  obtain ⟨cs1, rfl, hsz1⟩ := okWide_struct Tryz.underlying67 (hval 1 67 v1 rfl rfl)
  obtain ⟨x1, F1, hR1⟩ := opens_RunRun.trod h1
  obtain ⟨u1_Frames, G1_Frames, hcs1, -, i1_State, g1_Frames, i1_Out, i1_Proc, i1_Pc⟩ := R_RunRun.1 hR1
  obtain rfl : cs1 = #[.int .i64 x1.State, u1_Frames, .int .i64 x1.Out, .int .i64 x1.Proc, .int .i64 x1.Pc] := Array.toList_inj.1 hcs1
  have k2 := h2
  have lt2 : ∀ x ∈ p2, x.block < W.heap.size := by obtain ⟨m, hm⟩ := k2; exact DataW.trod_lt m _ _ _ hm
  obtain ⟨A2, n2, c2, rfl⟩ := okWide_slice Tryz.underlying42 (hval 2 42 v2 rfl rfl)
  obtain ⟨x2, F2, hR2⟩ := opens_IntS.trod h2
  have g2 : RL W x2 _ F2 := RL.of (v := .slice A2 n2 c2) hR2
  have k3 := h3
  have lt3 : ∀ x ∈ p3, x.block < W.heap.size := by obtain ⟨m, hm⟩ := k3; exact DataW.trod_lt m _ _ _ hm
  obtain ⟨x3, rfl, rfl, rfl, wf3⟩ := open_int Tryz.underlying3 (hval 3 3 v3 rfl rfl) h3
  clear hA0 hval0
  refine (Wk.walkRunMany x0 x1 x2 x3 _ _ _ _ _ _ W g0_Procs g1_Frames g2 (Go.bounds_i64 wf3)).mono fun e W' ⟨he, hg⟩ => ?_
  subst he
  have bel := hg.below
  exact ⟨_, rfl, _, _, _, [], _, [], hW', trodAll_mk1 (shut_bool Tryz.underlying4 _), (trodAll_cons_mk (Below.trod laidOut (by kernel_rfl) (of_decide_eq_true (by kernel_rfl)) k0 bel lt0) (trodAll_cons_mk (Below.trod laidOut (by kernel_rfl) (of_decide_eq_true (by kernel_rfl)) k1 bel lt1) (trodAll_cons_mk (Below.trod laidOut (by kernel_rfl) (of_decide_eq_true (by kernel_rfl)) k2 bel lt2) (trodAll_cons_mk (Below.trod laidOut (by kernel_rfl) (of_decide_eq_true (by kernel_rfl)) k3 bel lt3) trodAll_mk0)))), rfl, bel.frame _, fun h => by cases h⟩

theorem over : Rows.fnExactRunManyRow.holds Tryz.pinned (OpenSpec.ofChange Rows.fnExactRunManySpec) :=
  OpenClaim.holds_of_wide 6 Tryz.f6 rfl rfl rfl rfl rfl rfl rfl ⟨rfl, rfl, rfl, rfl, rfl⟩ rfl rfl rfl rfl rfl (by kernel_rfl) Tryz.func6 (by kernel_rfl)
    (of_decide_eq_true (by kernel_rfl)) (by unfold Func.isWrapper; first | (rw [if_pos (by decide +kernel)]; kernel_rfl) | (rw [if_neg (by decide +kernel)]; exact ⟨rfl, rfl⟩))
    (fun os started H enc _ => lifted os started H enc)

theorem proved : Rows.FnExactRunManySaid := over
#print axioms proved
end Go.Proofs.YtjakhnhnjhafgaaGreat.fnExactRunMany
