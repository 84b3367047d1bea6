/- The program's CrdFall returns what the reference's returns, for all arguments: the law FnExactCrdFall returns true for every input, without conditions. -/
import Derived.Test.YtaiinlhobcclcaaRows
import Derived.Test.YtaiinlhobcclcaaCrdFallLaw
import Derived.Test.YtaiinlhobcclcaaOpen
import Derived.WalkKit
import Derived.ProofKit
import Derived.OpenShut
import Derived.Below
import Derived.Carry
namespace Go.Proofs.Ytaiinlhobcclcaa.fnExactCrdFall
open Go.ChangeShapes Go.WideShapes Go.ChangeAt Go.RowKit Ow
open Go.ChangeMaps (open_string shut_string)
set_option linter.unusedVariables false

theorem own : ownKnob Try.prog.godebug = none := by kernel_rfl
theorem laidOut : laidOutB Try.prog = true := by kernel_rfl
theorem op_bool : Opens Try.prog 4 Bool := opens_bool Try.underlying4
theorem op_int : Opens Try.prog 3 Int := opens_int Try.underlying3
theorem opens_BoolS : Opens Try.prog 34 (List Bool) := opens_list Try.underlying34 (by kernel_rfl) (by decide) op_bool
theorem opens_ItvItv : Opens Try.prog 119 ItvItv := opens_by (fun (x : ItvItv) => (x.Lo, x.Hi)) (fun y => ({ Lo := y.1, Hi := y.2 } : ItvItv)) (fun _ => rfl) (opens_struct Try.underlying119 (by kernel_rfl) (opensAt_cons _ rfl rfl (by kernel_rfl) op_int (opensAt_last _ rfl rfl (by kernel_rfl) op_int)))
theorem opens_ItvItvS : Opens Try.prog 128 (List ItvItv) := opens_list Try.underlying128 (by kernel_rfl) (by decide) opens_ItvItv
theorem opens_AbsState : Opens Try.prog 130 AbsState := opens_by (fun (x : AbsState) => (x.On, x.Vars, x.Cells)) (fun y => ({ On := y.1, Vars := y.2.1, Cells := y.2.2 } : AbsState)) (fun _ => rfl) (opens_struct Try.underlying130 (by kernel_rfl) (opensAt_cons _ rfl rfl (by kernel_rfl) op_bool (opensAt_cons _ rfl rfl (by kernel_rfl) opens_ItvItvS (opensAt_last _ rfl rfl (by kernel_rfl) opens_ItvItv))))
theorem opens_AbsStateS : Opens Try.prog 116 (List AbsState) := opens_list Try.underlying116 (by kernel_rfl) (by decide) opens_AbsState
theorem opens_AbsStateSS : Opens Try.prog 86 (List (List AbsState)) := opens_list Try.underlying86 (by kernel_rfl) (by decide) opens_AbsStateS
theorem opens_SumSum : Opens Try.prog 121 SumSum := opens_by (fun (x : SumSum) => (x.On, x.Out)) (fun y => ({ On := y.1, Out := y.2 } : SumSum)) (fun _ => rfl) (opens_struct Try.underlying121 (by kernel_rfl) (opensAt_cons _ rfl rfl (by kernel_rfl) op_bool (opensAt_last _ rfl rfl (by kernel_rfl) opens_ItvItv)))
theorem opens_SumSumS : Opens Try.prog 87 (List SumSum) := opens_list Try.underlying87 (by kernel_rfl) (by decide) opens_SumSum
theorem opens_CrtCert : Opens Try.prog 89 CrtCert := opens_by (fun (x : CrtCert) => (x.States, x.Outs)) (fun y => ({ States := y.1, Outs := y.2 } : CrtCert)) (fun _ => rfl) (opens_struct Try.underlying89 (by kernel_rfl) (opensAt_cons _ rfl rfl (by kernel_rfl) opens_AbsStateSS (opensAt_last _ rfl rfl (by kernel_rfl) opens_SumSumS)))
theorem opens_CrtCertS : Opens Try.prog 35 (List CrtCert) := opens_list Try.underlying35 (by kernel_rfl) (by decide) opens_CrtCert
theorem opens_CrdLease : Opens Try.prog 95 CrdLease := opens_by (fun (x : CrdLease) => (x.Part, x.Who, x.Seq, x.Due)) (fun y => ({ Part := y.1, Who := y.2.1, Seq := y.2.2.1, Due := y.2.2.2 } : CrdLease)) (fun _ => rfl) (opens_struct Try.underlying95 (by kernel_rfl) (opensAt_cons _ rfl rfl (by kernel_rfl) op_int (opensAt_cons _ rfl rfl (by kernel_rfl) op_int (opensAt_cons _ rfl rfl (by kernel_rfl) op_int (opensAt_last _ rfl rfl (by kernel_rfl) op_int)))))
theorem opens_CrdLeaseS : Opens Try.prog 36 (List CrdLease) := opens_list Try.underlying36 (by kernel_rfl) (by decide) opens_CrdLease
theorem opens_CrtSite : Opens Try.prog 110 CrtSite := opens_by (fun (x : CrtSite) => (x.Proc, x.Pc)) (fun y => ({ Proc := y.1, Pc := y.2 } : CrtSite)) (fun _ => rfl) (opens_struct Try.underlying110 (by kernel_rfl) (opensAt_cons _ rfl rfl (by kernel_rfl) op_int (opensAt_last _ rfl rfl (by kernel_rfl) op_int)))
theorem opens_CrtSiteS : Opens Try.prog 37 (List CrtSite) := opens_list Try.underlying37 (by kernel_rfl) (by decide) opens_CrtSite
theorem opens_VrdVerdict : Opens Try.prog 39 VrdVerdict := opens_by (fun (x : VrdVerdict) => (x.Kind, x.Line, x.Sites)) (fun y => ({ Kind := y.1, Line := y.2.1, Sites := y.2.2 } : VrdVerdict)) (fun _ => rfl) (opens_struct Try.underlying39 (by kernel_rfl) (opensAt_cons _ rfl rfl (by kernel_rfl) op_int (opensAt_cons _ rfl rfl (by kernel_rfl) op_int (opensAt_last _ rfl rfl (by kernel_rfl) opens_CrtSiteS))))
theorem op_u8 : Opens Try.prog 5 UInt8 := opens_u8 Try.underlying5
theorem opens_ByteS : Opens Try.prog 40 (List UInt8) := opens_list Try.underlying40 (by kernel_rfl) (by decide) op_u8
theorem opens_CrdCoord : Opens Try.prog 42 CrdCoord := opens_by (fun (x : CrdCoord) => (x.Up, x.Epoch, x.Seq, x.Clock, x.Done, x.Certs, x.Leases, x.Verdict, x.Log)) (fun y => ({ Up := y.1, Epoch := y.2.1, Seq := y.2.2.1, Clock := y.2.2.2.1, Done := y.2.2.2.2.1, Certs := y.2.2.2.2.2.1, Leases := y.2.2.2.2.2.2.1, Verdict := y.2.2.2.2.2.2.2.1, Log := y.2.2.2.2.2.2.2.2 } : CrdCoord)) (fun _ => rfl) (opens_struct Try.underlying42 (by kernel_rfl) (opensAt_cons _ rfl rfl (by kernel_rfl) op_bool (opensAt_cons _ rfl rfl (by kernel_rfl) op_int (opensAt_cons _ rfl rfl (by kernel_rfl) op_int (opensAt_cons _ rfl rfl (by kernel_rfl) op_int (opensAt_cons _ rfl rfl (by kernel_rfl) opens_BoolS (opensAt_cons _ rfl rfl (by kernel_rfl) opens_CrtCertS (opensAt_cons _ rfl rfl (by kernel_rfl) opens_CrdLeaseS (opensAt_cons _ rfl rfl (by kernel_rfl) opens_VrdVerdict (opensAt_last _ rfl rfl (by kernel_rfl) opens_ByteS))))))))))

set_option maxRecDepth 100000 in
set_option maxHeartbeats 1000000 in
theorem lifted (os : Os) (started : os.Started) (H : Type) (enc : TypeId × Value → H) :
    ReturnsInHanded {} Try.checked os 4 .any (Rows.fnExactCrdFallSpec.pre6 enc Try.prog Try.f4 Rows.fnExactCrdFallRow.domain false) (Rows.fnExactCrdFallSpec.post enc Try.prog Try.f4 false true false false) := by
  refine returnsInHanded_of_change (C := Try.checked) own started (by kernel_rfl) Try.func4
    (ChangeSpec.witness6 (enc := enc) (C := Try.checked) false ⟨#[], #[.agg #[.bool false, .int .i64 0, .int .i64 0, .int .i64 0, .slice none 0 0, .slice none 0 0, .slice none 0 0, .int .i64 0, .int .i64 0, .slice none 0 0, .slice none 0 0]], []⟩ 8 (by kernel_rfl) (by kernel_rfl) (by kernel_rfl) (by kernel_rfl)) ?_
  intro W base args ds gs before hval0 hW hcnd _
  have hval : ∀ (j : Nat) t v, Try.f4.params[j]? = some t → args[j]? = some v → Value.okWide Try.prog W .any base t v := hval0
  have hW' := hW
  obtain ⟨p, q, hA0, hV, rfl, hfz, hnd⟩ := hW
  have hA : DataW.TrodAll enc Try.prog W 0 (fun _ => true) true Try.f4.params.toList args.toList ds p := hA0
  rw [Try.params4] at hA hval
  obtain ⟨v0, vs0, d0, ds0, p0, q0, hargs, rfl, rfl, h0, r0⟩ := trodAll_cons hA
  obtain ⟨rfl, rfl, rfl⟩ := trodAll_nil r0
  obtain rfl : args = #[v0] := by cases args; simp_all
  obtain ⟨rfl, rfl⟩ := trodVars_none hV
  have k0 := h0
  have lt0 : ∀ x ∈ p0, x.block < W.heap.size := by obtain ⟨m, hm⟩ := k0; exact DataW.trod_lt m _ _ _ hm
  obtain ⟨cs0, rfl, hsz0⟩ := okWide_struct Try.underlying42 (hval 0 42 v0 rfl rfl)
  obtain ⟨x0, F0, hR0⟩ := opens_CrdCoord.trod h0
  obtain ⟨u0_Done, G0_Done, u0_Certs, G0_Certs, u0_Leases, G0_Leases, u0_VerdictSites, G0_VerdictSites, u0_Log, G0_Log, hcs0, -, i0_Epoch, i0_Seq, i0_Clock, g0_Done, g0_Certs, g0_Leases, i0_VerdictKind, i0_VerdictLine, g0_VerdictSites, g0_Log⟩ := R_CrdCoord.1 hR0
  obtain rfl : cs0 = #[.bool x0.Up, .int .i64 x0.Epoch, .int .i64 x0.Seq, .int .i64 x0.Clock, u0_Done, u0_Certs, u0_Leases, .int .i64 x0.Verdict.Kind, .int .i64 x0.Verdict.Line, u0_VerdictSites, u0_Log] := Array.toList_inj.1 hcs0
  clear hA0 hval0
  refine (Wk.walkCrdFall x0 _ _ _ _ _ _ _ _ _ _ W g0_Done g0_Certs g0_Leases g0_VerdictSites g0_Log).mono fun e W' ⟨he, hg⟩ => ?_
  subst he
  have bel := hg.below
  exact ⟨_, rfl, _, _, _, [], _, [], hW', trodAll_mk1 (shut_bool Try.underlying4 _), (trodAll_cons_mk (Below.trod laidOut (by kernel_rfl) (of_decide_eq_true (by kernel_rfl)) k0 bel lt0) trodAll_mk0), rfl, bel.frame _, fun h => by cases h⟩

theorem over : Rows.fnExactCrdFallRow.holds Try.pinned (OpenSpec.ofChange Rows.fnExactCrdFallSpec) :=
  OpenClaim.holds_of_wide 4 Try.f4 rfl rfl rfl rfl rfl rfl rfl ⟨rfl, rfl, rfl, rfl, rfl⟩ rfl rfl rfl rfl rfl (by kernel_rfl) Try.func4 (by kernel_rfl)
    (of_decide_eq_true (by kernel_rfl)) (by unfold Func.isWrapper; first | (rw [if_pos (by decide +kernel)]; kernel_rfl) | (rw [if_neg (by decide +kernel)]; exact ⟨rfl, rfl⟩))
    (fun os started H enc _ => lifted os started H enc)

theorem proved : Rows.FnExactCrdFallSaid := over
#print axioms proved
end Go.Proofs.Ytaiinlhobcclcaa.fnExactCrdFall
