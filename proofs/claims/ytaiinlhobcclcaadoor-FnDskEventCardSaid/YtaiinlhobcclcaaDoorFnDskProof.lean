/- The row of FnDskEvent: a line that is drawn out of any bytes is read by the program as by the reference, what it reads is within its bounds, and the same line with four numbers more behind it is read as none: the law returns true for every input, where the library's variables that it meets hold what they are declared with. -/
import Derived.Test.YtaiinlhobcclcaaDoorRows
import Derived.Test.YtaiinlhobcclcaaDoorFnDskLaw
import Derived.Test.YtaiinlhobcclcaaDoorOpen
import Derived.Lib.LaidTab
import Derived.WalkKit
import Derived.ProofKit
import Derived.LaidMore
import Derived.OpenShut
import Derived.Below
import Derived.Carry
import Derived.Stop.Joined
namespace Go.Proofs.YtaiinlhobcclcaaDoor.fnDskEvent
open Go.ChangeShapes Go.WideShapes Go.ChangeAt Go.RowKit Ow
open Go.ChangeMaps (open_string shut_string)
open Wk (str)
set_option linter.unusedVariables false

abbrev laid5 : List (String × DataW Unit) := Rows.fnDskEventRow.laid
theorem own : ownKnob Tryd.prog.godebug = none := by kernel_rfl
theorem laidOut : laidOutB Tryd.prog = true := by kernel_rfl
theorem op_u8 : Opens Tryd.prog 5 UInt8 := opens_u8 Tryd.underlying5
theorem opens_ByteS : Opens Tryd.prog 22 (List UInt8) := opens_list Tryd.underlying22 (by kernel_rfl) (by decide) op_u8
theorem g0 : Tryd.prog.globalNamed "strconv.ErrSyntax" = some 0 := by kernel_rfl
theorem g1 : Tryd.prog.globalNamed "strconv.ErrRange" = some 1 := by kernel_rfl
theorem g2 : Tryd.prog.globalNamed (Rows.fnDskEventRow.named.getD 2 "") = some 2 := by kernel_rfl
theorem t0 : (Tryd.prog.globals[0]?).map (·.type) = some 70 := by kernel_rfl
theorem t1 : (Tryd.prog.globals[1]?).map (·.type) = some 70 := by kernel_rfl
theorem t2 : (Tryd.prog.globals[2]?).map (·.type) = some 100 := by kernel_rfl

/-- The door's own heap meets the condition. -/
theorem door_met (os : Os) (args : Array Value) : laidMetH Tryd.prog laid5 ((World.doorLaid Tryd.prog 62 os).forCall (fun _ _ => 0) ⟨#[], args, []⟩).memory :=
  laidMetH_of_parts3 (fuel := 8) (laidMet_of_run' 8 (by kernel_rfl) (by kernel_rfl)) (by kernel_rfl) (by kernel_rfl)

/-- What the condition gives the walks. -/
theorem of_laid {W : World} (h : laidMetH Tryd.prog laid5 W) : Wk.Lay W := by
  rw [MakeChecks.laidMetH_plain _ _ _ (by kernel_rfl)] at h
  obtain ⟨ps, ⟨_, _, _, _, _, _, _, _, _, _, ⟨_, _, _, _, _, _, _, _, _, _, ⟨g, t, cs, f, p, q, hg, ht, hv, hd, ⟨g', t', cs', f', p', q', hg', ht', hv', hd', ⟨g'', t'', cs'', f'', p'', q'', hg'', ht'', hv'', hd'', _, _⟩, _⟩, _⟩, _⟩, _⟩, _, _⟩ := h
  obtain rfl := Option.some.inj (g2.symm.trans hg)
  obtain rfl := Option.some.inj (g1.symm.trans hg')
  obtain rfl := Option.some.inj (g0.symm.trans hg'')
  obtain rfl := Option.some.inj (t2.symm.trans ht)
  obtain rfl := Option.some.inj (t1.symm.trans ht')
  obtain rfl := Option.some.inj (t0.symm.trans ht'')
  obtain ⟨_, u1, v1, hc1, -, -⟩ := iface_of_trod Tryd.underlying70 hd'
  obtain ⟨_, u0, v0, hc0, -, -⟩ := iface_of_trod Tryd.underlying70 hd''
  have m1 := World.var?_cell hg' hv' 0
  have m0 := World.var?_cell hg'' hv'' 0
  rw [Array.eq_one_of_toList hc1] at m1
  rw [Array.eq_one_of_toList hc0] at m0
  refine ⟨⟨_, by simpa using m0, Or.inr ⟨_, _, rfl⟩⟩, ⟨_, by simpa using m1, Or.inr ⟨_, _, rfl⟩⟩, ?_⟩
  show Lib.TabIs Tryd.prog W (Rows.fnDskEventRow.named.getD 2 "") .u64 Lib.pow10Tab
  have e := Lib.cells_of_tab (k := .u64) (zs := Lib.pow10Tab) Tryd.underlying100 Tryd.underlying80 (by kernel_rfl) (by kernel_rfl) hd
  unfold Lib.TabIs
  rw [← e]
  exact hv

set_option maxRecDepth 100000 in
theorem lifted (os : Os) (started : os.Started) (H : Type) (enc : TypeId × Value → H) :
    ReturnsInHanded {} Tryd.checked os 4 .any (fun w args => (Rows.fnDskEventSpec.pre enc Tryd.prog Tryd.f4 [] false w args ∧ laidMetH Tryd.prog laid5 w) ∧ sizedMet enc Tryd.prog Tryd.f4 (OpenSpec.ofChange Rows.fnDskEventSpec) false w args)
      (Rows.fnDskEventSpec.post enc Tryd.prog Tryd.f4 false true false false) := by
  refine returnsInHanded_of_change_and (C := Tryd.checked) (X := fun w _ => laidMetH Tryd.prog laid5 w) (fun _ _ _ hh h => h.of_heap hh) own started (by kernel_rfl) Tryd.func4
    (ChangeSpec.witness_shaped (enc := enc) (C := Tryd.checked) (os := os) (X := fun w _ => laidMetH Tryd.prog laid5 w) false (World.doorLaid Tryd.prog 62 os) #[.slice none 0 0] 8 rfl (World.shaped_of_RefB (by kernel_rfl) (by kernel_rfl)) (by kernel_rfl) (by kernel_rfl) (by kernel_rfl) (door_met os _)) ?_
  intro W base args ds gs before hval0 hW _ _ hL _
  have hval : ∀ (j : Nat) t v, Tryd.f4.params[j]? = some t → args[j]? = some v → Value.okWide Tryd.prog W .any base t v := hval0
  have hW' := hW
  obtain ⟨p, q, hA0, hV, rfl, hfz, hnd⟩ := hW
  have hA : DataW.TrodAll enc Tryd.prog W 0 (fun _ => true) true Tryd.f4.params.toList args.toList ds p := hA0
  rw [Tryd.params4] at hA hval
  obtain ⟨v0, vs0, d0, ds0, p0, q0, hargs, rfl, rfl, h0, r0⟩ := trodAll_cons hA
  obtain ⟨rfl, rfl, rfl⟩ := trodAll_nil r0
  obtain rfl : args = #[v0] := by cases args; simp_all
  obtain ⟨rfl, rfl⟩ := trodVars_none hV
  have k0 := h0
  have lt0 : ∀ x ∈ p0, x.block < W.heap.size := by obtain ⟨m, hm⟩ := k0; exact DataW.trod_lt m _ _ _ hm
  obtain ⟨A0, n0, c0, rfl⟩ := okWide_slice Tryd.underlying22 (hval 0 22 v0 rfl rfl)
  obtain ⟨x0, F0, hR0⟩ := opens_ByteS.trod h0
  have g0 : RL W x0 _ F0 := RL.of (v := .slice A0 n0 c0) hR0
  have hL' := of_laid hL
  clear hA0 hval0
  refine (Wk.walkFnDsk x0 _ _ W hL' g0).mono fun e W' ⟨he, hg⟩ => ?_
  subst he
  have bel := hg.below
  exact ⟨_, rfl, _, _, _, [], _, [], hW', trodAll_mk1 (shut_bool Tryd.underlying4 _), (trodAll_cons_mk (Below.trod laidOut (by kernel_rfl) (of_decide_eq_true (by kernel_rfl)) k0 bel lt0) trodAll_mk0), rfl, bel.frame _, fun h => by cases h⟩

theorem over : Rows.FnDskEventSaid :=
  OpenClaim.holds_of_wide 4 Tryd.f4 rfl rfl rfl rfl rfl rfl rfl ⟨rfl, rfl, rfl, rfl, rfl⟩ rfl rfl rfl rfl rfl (by kernel_rfl) Tryd.func4 (by kernel_rfl)
    (of_decide_eq_true (by kernel_rfl)) (by unfold Func.isWrapper; first | (rw [if_pos (by decide +kernel)]; kernel_rfl) | (rw [if_neg (by decide +kernel)]; exact ⟨rfl, rfl⟩))
    (fun os started H enc _ => lifted os started H enc)
#print axioms over
end Go.Proofs.YtaiinlhobcclcaaDoor.fnDskEvent
