/-
  No cell of these rows narrows 'for every input' (looked for: loops, veiled, ifaces, maps, wideKeys, modest, calm, conditions, laid).
  DERIVED. THE GIVEN ROWS OF THIS SEAT. 5 by the template 'for every input the law returns true; each argument reads behind the call as it read before'; 0 by the template 'total and deterministic' (their statements: YtjakhnhnjhafgaaGreatTotals.lean).
  GIVEN WITH THE SEED: the statements are not yours to turn. If you find one false, say at which input.
  Laid BY PROGRAM, IN A SANDBOX (cutbox-rows.mjs): the forced cells as the released guide's own fill.sh prints them over the translation fb244ee1be6e2928… (all of the seat's roots in one cut). By AI agents, Wed Nov 11 2026. No macro, syntax, notation, axiom, sorry.
-/
import Derived.Test.YtjakhnhnjhafgaaGreatChecked
import GoSem.Claim
import GoSem.ClaimJoined
import GoSem.ClaimMapViews
import Derived.JoinedTies
import Derived.KernelRfl
namespace Go.Proofs.YtjakhnhnjhafgaaGreat
/- THE CELL 'sum', in the pinned program and in every row, IS THE sha256 OF THE DUMP (.gsa) THAT YtjakhnhnjhafgaaGreatProg.lean LOADS. Nothing in Lean hashes anything: it is a label: what it is worth is what the hold of that sum in a sandbox is worth. -/
noncomputable def Tryz.pinned : Pinned := { name := "ytjakhnhnjhafgaagreat", sum := "fb244ee1be6e292835447c97602a13c83ece96e301e7a0b8765b8fa0c3a9745e", checked := Tryz.checked }
namespace Rows
def none {H : Type} : Left H := { results := [], args := [] }

/-- 'laws.FnAbsFails': WHATEVER THE INPUT: true; the input reads as it did. -/
def fnAbsFailsSpec : ChangeSpec := { name := "fnAbsFails", fn := fun _ => fun
  | [d] => { results := [.lit (.bool true)], args := [d] }
  | _ => none }
def fnAbsFailsRow : OpenClaim := { program := "ytjakhnhnjhafgaagreat", sum := "fb244ee1be6e292835447c97602a13c83ece96e301e7a0b8765b8fa0c3a9745e", func := "loop.example/outwork/laws.FnAbsFails", spec := "fnAbsFails", unfollowed := true, recurses := true, apart := false }
def FnAbsFailsSaid : Prop := fnAbsFailsRow.holds Tryz.pinned (OpenSpec.ofChange fnAbsFailsSpec)

/-- ITS FALSE NEIGHBOUR: 'it returns false'. Refute it at one input. -/
def fnAbsFailsWrong : ChangeSpec := { name := "fnAbsFails", fn := fun _ => fun
  | [d] => { results := [.lit (.bool false)], args := [d] }
  | _ => none }
def FnAbsFailsWrongFalsely : Prop := fnAbsFailsRow.holds Tryz.pinned (OpenSpec.ofChange fnAbsFailsWrong)

/-- 'laws.FnRunSame': WHATEVER THE INPUT: true; the input reads as it did. -/
def fnRunSameSpec : ChangeSpec := { name := "fnRunSame", fn := fun _ => fun
  | [d1, d2] => { results := [.lit (.bool true)], args := [d1, d2] }
  | _ => none }
def fnRunSameRow : OpenClaim := { program := "ytjakhnhnjhafgaagreat", sum := "fb244ee1be6e292835447c97602a13c83ece96e301e7a0b8765b8fa0c3a9745e", func := "loop.example/outwork/laws.FnRunSame", spec := "fnRunSame", unfollowed := true, recurses := true, apart := false }
def FnRunSameSaid : Prop := fnRunSameRow.holds Tryz.pinned (OpenSpec.ofChange fnRunSameSpec)

/-- ITS FALSE NEIGHBOUR: 'it returns false'. Refute it at one input. -/
def fnRunSameWrong : ChangeSpec := { name := "fnRunSame", fn := fun _ => fun
  | [d1, d2] => { results := [.lit (.bool false)], args := [d1, d2] }
  | _ => none }
def FnRunSameWrongFalsely : Prop := fnRunSameRow.holds Tryz.pinned (OpenSpec.ofChange fnRunSameWrong)

/-- 'laws.FnExactRunStep': WHATEVER THE INPUT: true; the input reads as it did. -/
def fnExactRunStepSpec : ChangeSpec := { name := "fnExactRunStep", fn := fun _ => fun
  | [d1, d2, d3] => { results := [.lit (.bool true)], args := [d1, d2, d3] }
  | _ => none }
def fnExactRunStepRow : OpenClaim := { program := "ytjakhnhnjhafgaagreat", sum := "fb244ee1be6e292835447c97602a13c83ece96e301e7a0b8765b8fa0c3a9745e", func := "loop.example/outwork/laws.FnExactRunStep", spec := "fnExactRunStep", unfollowed := true, recurses := true, apart := false }
def FnExactRunStepSaid : Prop := fnExactRunStepRow.holds Tryz.pinned (OpenSpec.ofChange fnExactRunStepSpec)

/-- ITS FALSE NEIGHBOUR: 'it returns false'. Refute it at one input. -/
def fnExactRunStepWrong : ChangeSpec := { name := "fnExactRunStep", fn := fun _ => fun
  | [d1, d2, d3] => { results := [.lit (.bool false)], args := [d1, d2, d3] }
  | _ => none }
def FnExactRunStepWrongFalsely : Prop := fnExactRunStepRow.holds Tryz.pinned (OpenSpec.ofChange fnExactRunStepWrong)

/-- 'laws.FnExactRunMany': WHATEVER THE INPUT: true; the input reads as it did. -/
def fnExactRunManySpec : ChangeSpec := { name := "fnExactRunMany", fn := fun _ => fun
  | [d1, d2, d3, d4] => { results := [.lit (.bool true)], args := [d1, d2, d3, d4] }
  | _ => none }
def fnExactRunManyRow : OpenClaim := { program := "ytjakhnhnjhafgaagreat", sum := "fb244ee1be6e292835447c97602a13c83ece96e301e7a0b8765b8fa0c3a9745e", func := "loop.example/outwork/laws.FnExactRunMany", spec := "fnExactRunMany", unfollowed := true, recurses := true, apart := false }
def FnExactRunManySaid : Prop := fnExactRunManyRow.holds Tryz.pinned (OpenSpec.ofChange fnExactRunManySpec)

/-- ITS FALSE NEIGHBOUR: 'it returns false'. Refute it at one input. -/
def fnExactRunManyWrong : ChangeSpec := { name := "fnExactRunMany", fn := fun _ => fun
  | [d1, d2, d3, d4] => { results := [.lit (.bool false)], args := [d1, d2, d3, d4] }
  | _ => none }
def FnExactRunManyWrongFalsely : Prop := fnExactRunManyRow.holds Tryz.pinned (OpenSpec.ofChange fnExactRunManyWrong)

/-- 'laws.FnAbsStep': WHATEVER THE INPUT: true; the input reads as it did. -/
def fnAbsStepSpec : ChangeSpec := { name := "fnAbsStep", fn := fun _ => fun
  | [d1, d2] => { results := [.lit (.bool true)], args := [d1, d2] }
  | _ => none }
def fnAbsStepRow : OpenClaim := { program := "ytjakhnhnjhafgaagreat", sum := "fb244ee1be6e292835447c97602a13c83ece96e301e7a0b8765b8fa0c3a9745e", func := "loop.example/outwork/laws.FnAbsStep", spec := "fnAbsStep", unfollowed := true, recurses := true, apart := false }
def FnAbsStepSaid : Prop := fnAbsStepRow.holds Tryz.pinned (OpenSpec.ofChange fnAbsStepSpec)

/-- ITS FALSE NEIGHBOUR: 'it returns false'. Refute it at one input. -/
def fnAbsStepWrong : ChangeSpec := { name := "fnAbsStep", fn := fun _ => fun
  | [d1, d2] => { results := [.lit (.bool false)], args := [d1, d2] }
  | _ => none }
def FnAbsStepWrongFalsely : Prop := fnAbsStepRow.holds Tryz.pinned (OpenSpec.ofChange fnAbsStepWrong)

/- THE SECOND FORM. 'bulk': how many values and letters a reading holds, each counted each time it is reached (what is shared counts as often as it is met; a slice's spare places count too). A statement '..UptoSaid' is the law's where the arguments, and the package variables that the reading takes, are together of bulk at most 1048576: NARROWER than '..Said'. Prove '..Said' where nothing that the law and all that it calls make is longer than what came in: it says more and counts as full. Else prove '..UptoSaid'. A law counts once. -/
mutual
def uptoBulk {H : Type} : DataW H → Nat
  | .lit (.string bytes) => bytes.length + 1
  | .lit _ => 1
  | .nil => 1
  | .ptr d => uptoBulk d + 1
  | .slice elems spare => uptoBulkAll elems + uptoBulkAll spare + 1
  | .agg parts => uptoBulkAll parts + 1
  | .iface _ d => uptoBulk d + 1
  | .map entries => uptoBulkEntries entries + 1
  | .held _ => 1
def uptoBulkAll {H : Type} : List (DataW H) → Nat
  | [] => 0
  | d :: r => uptoBulk d + uptoBulkAll r
def uptoBulkEntries {H : Type} : List (Lit × DataW H) → Nat
  | [] => 0
  | x :: r => uptoBulkEntry x + uptoBulkEntries r
def uptoBulkEntry {H : Type} : Lit × DataW H → Nat
  | (.string bytes, d) => bytes.length + uptoBulk d + 1
  | (_, d) => uptoBulk d + 1
 end
def uptoSmall : (H : Type) → List (DataW H) → Bool := fun _ ds => decide (uptoBulkAll ds ≤ 1048576)
def OpenSpec.upto (s : _root_.Go.ChangeSpec) : _root_.Go.OpenSpec := { _root_.Go.OpenSpec.ofChange s with cond := some uptoSmall }

/-- 'laws.FnAbsFails', WHERE WHAT IT READS IS OF BULK AT MOST 1048576: true; the input reads as it did. -/
def fnAbsFailsUptoRow : OpenClaim := { program := "ytjakhnhnjhafgaagreat", sum := "fb244ee1be6e292835447c97602a13c83ece96e301e7a0b8765b8fa0c3a9745e", func := "loop.example/outwork/laws.FnAbsFails", spec := "fnAbsFails", unfollowed := true, recurses := true, apart := false, narrowed := true }
def FnAbsFailsUptoSaid : Prop := fnAbsFailsUptoRow.holds Tryz.pinned (OpenSpec.upto fnAbsFailsSpec)

/-- 'laws.FnRunSame', WHERE WHAT IT READS IS OF BULK AT MOST 1048576: true; the input reads as it did. -/
def fnRunSameUptoRow : OpenClaim := { program := "ytjakhnhnjhafgaagreat", sum := "fb244ee1be6e292835447c97602a13c83ece96e301e7a0b8765b8fa0c3a9745e", func := "loop.example/outwork/laws.FnRunSame", spec := "fnRunSame", unfollowed := true, recurses := true, apart := false, narrowed := true }
def FnRunSameUptoSaid : Prop := fnRunSameUptoRow.holds Tryz.pinned (OpenSpec.upto fnRunSameSpec)

/-- 'laws.FnExactRunStep', WHERE WHAT IT READS IS OF BULK AT MOST 1048576: true; the input reads as it did. -/
def fnExactRunStepUptoRow : OpenClaim := { program := "ytjakhnhnjhafgaagreat", sum := "fb244ee1be6e292835447c97602a13c83ece96e301e7a0b8765b8fa0c3a9745e", func := "loop.example/outwork/laws.FnExactRunStep", spec := "fnExactRunStep", unfollowed := true, recurses := true, apart := false, narrowed := true }
def FnExactRunStepUptoSaid : Prop := fnExactRunStepUptoRow.holds Tryz.pinned (OpenSpec.upto fnExactRunStepSpec)

/-- 'laws.FnExactRunMany', WHERE WHAT IT READS IS OF BULK AT MOST 1048576: true; the input reads as it did. -/
def fnExactRunManyUptoRow : OpenClaim := { program := "ytjakhnhnjhafgaagreat", sum := "fb244ee1be6e292835447c97602a13c83ece96e301e7a0b8765b8fa0c3a9745e", func := "loop.example/outwork/laws.FnExactRunMany", spec := "fnExactRunMany", unfollowed := true, recurses := true, apart := false, narrowed := true }
def FnExactRunManyUptoSaid : Prop := fnExactRunManyUptoRow.holds Tryz.pinned (OpenSpec.upto fnExactRunManySpec)

/-- 'laws.FnAbsStep', WHERE WHAT IT READS IS OF BULK AT MOST 1048576: true; the input reads as it did. -/
def fnAbsStepUptoRow : OpenClaim := { program := "ytjakhnhnjhafgaagreat", sum := "fb244ee1be6e292835447c97602a13c83ece96e301e7a0b8765b8fa0c3a9745e", func := "loop.example/outwork/laws.FnAbsStep", spec := "fnAbsStep", unfollowed := true, recurses := true, apart := false, narrowed := true }
def FnAbsStepUptoSaid : Prop := fnAbsStepUptoRow.holds Tryz.pinned (OpenSpec.upto fnAbsStepSpec)

end Rows
end Go.Proofs.YtjakhnhnjhafgaaGreat
