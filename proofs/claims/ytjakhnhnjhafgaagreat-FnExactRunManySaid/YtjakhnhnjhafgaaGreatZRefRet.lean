/- The reference's l5Ret where the run is done: written by a program of mine (wip/gen/gen_refret.py). -/
import Derived.Test.YtjakhnhnjhafgaaGreatZRefMut
set_option linter.unusedVariables false
set_option linter.unusedSimpArgs false
namespace Go.Proofs.YtjakhnhnjhafgaaGreat.Wk
open Go Go.RowKit Go.Deep Ow
open Rp (R sz)

set_option maxRecDepth 100000 in
set_option maxHeartbeats 1000000 in
theorem refRet1_c (AP : Option Addr) (np cP : Nat) (r : RunRun) (n : Int) (A : Option Addr) (cap : Nat) (G : List Nat) (w : World) :
    Calls Tryz.prog 87 #[.agg #[.slice AP np cP], runV r (.slice A 1 cap), .int .i64 n] w (RetRun G (runDone n) w) := by
  go_enter Tryz.func87, Tryz.ntmps87
  go_wp2
  refine bodyPost_ret (v := runV (runDone n) (.slice none 0 0)) ?_ rfl ?_
  · simp [results, Tryz.results87, go_sem, runDone]
  · refine RetRun.nil_ rfl ?_
    repeat (with_reducible first | refine Chg.r ?_ _ | refine Chg.alloc ?_ _ | refine Chg.drewN ?_ _ | refine Chg.drew ?_ | exact Chg.refl _ _ | assumption)
end Go.Proofs.YtjakhnhnjhafgaaGreat.Wk
