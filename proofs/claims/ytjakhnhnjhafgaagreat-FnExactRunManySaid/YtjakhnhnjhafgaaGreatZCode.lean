/- codeOf and the kinds of instructions: written by a program of mine (wip/gen/gen_code.py). -/
import Derived.Test.YtjakhnhnjhafgaaGreatZBase
import Derived.Laws.StructEq
set_option linter.unusedVariables false
set_option linter.unusedSimpArgs false
namespace Go.Proofs.YtjakhnhnjhafgaaGreat.Wk
open Go Go.RowKit Go.Deep Ow
open Rp (R sz)

/-- an instruction by its kind -/
def codeV (i : InsIns) : Value :=
  if 1 ≤ i.Op ∧ i.Op ≤ 4 then .iface 175 (.agg #[.int .i64 i.Op, .int .i64 i.D, .int .i64 i.A, .int .i64 i.B]) else
  if i.Op = 5 then .iface 165 (.agg #[.int .i64 i.D, .int .i64 i.Lo, .int .i64 i.Hi]) else
  if i.Op = 6 then .iface 177 (.agg #[.int .i64 i.D, .int .i64 i.A]) else
  if i.Op = 7 then .iface 179 (.agg #[.int .i64 i.A, .int .i64 i.B]) else
  if i.Op = 8 then .iface 167 (.agg #[.int .i64 i.Rel, .int .i64 i.A, .int .i64 i.B, .int .i64 i.To]) else
  if i.Op = 9 then .iface 169 (.agg #[.int .i64 i.To]) else
  if i.Op = 10 then .iface 171 (.agg #[.int .i64 i.D, .int .i64 i.A, .int .i64 i.To]) else
  if i.Op = 11 then .iface 173 (.agg #[.int .i64 i.Rel, .int .i64 i.A, .int .i64 i.B]) else
  if i.Op = 12 then .iface 208 (.agg #[.int .i64 i.A]) else
  .nilIface
theorem arithIns_c (op' d' a' b' : Int) (w : World) : Calls Tryz.prog 247 #[.agg #[.int .i64 op', .int .i64 d', .int .i64 a', .int .i64 b']] w fun e w' => e = .returned (.agg #[.int .i64 op', .int .i64 d', .int .i64 a', .int .i64 b', .int .i64 0, .int .i64 0, .int .i64 0, .int .i64 0]) ∧ Chg [] w w' := by
  go_enter Tryz.func247, Tryz.ntmps247
  go_wp2
  exact bodyPost_ret (v := .agg #[.int .i64 op', .int .i64 d', .int .i64 a', .int .i64 b', .int .i64 0, .int .i64 0, .int .i64 0, .int .i64 0]) (by simp [results, Tryz.results247, go_sem]) rfl ⟨rfl, by repeat (with_reducible first | exact Chg.refl _ _ | refine Chg.alloc ?_ _ | refine Chg.setCell ?_ (Or.inr (by simp)) _)⟩
theorem anyIns_c (d' lo' hi' : Int) (w : World) : Calls Tryz.prog 242 #[.agg #[.int .i64 d', .int .i64 lo', .int .i64 hi']] w fun e w' => e = .returned (.agg #[.int .i64 5, .int .i64 d', .int .i64 0, .int .i64 0, .int .i64 0, .int .i64 lo', .int .i64 hi', .int .i64 0]) ∧ Chg [] w w' := by
  go_enter Tryz.func242, Tryz.ntmps242
  go_wp2
  exact bodyPost_ret (v := .agg #[.int .i64 5, .int .i64 d', .int .i64 0, .int .i64 0, .int .i64 0, .int .i64 lo', .int .i64 hi', .int .i64 0]) (by simp [results, Tryz.results242, go_sem]) rfl ⟨rfl, by repeat (with_reducible first | exact Chg.refl _ _ | refine Chg.alloc ?_ _ | refine Chg.setCell ?_ (Or.inr (by simp)) _)⟩
theorem loadIns_c (d' a' : Int) (w : World) : Calls Tryz.prog 248 #[.agg #[.int .i64 d', .int .i64 a']] w fun e w' => e = .returned (.agg #[.int .i64 6, .int .i64 d', .int .i64 a', .int .i64 0, .int .i64 0, .int .i64 0, .int .i64 0, .int .i64 0]) ∧ Chg [] w w' := by
  go_enter Tryz.func248, Tryz.ntmps248
  go_wp2
  exact bodyPost_ret (v := .agg #[.int .i64 6, .int .i64 d', .int .i64 a', .int .i64 0, .int .i64 0, .int .i64 0, .int .i64 0, .int .i64 0]) (by simp [results, Tryz.results248, go_sem]) rfl ⟨rfl, by repeat (with_reducible first | exact Chg.refl _ _ | refine Chg.alloc ?_ _ | refine Chg.setCell ?_ (Or.inr (by simp)) _)⟩
theorem storeIns_c (a' b' : Int) (w : World) : Calls Tryz.prog 249 #[.agg #[.int .i64 a', .int .i64 b']] w fun e w' => e = .returned (.agg #[.int .i64 7, .int .i64 0, .int .i64 a', .int .i64 b', .int .i64 0, .int .i64 0, .int .i64 0, .int .i64 0]) ∧ Chg [] w w' := by
  go_enter Tryz.func249, Tryz.ntmps249
  go_wp2
  exact bodyPost_ret (v := .agg #[.int .i64 7, .int .i64 0, .int .i64 a', .int .i64 b', .int .i64 0, .int .i64 0, .int .i64 0, .int .i64 0]) (by simp [results, Tryz.results249, go_sem]) rfl ⟨rfl, by repeat (with_reducible first | exact Chg.refl _ _ | refine Chg.alloc ?_ _ | refine Chg.setCell ?_ (Or.inr (by simp)) _)⟩
theorem ifIns_c (rel' a' b' to' : Int) (w : World) : Calls Tryz.prog 243 #[.agg #[.int .i64 rel', .int .i64 a', .int .i64 b', .int .i64 to']] w fun e w' => e = .returned (.agg #[.int .i64 8, .int .i64 0, .int .i64 a', .int .i64 b', .int .i64 rel', .int .i64 0, .int .i64 0, .int .i64 to']) ∧ Chg [] w w' := by
  go_enter Tryz.func243, Tryz.ntmps243
  go_wp2
  exact bodyPost_ret (v := .agg #[.int .i64 8, .int .i64 0, .int .i64 a', .int .i64 b', .int .i64 rel', .int .i64 0, .int .i64 0, .int .i64 to']) (by simp [results, Tryz.results243, go_sem]) rfl ⟨rfl, by repeat (with_reducible first | exact Chg.refl _ _ | refine Chg.alloc ?_ _ | refine Chg.setCell ?_ (Or.inr (by simp)) _)⟩
theorem jumpIns_c (to' : Int) (w : World) : Calls Tryz.prog 244 #[.agg #[.int .i64 to']] w fun e w' => e = .returned (.agg #[.int .i64 9, .int .i64 0, .int .i64 0, .int .i64 0, .int .i64 0, .int .i64 0, .int .i64 0, .int .i64 to']) ∧ Chg [] w w' := by
  go_enter Tryz.func244, Tryz.ntmps244
  go_wp2
  exact bodyPost_ret (v := .agg #[.int .i64 9, .int .i64 0, .int .i64 0, .int .i64 0, .int .i64 0, .int .i64 0, .int .i64 0, .int .i64 to']) (by simp [results, Tryz.results244, go_sem]) rfl ⟨rfl, by repeat (with_reducible first | exact Chg.refl _ _ | refine Chg.alloc ?_ _ | refine Chg.setCell ?_ (Or.inr (by simp)) _)⟩
theorem callIns_c (d' a' to' : Int) (w : World) : Calls Tryz.prog 245 #[.agg #[.int .i64 d', .int .i64 a', .int .i64 to']] w fun e w' => e = .returned (.agg #[.int .i64 10, .int .i64 d', .int .i64 a', .int .i64 0, .int .i64 0, .int .i64 0, .int .i64 0, .int .i64 to']) ∧ Chg [] w w' := by
  go_enter Tryz.func245, Tryz.ntmps245
  go_wp2
  exact bodyPost_ret (v := .agg #[.int .i64 10, .int .i64 d', .int .i64 a', .int .i64 0, .int .i64 0, .int .i64 0, .int .i64 0, .int .i64 to']) (by simp [results, Tryz.results245, go_sem]) rfl ⟨rfl, by repeat (with_reducible first | exact Chg.refl _ _ | refine Chg.alloc ?_ _ | refine Chg.setCell ?_ (Or.inr (by simp)) _)⟩
theorem assertIns_c (rel' a' b' : Int) (w : World) : Calls Tryz.prog 246 #[.agg #[.int .i64 rel', .int .i64 a', .int .i64 b']] w fun e w' => e = .returned (.agg #[.int .i64 11, .int .i64 0, .int .i64 a', .int .i64 b', .int .i64 rel', .int .i64 0, .int .i64 0, .int .i64 0]) ∧ Chg [] w w' := by
  go_enter Tryz.func246, Tryz.ntmps246
  go_wp2
  exact bodyPost_ret (v := .agg #[.int .i64 11, .int .i64 0, .int .i64 a', .int .i64 b', .int .i64 rel', .int .i64 0, .int .i64 0, .int .i64 0]) (by simp [results, Tryz.results246, go_sem]) rfl ⟨rfl, by repeat (with_reducible first | exact Chg.refl _ _ | refine Chg.alloc ?_ _ | refine Chg.setCell ?_ (Or.inr (by simp)) _)⟩
theorem retIns_c (a' : Int) (w : World) : Calls Tryz.prog 250 #[.agg #[.int .i64 a']] w fun e w' => e = .returned (.agg #[.int .i64 12, .int .i64 0, .int .i64 a', .int .i64 0, .int .i64 0, .int .i64 0, .int .i64 0, .int .i64 0]) ∧ Chg [] w w' := by
  go_enter Tryz.func250, Tryz.ntmps250
  go_wp2
  exact bodyPost_ret (v := .agg #[.int .i64 12, .int .i64 0, .int .i64 a', .int .i64 0, .int .i64 0, .int .i64 0, .int .i64 0, .int .i64 0]) (by simp [results, Tryz.results250, go_sem]) rfl ⟨rfl, by repeat (with_reducible first | exact Chg.refl _ _ | refine Chg.alloc ?_ _ | refine Chg.setCell ?_ (Or.inr (by simp)) _)⟩
set_option maxHeartbeats 400000 in
theorem codeOf1_c (i : InsIns) (w : World) (h : i.Op = 1) : Calls Tryz.prog 120 #[insV i] w fun e w' => e = .returned (.iface 175 (.agg #[.int .i64 i.Op, .int .i64 i.D, .int .i64 i.A, .int .i64 i.B])) ∧ Chg [] w w' := by
  have e1 : (i.Op == 1) = true := by rw [h]; rfl
  clear h
  go_enter Tryz.func120, Tryz.ntmps120
  go_wp2
  go_ret
  exact ⟨rfl, (Chg.refl _ _).alloc _⟩
set_option maxHeartbeats 400000 in
theorem codeOf2_c (i : InsIns) (w : World) (h : i.Op = 2) : Calls Tryz.prog 120 #[insV i] w fun e w' => e = .returned (.iface 175 (.agg #[.int .i64 i.Op, .int .i64 i.D, .int .i64 i.A, .int .i64 i.B])) ∧ Chg [] w w' := by
  have e1 : (i.Op == 1) = false := by rw [h]; rfl
  have e2 : (i.Op == 2) = true := by rw [h]; rfl
  clear h
  go_enter Tryz.func120, Tryz.ntmps120
  go_wp2
  go_ret
  exact ⟨rfl, (Chg.refl _ _).alloc _⟩
set_option maxHeartbeats 400000 in
theorem codeOf3_c (i : InsIns) (w : World) (h : i.Op = 3) : Calls Tryz.prog 120 #[insV i] w fun e w' => e = .returned (.iface 175 (.agg #[.int .i64 i.Op, .int .i64 i.D, .int .i64 i.A, .int .i64 i.B])) ∧ Chg [] w w' := by
  have e1 : (i.Op == 1) = false := by rw [h]; rfl
  have e2 : (i.Op == 2) = false := by rw [h]; rfl
  have e3 : (i.Op == 3) = true := by rw [h]; rfl
  clear h
  go_enter Tryz.func120, Tryz.ntmps120
  go_wp2
  go_ret
  exact ⟨rfl, (Chg.refl _ _).alloc _⟩
set_option maxHeartbeats 400000 in
theorem codeOf4_c (i : InsIns) (w : World) (h : i.Op = 4) : Calls Tryz.prog 120 #[insV i] w fun e w' => e = .returned (.iface 175 (.agg #[.int .i64 i.Op, .int .i64 i.D, .int .i64 i.A, .int .i64 i.B])) ∧ Chg [] w w' := by
  have e1 : (i.Op == 1) = false := by rw [h]; rfl
  have e2 : (i.Op == 2) = false := by rw [h]; rfl
  have e3 : (i.Op == 3) = false := by rw [h]; rfl
  have e4 : (i.Op == 4) = true := by rw [h]; rfl
  clear h
  go_enter Tryz.func120, Tryz.ntmps120
  go_wp2
  go_ret
  exact ⟨rfl, (Chg.refl _ _).alloc _⟩
set_option maxHeartbeats 400000 in
theorem codeOf5_c (i : InsIns) (w : World) (h : i.Op = 5) : Calls Tryz.prog 120 #[insV i] w fun e w' => e = .returned (.iface 165 (.agg #[.int .i64 i.D, .int .i64 i.Lo, .int .i64 i.Hi])) ∧ Chg [] w w' := by
  have e1 : (i.Op == 1) = false := by rw [h]; rfl
  have e2 : (i.Op == 2) = false := by rw [h]; rfl
  have e3 : (i.Op == 3) = false := by rw [h]; rfl
  have e4 : (i.Op == 4) = false := by rw [h]; rfl
  have e5 : (i.Op == 5) = true := by rw [h]; rfl
  clear h
  go_enter Tryz.func120, Tryz.ntmps120
  go_wp2
  go_ret
  exact ⟨rfl, (Chg.refl _ _).alloc _⟩
set_option maxHeartbeats 400000 in
theorem codeOf6_c (i : InsIns) (w : World) (h : i.Op = 6) : Calls Tryz.prog 120 #[insV i] w fun e w' => e = .returned (.iface 177 (.agg #[.int .i64 i.D, .int .i64 i.A])) ∧ Chg [] w w' := by
  have e1 : (i.Op == 1) = false := by rw [h]; rfl
  have e2 : (i.Op == 2) = false := by rw [h]; rfl
  have e3 : (i.Op == 3) = false := by rw [h]; rfl
  have e4 : (i.Op == 4) = false := by rw [h]; rfl
  have e5 : (i.Op == 5) = false := by rw [h]; rfl
  have e6 : (i.Op == 6) = true := by rw [h]; rfl
  clear h
  go_enter Tryz.func120, Tryz.ntmps120
  go_wp2
  go_ret
  exact ⟨rfl, (Chg.refl _ _).alloc _⟩
set_option maxHeartbeats 400000 in
theorem codeOf7_c (i : InsIns) (w : World) (h : i.Op = 7) : Calls Tryz.prog 120 #[insV i] w fun e w' => e = .returned (.iface 179 (.agg #[.int .i64 i.A, .int .i64 i.B])) ∧ Chg [] w w' := by
  have e1 : (i.Op == 1) = false := by rw [h]; rfl
  have e2 : (i.Op == 2) = false := by rw [h]; rfl
  have e3 : (i.Op == 3) = false := by rw [h]; rfl
  have e4 : (i.Op == 4) = false := by rw [h]; rfl
  have e5 : (i.Op == 5) = false := by rw [h]; rfl
  have e6 : (i.Op == 6) = false := by rw [h]; rfl
  have e7 : (i.Op == 7) = true := by rw [h]; rfl
  clear h
  go_enter Tryz.func120, Tryz.ntmps120
  go_wp2
  go_ret
  exact ⟨rfl, (Chg.refl _ _).alloc _⟩
set_option maxHeartbeats 400000 in
theorem codeOf8_c (i : InsIns) (w : World) (h : i.Op = 8) : Calls Tryz.prog 120 #[insV i] w fun e w' => e = .returned (.iface 167 (.agg #[.int .i64 i.Rel, .int .i64 i.A, .int .i64 i.B, .int .i64 i.To])) ∧ Chg [] w w' := by
  have e1 : (i.Op == 1) = false := by rw [h]; rfl
  have e2 : (i.Op == 2) = false := by rw [h]; rfl
  have e3 : (i.Op == 3) = false := by rw [h]; rfl
  have e4 : (i.Op == 4) = false := by rw [h]; rfl
  have e5 : (i.Op == 5) = false := by rw [h]; rfl
  have e6 : (i.Op == 6) = false := by rw [h]; rfl
  have e7 : (i.Op == 7) = false := by rw [h]; rfl
  have e8 : (i.Op == 8) = true := by rw [h]; rfl
  clear h
  go_enter Tryz.func120, Tryz.ntmps120
  go_wp2
  go_ret
  exact ⟨rfl, (Chg.refl _ _).alloc _⟩
set_option maxHeartbeats 400000 in
theorem codeOf9_c (i : InsIns) (w : World) (h : i.Op = 9) : Calls Tryz.prog 120 #[insV i] w fun e w' => e = .returned (.iface 169 (.agg #[.int .i64 i.To])) ∧ Chg [] w w' := by
  have e1 : (i.Op == 1) = false := by rw [h]; rfl
  have e2 : (i.Op == 2) = false := by rw [h]; rfl
  have e3 : (i.Op == 3) = false := by rw [h]; rfl
  have e4 : (i.Op == 4) = false := by rw [h]; rfl
  have e5 : (i.Op == 5) = false := by rw [h]; rfl
  have e6 : (i.Op == 6) = false := by rw [h]; rfl
  have e7 : (i.Op == 7) = false := by rw [h]; rfl
  have e8 : (i.Op == 8) = false := by rw [h]; rfl
  have e9 : (i.Op == 9) = true := by rw [h]; rfl
  clear h
  go_enter Tryz.func120, Tryz.ntmps120
  go_wp2
  go_ret
  exact ⟨rfl, (Chg.refl _ _).alloc _⟩
set_option maxHeartbeats 400000 in
theorem codeOf10_c (i : InsIns) (w : World) (h : i.Op = 10) : Calls Tryz.prog 120 #[insV i] w fun e w' => e = .returned (.iface 171 (.agg #[.int .i64 i.D, .int .i64 i.A, .int .i64 i.To])) ∧ Chg [] w w' := by
  have e1 : (i.Op == 1) = false := by rw [h]; rfl
  have e2 : (i.Op == 2) = false := by rw [h]; rfl
  have e3 : (i.Op == 3) = false := by rw [h]; rfl
  have e4 : (i.Op == 4) = false := by rw [h]; rfl
  have e5 : (i.Op == 5) = false := by rw [h]; rfl
  have e6 : (i.Op == 6) = false := by rw [h]; rfl
  have e7 : (i.Op == 7) = false := by rw [h]; rfl
  have e8 : (i.Op == 8) = false := by rw [h]; rfl
  have e9 : (i.Op == 9) = false := by rw [h]; rfl
  have e10 : (i.Op == 10) = true := by rw [h]; rfl
  clear h
  go_enter Tryz.func120, Tryz.ntmps120
  go_wp2
  go_ret
  exact ⟨rfl, (Chg.refl _ _).alloc _⟩
set_option maxHeartbeats 400000 in
theorem codeOf11_c (i : InsIns) (w : World) (h : i.Op = 11) : Calls Tryz.prog 120 #[insV i] w fun e w' => e = .returned (.iface 173 (.agg #[.int .i64 i.Rel, .int .i64 i.A, .int .i64 i.B])) ∧ Chg [] w w' := by
  have e1 : (i.Op == 1) = false := by rw [h]; rfl
  have e2 : (i.Op == 2) = false := by rw [h]; rfl
  have e3 : (i.Op == 3) = false := by rw [h]; rfl
  have e4 : (i.Op == 4) = false := by rw [h]; rfl
  have e5 : (i.Op == 5) = false := by rw [h]; rfl
  have e6 : (i.Op == 6) = false := by rw [h]; rfl
  have e7 : (i.Op == 7) = false := by rw [h]; rfl
  have e8 : (i.Op == 8) = false := by rw [h]; rfl
  have e9 : (i.Op == 9) = false := by rw [h]; rfl
  have e10 : (i.Op == 10) = false := by rw [h]; rfl
  have e11 : (i.Op == 11) = true := by rw [h]; rfl
  clear h
  go_enter Tryz.func120, Tryz.ntmps120
  go_wp2
  go_ret
  exact ⟨rfl, (Chg.refl _ _).alloc _⟩
set_option maxHeartbeats 400000 in
theorem codeOf12_c (i : InsIns) (w : World) (h : i.Op = 12) : Calls Tryz.prog 120 #[insV i] w fun e w' => e = .returned (.iface 208 (.agg #[.int .i64 i.A])) ∧ Chg [] w w' := by
  have e1 : (i.Op == 1) = false := by rw [h]; rfl
  have e2 : (i.Op == 2) = false := by rw [h]; rfl
  have e3 : (i.Op == 3) = false := by rw [h]; rfl
  have e4 : (i.Op == 4) = false := by rw [h]; rfl
  have e5 : (i.Op == 5) = false := by rw [h]; rfl
  have e6 : (i.Op == 6) = false := by rw [h]; rfl
  have e7 : (i.Op == 7) = false := by rw [h]; rfl
  have e8 : (i.Op == 8) = false := by rw [h]; rfl
  have e9 : (i.Op == 9) = false := by rw [h]; rfl
  have e10 : (i.Op == 10) = false := by rw [h]; rfl
  have e11 : (i.Op == 11) = false := by rw [h]; rfl
  have e12 : (i.Op == 12) = true := by rw [h]; rfl
  clear h
  go_enter Tryz.func120, Tryz.ntmps120
  go_wp2
  go_ret
  exact ⟨rfl, (Chg.refl _ _).alloc _⟩
set_option maxHeartbeats 400000 in
theorem codeOfNil_c (i : InsIns) (w : World) (h : i.Op < 1 ∨ 12 < i.Op) : Calls Tryz.prog 120 #[insV i] w fun e w' => e = .returned .nilIface ∧ Chg [] w w' := by
  have e1 : (i.Op == 1) = false := by simp; omega
  have e2 : (i.Op == 2) = false := by simp; omega
  have e3 : (i.Op == 3) = false := by simp; omega
  have e4 : (i.Op == 4) = false := by simp; omega
  have e5 : (i.Op == 5) = false := by simp; omega
  have e6 : (i.Op == 6) = false := by simp; omega
  have e7 : (i.Op == 7) = false := by simp; omega
  have e8 : (i.Op == 8) = false := by simp; omega
  have e9 : (i.Op == 9) = false := by simp; omega
  have e10 : (i.Op == 10) = false := by simp; omega
  have e11 : (i.Op == 11) = false := by simp; omega
  have e12 : (i.Op == 12) = false := by simp; omega
  clear h
  go_enter Tryz.func120, Tryz.ntmps120
  go_wp2
  go_ret
  exact ⟨rfl, (Chg.refl _ _).alloc _⟩
theorem ta_arith_arith (op' d' a' b' : Int) (w : World) : (Instr.typeAssert (.iface 175 (.agg #[.int .i64 op', .int .i64 d', .int .i64 a', .int .i64 b'])) 161 175 true).run Tryz.prog w = .ok (.tuple #[.agg #[.int .i64 op', .int .i64 d', .int .i64 a', .int .i64 b'], .bool true]) w := by kernel_rfl
theorem ta_arith_any (op' d' a' b' : Int) (w : World) : (Instr.typeAssert (.iface 175 (.agg #[.int .i64 op', .int .i64 d', .int .i64 a', .int .i64 b'])) 161 165 true).run Tryz.prog w = .ok (.tuple #[.agg #[.int .i64 0, .int .i64 0, .int .i64 0], .bool false]) w := by kernel_rfl
theorem ta_arith_load (op' d' a' b' : Int) (w : World) : (Instr.typeAssert (.iface 175 (.agg #[.int .i64 op', .int .i64 d', .int .i64 a', .int .i64 b'])) 161 177 true).run Tryz.prog w = .ok (.tuple #[.agg #[.int .i64 0, .int .i64 0], .bool false]) w := by kernel_rfl
theorem ta_arith_store (op' d' a' b' : Int) (w : World) : (Instr.typeAssert (.iface 175 (.agg #[.int .i64 op', .int .i64 d', .int .i64 a', .int .i64 b'])) 161 179 true).run Tryz.prog w = .ok (.tuple #[.agg #[.int .i64 0, .int .i64 0], .bool false]) w := by kernel_rfl
theorem ta_arith_if (op' d' a' b' : Int) (w : World) : (Instr.typeAssert (.iface 175 (.agg #[.int .i64 op', .int .i64 d', .int .i64 a', .int .i64 b'])) 161 167 true).run Tryz.prog w = .ok (.tuple #[.agg #[.int .i64 0, .int .i64 0, .int .i64 0, .int .i64 0], .bool false]) w := by kernel_rfl
theorem ta_arith_jump (op' d' a' b' : Int) (w : World) : (Instr.typeAssert (.iface 175 (.agg #[.int .i64 op', .int .i64 d', .int .i64 a', .int .i64 b'])) 161 169 true).run Tryz.prog w = .ok (.tuple #[.agg #[.int .i64 0], .bool false]) w := by kernel_rfl
theorem ta_arith_call (op' d' a' b' : Int) (w : World) : (Instr.typeAssert (.iface 175 (.agg #[.int .i64 op', .int .i64 d', .int .i64 a', .int .i64 b'])) 161 171 true).run Tryz.prog w = .ok (.tuple #[.agg #[.int .i64 0, .int .i64 0, .int .i64 0], .bool false]) w := by kernel_rfl
theorem ta_arith_assert (op' d' a' b' : Int) (w : World) : (Instr.typeAssert (.iface 175 (.agg #[.int .i64 op', .int .i64 d', .int .i64 a', .int .i64 b'])) 161 173 true).run Tryz.prog w = .ok (.tuple #[.agg #[.int .i64 0, .int .i64 0, .int .i64 0], .bool false]) w := by kernel_rfl
theorem ta_arith_ret (op' d' a' b' : Int) (w : World) : (Instr.typeAssert (.iface 175 (.agg #[.int .i64 op', .int .i64 d', .int .i64 a', .int .i64 b'])) 161 208 true).run Tryz.prog w = .ok (.tuple #[.agg #[.int .i64 0], .bool false]) w := by kernel_rfl
theorem ta_any_arith (d' lo' hi' : Int) (w : World) : (Instr.typeAssert (.iface 165 (.agg #[.int .i64 d', .int .i64 lo', .int .i64 hi'])) 161 175 true).run Tryz.prog w = .ok (.tuple #[.agg #[.int .i64 0, .int .i64 0, .int .i64 0, .int .i64 0], .bool false]) w := by kernel_rfl
theorem ta_any_any (d' lo' hi' : Int) (w : World) : (Instr.typeAssert (.iface 165 (.agg #[.int .i64 d', .int .i64 lo', .int .i64 hi'])) 161 165 true).run Tryz.prog w = .ok (.tuple #[.agg #[.int .i64 d', .int .i64 lo', .int .i64 hi'], .bool true]) w := by kernel_rfl
theorem ta_any_load (d' lo' hi' : Int) (w : World) : (Instr.typeAssert (.iface 165 (.agg #[.int .i64 d', .int .i64 lo', .int .i64 hi'])) 161 177 true).run Tryz.prog w = .ok (.tuple #[.agg #[.int .i64 0, .int .i64 0], .bool false]) w := by kernel_rfl
theorem ta_any_store (d' lo' hi' : Int) (w : World) : (Instr.typeAssert (.iface 165 (.agg #[.int .i64 d', .int .i64 lo', .int .i64 hi'])) 161 179 true).run Tryz.prog w = .ok (.tuple #[.agg #[.int .i64 0, .int .i64 0], .bool false]) w := by kernel_rfl
theorem ta_any_if (d' lo' hi' : Int) (w : World) : (Instr.typeAssert (.iface 165 (.agg #[.int .i64 d', .int .i64 lo', .int .i64 hi'])) 161 167 true).run Tryz.prog w = .ok (.tuple #[.agg #[.int .i64 0, .int .i64 0, .int .i64 0, .int .i64 0], .bool false]) w := by kernel_rfl
theorem ta_any_jump (d' lo' hi' : Int) (w : World) : (Instr.typeAssert (.iface 165 (.agg #[.int .i64 d', .int .i64 lo', .int .i64 hi'])) 161 169 true).run Tryz.prog w = .ok (.tuple #[.agg #[.int .i64 0], .bool false]) w := by kernel_rfl
theorem ta_any_call (d' lo' hi' : Int) (w : World) : (Instr.typeAssert (.iface 165 (.agg #[.int .i64 d', .int .i64 lo', .int .i64 hi'])) 161 171 true).run Tryz.prog w = .ok (.tuple #[.agg #[.int .i64 0, .int .i64 0, .int .i64 0], .bool false]) w := by kernel_rfl
theorem ta_any_assert (d' lo' hi' : Int) (w : World) : (Instr.typeAssert (.iface 165 (.agg #[.int .i64 d', .int .i64 lo', .int .i64 hi'])) 161 173 true).run Tryz.prog w = .ok (.tuple #[.agg #[.int .i64 0, .int .i64 0, .int .i64 0], .bool false]) w := by kernel_rfl
theorem ta_any_ret (d' lo' hi' : Int) (w : World) : (Instr.typeAssert (.iface 165 (.agg #[.int .i64 d', .int .i64 lo', .int .i64 hi'])) 161 208 true).run Tryz.prog w = .ok (.tuple #[.agg #[.int .i64 0], .bool false]) w := by kernel_rfl
theorem ta_load_arith (d' a' : Int) (w : World) : (Instr.typeAssert (.iface 177 (.agg #[.int .i64 d', .int .i64 a'])) 161 175 true).run Tryz.prog w = .ok (.tuple #[.agg #[.int .i64 0, .int .i64 0, .int .i64 0, .int .i64 0], .bool false]) w := by kernel_rfl
theorem ta_load_any (d' a' : Int) (w : World) : (Instr.typeAssert (.iface 177 (.agg #[.int .i64 d', .int .i64 a'])) 161 165 true).run Tryz.prog w = .ok (.tuple #[.agg #[.int .i64 0, .int .i64 0, .int .i64 0], .bool false]) w := by kernel_rfl
theorem ta_load_load (d' a' : Int) (w : World) : (Instr.typeAssert (.iface 177 (.agg #[.int .i64 d', .int .i64 a'])) 161 177 true).run Tryz.prog w = .ok (.tuple #[.agg #[.int .i64 d', .int .i64 a'], .bool true]) w := by kernel_rfl
theorem ta_load_store (d' a' : Int) (w : World) : (Instr.typeAssert (.iface 177 (.agg #[.int .i64 d', .int .i64 a'])) 161 179 true).run Tryz.prog w = .ok (.tuple #[.agg #[.int .i64 0, .int .i64 0], .bool false]) w := by kernel_rfl
theorem ta_load_if (d' a' : Int) (w : World) : (Instr.typeAssert (.iface 177 (.agg #[.int .i64 d', .int .i64 a'])) 161 167 true).run Tryz.prog w = .ok (.tuple #[.agg #[.int .i64 0, .int .i64 0, .int .i64 0, .int .i64 0], .bool false]) w := by kernel_rfl
theorem ta_load_jump (d' a' : Int) (w : World) : (Instr.typeAssert (.iface 177 (.agg #[.int .i64 d', .int .i64 a'])) 161 169 true).run Tryz.prog w = .ok (.tuple #[.agg #[.int .i64 0], .bool false]) w := by kernel_rfl
theorem ta_load_call (d' a' : Int) (w : World) : (Instr.typeAssert (.iface 177 (.agg #[.int .i64 d', .int .i64 a'])) 161 171 true).run Tryz.prog w = .ok (.tuple #[.agg #[.int .i64 0, .int .i64 0, .int .i64 0], .bool false]) w := by kernel_rfl
theorem ta_load_assert (d' a' : Int) (w : World) : (Instr.typeAssert (.iface 177 (.agg #[.int .i64 d', .int .i64 a'])) 161 173 true).run Tryz.prog w = .ok (.tuple #[.agg #[.int .i64 0, .int .i64 0, .int .i64 0], .bool false]) w := by kernel_rfl
theorem ta_load_ret (d' a' : Int) (w : World) : (Instr.typeAssert (.iface 177 (.agg #[.int .i64 d', .int .i64 a'])) 161 208 true).run Tryz.prog w = .ok (.tuple #[.agg #[.int .i64 0], .bool false]) w := by kernel_rfl
theorem ta_store_arith (a' b' : Int) (w : World) : (Instr.typeAssert (.iface 179 (.agg #[.int .i64 a', .int .i64 b'])) 161 175 true).run Tryz.prog w = .ok (.tuple #[.agg #[.int .i64 0, .int .i64 0, .int .i64 0, .int .i64 0], .bool false]) w := by kernel_rfl
theorem ta_store_any (a' b' : Int) (w : World) : (Instr.typeAssert (.iface 179 (.agg #[.int .i64 a', .int .i64 b'])) 161 165 true).run Tryz.prog w = .ok (.tuple #[.agg #[.int .i64 0, .int .i64 0, .int .i64 0], .bool false]) w := by kernel_rfl
theorem ta_store_load (a' b' : Int) (w : World) : (Instr.typeAssert (.iface 179 (.agg #[.int .i64 a', .int .i64 b'])) 161 177 true).run Tryz.prog w = .ok (.tuple #[.agg #[.int .i64 0, .int .i64 0], .bool false]) w := by kernel_rfl
theorem ta_store_store (a' b' : Int) (w : World) : (Instr.typeAssert (.iface 179 (.agg #[.int .i64 a', .int .i64 b'])) 161 179 true).run Tryz.prog w = .ok (.tuple #[.agg #[.int .i64 a', .int .i64 b'], .bool true]) w := by kernel_rfl
theorem ta_store_if (a' b' : Int) (w : World) : (Instr.typeAssert (.iface 179 (.agg #[.int .i64 a', .int .i64 b'])) 161 167 true).run Tryz.prog w = .ok (.tuple #[.agg #[.int .i64 0, .int .i64 0, .int .i64 0, .int .i64 0], .bool false]) w := by kernel_rfl
theorem ta_store_jump (a' b' : Int) (w : World) : (Instr.typeAssert (.iface 179 (.agg #[.int .i64 a', .int .i64 b'])) 161 169 true).run Tryz.prog w = .ok (.tuple #[.agg #[.int .i64 0], .bool false]) w := by kernel_rfl
theorem ta_store_call (a' b' : Int) (w : World) : (Instr.typeAssert (.iface 179 (.agg #[.int .i64 a', .int .i64 b'])) 161 171 true).run Tryz.prog w = .ok (.tuple #[.agg #[.int .i64 0, .int .i64 0, .int .i64 0], .bool false]) w := by kernel_rfl
theorem ta_store_assert (a' b' : Int) (w : World) : (Instr.typeAssert (.iface 179 (.agg #[.int .i64 a', .int .i64 b'])) 161 173 true).run Tryz.prog w = .ok (.tuple #[.agg #[.int .i64 0, .int .i64 0, .int .i64 0], .bool false]) w := by kernel_rfl
theorem ta_store_ret (a' b' : Int) (w : World) : (Instr.typeAssert (.iface 179 (.agg #[.int .i64 a', .int .i64 b'])) 161 208 true).run Tryz.prog w = .ok (.tuple #[.agg #[.int .i64 0], .bool false]) w := by kernel_rfl
theorem ta_if_arith (rel' a' b' to' : Int) (w : World) : (Instr.typeAssert (.iface 167 (.agg #[.int .i64 rel', .int .i64 a', .int .i64 b', .int .i64 to'])) 161 175 true).run Tryz.prog w = .ok (.tuple #[.agg #[.int .i64 0, .int .i64 0, .int .i64 0, .int .i64 0], .bool false]) w := by kernel_rfl
theorem ta_if_any (rel' a' b' to' : Int) (w : World) : (Instr.typeAssert (.iface 167 (.agg #[.int .i64 rel', .int .i64 a', .int .i64 b', .int .i64 to'])) 161 165 true).run Tryz.prog w = .ok (.tuple #[.agg #[.int .i64 0, .int .i64 0, .int .i64 0], .bool false]) w := by kernel_rfl
theorem ta_if_load (rel' a' b' to' : Int) (w : World) : (Instr.typeAssert (.iface 167 (.agg #[.int .i64 rel', .int .i64 a', .int .i64 b', .int .i64 to'])) 161 177 true).run Tryz.prog w = .ok (.tuple #[.agg #[.int .i64 0, .int .i64 0], .bool false]) w := by kernel_rfl
theorem ta_if_store (rel' a' b' to' : Int) (w : World) : (Instr.typeAssert (.iface 167 (.agg #[.int .i64 rel', .int .i64 a', .int .i64 b', .int .i64 to'])) 161 179 true).run Tryz.prog w = .ok (.tuple #[.agg #[.int .i64 0, .int .i64 0], .bool false]) w := by kernel_rfl
theorem ta_if_if (rel' a' b' to' : Int) (w : World) : (Instr.typeAssert (.iface 167 (.agg #[.int .i64 rel', .int .i64 a', .int .i64 b', .int .i64 to'])) 161 167 true).run Tryz.prog w = .ok (.tuple #[.agg #[.int .i64 rel', .int .i64 a', .int .i64 b', .int .i64 to'], .bool true]) w := by kernel_rfl
theorem ta_if_jump (rel' a' b' to' : Int) (w : World) : (Instr.typeAssert (.iface 167 (.agg #[.int .i64 rel', .int .i64 a', .int .i64 b', .int .i64 to'])) 161 169 true).run Tryz.prog w = .ok (.tuple #[.agg #[.int .i64 0], .bool false]) w := by kernel_rfl
theorem ta_if_call (rel' a' b' to' : Int) (w : World) : (Instr.typeAssert (.iface 167 (.agg #[.int .i64 rel', .int .i64 a', .int .i64 b', .int .i64 to'])) 161 171 true).run Tryz.prog w = .ok (.tuple #[.agg #[.int .i64 0, .int .i64 0, .int .i64 0], .bool false]) w := by kernel_rfl
theorem ta_if_assert (rel' a' b' to' : Int) (w : World) : (Instr.typeAssert (.iface 167 (.agg #[.int .i64 rel', .int .i64 a', .int .i64 b', .int .i64 to'])) 161 173 true).run Tryz.prog w = .ok (.tuple #[.agg #[.int .i64 0, .int .i64 0, .int .i64 0], .bool false]) w := by kernel_rfl
theorem ta_if_ret (rel' a' b' to' : Int) (w : World) : (Instr.typeAssert (.iface 167 (.agg #[.int .i64 rel', .int .i64 a', .int .i64 b', .int .i64 to'])) 161 208 true).run Tryz.prog w = .ok (.tuple #[.agg #[.int .i64 0], .bool false]) w := by kernel_rfl
theorem ta_jump_arith (to' : Int) (w : World) : (Instr.typeAssert (.iface 169 (.agg #[.int .i64 to'])) 161 175 true).run Tryz.prog w = .ok (.tuple #[.agg #[.int .i64 0, .int .i64 0, .int .i64 0, .int .i64 0], .bool false]) w := by kernel_rfl
theorem ta_jump_any (to' : Int) (w : World) : (Instr.typeAssert (.iface 169 (.agg #[.int .i64 to'])) 161 165 true).run Tryz.prog w = .ok (.tuple #[.agg #[.int .i64 0, .int .i64 0, .int .i64 0], .bool false]) w := by kernel_rfl
theorem ta_jump_load (to' : Int) (w : World) : (Instr.typeAssert (.iface 169 (.agg #[.int .i64 to'])) 161 177 true).run Tryz.prog w = .ok (.tuple #[.agg #[.int .i64 0, .int .i64 0], .bool false]) w := by kernel_rfl
theorem ta_jump_store (to' : Int) (w : World) : (Instr.typeAssert (.iface 169 (.agg #[.int .i64 to'])) 161 179 true).run Tryz.prog w = .ok (.tuple #[.agg #[.int .i64 0, .int .i64 0], .bool false]) w := by kernel_rfl
theorem ta_jump_if (to' : Int) (w : World) : (Instr.typeAssert (.iface 169 (.agg #[.int .i64 to'])) 161 167 true).run Tryz.prog w = .ok (.tuple #[.agg #[.int .i64 0, .int .i64 0, .int .i64 0, .int .i64 0], .bool false]) w := by kernel_rfl
theorem ta_jump_jump (to' : Int) (w : World) : (Instr.typeAssert (.iface 169 (.agg #[.int .i64 to'])) 161 169 true).run Tryz.prog w = .ok (.tuple #[.agg #[.int .i64 to'], .bool true]) w := by kernel_rfl
theorem ta_jump_call (to' : Int) (w : World) : (Instr.typeAssert (.iface 169 (.agg #[.int .i64 to'])) 161 171 true).run Tryz.prog w = .ok (.tuple #[.agg #[.int .i64 0, .int .i64 0, .int .i64 0], .bool false]) w := by kernel_rfl
theorem ta_jump_assert (to' : Int) (w : World) : (Instr.typeAssert (.iface 169 (.agg #[.int .i64 to'])) 161 173 true).run Tryz.prog w = .ok (.tuple #[.agg #[.int .i64 0, .int .i64 0, .int .i64 0], .bool false]) w := by kernel_rfl
theorem ta_jump_ret (to' : Int) (w : World) : (Instr.typeAssert (.iface 169 (.agg #[.int .i64 to'])) 161 208 true).run Tryz.prog w = .ok (.tuple #[.agg #[.int .i64 0], .bool false]) w := by kernel_rfl
theorem ta_call_arith (d' a' to' : Int) (w : World) : (Instr.typeAssert (.iface 171 (.agg #[.int .i64 d', .int .i64 a', .int .i64 to'])) 161 175 true).run Tryz.prog w = .ok (.tuple #[.agg #[.int .i64 0, .int .i64 0, .int .i64 0, .int .i64 0], .bool false]) w := by kernel_rfl
theorem ta_call_any (d' a' to' : Int) (w : World) : (Instr.typeAssert (.iface 171 (.agg #[.int .i64 d', .int .i64 a', .int .i64 to'])) 161 165 true).run Tryz.prog w = .ok (.tuple #[.agg #[.int .i64 0, .int .i64 0, .int .i64 0], .bool false]) w := by kernel_rfl
theorem ta_call_load (d' a' to' : Int) (w : World) : (Instr.typeAssert (.iface 171 (.agg #[.int .i64 d', .int .i64 a', .int .i64 to'])) 161 177 true).run Tryz.prog w = .ok (.tuple #[.agg #[.int .i64 0, .int .i64 0], .bool false]) w := by kernel_rfl
theorem ta_call_store (d' a' to' : Int) (w : World) : (Instr.typeAssert (.iface 171 (.agg #[.int .i64 d', .int .i64 a', .int .i64 to'])) 161 179 true).run Tryz.prog w = .ok (.tuple #[.agg #[.int .i64 0, .int .i64 0], .bool false]) w := by kernel_rfl
theorem ta_call_if (d' a' to' : Int) (w : World) : (Instr.typeAssert (.iface 171 (.agg #[.int .i64 d', .int .i64 a', .int .i64 to'])) 161 167 true).run Tryz.prog w = .ok (.tuple #[.agg #[.int .i64 0, .int .i64 0, .int .i64 0, .int .i64 0], .bool false]) w := by kernel_rfl
theorem ta_call_jump (d' a' to' : Int) (w : World) : (Instr.typeAssert (.iface 171 (.agg #[.int .i64 d', .int .i64 a', .int .i64 to'])) 161 169 true).run Tryz.prog w = .ok (.tuple #[.agg #[.int .i64 0], .bool false]) w := by kernel_rfl
theorem ta_call_call (d' a' to' : Int) (w : World) : (Instr.typeAssert (.iface 171 (.agg #[.int .i64 d', .int .i64 a', .int .i64 to'])) 161 171 true).run Tryz.prog w = .ok (.tuple #[.agg #[.int .i64 d', .int .i64 a', .int .i64 to'], .bool true]) w := by kernel_rfl
theorem ta_call_assert (d' a' to' : Int) (w : World) : (Instr.typeAssert (.iface 171 (.agg #[.int .i64 d', .int .i64 a', .int .i64 to'])) 161 173 true).run Tryz.prog w = .ok (.tuple #[.agg #[.int .i64 0, .int .i64 0, .int .i64 0], .bool false]) w := by kernel_rfl
theorem ta_call_ret (d' a' to' : Int) (w : World) : (Instr.typeAssert (.iface 171 (.agg #[.int .i64 d', .int .i64 a', .int .i64 to'])) 161 208 true).run Tryz.prog w = .ok (.tuple #[.agg #[.int .i64 0], .bool false]) w := by kernel_rfl
theorem ta_assert_arith (rel' a' b' : Int) (w : World) : (Instr.typeAssert (.iface 173 (.agg #[.int .i64 rel', .int .i64 a', .int .i64 b'])) 161 175 true).run Tryz.prog w = .ok (.tuple #[.agg #[.int .i64 0, .int .i64 0, .int .i64 0, .int .i64 0], .bool false]) w := by kernel_rfl
theorem ta_assert_any (rel' a' b' : Int) (w : World) : (Instr.typeAssert (.iface 173 (.agg #[.int .i64 rel', .int .i64 a', .int .i64 b'])) 161 165 true).run Tryz.prog w = .ok (.tuple #[.agg #[.int .i64 0, .int .i64 0, .int .i64 0], .bool false]) w := by kernel_rfl
theorem ta_assert_load (rel' a' b' : Int) (w : World) : (Instr.typeAssert (.iface 173 (.agg #[.int .i64 rel', .int .i64 a', .int .i64 b'])) 161 177 true).run Tryz.prog w = .ok (.tuple #[.agg #[.int .i64 0, .int .i64 0], .bool false]) w := by kernel_rfl
theorem ta_assert_store (rel' a' b' : Int) (w : World) : (Instr.typeAssert (.iface 173 (.agg #[.int .i64 rel', .int .i64 a', .int .i64 b'])) 161 179 true).run Tryz.prog w = .ok (.tuple #[.agg #[.int .i64 0, .int .i64 0], .bool false]) w := by kernel_rfl
theorem ta_assert_if (rel' a' b' : Int) (w : World) : (Instr.typeAssert (.iface 173 (.agg #[.int .i64 rel', .int .i64 a', .int .i64 b'])) 161 167 true).run Tryz.prog w = .ok (.tuple #[.agg #[.int .i64 0, .int .i64 0, .int .i64 0, .int .i64 0], .bool false]) w := by kernel_rfl
theorem ta_assert_jump (rel' a' b' : Int) (w : World) : (Instr.typeAssert (.iface 173 (.agg #[.int .i64 rel', .int .i64 a', .int .i64 b'])) 161 169 true).run Tryz.prog w = .ok (.tuple #[.agg #[.int .i64 0], .bool false]) w := by kernel_rfl
theorem ta_assert_call (rel' a' b' : Int) (w : World) : (Instr.typeAssert (.iface 173 (.agg #[.int .i64 rel', .int .i64 a', .int .i64 b'])) 161 171 true).run Tryz.prog w = .ok (.tuple #[.agg #[.int .i64 0, .int .i64 0, .int .i64 0], .bool false]) w := by kernel_rfl
theorem ta_assert_assert (rel' a' b' : Int) (w : World) : (Instr.typeAssert (.iface 173 (.agg #[.int .i64 rel', .int .i64 a', .int .i64 b'])) 161 173 true).run Tryz.prog w = .ok (.tuple #[.agg #[.int .i64 rel', .int .i64 a', .int .i64 b'], .bool true]) w := by kernel_rfl
theorem ta_assert_ret (rel' a' b' : Int) (w : World) : (Instr.typeAssert (.iface 173 (.agg #[.int .i64 rel', .int .i64 a', .int .i64 b'])) 161 208 true).run Tryz.prog w = .ok (.tuple #[.agg #[.int .i64 0], .bool false]) w := by kernel_rfl
theorem ta_ret_arith (a' : Int) (w : World) : (Instr.typeAssert (.iface 208 (.agg #[.int .i64 a'])) 161 175 true).run Tryz.prog w = .ok (.tuple #[.agg #[.int .i64 0, .int .i64 0, .int .i64 0, .int .i64 0], .bool false]) w := by kernel_rfl
theorem ta_ret_any (a' : Int) (w : World) : (Instr.typeAssert (.iface 208 (.agg #[.int .i64 a'])) 161 165 true).run Tryz.prog w = .ok (.tuple #[.agg #[.int .i64 0, .int .i64 0, .int .i64 0], .bool false]) w := by kernel_rfl
theorem ta_ret_load (a' : Int) (w : World) : (Instr.typeAssert (.iface 208 (.agg #[.int .i64 a'])) 161 177 true).run Tryz.prog w = .ok (.tuple #[.agg #[.int .i64 0, .int .i64 0], .bool false]) w := by kernel_rfl
theorem ta_ret_store (a' : Int) (w : World) : (Instr.typeAssert (.iface 208 (.agg #[.int .i64 a'])) 161 179 true).run Tryz.prog w = .ok (.tuple #[.agg #[.int .i64 0, .int .i64 0], .bool false]) w := by kernel_rfl
theorem ta_ret_if (a' : Int) (w : World) : (Instr.typeAssert (.iface 208 (.agg #[.int .i64 a'])) 161 167 true).run Tryz.prog w = .ok (.tuple #[.agg #[.int .i64 0, .int .i64 0, .int .i64 0, .int .i64 0], .bool false]) w := by kernel_rfl
theorem ta_ret_jump (a' : Int) (w : World) : (Instr.typeAssert (.iface 208 (.agg #[.int .i64 a'])) 161 169 true).run Tryz.prog w = .ok (.tuple #[.agg #[.int .i64 0], .bool false]) w := by kernel_rfl
theorem ta_ret_call (a' : Int) (w : World) : (Instr.typeAssert (.iface 208 (.agg #[.int .i64 a'])) 161 171 true).run Tryz.prog w = .ok (.tuple #[.agg #[.int .i64 0, .int .i64 0, .int .i64 0], .bool false]) w := by kernel_rfl
theorem ta_ret_assert (a' : Int) (w : World) : (Instr.typeAssert (.iface 208 (.agg #[.int .i64 a'])) 161 173 true).run Tryz.prog w = .ok (.tuple #[.agg #[.int .i64 0, .int .i64 0, .int .i64 0], .bool false]) w := by kernel_rfl
theorem ta_ret_ret (a' : Int) (w : World) : (Instr.typeAssert (.iface 208 (.agg #[.int .i64 a'])) 161 208 true).run Tryz.prog w = .ok (.tuple #[.agg #[.int .i64 a'], .bool true]) w := by kernel_rfl
theorem ta_nil_arith (w : World) : (Instr.typeAssert .nilIface 161 175 true).run Tryz.prog w = .ok (.tuple #[.agg #[.int .i64 0, .int .i64 0, .int .i64 0, .int .i64 0], .bool false]) w := by kernel_rfl
theorem ta_nil_any (w : World) : (Instr.typeAssert .nilIface 161 165 true).run Tryz.prog w = .ok (.tuple #[.agg #[.int .i64 0, .int .i64 0, .int .i64 0], .bool false]) w := by kernel_rfl
theorem ta_nil_load (w : World) : (Instr.typeAssert .nilIface 161 177 true).run Tryz.prog w = .ok (.tuple #[.agg #[.int .i64 0, .int .i64 0], .bool false]) w := by kernel_rfl
theorem ta_nil_store (w : World) : (Instr.typeAssert .nilIface 161 179 true).run Tryz.prog w = .ok (.tuple #[.agg #[.int .i64 0, .int .i64 0], .bool false]) w := by kernel_rfl
theorem ta_nil_if (w : World) : (Instr.typeAssert .nilIface 161 167 true).run Tryz.prog w = .ok (.tuple #[.agg #[.int .i64 0, .int .i64 0, .int .i64 0, .int .i64 0], .bool false]) w := by kernel_rfl
theorem ta_nil_jump (w : World) : (Instr.typeAssert .nilIface 161 169 true).run Tryz.prog w = .ok (.tuple #[.agg #[.int .i64 0], .bool false]) w := by kernel_rfl
theorem ta_nil_call (w : World) : (Instr.typeAssert .nilIface 161 171 true).run Tryz.prog w = .ok (.tuple #[.agg #[.int .i64 0, .int .i64 0, .int .i64 0], .bool false]) w := by kernel_rfl
theorem ta_nil_assert (w : World) : (Instr.typeAssert .nilIface 161 173 true).run Tryz.prog w = .ok (.tuple #[.agg #[.int .i64 0, .int .i64 0, .int .i64 0], .bool false]) w := by kernel_rfl
theorem ta_nil_ret (w : World) : (Instr.typeAssert .nilIface 161 208 true).run Tryz.prog w = .ok (.tuple #[.agg #[.int .i64 0], .bool false]) w := by kernel_rfl
theorem insStruct : Tryz.prog.underlying 27 = some (.struct (Tryz.prog.fieldsOf 27)) := by kernel_rfl
theorem insPlain : Tryz.prog.stoodInHeld 27 = false := by kernel_rfl
theorem insGuard : Tryz.prog.eqGuardType Tryz.prog.depth 27 = false := by kernel_rfl
def insSame (i j : InsIns) : Bool := i.Op == j.Op && (i.D == j.D && (i.A == j.A && (i.B == j.B && (i.Rel == j.Rel && (i.Lo == j.Lo && (i.Hi == j.Hi && i.To == j.To))))))
set_option maxHeartbeats 1000000 in
theorem neqIns (i j : InsIns) (w : World) : (binOp .neq 27 (insV i) (insV j)).run Tryz.prog w = .ok (.bool (!(insSame i j))) w := by
  have u3 := Tryz.underlying3
  have a3 := Tryz.isAgg3
  have z3 := Tryz.sizeOf3
  unfold insSame
  rw [run_neq_struct, show (10000 : Nat) = 9999 + 1 from rfl, run_equalIn_agg w 9999 27 _ _ insStruct insPlain]
  simp only [Program.fieldsOf, Tryz.underlying27]
  go_simp
  by_cases h0 : i.Op = j.Op
  case neg => simp [h0]
  by_cases h1 : i.D = j.D
  case neg => simp [h0, h1]
  by_cases h2 : i.A = j.A
  case neg => simp [h0, h1, h2]
  by_cases h3 : i.B = j.B
  case neg => simp [h0, h1, h2, h3]
  by_cases h4 : i.Rel = j.Rel
  case neg => simp [h0, h1, h2, h3, h4]
  by_cases h5 : i.Lo = j.Lo
  case neg => simp [h0, h1, h2, h3, h4, h5]
  by_cases h6 : i.Hi = j.Hi
  case neg => simp [h0, h1, h2, h3, h4, h5, h6]
  by_cases h7 : i.To = j.To
  case neg => simp [h0, h1, h2, h3, h4, h5, h6, h7]
  simp [h0, h1, h2, h3, h4, h5, h6, h7]
set_option maxHeartbeats 1000000 in
theorem eqlIns (i j : InsIns) (w : World) : (binOp .eql 27 (insV i) (insV j)).run Tryz.prog w = .ok (.bool (insSame i j)) w := by
  have u3 := Tryz.underlying3
  have a3 := Tryz.isAgg3
  have z3 := Tryz.sizeOf3
  unfold insSame
  rw [run_eql_struct, show (10000 : Nat) = 9999 + 1 from rfl, run_equalIn_agg w 9999 27 _ _ insStruct insPlain]
  simp only [Program.fieldsOf, Tryz.underlying27]
  go_simp
  by_cases h0 : i.Op = j.Op
  case neg => simp [h0]
  by_cases h1 : i.D = j.D
  case neg => simp [h0, h1]
  by_cases h2 : i.A = j.A
  case neg => simp [h0, h1, h2]
  by_cases h3 : i.B = j.B
  case neg => simp [h0, h1, h2, h3]
  by_cases h4 : i.Rel = j.Rel
  case neg => simp [h0, h1, h2, h3, h4]
  by_cases h5 : i.Lo = j.Lo
  case neg => simp [h0, h1, h2, h3, h4, h5]
  by_cases h6 : i.Hi = j.Hi
  case neg => simp [h0, h1, h2, h3, h4, h5, h6]
  by_cases h7 : i.To = j.To
  case neg => simp [h0, h1, h2, h3, h4, h5, h6, h7]
  simp [h0, h1, h2, h3, h4, h5, h6, h7]
end Go.Proofs.YtjakhnhnjhafgaaGreat.Wk
