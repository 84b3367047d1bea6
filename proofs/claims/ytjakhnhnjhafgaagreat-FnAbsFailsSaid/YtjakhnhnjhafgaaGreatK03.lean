/- A part of the proof. -/
import Derived.Laws.StructEq
import Derived.Test.YtjakhnhnjhafgaaGreatK01
import Derived.Deep.RegionHeld3
import Derived.Test.YtjakhnhnjhafgaaGreatK02
set_option linter.unusedVariables false
set_option linter.unusedSimpArgs false
namespace Go.Proofs.YtjakhnhnjhafgaaGreat.Wk
open Go Go.RowKit Go.Deep Ow
open Rp (R sz)
theorem arithIns_c (op' d' a' b' : Int) (w : World) : Calls Tryz.prog 247 #[.agg #[.int .i64 op', .int .i64 d', .int .i64 a', .int .i64 b']] w fun e w' => e = .returned (.agg #[.int .i64 op', .int .i64 d', .int .i64 a', .int .i64 b', .int .i64 0, .int .i64 0, .int .i64 0, .int .i64 0]) ∧ Chg [] w w' := by
 go_enter Tryz.func247, Tryz.ntmps247
 go_wp2
 exact bodyPost_ret (v := .agg #[.int .i64 op', .int .i64 d', .int .i64 a', .int .i64 b', .int .i64 0, .int .i64 0, .int .i64 0, .int .i64 0]) (by simp [results, Tryz.results247, go_sem]) rfl ⟨rfl, by repeat (with_reducible first | exact Chg.refl _ _ | refine Chg.alloc ?_ _ | refine Chg.setCell ?_ (Or.inr (by simp)) _)⟩
theorem anyIns_c (d' lo' hi' : Int) (w : World) : Calls Tryz.prog 242 #[.agg #[.int .i64 d', .int .i64 lo', .int .i64 hi']] w fun e w' => e = .returned (.agg #[.int .i64 5, .int .i64 d', .int .i64 0, .int .i64 0, .int .i64 0, .int .i64 lo', .int .i64 hi', .int .i64 0]) ∧ Chg [] w w' := by
 go_enter Tryz.func242, Tryz.ntmps242
 go_wp2
 exact bodyPost_ret (v := .agg #[.int .i64 5, .int .i64 d', .int .i64 0, .int .i64 0, .int .i64 0, .int .i64 lo', .int .i64 hi', .int .i64 0]) (by simp [results, Tryz.results242, go_sem]) rfl ⟨rfl, by repeat (with_reducible first | exact Chg.refl _ _ | refine Chg.alloc ?_ _ | refine Chg.setCell ?_ (Or.inr (by simp)) _)⟩
theorem loadIns_c (d' a' : Int) (w : World) : Calls Tryz.prog 248 #[.agg #[.int .i64 d', .int .i64 a']] w fun e w' => e = .returned (.agg #[.int .i64 6, .int .i64 d', .int .i64 a', .int .i64 0, .int .i64 0, .int .i64 0, .int .i64 0, .int .i64 0]) ∧ Chg [] w w' := by
 go_enter Tryz.func248, Tryz.ntmps248
 go_wp2
 exact bodyPost_ret (v := .agg #[.int .i64 6, .int .i64 d', .int .i64 a', .int .i64 0, .int .i64 0, .int .i64 0, .int .i64 0, .int .i64 0]) (by simp [results, Tryz.results248, go_sem]) rfl ⟨rfl, by repeat (with_reducible first | exact Chg.refl _ _ | refine Chg.alloc ?_ _ | refine Chg.setCell ?_ (Or.inr (by simp)) _)⟩
theorem storeIns_c (a' b' : Int) (w : World) : Calls Tryz.prog 249 #[.agg #[.int .i64 a', .int .i64 b']] w fun e w' => e = .returned (.agg #[.int .i64 7, .int .i64 0, .int .i64 a', .int .i64 b', .int .i64 0, .int .i64 0, .int .i64 0, .int .i64 0]) ∧ Chg [] w w' := by
 go_enter Tryz.func249, Tryz.ntmps249
 go_wp2
 exact bodyPost_ret (v := .agg #[.int .i64 7, .int .i64 0, .int .i64 a', .int .i64 b', .int .i64 0, .int .i64 0, .int .i64 0, .int .i64 0]) (by simp [results, Tryz.results249, go_sem]) rfl ⟨rfl, by repeat (with_reducible first | exact Chg.refl _ _ | refine Chg.alloc ?_ _ | refine Chg.setCell ?_ (Or.inr (by simp)) _)⟩
theorem ifIns_c (rel' a' b' to' : Int) (w : World) : Calls Tryz.prog 243 #[.agg #[.int .i64 rel', .int .i64 a', .int .i64 b', .int .i64 to']] w fun e w' => e = .returned (.agg #[.int .i64 8, .int .i64 0, .int .i64 a', .int .i64 b', .int .i64 rel', .int .i64 0, .int .i64 0, .int .i64 to']) ∧ Chg [] w w' := by
 go_enter Tryz.func243, Tryz.ntmps243
 go_wp2
 exact bodyPost_ret (v := .agg #[.int .i64 8, .int .i64 0, .int .i64 a', .int .i64 b', .int .i64 rel', .int .i64 0, .int .i64 0, .int .i64 to']) (by simp [results, Tryz.results243, go_sem]) rfl ⟨rfl, by repeat (with_reducible first | exact Chg.refl _ _ | refine Chg.alloc ?_ _ | refine Chg.setCell ?_ (Or.inr (by simp)) _)⟩
theorem jumpIns_c (to' : Int) (w : World) : Calls Tryz.prog 244 #[.agg #[.int .i64 to']] w fun e w' => e = .returned (.agg #[.int .i64 9, .int .i64 0, .int .i64 0, .int .i64 0, .int .i64 0, .int .i64 0, .int .i64 0, .int .i64 to']) ∧ Chg [] w w' := by
 go_enter Tryz.func244, Tryz.ntmps244
 go_wp2
 exact bodyPost_ret (v := .agg #[.int .i64 9, .int .i64 0, .int .i64 0, .int .i64 0, .int .i64 0, .int .i64 0, .int .i64 0, .int .i64 to']) (by simp [results, Tryz.results244, go_sem]) rfl ⟨rfl, by repeat (with_reducible first | exact Chg.refl _ _ | refine Chg.alloc ?_ _ | refine Chg.setCell ?_ (Or.inr (by simp)) _)⟩
theorem callIns_c (d' a' to' : Int) (w : World) : Calls Tryz.prog 245 #[.agg #[.int .i64 d', .int .i64 a', .int .i64 to']] w fun e w' => e = .returned (.agg #[.int .i64 10, .int .i64 d', .int .i64 a', .int .i64 0, .int .i64 0, .int .i64 0, .int .i64 0, .int .i64 to']) ∧ Chg [] w w' := by
 go_enter Tryz.func245, Tryz.ntmps245
 go_wp2
 exact bodyPost_ret (v := .agg #[.int .i64 10, .int .i64 d', .int .i64 a', .int .i64 0, .int .i64 0, .int .i64 0, .int .i64 0, .int .i64 to']) (by simp [results, Tryz.results245, go_sem]) rfl ⟨rfl, by repeat (with_reducible first | exact Chg.refl _ _ | refine Chg.alloc ?_ _ | refine Chg.setCell ?_ (Or.inr (by simp)) _)⟩
theorem assertIns_c (rel' a' b' : Int) (w : World) : Calls Tryz.prog 246 #[.agg #[.int .i64 rel', .int .i64 a', .int .i64 b']] w fun e w' => e = .returned (.agg #[.int .i64 11, .int .i64 0, .int .i64 a', .int .i64 b', .int .i64 rel', .int .i64 0, .int .i64 0, .int .i64 0]) ∧ Chg [] w w' := by
 go_enter Tryz.func246, Tryz.ntmps246
 go_wp2
 exact bodyPost_ret (v := .agg #[.int .i64 11, .int .i64 0, .int .i64 a', .int .i64 b', .int .i64 rel', .int .i64 0, .int .i64 0, .int .i64 0]) (by simp [results, Tryz.results246, go_sem]) rfl ⟨rfl, by repeat (with_reducible first | exact Chg.refl _ _ | refine Chg.alloc ?_ _ | refine Chg.setCell ?_ (Or.inr (by simp)) _)⟩
theorem retIns_c (a' : Int) (w : World) : Calls Tryz.prog 250 #[.agg #[.int .i64 a']] w fun e w' => e = .returned (.agg #[.int .i64 12, .int .i64 0, .int .i64 a', .int .i64 0, .int .i64 0, .int .i64 0, .int .i64 0, .int .i64 0]) ∧ Chg [] w w' := by
 go_enter Tryz.func250, Tryz.ntmps250
 go_wp2
 exact bodyPost_ret (v := .agg #[.int .i64 12, .int .i64 0, .int .i64 a', .int .i64 0, .int .i64 0, .int .i64 0, .int .i64 0, .int .i64 0]) (by simp [results, Tryz.results250, go_sem]) rfl ⟨rfl, by repeat (with_reducible first | exact Chg.refl _ _ | refine Chg.alloc ?_ _ | refine Chg.setCell ?_ (Or.inr (by simp)) _)⟩
set_option maxHeartbeats 400000 in
theorem codeOf1_c (i : InsIns) (w : World) (h : i.Op = 1) : Calls Tryz.prog 120 #[insV i] w fun e w' => e = .returned (.iface 175 (.agg #[.int .i64 i.Op, .int .i64 i.D, .int .i64 i.A, .int .i64 i.B])) ∧ Chg [] w w' := by
 have e1 : (i.Op == 1) = true := by rw [h]; rfl
 clear h
 go_enter Tryz.func120, Tryz.ntmps120
 go_wp2
 go_ret
 exact ⟨rfl, (Chg.refl _ _).alloc _⟩
set_option maxHeartbeats 400000 in
theorem codeOf2_c (i : InsIns) (w : World) (h : i.Op = 2) : Calls Tryz.prog 120 #[insV i] w fun e w' => e = .returned (.iface 175 (.agg #[.int .i64 i.Op, .int .i64 i.D, .int .i64 i.A, .int .i64 i.B])) ∧ Chg [] w w' := by
 have e1 : (i.Op == 1) = false := by rw [h]; rfl
 have e2 : (i.Op == 2) = true := by rw [h]; rfl
 clear h
 go_enter Tryz.func120, Tryz.ntmps120
 go_wp2
 go_ret
 exact ⟨rfl, (Chg.refl _ _).alloc _⟩
set_option maxHeartbeats 400000 in
theorem codeOf3_c (i : InsIns) (w : World) (h : i.Op = 3) : Calls Tryz.prog 120 #[insV i] w fun e w' => e = .returned (.iface 175 (.agg #[.int .i64 i.Op, .int .i64 i.D, .int .i64 i.A, .int .i64 i.B])) ∧ Chg [] w w' := by
 have e1 : (i.Op == 1) = false := by rw [h]; rfl
 have e2 : (i.Op == 2) = false := by rw [h]; rfl
 have e3 : (i.Op == 3) = true := by rw [h]; rfl
 clear h
 go_enter Tryz.func120, Tryz.ntmps120
 go_wp2
 go_ret
 exact ⟨rfl, (Chg.refl _ _).alloc _⟩
set_option maxHeartbeats 400000 in
theorem codeOf4_c (i : InsIns) (w : World) (h : i.Op = 4) : Calls Tryz.prog 120 #[insV i] w fun e w' => e = .returned (.iface 175 (.agg #[.int .i64 i.Op, .int .i64 i.D, .int .i64 i.A, .int .i64 i.B])) ∧ Chg [] w w' := by
 have e1 : (i.Op == 1) = false := by rw [h]; rfl
 have e2 : (i.Op == 2) = false := by rw [h]; rfl
 have e3 : (i.Op == 3) = false := by rw [h]; rfl
 have e4 : (i.Op == 4) = true := by rw [h]; rfl
 clear h
 go_enter Tryz.func120, Tryz.ntmps120
 go_wp2
 go_ret
 exact ⟨rfl, (Chg.refl _ _).alloc _⟩
set_option maxHeartbeats 400000 in
theorem codeOf5_c (i : InsIns) (w : World) (h : i.Op = 5) : Calls Tryz.prog 120 #[insV i] w fun e w' => e = .returned (.iface 165 (.agg #[.int .i64 i.D, .int .i64 i.Lo, .int .i64 i.Hi])) ∧ Chg [] w w' := by
 have e1 : (i.Op == 1) = false := by rw [h]; rfl
 have e2 : (i.Op == 2) = false := by rw [h]; rfl
 have e3 : (i.Op == 3) = false := by rw [h]; rfl
 have e4 : (i.Op == 4) = false := by rw [h]; rfl
 have e5 : (i.Op == 5) = true := by rw [h]; rfl
 clear h
 go_enter Tryz.func120, Tryz.ntmps120
 go_wp2
 go_ret
 exact ⟨rfl, (Chg.refl _ _).alloc _⟩
set_option maxHeartbeats 400000 in
theorem codeOf6_c (i : InsIns) (w : World) (h : i.Op = 6) : Calls Tryz.prog 120 #[insV i] w fun e w' => e = .returned (.iface 177 (.agg #[.int .i64 i.D, .int .i64 i.A])) ∧ Chg [] w w' := by
 have e1 : (i.Op == 1) = false := by rw [h]; rfl
 have e2 : (i.Op == 2) = false := by rw [h]; rfl
 have e3 : (i.Op == 3) = false := by rw [h]; rfl
 have e4 : (i.Op == 4) = false := by rw [h]; rfl
 have e5 : (i.Op == 5) = false := by rw [h]; rfl
 have e6 : (i.Op == 6) = true := by rw [h]; rfl
 clear h
 go_enter Tryz.func120, Tryz.ntmps120
 go_wp2
 go_ret
 exact ⟨rfl, (Chg.refl _ _).alloc _⟩
set_option maxHeartbeats 400000 in
theorem codeOf7_c (i : InsIns) (w : World) (h : i.Op = 7) : Calls Tryz.prog 120 #[insV i] w fun e w' => e = .returned (.iface 179 (.agg #[.int .i64 i.A, .int .i64 i.B])) ∧ Chg [] w w' := by
 have e1 : (i.Op == 1) = false := by rw [h]; rfl
 have e2 : (i.Op == 2) = false := by rw [h]; rfl
 have e3 : (i.Op == 3) = false := by rw [h]; rfl
 have e4 : (i.Op == 4) = false := by rw [h]; rfl
 have e5 : (i.Op == 5) = false := by rw [h]; rfl
 have e6 : (i.Op == 6) = false := by rw [h]; rfl
 have e7 : (i.Op == 7) = true := by rw [h]; rfl
 clear h
 go_enter Tryz.func120, Tryz.ntmps120
 go_wp2
 go_ret
 exact ⟨rfl, (Chg.refl _ _).alloc _⟩
set_option maxHeartbeats 400000 in
theorem codeOf8_c (i : InsIns) (w : World) (h : i.Op = 8) : Calls Tryz.prog 120 #[insV i] w fun e w' => e = .returned (.iface 167 (.agg #[.int .i64 i.Rel, .int .i64 i.A, .int .i64 i.B, .int .i64 i.To])) ∧ Chg [] w w' := by
 have e1 : (i.Op == 1) = false := by rw [h]; rfl
 have e2 : (i.Op == 2) = false := by rw [h]; rfl
 have e3 : (i.Op == 3) = false := by rw [h]; rfl
 have e4 : (i.Op == 4) = false := by rw [h]; rfl
 have e5 : (i.Op == 5) = false := by rw [h]; rfl
 have e6 : (i.Op == 6) = false := by rw [h]; rfl
 have e7 : (i.Op == 7) = false := by rw [h]; rfl
 have e8 : (i.Op == 8) = true := by rw [h]; rfl
 clear h
 go_enter Tryz.func120, Tryz.ntmps120
 go_wp2
 go_ret
 exact ⟨rfl, (Chg.refl _ _).alloc _⟩
set_option maxHeartbeats 400000 in
theorem codeOf9_c (i : InsIns) (w : World) (h : i.Op = 9) : Calls Tryz.prog 120 #[insV i] w fun e w' => e = .returned (.iface 169 (.agg #[.int .i64 i.To])) ∧ Chg [] w w' := by
 have e1 : (i.Op == 1) = false := by rw [h]; rfl
 have e2 : (i.Op == 2) = false := by rw [h]; rfl
 have e3 : (i.Op == 3) = false := by rw [h]; rfl
 have e4 : (i.Op == 4) = false := by rw [h]; rfl
 have e5 : (i.Op == 5) = false := by rw [h]; rfl
 have e6 : (i.Op == 6) = false := by rw [h]; rfl
 have e7 : (i.Op == 7) = false := by rw [h]; rfl
 have e8 : (i.Op == 8) = false := by rw [h]; rfl
 have e9 : (i.Op == 9) = true := by rw [h]; rfl
 clear h
 go_enter Tryz.func120, Tryz.ntmps120
 go_wp2
 go_ret
 exact ⟨rfl, (Chg.refl _ _).alloc _⟩
set_option maxHeartbeats 400000 in
theorem codeOf10_c (i : InsIns) (w : World) (h : i.Op = 10) : Calls Tryz.prog 120 #[insV i] w fun e w' => e = .returned (.iface 171 (.agg #[.int .i64 i.D, .int .i64 i.A, .int .i64 i.To])) ∧ Chg [] w w' := by
 have e1 : (i.Op == 1) = false := by rw [h]; rfl
 have e2 : (i.Op == 2) = false := by rw [h]; rfl
 have e3 : (i.Op == 3) = false := by rw [h]; rfl
 have e4 : (i.Op == 4) = false := by rw [h]; rfl
 have e5 : (i.Op == 5) = false := by rw [h]; rfl
 have e6 : (i.Op == 6) = false := by rw [h]; rfl
 have e7 : (i.Op == 7) = false := by rw [h]; rfl
 have e8 : (i.Op == 8) = false := by rw [h]; rfl
 have e9 : (i.Op == 9) = false := by rw [h]; rfl
 have e10 : (i.Op == 10) = true := by rw [h]; rfl
 clear h
 go_enter Tryz.func120, Tryz.ntmps120
 go_wp2
 go_ret
 exact ⟨rfl, (Chg.refl _ _).alloc _⟩
set_option maxHeartbeats 400000 in
theorem codeOf11_c (i : InsIns) (w : World) (h : i.Op = 11) : Calls Tryz.prog 120 #[insV i] w fun e w' => e = .returned (.iface 173 (.agg #[.int .i64 i.Rel, .int .i64 i.A, .int .i64 i.B])) ∧ Chg [] w w' := by
 have e1 : (i.Op == 1) = false := by rw [h]; rfl
 have e2 : (i.Op == 2) = false := by rw [h]; rfl
 have e3 : (i.Op == 3) = false := by rw [h]; rfl
 have e4 : (i.Op == 4) = false := by rw [h]; rfl
 have e5 : (i.Op == 5) = false := by rw [h]; rfl
 have e6 : (i.Op == 6) = false := by rw [h]; rfl
 have e7 : (i.Op == 7) = false := by rw [h]; rfl
 have e8 : (i.Op == 8) = false := by rw [h]; rfl
 have e9 : (i.Op == 9) = false := by rw [h]; rfl
 have e10 : (i.Op == 10) = false := by rw [h]; rfl
 have e11 : (i.Op == 11) = true := by rw [h]; rfl
 clear h
 go_enter Tryz.func120, Tryz.ntmps120
 go_wp2
 go_ret
 exact ⟨rfl, (Chg.refl _ _).alloc _⟩
set_option maxHeartbeats 400000 in
theorem codeOf12_c (i : InsIns) (w : World) (h : i.Op = 12) : Calls Tryz.prog 120 #[insV i] w fun e w' => e = .returned (.iface 208 (.agg #[.int .i64 i.A])) ∧ Chg [] w w' := by
 have e1 : (i.Op == 1) = false := by rw [h]; rfl
 have e2 : (i.Op == 2) = false := by rw [h]; rfl
 have e3 : (i.Op == 3) = false := by rw [h]; rfl
 have e4 : (i.Op == 4) = false := by rw [h]; rfl
 have e5 : (i.Op == 5) = false := by rw [h]; rfl
 have e6 : (i.Op == 6) = false := by rw [h]; rfl
 have e7 : (i.Op == 7) = false := by rw [h]; rfl
 have e8 : (i.Op == 8) = false := by rw [h]; rfl
 have e9 : (i.Op == 9) = false := by rw [h]; rfl
 have e10 : (i.Op == 10) = false := by rw [h]; rfl
 have e11 : (i.Op == 11) = false := by rw [h]; rfl
 have e12 : (i.Op == 12) = true := by rw [h]; rfl
 clear h
 go_enter Tryz.func120, Tryz.ntmps120
 go_wp2
 go_ret
 exact ⟨rfl, (Chg.refl _ _).alloc _⟩
set_option maxHeartbeats 400000 in
theorem codeOfNil_c (i : InsIns) (w : World) (h : i.Op < 1 ∨ 12 < i.Op) : Calls Tryz.prog 120 #[insV i] w fun e w' => e = .returned .nilIface ∧ Chg [] w w' := by
 have e1 : (i.Op == 1) = false := by simp; omega
 have e2 : (i.Op == 2) = false := by simp; omega
 have e3 : (i.Op == 3) = false := by simp; omega
 have e4 : (i.Op == 4) = false := by simp; omega
 have e5 : (i.Op == 5) = false := by simp; omega
 have e6 : (i.Op == 6) = false := by simp; omega
 have e7 : (i.Op == 7) = false := by simp; omega
 have e8 : (i.Op == 8) = false := by simp; omega
 have e9 : (i.Op == 9) = false := by simp; omega
 have e10 : (i.Op == 10) = false := by simp; omega
 have e11 : (i.Op == 11) = false := by simp; omega
 have e12 : (i.Op == 12) = false := by simp; omega
 clear h
 go_enter Tryz.func120, Tryz.ntmps120
 go_wp2
 go_ret
 exact ⟨rfl, (Chg.refl _ _).alloc _⟩
theorem ta_arith_arith (op' d' a' b' : Int) (w : World) : (Instr.typeAssert (.iface 175 (.agg #[.int .i64 op', .int .i64 d', .int .i64 a', .int .i64 b'])) 161 175 true).run Tryz.prog w = .ok (.tuple #[.agg #[.int .i64 op', .int .i64 d', .int .i64 a', .int .i64 b'], .bool true]) w := by kernel_rfl
theorem ta_arith_any (op' d' a' b' : Int) (w : World) : (Instr.typeAssert (.iface 175 (.agg #[.int .i64 op', .int .i64 d', .int .i64 a', .int .i64 b'])) 161 165 true).run Tryz.prog w = .ok (.tuple #[.agg #[.int .i64 0, .int .i64 0, .int .i64 0], .bool false]) w := by kernel_rfl
theorem ta_arith_load (op' d' a' b' : Int) (w : World) : (Instr.typeAssert (.iface 175 (.agg #[.int .i64 op', .int .i64 d', .int .i64 a', .int .i64 b'])) 161 177 true).run Tryz.prog w = .ok (.tuple #[.agg #[.int .i64 0, .int .i64 0], .bool false]) w := by kernel_rfl
theorem ta_arith_store (op' d' a' b' : Int) (w : World) : (Instr.typeAssert (.iface 175 (.agg #[.int .i64 op', .int .i64 d', .int .i64 a', .int .i64 b'])) 161 179 true).run Tryz.prog w = .ok (.tuple #[.agg #[.int .i64 0, .int .i64 0], .bool false]) w := by kernel_rfl
theorem ta_arith_if (op' d' a' b' : Int) (w : World) : (Instr.typeAssert (.iface 175 (.agg #[.int .i64 op', .int .i64 d', .int .i64 a', .int .i64 b'])) 161 167 true).run Tryz.prog w = .ok (.tuple #[.agg #[.int .i64 0, .int .i64 0, .int .i64 0, .int .i64 0], .bool false]) w := by kernel_rfl
theorem ta_arith_jump (op' d' a' b' : Int) (w : World) : (Instr.typeAssert (.iface 175 (.agg #[.int .i64 op', .int .i64 d', .int .i64 a', .int .i64 b'])) 161 169 true).run Tryz.prog w = .ok (.tuple #[.agg #[.int .i64 0], .bool false]) w := by kernel_rfl
theorem ta_arith_call (op' d' a' b' : Int) (w : World) : (Instr.typeAssert (.iface 175 (.agg #[.int .i64 op', .int .i64 d', .int .i64 a', .int .i64 b'])) 161 171 true).run Tryz.prog w = .ok (.tuple #[.agg #[.int .i64 0, .int .i64 0, .int .i64 0], .bool false]) w := by kernel_rfl
theorem ta_arith_assert (op' d' a' b' : Int) (w : World) : (Instr.typeAssert (.iface 175 (.agg #[.int .i64 op', .int .i64 d', .int .i64 a', .int .i64 b'])) 161 173 true).run Tryz.prog w = .ok (.tuple #[.agg #[.int .i64 0, .int .i64 0, .int .i64 0], .bool false]) w := by kernel_rfl
theorem ta_any_arith (d' lo' hi' : Int) (w : World) : (Instr.typeAssert (.iface 165 (.agg #[.int .i64 d', .int .i64 lo', .int .i64 hi'])) 161 175 true).run Tryz.prog w = .ok (.tuple #[.agg #[.int .i64 0, .int .i64 0, .int .i64 0, .int .i64 0], .bool false]) w := by kernel_rfl
theorem ta_any_any (d' lo' hi' : Int) (w : World) : (Instr.typeAssert (.iface 165 (.agg #[.int .i64 d', .int .i64 lo', .int .i64 hi'])) 161 165 true).run Tryz.prog w = .ok (.tuple #[.agg #[.int .i64 d', .int .i64 lo', .int .i64 hi'], .bool true]) w := by kernel_rfl
theorem ta_any_load (d' lo' hi' : Int) (w : World) : (Instr.typeAssert (.iface 165 (.agg #[.int .i64 d', .int .i64 lo', .int .i64 hi'])) 161 177 true).run Tryz.prog w = .ok (.tuple #[.agg #[.int .i64 0, .int .i64 0], .bool false]) w := by kernel_rfl
theorem ta_any_store (d' lo' hi' : Int) (w : World) : (Instr.typeAssert (.iface 165 (.agg #[.int .i64 d', .int .i64 lo', .int .i64 hi'])) 161 179 true).run Tryz.prog w = .ok (.tuple #[.agg #[.int .i64 0, .int .i64 0], .bool false]) w := by kernel_rfl
theorem ta_any_if (d' lo' hi' : Int) (w : World) : (Instr.typeAssert (.iface 165 (.agg #[.int .i64 d', .int .i64 lo', .int .i64 hi'])) 161 167 true).run Tryz.prog w = .ok (.tuple #[.agg #[.int .i64 0, .int .i64 0, .int .i64 0, .int .i64 0], .bool false]) w := by kernel_rfl
theorem ta_any_jump (d' lo' hi' : Int) (w : World) : (Instr.typeAssert (.iface 165 (.agg #[.int .i64 d', .int .i64 lo', .int .i64 hi'])) 161 169 true).run Tryz.prog w = .ok (.tuple #[.agg #[.int .i64 0], .bool false]) w := by kernel_rfl
theorem ta_any_call (d' lo' hi' : Int) (w : World) : (Instr.typeAssert (.iface 165 (.agg #[.int .i64 d', .int .i64 lo', .int .i64 hi'])) 161 171 true).run Tryz.prog w = .ok (.tuple #[.agg #[.int .i64 0, .int .i64 0, .int .i64 0], .bool false]) w := by kernel_rfl
theorem ta_any_assert (d' lo' hi' : Int) (w : World) : (Instr.typeAssert (.iface 165 (.agg #[.int .i64 d', .int .i64 lo', .int .i64 hi'])) 161 173 true).run Tryz.prog w = .ok (.tuple #[.agg #[.int .i64 0, .int .i64 0, .int .i64 0], .bool false]) w := by kernel_rfl
theorem ta_load_arith (d' a' : Int) (w : World) : (Instr.typeAssert (.iface 177 (.agg #[.int .i64 d', .int .i64 a'])) 161 175 true).run Tryz.prog w = .ok (.tuple #[.agg #[.int .i64 0, .int .i64 0, .int .i64 0, .int .i64 0], .bool false]) w := by kernel_rfl
theorem ta_load_any (d' a' : Int) (w : World) : (Instr.typeAssert (.iface 177 (.agg #[.int .i64 d', .int .i64 a'])) 161 165 true).run Tryz.prog w = .ok (.tuple #[.agg #[.int .i64 0, .int .i64 0, .int .i64 0], .bool false]) w := by kernel_rfl
theorem ta_load_load (d' a' : Int) (w : World) : (Instr.typeAssert (.iface 177 (.agg #[.int .i64 d', .int .i64 a'])) 161 177 true).run Tryz.prog w = .ok (.tuple #[.agg #[.int .i64 d', .int .i64 a'], .bool true]) w := by kernel_rfl
theorem ta_load_store (d' a' : Int) (w : World) : (Instr.typeAssert (.iface 177 (.agg #[.int .i64 d', .int .i64 a'])) 161 179 true).run Tryz.prog w = .ok (.tuple #[.agg #[.int .i64 0, .int .i64 0], .bool false]) w := by kernel_rfl
theorem ta_load_if (d' a' : Int) (w : World) : (Instr.typeAssert (.iface 177 (.agg #[.int .i64 d', .int .i64 a'])) 161 167 true).run Tryz.prog w = .ok (.tuple #[.agg #[.int .i64 0, .int .i64 0, .int .i64 0, .int .i64 0], .bool false]) w := by kernel_rfl
theorem ta_load_jump (d' a' : Int) (w : World) : (Instr.typeAssert (.iface 177 (.agg #[.int .i64 d', .int .i64 a'])) 161 169 true).run Tryz.prog w = .ok (.tuple #[.agg #[.int .i64 0], .bool false]) w := by kernel_rfl
theorem ta_load_call (d' a' : Int) (w : World) : (Instr.typeAssert (.iface 177 (.agg #[.int .i64 d', .int .i64 a'])) 161 171 true).run Tryz.prog w = .ok (.tuple #[.agg #[.int .i64 0, .int .i64 0, .int .i64 0], .bool false]) w := by kernel_rfl
theorem ta_load_assert (d' a' : Int) (w : World) : (Instr.typeAssert (.iface 177 (.agg #[.int .i64 d', .int .i64 a'])) 161 173 true).run Tryz.prog w = .ok (.tuple #[.agg #[.int .i64 0, .int .i64 0, .int .i64 0], .bool false]) w := by kernel_rfl
theorem ta_store_arith (a' b' : Int) (w : World) : (Instr.typeAssert (.iface 179 (.agg #[.int .i64 a', .int .i64 b'])) 161 175 true).run Tryz.prog w = .ok (.tuple #[.agg #[.int .i64 0, .int .i64 0, .int .i64 0, .int .i64 0], .bool false]) w := by kernel_rfl
theorem ta_store_any (a' b' : Int) (w : World) : (Instr.typeAssert (.iface 179 (.agg #[.int .i64 a', .int .i64 b'])) 161 165 true).run Tryz.prog w = .ok (.tuple #[.agg #[.int .i64 0, .int .i64 0, .int .i64 0], .bool false]) w := by kernel_rfl
theorem ta_store_load (a' b' : Int) (w : World) : (Instr.typeAssert (.iface 179 (.agg #[.int .i64 a', .int .i64 b'])) 161 177 true).run Tryz.prog w = .ok (.tuple #[.agg #[.int .i64 0, .int .i64 0], .bool false]) w := by kernel_rfl
theorem ta_store_store (a' b' : Int) (w : World) : (Instr.typeAssert (.iface 179 (.agg #[.int .i64 a', .int .i64 b'])) 161 179 true).run Tryz.prog w = .ok (.tuple #[.agg #[.int .i64 a', .int .i64 b'], .bool true]) w := by kernel_rfl
theorem ta_store_if (a' b' : Int) (w : World) : (Instr.typeAssert (.iface 179 (.agg #[.int .i64 a', .int .i64 b'])) 161 167 true).run Tryz.prog w = .ok (.tuple #[.agg #[.int .i64 0, .int .i64 0, .int .i64 0, .int .i64 0], .bool false]) w := by kernel_rfl
theorem ta_store_jump (a' b' : Int) (w : World) : (Instr.typeAssert (.iface 179 (.agg #[.int .i64 a', .int .i64 b'])) 161 169 true).run Tryz.prog w = .ok (.tuple #[.agg #[.int .i64 0], .bool false]) w := by kernel_rfl
theorem ta_store_call (a' b' : Int) (w : World) : (Instr.typeAssert (.iface 179 (.agg #[.int .i64 a', .int .i64 b'])) 161 171 true).run Tryz.prog w = .ok (.tuple #[.agg #[.int .i64 0, .int .i64 0, .int .i64 0], .bool false]) w := by kernel_rfl
theorem ta_store_assert (a' b' : Int) (w : World) : (Instr.typeAssert (.iface 179 (.agg #[.int .i64 a', .int .i64 b'])) 161 173 true).run Tryz.prog w = .ok (.tuple #[.agg #[.int .i64 0, .int .i64 0, .int .i64 0], .bool false]) w := by kernel_rfl
theorem ta_if_arith (rel' a' b' to' : Int) (w : World) : (Instr.typeAssert (.iface 167 (.agg #[.int .i64 rel', .int .i64 a', .int .i64 b', .int .i64 to'])) 161 175 true).run Tryz.prog w = .ok (.tuple #[.agg #[.int .i64 0, .int .i64 0, .int .i64 0, .int .i64 0], .bool false]) w := by kernel_rfl
theorem ta_if_any (rel' a' b' to' : Int) (w : World) : (Instr.typeAssert (.iface 167 (.agg #[.int .i64 rel', .int .i64 a', .int .i64 b', .int .i64 to'])) 161 165 true).run Tryz.prog w = .ok (.tuple #[.agg #[.int .i64 0, .int .i64 0, .int .i64 0], .bool false]) w := by kernel_rfl
theorem ta_if_load (rel' a' b' to' : Int) (w : World) : (Instr.typeAssert (.iface 167 (.agg #[.int .i64 rel', .int .i64 a', .int .i64 b', .int .i64 to'])) 161 177 true).run Tryz.prog w = .ok (.tuple #[.agg #[.int .i64 0, .int .i64 0], .bool false]) w := by kernel_rfl
theorem ta_if_store (rel' a' b' to' : Int) (w : World) : (Instr.typeAssert (.iface 167 (.agg #[.int .i64 rel', .int .i64 a', .int .i64 b', .int .i64 to'])) 161 179 true).run Tryz.prog w = .ok (.tuple #[.agg #[.int .i64 0, .int .i64 0], .bool false]) w := by kernel_rfl
theorem ta_if_if (rel' a' b' to' : Int) (w : World) : (Instr.typeAssert (.iface 167 (.agg #[.int .i64 rel', .int .i64 a', .int .i64 b', .int .i64 to'])) 161 167 true).run Tryz.prog w = .ok (.tuple #[.agg #[.int .i64 rel', .int .i64 a', .int .i64 b', .int .i64 to'], .bool true]) w := by kernel_rfl
theorem ta_if_jump (rel' a' b' to' : Int) (w : World) : (Instr.typeAssert (.iface 167 (.agg #[.int .i64 rel', .int .i64 a', .int .i64 b', .int .i64 to'])) 161 169 true).run Tryz.prog w = .ok (.tuple #[.agg #[.int .i64 0], .bool false]) w := by kernel_rfl
theorem ta_if_call (rel' a' b' to' : Int) (w : World) : (Instr.typeAssert (.iface 167 (.agg #[.int .i64 rel', .int .i64 a', .int .i64 b', .int .i64 to'])) 161 171 true).run Tryz.prog w = .ok (.tuple #[.agg #[.int .i64 0, .int .i64 0, .int .i64 0], .bool false]) w := by kernel_rfl
theorem ta_if_assert (rel' a' b' to' : Int) (w : World) : (Instr.typeAssert (.iface 167 (.agg #[.int .i64 rel', .int .i64 a', .int .i64 b', .int .i64 to'])) 161 173 true).run Tryz.prog w = .ok (.tuple #[.agg #[.int .i64 0, .int .i64 0, .int .i64 0], .bool false]) w := by kernel_rfl
theorem ta_jump_arith (to' : Int) (w : World) : (Instr.typeAssert (.iface 169 (.agg #[.int .i64 to'])) 161 175 true).run Tryz.prog w = .ok (.tuple #[.agg #[.int .i64 0, .int .i64 0, .int .i64 0, .int .i64 0], .bool false]) w := by kernel_rfl
theorem ta_jump_any (to' : Int) (w : World) : (Instr.typeAssert (.iface 169 (.agg #[.int .i64 to'])) 161 165 true).run Tryz.prog w = .ok (.tuple #[.agg #[.int .i64 0, .int .i64 0, .int .i64 0], .bool false]) w := by kernel_rfl
theorem ta_jump_load (to' : Int) (w : World) : (Instr.typeAssert (.iface 169 (.agg #[.int .i64 to'])) 161 177 true).run Tryz.prog w = .ok (.tuple #[.agg #[.int .i64 0, .int .i64 0], .bool false]) w := by kernel_rfl
theorem ta_jump_store (to' : Int) (w : World) : (Instr.typeAssert (.iface 169 (.agg #[.int .i64 to'])) 161 179 true).run Tryz.prog w = .ok (.tuple #[.agg #[.int .i64 0, .int .i64 0], .bool false]) w := by kernel_rfl
theorem ta_jump_if (to' : Int) (w : World) : (Instr.typeAssert (.iface 169 (.agg #[.int .i64 to'])) 161 167 true).run Tryz.prog w = .ok (.tuple #[.agg #[.int .i64 0, .int .i64 0, .int .i64 0, .int .i64 0], .bool false]) w := by kernel_rfl
theorem ta_jump_jump (to' : Int) (w : World) : (Instr.typeAssert (.iface 169 (.agg #[.int .i64 to'])) 161 169 true).run Tryz.prog w = .ok (.tuple #[.agg #[.int .i64 to'], .bool true]) w := by kernel_rfl
theorem ta_jump_call (to' : Int) (w : World) : (Instr.typeAssert (.iface 169 (.agg #[.int .i64 to'])) 161 171 true).run Tryz.prog w = .ok (.tuple #[.agg #[.int .i64 0, .int .i64 0, .int .i64 0], .bool false]) w := by kernel_rfl
theorem ta_jump_assert (to' : Int) (w : World) : (Instr.typeAssert (.iface 169 (.agg #[.int .i64 to'])) 161 173 true).run Tryz.prog w = .ok (.tuple #[.agg #[.int .i64 0, .int .i64 0, .int .i64 0], .bool false]) w := by kernel_rfl
theorem ta_call_arith (d' a' to' : Int) (w : World) : (Instr.typeAssert (.iface 171 (.agg #[.int .i64 d', .int .i64 a', .int .i64 to'])) 161 175 true).run Tryz.prog w = .ok (.tuple #[.agg #[.int .i64 0, .int .i64 0, .int .i64 0, .int .i64 0], .bool false]) w := by kernel_rfl
theorem ta_call_any (d' a' to' : Int) (w : World) : (Instr.typeAssert (.iface 171 (.agg #[.int .i64 d', .int .i64 a', .int .i64 to'])) 161 165 true).run Tryz.prog w = .ok (.tuple #[.agg #[.int .i64 0, .int .i64 0, .int .i64 0], .bool false]) w := by kernel_rfl
theorem ta_call_load (d' a' to' : Int) (w : World) : (Instr.typeAssert (.iface 171 (.agg #[.int .i64 d', .int .i64 a', .int .i64 to'])) 161 177 true).run Tryz.prog w = .ok (.tuple #[.agg #[.int .i64 0, .int .i64 0], .bool false]) w := by kernel_rfl
theorem ta_call_store (d' a' to' : Int) (w : World) : (Instr.typeAssert (.iface 171 (.agg #[.int .i64 d', .int .i64 a', .int .i64 to'])) 161 179 true).run Tryz.prog w = .ok (.tuple #[.agg #[.int .i64 0, .int .i64 0], .bool false]) w := by kernel_rfl
theorem ta_call_if (d' a' to' : Int) (w : World) : (Instr.typeAssert (.iface 171 (.agg #[.int .i64 d', .int .i64 a', .int .i64 to'])) 161 167 true).run Tryz.prog w = .ok (.tuple #[.agg #[.int .i64 0, .int .i64 0, .int .i64 0, .int .i64 0], .bool false]) w := by kernel_rfl
theorem ta_call_jump (d' a' to' : Int) (w : World) : (Instr.typeAssert (.iface 171 (.agg #[.int .i64 d', .int .i64 a', .int .i64 to'])) 161 169 true).run Tryz.prog w = .ok (.tuple #[.agg #[.int .i64 0], .bool false]) w := by kernel_rfl
theorem ta_call_call (d' a' to' : Int) (w : World) : (Instr.typeAssert (.iface 171 (.agg #[.int .i64 d', .int .i64 a', .int .i64 to'])) 161 171 true).run Tryz.prog w = .ok (.tuple #[.agg #[.int .i64 d', .int .i64 a', .int .i64 to'], .bool true]) w := by kernel_rfl
theorem ta_call_assert (d' a' to' : Int) (w : World) : (Instr.typeAssert (.iface 171 (.agg #[.int .i64 d', .int .i64 a', .int .i64 to'])) 161 173 true).run Tryz.prog w = .ok (.tuple #[.agg #[.int .i64 0, .int .i64 0, .int .i64 0], .bool false]) w := by kernel_rfl
theorem ta_assert_arith (rel' a' b' : Int) (w : World) : (Instr.typeAssert (.iface 173 (.agg #[.int .i64 rel', .int .i64 a', .int .i64 b'])) 161 175 true).run Tryz.prog w = .ok (.tuple #[.agg #[.int .i64 0, .int .i64 0, .int .i64 0, .int .i64 0], .bool false]) w := by kernel_rfl
theorem ta_assert_any (rel' a' b' : Int) (w : World) : (Instr.typeAssert (.iface 173 (.agg #[.int .i64 rel', .int .i64 a', .int .i64 b'])) 161 165 true).run Tryz.prog w = .ok (.tuple #[.agg #[.int .i64 0, .int .i64 0, .int .i64 0], .bool false]) w := by kernel_rfl
theorem ta_assert_load (rel' a' b' : Int) (w : World) : (Instr.typeAssert (.iface 173 (.agg #[.int .i64 rel', .int .i64 a', .int .i64 b'])) 161 177 true).run Tryz.prog w = .ok (.tuple #[.agg #[.int .i64 0, .int .i64 0], .bool false]) w := by kernel_rfl
theorem ta_assert_store (rel' a' b' : Int) (w : World) : (Instr.typeAssert (.iface 173 (.agg #[.int .i64 rel', .int .i64 a', .int .i64 b'])) 161 179 true).run Tryz.prog w = .ok (.tuple #[.agg #[.int .i64 0, .int .i64 0], .bool false]) w := by kernel_rfl
theorem ta_assert_if (rel' a' b' : Int) (w : World) : (Instr.typeAssert (.iface 173 (.agg #[.int .i64 rel', .int .i64 a', .int .i64 b'])) 161 167 true).run Tryz.prog w = .ok (.tuple #[.agg #[.int .i64 0, .int .i64 0, .int .i64 0, .int .i64 0], .bool false]) w := by kernel_rfl
theorem ta_assert_jump (rel' a' b' : Int) (w : World) : (Instr.typeAssert (.iface 173 (.agg #[.int .i64 rel', .int .i64 a', .int .i64 b'])) 161 169 true).run Tryz.prog w = .ok (.tuple #[.agg #[.int .i64 0], .bool false]) w := by kernel_rfl
theorem ta_assert_call (rel' a' b' : Int) (w : World) : (Instr.typeAssert (.iface 173 (.agg #[.int .i64 rel', .int .i64 a', .int .i64 b'])) 161 171 true).run Tryz.prog w = .ok (.tuple #[.agg #[.int .i64 0, .int .i64 0, .int .i64 0], .bool false]) w := by kernel_rfl
theorem ta_assert_assert (rel' a' b' : Int) (w : World) : (Instr.typeAssert (.iface 173 (.agg #[.int .i64 rel', .int .i64 a', .int .i64 b'])) 161 173 true).run Tryz.prog w = .ok (.tuple #[.agg #[.int .i64 rel', .int .i64 a', .int .i64 b'], .bool true]) w := by kernel_rfl
theorem ta_ret_arith (a' : Int) (w : World) : (Instr.typeAssert (.iface 208 (.agg #[.int .i64 a'])) 161 175 true).run Tryz.prog w = .ok (.tuple #[.agg #[.int .i64 0, .int .i64 0, .int .i64 0, .int .i64 0], .bool false]) w := by kernel_rfl
theorem ta_ret_any (a' : Int) (w : World) : (Instr.typeAssert (.iface 208 (.agg #[.int .i64 a'])) 161 165 true).run Tryz.prog w = .ok (.tuple #[.agg #[.int .i64 0, .int .i64 0, .int .i64 0], .bool false]) w := by kernel_rfl
theorem ta_ret_load (a' : Int) (w : World) : (Instr.typeAssert (.iface 208 (.agg #[.int .i64 a'])) 161 177 true).run Tryz.prog w = .ok (.tuple #[.agg #[.int .i64 0, .int .i64 0], .bool false]) w := by kernel_rfl
theorem ta_ret_store (a' : Int) (w : World) : (Instr.typeAssert (.iface 208 (.agg #[.int .i64 a'])) 161 179 true).run Tryz.prog w = .ok (.tuple #[.agg #[.int .i64 0, .int .i64 0], .bool false]) w := by kernel_rfl
theorem ta_ret_if (a' : Int) (w : World) : (Instr.typeAssert (.iface 208 (.agg #[.int .i64 a'])) 161 167 true).run Tryz.prog w = .ok (.tuple #[.agg #[.int .i64 0, .int .i64 0, .int .i64 0, .int .i64 0], .bool false]) w := by kernel_rfl
theorem ta_ret_jump (a' : Int) (w : World) : (Instr.typeAssert (.iface 208 (.agg #[.int .i64 a'])) 161 169 true).run Tryz.prog w = .ok (.tuple #[.agg #[.int .i64 0], .bool false]) w := by kernel_rfl
theorem ta_ret_call (a' : Int) (w : World) : (Instr.typeAssert (.iface 208 (.agg #[.int .i64 a'])) 161 171 true).run Tryz.prog w = .ok (.tuple #[.agg #[.int .i64 0, .int .i64 0, .int .i64 0], .bool false]) w := by kernel_rfl
theorem ta_ret_assert (a' : Int) (w : World) : (Instr.typeAssert (.iface 208 (.agg #[.int .i64 a'])) 161 173 true).run Tryz.prog w = .ok (.tuple #[.agg #[.int .i64 0, .int .i64 0, .int .i64 0], .bool false]) w := by kernel_rfl
theorem insStruct : Tryz.prog.underlying 27 = some (.struct (Tryz.prog.fieldsOf 27)) := by kernel_rfl
theorem insPlain : Tryz.prog.stoodInHeld 27 = false := by kernel_rfl
theorem insGuard : Tryz.prog.eqGuardType Tryz.prog.depth 27 = false := by kernel_rfl
def insSame (i j : InsIns) : Bool := i.Op == j.Op && (i.D == j.D && (i.A == j.A && (i.B == j.B && (i.Rel == j.Rel && (i.Lo == j.Lo && (i.Hi == j.Hi && i.To == j.To))))))
set_option maxHeartbeats 1000000 in
theorem neqIns (i j : InsIns) (w : World) : (binOp .neq 27 (insV i) (insV j)).run Tryz.prog w = .ok (.bool (!(insSame i j))) w := by
 have u3 := Tryz.underlying3
 have a3 := Tryz.isAgg3
 have z3 := Tryz.sizeOf3
 unfold insSame
 rw [run_neq_struct, show (10000 : Nat) = 9999 + 1 from rfl, run_equalIn_agg w 9999 27 _ _ insStruct insPlain]
 simp only [Program.fieldsOf, Tryz.underlying27]
 go_simp
 by_cases h0 : i.Op = j.Op
 case neg => simp [h0]
 by_cases h1 : i.D = j.D
 case neg => simp [h0, h1]
 by_cases h2 : i.A = j.A
 case neg => simp [h0, h1, h2]
 by_cases h3 : i.B = j.B
 case neg => simp [h0, h1, h2, h3]
 by_cases h4 : i.Rel = j.Rel
 case neg => simp [h0, h1, h2, h3, h4]
 by_cases h5 : i.Lo = j.Lo
 case neg => simp [h0, h1, h2, h3, h4, h5]
 by_cases h6 : i.Hi = j.Hi
 case neg => simp [h0, h1, h2, h3, h4, h5, h6]
 by_cases h7 : i.To = j.To
 case neg => simp [h0, h1, h2, h3, h4, h5, h6, h7]
 simp [h0, h1, h2, h3, h4, h5, h6, h7]
end Go.Proofs.YtjakhnhnjhafgaaGreat.Wk
namespace Ow
def linkOk (p : PrgProg) (f : RunFrame) (g : Option RunFrame) : Bool :=
 match g with
 | none => true
 | some g => (prgAt p f.Proc f.Pc).elim false fun i => i.Op == 10 && i.To == g.Proc
def placeOk (p : PrgProg) (fs : List RunFrame) (k : Nat) : Bool := fs[k]?.elim true fun f => frameOk p f && linkOk p f fs[k + 1]?
def nestTo (p : PrgProg) (fs : List RunFrame) (k : Nat) : Bool := (List.range k).all (placeOk p fs)
theorem nestTo_succ (p : PrgProg) (fs : List RunFrame) (k : Nat) : nestTo p fs (k + 1) = (nestTo p fs k && placeOk p fs k) := by
 unfold nestTo
 rw [List.range_succ, List.all_append]
 simp
theorem nestTo_cons (p : PrgProg) (f : RunFrame) (fs : List RunFrame) (k : Nat) : nestTo p (f :: fs) (k + 1) = (placeOk p (f :: fs) 0 && nestTo p fs k) := by
 unfold nestTo
 rw [List.range_succ_eq_map, List.all_cons, List.all_map]
 congr 1
theorem nestOk_eq (p : PrgProg) (fs : List RunFrame) : nestOk p fs = nestTo p fs fs.length := by
 induction fs with
 | nil => rfl
 | cons f r ih =>
   rw [List.length_cons, nestTo_cons]
   cases r with
   | nil => simp [nestOk, placeOk, linkOk, nestTo]
   | cons g r =>
     simp only [nestOk]
     rw [ih]
     simp [placeOk, linkOk]
theorem nestTo_false {p : PrgProg} {fs : List RunFrame} {k n : Nat} (h : placeOk p fs k = false) (hk : k < n) : nestTo p fs n = false := by
 unfold nestTo
 rw [List.all_eq_false]
 exact ⟨k, List.mem_range.2 hk, by simp [h]⟩
theorem placeOk_at {p : PrgProg} {fs : List RunFrame} {k : Nat} (h : k < fs.length) : placeOk p fs k = (frameOk p fs[k] && linkOk p fs[k] fs[k + 1]?) := by
 unfold placeOk
 rw [List.getElem?_eq_getElem h]
 rfl
theorem linkOk_last {p : PrgProg} {f : RunFrame} {fs : List RunFrame} {k : Nat} (h : ¬ k + 1 < fs.length) : linkOk p f fs[k + 1]? = true := by
 rw [List.getElem?_eq_none (by omega)]
 rfl
theorem linkOk_in {p : PrgProg} {f : RunFrame} {fs : List RunFrame} {k : Nat} {i : InsIns} (h : k + 1 < fs.length) (hi : prgAt p f.Proc f.Pc = some i) : linkOk p f fs[k + 1]? = (i.Op == 10 && i.To == fs[k + 1].Proc) := by
 rw [List.getElem?_eq_getElem h]
 unfold linkOk
 rw [hi]
 rfl
end Ow
namespace Ow
theorem set_last {l : List RunFrame} {m : Nat} (h : l.length = m + 1) (x : RunFrame) : l.set m x = setLast l x := by
 unfold setLast
 rw [List.dropLast_eq_take, h, Nat.add_sub_cancel]
 apply List.ext_getElem
 · simp; omega
 · intro i h1 h2
   rw [List.getElem_set]
   split
   · rename_i e
     subst e
     rw [List.getElem_append_right (by rw [List.length_take]; omega)]
     simp
   · rename_i e
     rw [List.length_set] at h1
     rw [List.getElem_append_left (by rw [List.length_take]; omega), List.getElem_take]
theorem getLast_last {l : List RunFrame} {m : Nat} (h : l.length = m + 1) : l.getLast? = some l[m] := by
 rw [List.getLast?_eq_getElem?, show l.length - 1 = m by omega]
 exact List.getElem?_eq_getElem _
theorem nest_iff (p : PrgProg) (fs : List RunFrame) : nestOk p fs = true ↔ ∀ k (h : k < fs.length), frameOk p fs[k] = true ∧ ∀ (h2 : k + 1 < fs.length), ∃ i, prgAt p fs[k].Proc fs[k].Pc = some i ∧ i.Op = 10 ∧ i.To = fs[k + 1].Proc := by
 rw [nestOk_eq]
 unfold nestTo
 rw [List.all_eq_true]
 constructor
 · intro h k hk
   have h1 := h k (List.mem_range.2 hk)
   rw [placeOk_at hk, Bool.and_eq_true] at h1
   refine ⟨h1.1, fun h2 => ?_⟩
   have h3 := h1.2
   rw [List.getElem?_eq_getElem h2] at h3
   unfold linkOk at h3
   simp only at h3
   generalize hx : prgAt p fs[k].Proc fs[k].Pc = x at h3
   cases x with
   | none => simp at h3
   | some i => simp at h3; exact ⟨i, rfl, h3.1, h3.2⟩
 · intro h k hk
   have hk := List.mem_range.1 hk
   rw [placeOk_at hk, Bool.and_eq_true]
   refine ⟨(h k hk).1, ?_⟩
   by_cases h2 : k + 1 < fs.length
   · obtain ⟨i, e1, e2, e3⟩ := (h k hk).2 h2
     rw [linkOk_in h2 e1]
     simp [e2, e3]
   · exact linkOk_last h2
theorem frame_facts {p : PrgProg} {f : RunFrame} (h : frameOk p f = true) : ∃ i, prgAt p f.Proc f.Pc = some i ∧ f.Vars.length = 4 ∧ f.Cells.length = 4 ∧ (∀ n ∈ f.Vars, numOk n = true) ∧ (∀ n ∈ f.Cells, numOk n = true) := by
 unfold frameOk numsOk at h
 simp only [Bool.and_eq_true, beq_iff_eq, List.all_eq_true] at h
 obtain ⟨⟨h1, h2, h3⟩, h4, h5⟩ := h
 obtain ⟨i, hi⟩ := Option.isSome_iff_exists.1 h1
 exact ⟨i, hi, h2, h4, h3, h5⟩
structure AtFacts (p : PrgProg) (proc pc : Int) (i : InsIns) (k j : Nat) : Prop where
 hk : k < p.Procs.length
 hj : j < p.Procs[k].Code.length
 eproc : proc = k
 epc : pc = j
 k4 : k < 4
 j10 : j < 10
 ei : p.Procs[k].Code[j] = i
 ok : insOk i p.Procs.length p.Procs[k].Code.length = true
 size : p.Procs[k].Code.length ≤ 10
 ends : p.Procs[k].Code.getLast?.elim false insEnds = true
theorem prg_facts {p : PrgProg} (hp : prgOk p = true) : 1 ≤ p.Procs.length ∧ p.Procs.length ≤ 4 ∧ ∀ k (h : k < p.Procs.length), procOk p.Procs[k] p.Procs.length = true := by
 unfold prgOk at hp
 simp only [Bool.and_eq_true, decide_eq_true_eq, List.all_eq_true] at hp
 exact ⟨hp.1.1, hp.1.2, fun k h => hp.2 _ (List.getElem_mem h)⟩
theorem proc_facts {c : PrcProc} {n : Int} (h : procOk c n = true) : itvOk ⟨c.Lo, c.Hi⟩ = true ∧ 1 ≤ c.Code.length ∧ c.Code.length ≤ 10 ∧ (∀ j (h : j < c.Code.length), insOk c.Code[j] n c.Code.length = true) ∧ c.Code.getLast?.elim false insEnds = true := by
 unfold procOk at h
 simp only [Bool.and_eq_true, decide_eq_true_eq, List.all_eq_true] at h
 exact ⟨h.1.1.1.1, h.1.1.1.2, h.1.1.2, fun j hj => h.1.2 _ (List.getElem_mem hj), h.2⟩
theorem prgAt_facts {p : PrgProg} {proc pc : Int} {i : InsIns} (hp : prgOk p = true) (h : prgAt p proc pc = some i) : ∃ k j, AtFacts p proc pc i k j := by
 unfold prgAt at h
 split at h
 · cases h
 · rename_i hneg
   obtain ⟨k, rfl⟩ := Int.eq_ofNat_of_zero_le (show 0 ≤ proc by omega)
   obtain ⟨j, rfl⟩ := Int.eq_ofNat_of_zero_le (show 0 ≤ pc by omega)
   simp only [Int.toNat_natCast] at h
   by_cases hk : k < p.Procs.length
   · rw [List.getElem?_eq_getElem hk] at h
     simp only [Option.bind_some] at h
     by_cases hj : j < p.Procs[k].Code.length
     · rw [List.getElem?_eq_getElem hj] at h
       obtain ⟨h1, h2, h3⟩ := prg_facts hp
       obtain ⟨g1, g2, g3, g4, g5⟩ := proc_facts (h3 k hk)
       have e := Option.some.inj h
       exact ⟨k, j, hk, hj, rfl, rfl, by omega, by omega, e, e ▸ g4 j hj, g3, g5⟩
     · rw [List.getElem?_eq_none (by omega)] at h; cases h
   · rw [List.getElem?_eq_none (by omega)] at h; cases h
structure InsFacts (i : InsIns) (procs size : Int) : Prop where
 op1 : 1 ≤ i.Op
 op12 : i.Op ≤ 12
 form : formOk i = true
 d0 : 0 ≤ i.D
 d4 : i.D < 4
 a0 : 0 ≤ i.A
 a4 : i.A < 4
 b0 : 0 ≤ i.B
 b4 : i.B < 4
 rest : restOk i procs size = true
theorem ins_facts {i : InsIns} {procs size : Int} (h : insOk i procs size = true) : InsFacts i procs size := by
 unfold insOk varOk at h
 simp only [Bool.and_eq_true, decide_eq_true_eq] at h
 obtain ⟨⟨⟨⟨⟨⟨h1, h2⟩, h3⟩, h4, h5⟩, h6, h7⟩, h8, h9⟩, h10⟩ := h
 exact ⟨h1, h2, h3, h4, h5, h6, h7, h8, h9, h10⟩
structure GoesFacts (p : PrgProg) (r : RunRun) : Prop where
 prg : prgOk p = true
 out : r.Out = 0
 proc : r.Proc = 0
 pc : r.Pc = 0
 n1 : 1 ≤ r.Frames.length
 n5 : r.Frames.length ≤ 5
 nest : nestOk p r.Frames = true
theorem goes_facts {p : PrgProg} {r : RunRun} (h : runOk p r = true) (hs : r.State = 1) : GoesFacts p r := by
 unfold runOk at h
 rw [hs] at h
 simp at h
 obtain ⟨⟨⟨⟨h1, h2⟩, h3⟩, h4, h5⟩, h6, h7⟩ := h
 exact ⟨h1, h3, h4, h5, h6.1, h6.2, h7⟩
theorem goes_eq {p : PrgProg} {r : RunRun} (h : GoesFacts p r) (hs : r.State = 1) : r = goes r.Frames := by
 obtain ⟨s, f, o, c, q⟩ := r
 obtain ⟨-, h1, h2, h3, -⟩ := h
 simp only at h1 h2 h3 hs
 subst h1 h2 h3 hs
 rfl
end Ow
namespace Ow
theorem numOk_wrap (n : Int) : numOk (numWrap n) = true := (numOk_iff _).2 (numWrap_ok n)
theorem numDo_ok {op a b : Int} (ha : numOk a = true) (hb : numOk b = true) (h1 : 1 ≤ op) (h4 : op ≤ 4) : numOk (numDo op a b).1 = true ∧ ((numDo op a b).2 = false → op = 4) := by
 unfold numDo
 rw [if_pos (by simp [ha, hb])]
 rcases (by omega : op = 1 ∨ op = 2 ∨ op = 3 ∨ op = 4) with rfl | rfl | rfl | rfl
 · exact ⟨numOk_wrap _, fun h => by cases h⟩
 · exact ⟨numOk_wrap _, fun h => by cases h⟩
 · exact ⟨numOk_wrap _, fun h => by cases h⟩
 · refine ⟨?_, fun _ => rfl⟩
   rw [if_neg (by decide), if_neg (by decide), if_neg (by decide), if_pos rfl]
   split
   · rfl
   · exact numOk_wrap _
end Ow
namespace Ow
section
variable {α : Type} [Mk α] [Sz α]
end
end Ow
namespace Ow
theorem getI_nat {l : List Int} {d : Nat} (h : d < l.length) : getI l d = l[d] := by
 unfold getI
 rw [List.getD_eq_getElem?_getD, Int.toNat_natCast, List.getElem?_eq_getElem h]
 rfl
theorem setI_nat (l : List Int) (d : Nat) (v : Int) : setI l d v = l.set d v := by
 unfold setI
 rw [Int.toNat_natCast]
theorem stepped_at {p : PrgProg} {fs : List RunFrame} {m : Nat} {i : InsIns} (hm : fs.length = m + 1) (hi : prgAt p fs[m].Proc fs[m].Pc = some i) (inp : Int) : stepped p (goes fs) inp = stepAt p fs fs[m] i inp := by
 unfold stepped
 simp only [goes]
 rw [getLast_last hm]
 simp only
 rw [hi]
 rfl
section
variable {p : PrgProg} {fs : List RunFrame} {m : Nat} {i : InsIns} {inp : Int}
theorem st_arith (hm : fs.length = m + 1) (hi : prgAt p fs[m].Proc fs[m].Pc = some i) (h4 : i.Op ≤ 4) {dA dB dD : Nat} (hA : i.A = dA) (hB : i.B = dB) (hD : i.D = dD) (lA : dA < fs[m].Vars.length) (lB : dB < fs[m].Vars.length) (n : Int) (hn : numDo i.Op fs[m].Vars[dA] fs[m].Vars[dB] = (n, true)) :
 stepped p (goes fs) inp = goes (fs.set m { fs[m] with Vars := fs[m].Vars.set dD n, Pc := fs[m].Pc + 1 }) := by
 rw [stepped_at hm hi, set_last hm]
 unfold stepAt
 simp only
 rw [if_pos h4, hA, hB, getI_nat lA, getI_nat lB, hn, hD, setI_nat]
 simp
theorem st_arith_bad (hm : fs.length = m + 1) (hi : prgAt p fs[m].Proc fs[m].Pc = some i) (h4 : i.Op ≤ 4) {dA dB : Nat} (hA : i.A = dA) (hB : i.B = dB) (lA : dA < fs[m].Vars.length) (lB : dB < fs[m].Vars.length) (hn : (numDo i.Op fs[m].Vars[dA] fs[m].Vars[dB]).2 = false) :
 stepped p (goes fs) inp = runFail fs[m] := by
 rw [stepped_at hm hi]
 unfold stepAt
 simp only
 rw [if_pos h4, hA, hB, getI_nat lA, getI_nat lB, hn]
 simp
theorem st_any (hm : fs.length = m + 1) (hi : prgAt p fs[m].Proc fs[m].Pc = some i) (h5 : i.Op = 5) {dD : Nat} (hD : i.D = dD) :
 stepped p (goes fs) inp = goes (fs.set m { fs[m] with Vars := fs[m].Vars.set dD (i.Lo + inp % (i.Hi - i.Lo + 1)), Pc := fs[m].Pc + 1 }) := by
 rw [stepped_at hm hi, set_last hm]
 unfold stepAt
 simp only
 rw [if_neg (by omega), if_pos h5, hD, setI_nat]
theorem st_cell_bad (hm : fs.length = m + 1) (hi : prgAt p fs[m].Proc fs[m].Pc = some i) (h67 : i.Op = 6 ∨ i.Op = 7) {dA : Nat} (hA : i.A = dA) (lA : dA < fs[m].Vars.length) (hb : below fs[m].Vars[dA] 4 = false) :
 stepped p (goes fs) inp = runFail fs[m] := by
 rw [stepped_at hm hi]
 unfold stepAt
 simp only
 rw [hA, getI_nat lA, hb]
 rcases h67 with h | h
 · rw [if_neg (by omega), if_neg (by omega), if_pos h]; simp
 · rw [if_neg (by omega), if_neg (by omega), if_neg (by omega), if_pos h]; simp
theorem below_nat {a : Nat} (h : a < 4) : below a 4 = true := by
 unfold below
 simp
 omega
theorem st_load (hm : fs.length = m + 1) (hi : prgAt p fs[m].Proc fs[m].Pc = some i) (h6 : i.Op = 6) {dA dD a : Nat} (hA : i.A = dA) (hD : i.D = dD) (lA : dA < fs[m].Vars.length) (ha : fs[m].Vars[dA] = a) (h4 : a < 4) (lC : a < fs[m].Cells.length) :
 stepped p (goes fs) inp = goes (fs.set m { fs[m] with Vars := fs[m].Vars.set dD fs[m].Cells[a], Pc := fs[m].Pc + 1 }) := by
 rw [stepped_at hm hi, set_last hm]
 unfold stepAt
 simp only
 rw [if_neg (by omega), if_neg (by omega), if_pos h6, hA, getI_nat lA, ha, below_nat h4, hD, setI_nat, getI_nat lC]
 simp
theorem st_store (hm : fs.length = m + 1) (hi : prgAt p fs[m].Proc fs[m].Pc = some i) (h7 : i.Op = 7) {dA dB a : Nat} (hA : i.A = dA) (hB : i.B = dB) (lA : dA < fs[m].Vars.length) (lB : dB < fs[m].Vars.length) (ha : fs[m].Vars[dA] = a) (h4 : a < 4) :
 stepped p (goes fs) inp = goes (fs.set m { fs[m] with Cells := fs[m].Cells.set a fs[m].Vars[dB], Pc := fs[m].Pc + 1 }) := by
 rw [stepped_at hm hi, set_last hm]
 unfold stepAt
 simp only
 rw [if_neg (by omega), if_neg (by omega), if_neg (by omega), if_pos h7, hA, getI_nat lA, ha, below_nat h4, hB, getI_nat lB, setI_nat]
 simp
theorem st_assert (hm : fs.length = m + 1) (hi : prgAt p fs[m].Proc fs[m].Pc = some i) (h11 : i.Op = 11) {dA dB : Nat} (hA : i.A = dA) (hB : i.B = dB) (lA : dA < fs[m].Vars.length) (lB : dB < fs[m].Vars.length) :
 stepped p (goes fs) inp = if relHolds i.Rel fs[m].Vars[dA] fs[m].Vars[dB] then goes (fs.set m { fs[m] with Pc := fs[m].Pc + 1 }) else runFail fs[m] := by
 rw [stepped_at hm hi, set_last hm]
 unfold stepAt
 simp only
 rw [if_neg (by omega), if_neg (by omega), if_neg (by omega), if_neg (by omega), if_neg (by omega), if_neg (by omega), if_neg (by omega), if_pos h11, hA, getI_nat lA, hB, getI_nat lB]
end
end Ow
namespace Go.Proofs.YtjakhnhnjhafgaaGreat.Wk
open Go Go.RowKit Go.Deep Ow
open Rp (R sz)
set_option maxRecDepth 100000 in
set_option maxHeartbeats 1000000 in
theorem top_c (X b off m cap : Nat) (w : World) (hX : w.cell? ⟨X, 2, none⟩ = some (.slice (some ⟨b, off, none⟩) (m + 1) cap)) (hm : (m : Int) + 1 ≤ 9223372036854775807) :
 Calls Tryz.prog 174 #[.pointer (some ⟨X, 0, none⟩)] w fun e w' => e = .returned (.pointer (some ⟨b, off + m * 4, none⟩)) ∧ Chg [] w w' := by
 have hsub : ((m : Int) + 1 - 1) = m := by omega
 go_enter Tryz.func174, Tryz.ntmps174
 go_wp2_with fail
 go_quiet (fail)
 go_wp2
 go_ret
 exact ⟨rfl, Chg.c⟩
end Go.Proofs.YtjakhnhnjhafgaaGreat.Wk
namespace Go.Proofs.YtjakhnhnjhafgaaGreat.Wk
open Go Go.RowKit Go.Deep Ow
open Rp (R sz)
theorem failNo_c (X : Nat) (w : World) : Calls Tryz.prog 176 #[.pointer (some ⟨X, 0, none⟩), .bool false] w fun e w' => e = .returned (.tuple #[]) ∧ Chg [] w w' := by
 go_enter Tryz.func176, Tryz.ntmps176
 go_wp2
 go_end0
 exact ⟨rfl, Chg.c⟩
set_option maxRecDepth 100000 in
set_option maxHeartbeats 1000000 in
theorem failYes_c (X b off m cap : Nat) (f : RunFrame) (w : World) (hX : w.cell? ⟨X, 2, none⟩ = some (.slice (some ⟨b, off, none⟩) (m + 1) cap)) (hm : (m : Int) + 1 ≤ 9223372036854775807)
 (c0 : w.cell? ⟨b, off + m * 4, none⟩ = some (.int .i64 f.Proc)) (c1 : w.cell? ⟨b, off + m * 4 + 1, none⟩ = some (.int .i64 f.Pc)) :
 Calls Tryz.prog 176 #[.pointer (some ⟨X, 0, none⟩), .bool true] w fun e w' => e = .panicked [{ v := .iface 182 (runV (runFail f) (.slice none 0 0)), recovered := false }] ∧ Chg [] w w' := by
 have htop := fun (wx : World) (hx : Chg [] w wx) => top_c X b off m cap wx (hx.cell0 hX) hm
 clear hX hm
 go_enter Tryz.func176, Tryz.ntmps176
 go_wp2_with fail
 refine wp_region_any (by kernel_rfl) ?_
 change wpAny _ _ _ _ _ _ _ (World.drew _)
 refine wpAny_take (i := 0) (v := ?_) rfl (by kernel_rfl) (by kernel_rfl) (by kernel_rfl) (fun _ _ _ h => h) (Or.inl ⟨by rfl, ?_⟩) ?_
 rotate_left
 focus (intro w; go_simp <;> with_reducible rfl)
 rotate_right
 refine wpAny_take (i := 5) (v := ?_) rfl (by kernel_rfl) (by kernel_rfl) (by kernel_rfl) (fun _ _ _ h => h) (Or.inl ⟨by rfl, ?_⟩) ?_
 rotate_left
 focus (intro w; go_simp <;> with_reducible rfl)
 rotate_right
 refine wpAny_ready (rs := [1]) (by kernel_rfl) (by simp) ?_
 refine AllReady.cons rfl (fun K hK => ?_) ?_
 focus
  go_simp
  go_wp2_with (go_at_call 174; refine (htop _ (Chg.k)).mono ?_; rintro e w5 ⟨rfl, hc5⟩; have hK5 : Chg [] w w5 := Chg.trans0 (show Chg [] w _ from Chg.k) hc5; have k0 := hK5.cell0 c0; have k1 := hK5.cell0 c1)
  refine wpAny_take (i := 2) (v := ?_) rfl (by kernel_rfl) (by kernel_rfl) (by kernel_rfl) (fun _ _ _ h => h) (Or.inl ⟨by rfl, ?_⟩) ?_
  rotate_left
  focus (intro w; go_simp <;> with_reducible rfl)
  rotate_right
  refine wpAny_take (i := 3) (v := ?_) rfl (by kernel_rfl) (by kernel_rfl) (by kernel_rfl) (fun _ _ _ h => h) (Or.inl ⟨by rfl, ?_⟩) ?_
  rotate_left
  focus (intro w; go_simp <;> with_reducible rfl)
  rotate_right
  refine wpAny_ready (rs := [4, 6]) (by kernel_rfl) (by simp) ?_
  refine AllReady.cons rfl (fun K hK => ?_) ?_
  focus
   go_simp
   refine hK _ _ ?_
   clear hK K
   refine wpAny_ready (rs := [6]) (by kernel_rfl) (by simp) ?_
   refine AllReady.cons rfl (fun K hK => ?_) ?_
   focus
    go_simp
    go_wp2_with (go_at_call 174; refine (htop _ (Chg.k)).mono ?_; rintro e w5 ⟨rfl, hc5⟩; have hK5 : Chg [] w w5 := Chg.trans0 (show Chg [] w _ from Chg.k) hc5; have k0 := hK5.cell0 c0; have k1 := hK5.cell0 c1)
    refine wpAny_take (i := 7) (v := ?_) rfl (by kernel_rfl) (by kernel_rfl) (by kernel_rfl) (fun _ _ _ h => h) (Or.inl ⟨by rfl, ?_⟩) ?_
    rotate_left
    focus (intro w; go_simp <;> with_reducible rfl)
    rotate_right
    refine wpAny_take (i := 8) (v := ?_) rfl (by kernel_rfl) (by kernel_rfl) (by kernel_rfl) (fun _ _ _ h => h) (Or.inl ⟨by rfl, ?_⟩) ?_
    rotate_left
    focus (intro w; go_simp <;> with_reducible rfl)
    rotate_right
    refine wpAny_ready (rs := [9]) (by kernel_rfl) (by simp) ?_
    refine AllReady.cons rfl (fun K hK => ?_) ?_
    focus
     go_simp
     refine hK _ _ ?_
     clear hK K
     refine wpAny_take (i := 10) (v := ?_) rfl (by kernel_rfl) (by kernel_rfl) (by kernel_rfl) (fun _ _ _ h => h) (Or.inl ⟨by rfl, ?_⟩) ?_
     rotate_left
     focus (intro w; go_simp <;> with_reducible rfl)
     rotate_right
     refine wpAny_take (i := 11) (v := ?_) rfl (by kernel_rfl) (by kernel_rfl) (by kernel_rfl) (fun _ _ _ h => h) (Or.inl ⟨by rfl, ?_⟩) ?_
     rotate_left
     focus (intro w; go_simp <;> with_reducible rfl)
     rotate_right
     refine wpAny_take (i := 12) (v := ?_) rfl (by kernel_rfl) (by kernel_rfl) (by kernel_rfl) (fun _ _ _ h => h) (Or.inl ⟨by rfl, ?_⟩) ?_
     rotate_left
     focus (intro w; go_simp <;> with_reducible rfl)
     rotate_right
     refine wpAny_ready (rs := [13]) (by kernel_rfl) (by simp) ?_
     refine AllReady.cons rfl (fun K hK => ?_) ?_
     focus
      go_simp
      exact ⟨rfl, rfl, Chg.k⟩
     exact AllReady.nil
    exact AllReady.nil
   exact AllReady.nil
  refine AllReady.cons rfl (fun K hK => ?_) ?_
  focus
   go_simp
   go_wp2_with (go_at_call 174; refine (htop _ (Chg.k)).mono ?_; rintro e w5 ⟨rfl, hc5⟩; have hK5 : Chg [] w w5 := Chg.trans0 (show Chg [] w _ from Chg.k) hc5; have k0 := hK5.cell0 c0; have k1 := hK5.cell0 c1)
   refine wpAny_take (i := 7) (v := ?_) rfl (by kernel_rfl) (by kernel_rfl) (by kernel_rfl) (fun _ _ _ h => h) (Or.inl ⟨by rfl, ?_⟩) ?_
   rotate_left
   focus (intro w; go_simp <;> with_reducible rfl)
   rotate_right
   refine wpAny_take (i := 8) (v := ?_) rfl (by kernel_rfl) (by kernel_rfl) (by kernel_rfl) (fun _ _ _ h => h) (Or.inl ⟨by rfl, ?_⟩) ?_
   rotate_left
   focus (intro w; go_simp <;> with_reducible rfl)
   rotate_right
   refine wpAny_ready (rs := [4, 9]) (by kernel_rfl) (by simp) ?_
   refine AllReady.cons rfl (fun K hK => ?_) ?_
   focus
    go_simp
    refine hK _ _ ?_
    clear hK K
    refine wpAny_ready (rs := [9]) (by kernel_rfl) (by simp) ?_
    refine AllReady.cons rfl (fun K hK => ?_) ?_
    focus
     go_simp
     refine hK _ _ ?_
     clear hK K
     refine wpAny_take (i := 10) (v := ?_) rfl (by kernel_rfl) (by kernel_rfl) (by kernel_rfl) (fun _ _ _ h => h) (Or.inl ⟨by rfl, ?_⟩) ?_
     rotate_left
     focus (intro w; go_simp <;> with_reducible rfl)
     rotate_right
     refine wpAny_take (i := 11) (v := ?_) rfl (by kernel_rfl) (by kernel_rfl) (by kernel_rfl) (fun _ _ _ h => h) (Or.inl ⟨by rfl, ?_⟩) ?_
     rotate_left
     focus (intro w; go_simp <;> with_reducible rfl)
     rotate_right
     refine wpAny_take (i := 12) (v := ?_) rfl (by kernel_rfl) (by kernel_rfl) (by kernel_rfl) (fun _ _ _ h => h) (Or.inl ⟨by rfl, ?_⟩) ?_
     rotate_left
     focus (intro w; go_simp <;> with_reducible rfl)
     rotate_right
     refine wpAny_ready (rs := [13]) (by kernel_rfl) (by simp) ?_
     refine AllReady.cons rfl (fun K hK => ?_) ?_
     focus
      go_simp
      exact ⟨rfl, rfl, Chg.k⟩
     exact AllReady.nil
    exact AllReady.nil
   refine AllReady.cons rfl (fun K hK => ?_) ?_
   focus
    go_simp
    refine hK _ _ ?_
    clear hK K
    refine wpAny_ready (rs := [4]) (by kernel_rfl) (by simp) ?_
    refine AllReady.cons rfl (fun K hK => ?_) ?_
    focus
     go_simp
     refine hK _ _ ?_
     clear hK K
     refine wpAny_take (i := 10) (v := ?_) rfl (by kernel_rfl) (by kernel_rfl) (by kernel_rfl) (fun _ _ _ h => h) (Or.inl ⟨by rfl, ?_⟩) ?_
     rotate_left
     focus (intro w; go_simp <;> with_reducible rfl)
     rotate_right
     refine wpAny_take (i := 11) (v := ?_) rfl (by kernel_rfl) (by kernel_rfl) (by kernel_rfl) (fun _ _ _ h => h) (Or.inl ⟨by rfl, ?_⟩) ?_
     rotate_left
     focus (intro w; go_simp <;> with_reducible rfl)
     rotate_right
     refine wpAny_take (i := 12) (v := ?_) rfl (by kernel_rfl) (by kernel_rfl) (by kernel_rfl) (fun _ _ _ h => h) (Or.inl ⟨by rfl, ?_⟩) ?_
     rotate_left
     focus (intro w; go_simp <;> with_reducible rfl)
     rotate_right
     refine wpAny_ready (rs := [13]) (by kernel_rfl) (by simp) ?_
     refine AllReady.cons rfl (fun K hK => ?_) ?_
     focus
      go_simp
      exact ⟨rfl, rfl, Chg.k⟩
     exact AllReady.nil
    exact AllReady.nil
   exact AllReady.nil
  exact AllReady.nil
 exact AllReady.nil
end Go.Proofs.YtjakhnhnjhafgaaGreat.Wk
namespace Go.Proofs.YtjakhnhnjhafgaaGreat.Wk
open Go Go.RowKit Go.Deep Ow
open Rp (R sz)
theorem cellOk_c (X b off m cap a bX oX nX kX : Nat) (w : World) (hX : w.cell? ⟨X, 2, none⟩ = some (.slice (some ⟨b, off, none⟩) (m + 1) cap)) (hm : (m : Int) + 1 ≤ 9223372036854775807)
 (c3 : w.cell? ⟨b, off + m * 4 + 3, none⟩ = some (.slice (some ⟨bX, oX, none⟩) nX kX)) (ha4 : a < 4) (han : a < nX) :
 Calls Tryz.prog 177 #[.pointer (some ⟨X, 0, none⟩), .int .i64 a] w fun e w' => e = .returned (.pointer (some ⟨bX, oX + a, none⟩)) ∧ Chg [] w w' := by
 have htop := fun (wx : World) (hx : Chg [] w wx) => top_c X b off m cap wx (hx.cell0 hX) hm
 have hbl := Lib.hid (below_nat ha4)
 have haI : (a : Int) < nX := by omega
 clear hX hm ha4
 go_enter Tryz.func177, Tryz.ntmps177
 go_wp2_with (first
  | (go_at_call 98; refine (implBelow_c _ _ _).mono ?_; rintro e w7 ⟨rfl, rfl⟩; rw [hbl.out])
  | (go_at_call 176; refine (failNo_c X _).mono ?_; rintro e w4 ⟨rfl, hc4⟩; have hK4 : Chg [] w w4 := Chg.trans0 (show Chg [] w _ from Chg.c) hc4)
  | (go_at_call 174; refine (htop _ (Chg.k)).mono ?_; rintro e w5 ⟨rfl, hc5⟩; have hK5 : Chg [] w w5 := Chg.trans0 (show Chg [] w _ from Chg.k) hc5; have k3 := hK5.cell0 c3))
 go_ret
 exact ⟨rfl, Chg.k⟩
theorem cellBad_c (X b off m cap : Nat) (n : Int) (f : RunFrame) (w : World) (hX : w.cell? ⟨X, 2, none⟩ = some (.slice (some ⟨b, off, none⟩) (m + 1) cap)) (hm : (m : Int) + 1 ≤ 9223372036854775807)
 (c0 : w.cell? ⟨b, off + m * 4, none⟩ = some (.int .i64 f.Proc)) (c1 : w.cell? ⟨b, off + m * 4 + 1, none⟩ = some (.int .i64 f.Pc)) (hbad : below n 4 = false) :
 Calls Tryz.prog 177 #[.pointer (some ⟨X, 0, none⟩), .int .i64 n] w fun e w' => e = .panicked [{ v := .iface 182 (runV (runFail f) (.slice none 0 0)), recovered := false }] ∧ Chg [] w w' := by
 have hfl := fun (wx : World) (hx : Chg [] w wx) => failYes_c X b off m cap f wx (hx.cell0 hX) hm (hx.cell0 c0) (hx.cell0 c1)
 have hbl := Lib.hid hbad
 clear hX hm hbad c0 c1
 go_enter Tryz.func177, Tryz.ntmps177
 go_wp2_with (first
  | (go_at_call 98; refine (implBelow_c _ _ _).mono ?_; rintro e w7 ⟨rfl, rfl⟩; rw [hbl.out])
  | (go_at_call 176; refine (hfl _ (Chg.c)).mono ?_; rintro e w4 ⟨rfl, hc4⟩; have hK4 : Chg [] w w4 := Chg.trans0 (show Chg [] w _ from Chg.c) hc4))
 exact ⟨rfl, rfl, Chg.k⟩
end Go.Proofs.YtjakhnhnjhafgaaGreat.Wk
