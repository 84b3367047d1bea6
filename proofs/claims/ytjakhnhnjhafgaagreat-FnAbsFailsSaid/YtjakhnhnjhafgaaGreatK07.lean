/- A part of the proof. -/
import Derived.Test.YtjakhnhnjhafgaaGreatK05
import Derived.Test.YtjakhnhnjhafgaaGreatK03
set_option linter.unusedVariables false
set_option linter.unusedSimpArgs false
namespace Go.Proofs.YtjakhnhnjhafgaaGreat.Wk
open Go Go.RowKit Go.Deep Ow
open Rp (R sz)
def formOf (i : InsIns) : InsIns :=
 if i.Op ≤ 4 then { i with Op := 0, D := 0, A := 0, B := 0 } else
 if i.Op = 5 then { i with Op := 0, D := 0, Lo := 0, Hi := 0 } else
 if i.Op = 6 then { i with Op := 0, D := 0, A := 0 } else
 if i.Op = 7 then { i with Op := 0, A := 0, B := 0 } else
 if i.Op = 8 then { i with Op := 0, A := 0, B := 0, Rel := 0, To := 0 } else
 if i.Op = 9 then { i with Op := 0, To := 0 } else
 if i.Op = 10 then { i with Op := 0, D := 0, A := 0, To := 0 } else
 if i.Op = 11 then { i with Op := 0, A := 0, B := 0, Rel := 0 } else
 if i.Op = 12 then { i with Op := 0, A := 0 } else
 { i with Op := 0 }
theorem formOf_ok {i : InsIns} (h : 1 ≤ i.Op ∧ i.Op ≤ 12) : insSame (formOf i) insZero = formOk i := by
 have hr : i.Op ≤ 4 ∨ i.Op = 5 ∨ i.Op = 6 ∨ i.Op = 7 ∨ i.Op = 8 ∨ i.Op = 9 ∨ i.Op = 10 ∨ i.Op = 11 ∨ i.Op = 12 := by omega
 clear h
 unfold formOf formOk insSame insZero
 rcases hr with h | h | h | h | h | h | h | h | h
 · simp only [h, if_true]
   grind
 all_goals
  simp only [h, Int.reduceLE, Int.reduceEq, if_true, if_false]
  grind
set_option maxHeartbeats 800000 in
theorem l3Form1_c (i : InsIns) (w : World) (h : i.Op = 1) : Calls Tryz.prog 104 #[insV i] w fun e w' => e = .returned (.agg #[.int .i64 0, .int .i64 0, .int .i64 0, .int .i64 0, .int .i64 i.Rel, .int .i64 i.Lo, .int .i64 i.Hi, .int .i64 i.To]) ∧ Chg [] w w' := by
 have e5 : (i.Op == 5) = false := by rw [h]; rfl
 have e1 : (i.Op == 1) = true := by rw [h]; rfl
 clear h
 go_enter Tryz.func104, Tryz.ntmps104
 go_wp2
 exact bodyPost_ret (v := .agg #[.int .i64 0, .int .i64 0, .int .i64 0, .int .i64 0, .int .i64 i.Rel, .int .i64 i.Lo, .int .i64 i.Hi, .int .i64 i.To]) (by simp [results, Tryz.results104, go_sem]) rfl ⟨rfl, Chg.e⟩
set_option maxHeartbeats 800000 in
theorem l3Form2_c (i : InsIns) (w : World) (h : i.Op = 2) : Calls Tryz.prog 104 #[insV i] w fun e w' => e = .returned (.agg #[.int .i64 0, .int .i64 0, .int .i64 0, .int .i64 0, .int .i64 i.Rel, .int .i64 i.Lo, .int .i64 i.Hi, .int .i64 i.To]) ∧ Chg [] w w' := by
 have e5 : (i.Op == 5) = false := by rw [h]; rfl
 have e1 : (i.Op == 1) = false := by rw [h]; rfl
 have e2 : (i.Op == 2) = true := by rw [h]; rfl
 clear h
 go_enter Tryz.func104, Tryz.ntmps104
 go_wp2
 exact bodyPost_ret (v := .agg #[.int .i64 0, .int .i64 0, .int .i64 0, .int .i64 0, .int .i64 i.Rel, .int .i64 i.Lo, .int .i64 i.Hi, .int .i64 i.To]) (by simp [results, Tryz.results104, go_sem]) rfl ⟨rfl, Chg.e⟩
set_option maxHeartbeats 800000 in
theorem l3Form3_c (i : InsIns) (w : World) (h : i.Op = 3) : Calls Tryz.prog 104 #[insV i] w fun e w' => e = .returned (.agg #[.int .i64 0, .int .i64 0, .int .i64 0, .int .i64 0, .int .i64 i.Rel, .int .i64 i.Lo, .int .i64 i.Hi, .int .i64 i.To]) ∧ Chg [] w w' := by
 have e5 : (i.Op == 5) = false := by rw [h]; rfl
 have e1 : (i.Op == 1) = false := by rw [h]; rfl
 have e2 : (i.Op == 2) = false := by rw [h]; rfl
 have e3 : (i.Op == 3) = true := by rw [h]; rfl
 clear h
 go_enter Tryz.func104, Tryz.ntmps104
 go_wp2
 exact bodyPost_ret (v := .agg #[.int .i64 0, .int .i64 0, .int .i64 0, .int .i64 0, .int .i64 i.Rel, .int .i64 i.Lo, .int .i64 i.Hi, .int .i64 i.To]) (by simp [results, Tryz.results104, go_sem]) rfl ⟨rfl, Chg.e⟩
set_option maxHeartbeats 800000 in
theorem l3Form4_c (i : InsIns) (w : World) (h : i.Op = 4) : Calls Tryz.prog 104 #[insV i] w fun e w' => e = .returned (.agg #[.int .i64 0, .int .i64 0, .int .i64 0, .int .i64 0, .int .i64 i.Rel, .int .i64 i.Lo, .int .i64 i.Hi, .int .i64 i.To]) ∧ Chg [] w w' := by
 have e5 : (i.Op == 5) = false := by rw [h]; rfl
 have e1 : (i.Op == 1) = false := by rw [h]; rfl
 have e2 : (i.Op == 2) = false := by rw [h]; rfl
 have e3 : (i.Op == 3) = false := by rw [h]; rfl
 have e4 : (i.Op == 4) = true := by rw [h]; rfl
 clear h
 go_enter Tryz.func104, Tryz.ntmps104
 go_wp2
 exact bodyPost_ret (v := .agg #[.int .i64 0, .int .i64 0, .int .i64 0, .int .i64 0, .int .i64 i.Rel, .int .i64 i.Lo, .int .i64 i.Hi, .int .i64 i.To]) (by simp [results, Tryz.results104, go_sem]) rfl ⟨rfl, Chg.e⟩
set_option maxHeartbeats 800000 in
theorem l3Form5_c (i : InsIns) (w : World) (h : i.Op = 5) : Calls Tryz.prog 104 #[insV i] w fun e w' => e = .returned (.agg #[.int .i64 0, .int .i64 0, .int .i64 i.A, .int .i64 i.B, .int .i64 i.Rel, .int .i64 0, .int .i64 0, .int .i64 i.To]) ∧ Chg [] w w' := by
 have e5 : (i.Op == 5) = true := by rw [h]; rfl
 clear h
 go_enter Tryz.func104, Tryz.ntmps104
 go_wp2
 exact bodyPost_ret (v := .agg #[.int .i64 0, .int .i64 0, .int .i64 i.A, .int .i64 i.B, .int .i64 i.Rel, .int .i64 0, .int .i64 0, .int .i64 i.To]) (by simp [results, Tryz.results104, go_sem]) rfl ⟨rfl, Chg.e⟩
set_option maxHeartbeats 800000 in
theorem l3Form6_c (i : InsIns) (w : World) (h : i.Op = 6) : Calls Tryz.prog 104 #[insV i] w fun e w' => e = .returned (.agg #[.int .i64 0, .int .i64 0, .int .i64 0, .int .i64 i.B, .int .i64 i.Rel, .int .i64 i.Lo, .int .i64 i.Hi, .int .i64 i.To]) ∧ Chg [] w w' := by
 have e5 : (i.Op == 5) = false := by rw [h]; rfl
 have e1 : (i.Op == 1) = false := by rw [h]; rfl
 have e2 : (i.Op == 2) = false := by rw [h]; rfl
 have e3 : (i.Op == 3) = false := by rw [h]; rfl
 have e4 : (i.Op == 4) = false := by rw [h]; rfl
 have e6 : (i.Op == 6) = true := by rw [h]; rfl
 clear h
 go_enter Tryz.func104, Tryz.ntmps104
 go_wp2
 exact bodyPost_ret (v := .agg #[.int .i64 0, .int .i64 0, .int .i64 0, .int .i64 i.B, .int .i64 i.Rel, .int .i64 i.Lo, .int .i64 i.Hi, .int .i64 i.To]) (by simp [results, Tryz.results104, go_sem]) rfl ⟨rfl, Chg.e⟩
set_option maxHeartbeats 800000 in
theorem l3Form7_c (i : InsIns) (w : World) (h : i.Op = 7) : Calls Tryz.prog 104 #[insV i] w fun e w' => e = .returned (.agg #[.int .i64 0, .int .i64 i.D, .int .i64 0, .int .i64 0, .int .i64 i.Rel, .int .i64 i.Lo, .int .i64 i.Hi, .int .i64 i.To]) ∧ Chg [] w w' := by
 have e5 : (i.Op == 5) = false := by rw [h]; rfl
 have e1 : (i.Op == 1) = false := by rw [h]; rfl
 have e2 : (i.Op == 2) = false := by rw [h]; rfl
 have e3 : (i.Op == 3) = false := by rw [h]; rfl
 have e4 : (i.Op == 4) = false := by rw [h]; rfl
 have e6 : (i.Op == 6) = false := by rw [h]; rfl
 have e7 : (i.Op == 7) = true := by rw [h]; rfl
 clear h
 go_enter Tryz.func104, Tryz.ntmps104
 go_wp2
 exact bodyPost_ret (v := .agg #[.int .i64 0, .int .i64 i.D, .int .i64 0, .int .i64 0, .int .i64 i.Rel, .int .i64 i.Lo, .int .i64 i.Hi, .int .i64 i.To]) (by simp [results, Tryz.results104, go_sem]) rfl ⟨rfl, Chg.e⟩
set_option maxHeartbeats 800000 in
theorem l3Form8_c (i : InsIns) (w : World) (h : i.Op = 8) : Calls Tryz.prog 104 #[insV i] w fun e w' => e = .returned (.agg #[.int .i64 0, .int .i64 i.D, .int .i64 0, .int .i64 0, .int .i64 0, .int .i64 i.Lo, .int .i64 i.Hi, .int .i64 0]) ∧ Chg [] w w' := by
 have e5 : (i.Op == 5) = false := by rw [h]; rfl
 have e1 : (i.Op == 1) = false := by rw [h]; rfl
 have e2 : (i.Op == 2) = false := by rw [h]; rfl
 have e3 : (i.Op == 3) = false := by rw [h]; rfl
 have e4 : (i.Op == 4) = false := by rw [h]; rfl
 have e6 : (i.Op == 6) = false := by rw [h]; rfl
 have e7 : (i.Op == 7) = false := by rw [h]; rfl
 have e8 : (i.Op == 8) = true := by rw [h]; rfl
 clear h
 go_enter Tryz.func104, Tryz.ntmps104
 go_wp2
 exact bodyPost_ret (v := .agg #[.int .i64 0, .int .i64 i.D, .int .i64 0, .int .i64 0, .int .i64 0, .int .i64 i.Lo, .int .i64 i.Hi, .int .i64 0]) (by simp [results, Tryz.results104, go_sem]) rfl ⟨rfl, Chg.e⟩
set_option maxHeartbeats 800000 in
theorem l3Form9_c (i : InsIns) (w : World) (h : i.Op = 9) : Calls Tryz.prog 104 #[insV i] w fun e w' => e = .returned (.agg #[.int .i64 0, .int .i64 i.D, .int .i64 i.A, .int .i64 i.B, .int .i64 i.Rel, .int .i64 i.Lo, .int .i64 i.Hi, .int .i64 0]) ∧ Chg [] w w' := by
 have e5 : (i.Op == 5) = false := by rw [h]; rfl
 have e1 : (i.Op == 1) = false := by rw [h]; rfl
 have e2 : (i.Op == 2) = false := by rw [h]; rfl
 have e3 : (i.Op == 3) = false := by rw [h]; rfl
 have e4 : (i.Op == 4) = false := by rw [h]; rfl
 have e6 : (i.Op == 6) = false := by rw [h]; rfl
 have e7 : (i.Op == 7) = false := by rw [h]; rfl
 have e8 : (i.Op == 8) = false := by rw [h]; rfl
 have e9 : (i.Op == 9) = true := by rw [h]; rfl
 clear h
 go_enter Tryz.func104, Tryz.ntmps104
 go_wp2
 exact bodyPost_ret (v := .agg #[.int .i64 0, .int .i64 i.D, .int .i64 i.A, .int .i64 i.B, .int .i64 i.Rel, .int .i64 i.Lo, .int .i64 i.Hi, .int .i64 0]) (by simp [results, Tryz.results104, go_sem]) rfl ⟨rfl, Chg.e⟩
set_option maxHeartbeats 800000 in
theorem l3Form10_c (i : InsIns) (w : World) (h : i.Op = 10) : Calls Tryz.prog 104 #[insV i] w fun e w' => e = .returned (.agg #[.int .i64 0, .int .i64 0, .int .i64 0, .int .i64 i.B, .int .i64 i.Rel, .int .i64 i.Lo, .int .i64 i.Hi, .int .i64 0]) ∧ Chg [] w w' := by
 have e5 : (i.Op == 5) = false := by rw [h]; rfl
 have e1 : (i.Op == 1) = false := by rw [h]; rfl
 have e2 : (i.Op == 2) = false := by rw [h]; rfl
 have e3 : (i.Op == 3) = false := by rw [h]; rfl
 have e4 : (i.Op == 4) = false := by rw [h]; rfl
 have e6 : (i.Op == 6) = false := by rw [h]; rfl
 have e7 : (i.Op == 7) = false := by rw [h]; rfl
 have e8 : (i.Op == 8) = false := by rw [h]; rfl
 have e9 : (i.Op == 9) = false := by rw [h]; rfl
 have e10 : (i.Op == 10) = true := by rw [h]; rfl
 clear h
 go_enter Tryz.func104, Tryz.ntmps104
 go_wp2
 exact bodyPost_ret (v := .agg #[.int .i64 0, .int .i64 0, .int .i64 0, .int .i64 i.B, .int .i64 i.Rel, .int .i64 i.Lo, .int .i64 i.Hi, .int .i64 0]) (by simp [results, Tryz.results104, go_sem]) rfl ⟨rfl, Chg.e⟩
set_option maxHeartbeats 800000 in
theorem l3Form11_c (i : InsIns) (w : World) (h : i.Op = 11) : Calls Tryz.prog 104 #[insV i] w fun e w' => e = .returned (.agg #[.int .i64 0, .int .i64 i.D, .int .i64 0, .int .i64 0, .int .i64 0, .int .i64 i.Lo, .int .i64 i.Hi, .int .i64 i.To]) ∧ Chg [] w w' := by
 have e5 : (i.Op == 5) = false := by rw [h]; rfl
 have e1 : (i.Op == 1) = false := by rw [h]; rfl
 have e2 : (i.Op == 2) = false := by rw [h]; rfl
 have e3 : (i.Op == 3) = false := by rw [h]; rfl
 have e4 : (i.Op == 4) = false := by rw [h]; rfl
 have e6 : (i.Op == 6) = false := by rw [h]; rfl
 have e7 : (i.Op == 7) = false := by rw [h]; rfl
 have e8 : (i.Op == 8) = false := by rw [h]; rfl
 have e9 : (i.Op == 9) = false := by rw [h]; rfl
 have e10 : (i.Op == 10) = false := by rw [h]; rfl
 have e11 : (i.Op == 11) = true := by rw [h]; rfl
 clear h
 go_enter Tryz.func104, Tryz.ntmps104
 go_wp2
 exact bodyPost_ret (v := .agg #[.int .i64 0, .int .i64 i.D, .int .i64 0, .int .i64 0, .int .i64 0, .int .i64 i.Lo, .int .i64 i.Hi, .int .i64 i.To]) (by simp [results, Tryz.results104, go_sem]) rfl ⟨rfl, Chg.e⟩
set_option maxHeartbeats 800000 in
theorem l3Form12_c (i : InsIns) (w : World) (h : i.Op = 12) : Calls Tryz.prog 104 #[insV i] w fun e w' => e = .returned (.agg #[.int .i64 0, .int .i64 i.D, .int .i64 0, .int .i64 i.B, .int .i64 i.Rel, .int .i64 i.Lo, .int .i64 i.Hi, .int .i64 i.To]) ∧ Chg [] w w' := by
 have e5 : (i.Op == 5) = false := by rw [h]; rfl
 have e1 : (i.Op == 1) = false := by rw [h]; rfl
 have e2 : (i.Op == 2) = false := by rw [h]; rfl
 have e3 : (i.Op == 3) = false := by rw [h]; rfl
 have e4 : (i.Op == 4) = false := by rw [h]; rfl
 have e6 : (i.Op == 6) = false := by rw [h]; rfl
 have e7 : (i.Op == 7) = false := by rw [h]; rfl
 have e8 : (i.Op == 8) = false := by rw [h]; rfl
 have e9 : (i.Op == 9) = false := by rw [h]; rfl
 have e10 : (i.Op == 10) = false := by rw [h]; rfl
 have e11 : (i.Op == 11) = false := by rw [h]; rfl
 have e12 : (i.Op == 12) = true := by rw [h]; rfl
 clear h
 go_enter Tryz.func104, Tryz.ntmps104
 go_wp2
 exact bodyPost_ret (v := .agg #[.int .i64 0, .int .i64 i.D, .int .i64 0, .int .i64 i.B, .int .i64 i.Rel, .int .i64 i.Lo, .int .i64 i.Hi, .int .i64 i.To]) (by simp [results, Tryz.results104, go_sem]) rfl ⟨rfl, Chg.e⟩
theorem l3Form_c (i : InsIns) (w : World) (hr : 1 ≤ i.Op ∧ i.Op ≤ 12) : Calls Tryz.prog 104 #[insV i] w fun e w' => e = .returned (insV (formOf i)) ∧ Chg [] w w' := by
 have hr : i.Op = 1 ∨ i.Op = 2 ∨ i.Op = 3 ∨ i.Op = 4 ∨ i.Op = 5 ∨ i.Op = 6 ∨ i.Op = 7 ∨ i.Op = 8 ∨ i.Op = 9 ∨ i.Op = 10 ∨ i.Op = 11 ∨ i.Op = 12 := by omega
 rcases hr with h | h | h | h | h | h | h | h | h | h | h | h
 · refine (l3Form1_c i w h).mono ?_
   rintro e w' ⟨rfl, hc⟩
   refine ⟨?_, hc⟩
   unfold insV formOf
   simp only [h, Int.reduceLE, Int.reduceEq, if_true, if_false]
 · refine (l3Form2_c i w h).mono ?_
   rintro e w' ⟨rfl, hc⟩
   refine ⟨?_, hc⟩
   unfold insV formOf
   simp only [h, Int.reduceLE, Int.reduceEq, if_true, if_false]
 · refine (l3Form3_c i w h).mono ?_
   rintro e w' ⟨rfl, hc⟩
   refine ⟨?_, hc⟩
   unfold insV formOf
   simp only [h, Int.reduceLE, Int.reduceEq, if_true, if_false]
 · refine (l3Form4_c i w h).mono ?_
   rintro e w' ⟨rfl, hc⟩
   refine ⟨?_, hc⟩
   unfold insV formOf
   simp only [h, Int.reduceLE, Int.reduceEq, if_true, if_false]
 · refine (l3Form5_c i w h).mono ?_
   rintro e w' ⟨rfl, hc⟩
   refine ⟨?_, hc⟩
   unfold insV formOf
   simp only [h, Int.reduceLE, Int.reduceEq, if_true, if_false]
 · refine (l3Form6_c i w h).mono ?_
   rintro e w' ⟨rfl, hc⟩
   refine ⟨?_, hc⟩
   unfold insV formOf
   simp only [h, Int.reduceLE, Int.reduceEq, if_true, if_false]
 · refine (l3Form7_c i w h).mono ?_
   rintro e w' ⟨rfl, hc⟩
   refine ⟨?_, hc⟩
   unfold insV formOf
   simp only [h, Int.reduceLE, Int.reduceEq, if_true, if_false]
 · refine (l3Form8_c i w h).mono ?_
   rintro e w' ⟨rfl, hc⟩
   refine ⟨?_, hc⟩
   unfold insV formOf
   simp only [h, Int.reduceLE, Int.reduceEq, if_true, if_false]
 · refine (l3Form9_c i w h).mono ?_
   rintro e w' ⟨rfl, hc⟩
   refine ⟨?_, hc⟩
   unfold insV formOf
   simp only [h, Int.reduceLE, Int.reduceEq, if_true, if_false]
 · refine (l3Form10_c i w h).mono ?_
   rintro e w' ⟨rfl, hc⟩
   refine ⟨?_, hc⟩
   unfold insV formOf
   simp only [h, Int.reduceLE, Int.reduceEq, if_true, if_false]
 · refine (l3Form11_c i w h).mono ?_
   rintro e w' ⟨rfl, hc⟩
   refine ⟨?_, hc⟩
   unfold insV formOf
   simp only [h, Int.reduceLE, Int.reduceEq, if_true, if_false]
 · refine (l3Form12_c i w h).mono ?_
   rintro e w' ⟨rfl, hc⟩
   refine ⟨?_, hc⟩
   unfold insV formOf
   simp only [h, Int.reduceLE, Int.reduceEq, if_true, if_false]
theorem in_var (n : Int) : (decide (0 ≤ n) && decide (n ≤ 3)) = varOk n := by
 unfold varOk
 rw [Bool.eq_iff_iff]
 simp only [Bool.and_eq_true, decide_eq_true_eq]
 omega
theorem in_rel (n : Int) : (decide (1 ≤ n) && decide (n ≤ 4)) = relOk n := rfl
def InBox2 (w : World) (b : Nat) (i : InsIns) (w' : World) : Prop := InBox w b i w' ∧ InBox w (b + 1) insZero w'
theorem InBox2.q0 {w w' : World} {b : Nat} {i : InsIns} (h : InBox2 w b i w') : w'.cell? ⟨b, 0, none⟩ = some (.int .i64 i.Op) := h.1.q0
theorem InBox2.q1 {w w' : World} {b : Nat} {i : InsIns} (h : InBox2 w b i w') : w'.cell? ⟨b, 1, none⟩ = some (.int .i64 i.D) := h.1.q1
theorem InBox2.q2 {w w' : World} {b : Nat} {i : InsIns} (h : InBox2 w b i w') : w'.cell? ⟨b, 2, none⟩ = some (.int .i64 i.A) := h.1.q2
theorem InBox2.q3 {w w' : World} {b : Nat} {i : InsIns} (h : InBox2 w b i w') : w'.cell? ⟨b, 3, none⟩ = some (.int .i64 i.B) := h.1.q3
theorem InBox2.q4 {w w' : World} {b : Nat} {i : InsIns} (h : InBox2 w b i w') : w'.cell? ⟨b, 4, none⟩ = some (.int .i64 i.Rel) := h.1.q4
theorem InBox2.q5 {w w' : World} {b : Nat} {i : InsIns} (h : InBox2 w b i w') : w'.cell? ⟨b, 5, none⟩ = some (.int .i64 i.Lo) := h.1.q5
theorem InBox2.q6 {w w' : World} {b : Nat} {i : InsIns} (h : InBox2 w b i w') : w'.cell? ⟨b, 6, none⟩ = some (.int .i64 i.Hi) := h.1.q6
theorem InBox2.q7 {w w' : World} {b : Nat} {i : InsIns} (h : InBox2 w b i w') : w'.cell? ⟨b, 7, none⟩ = some (.int .i64 i.To) := h.1.q7
theorem InBox2.z0 {w w' : World} {b : Nat} {i : InsIns} (h : InBox2 w b i w') : w'.cell? ⟨b + 1, 0, none⟩ = some (.int .i64 0) := h.2.q0
theorem InBox2.z1 {w w' : World} {b : Nat} {i : InsIns} (h : InBox2 w b i w') : w'.cell? ⟨b + 1, 1, none⟩ = some (.int .i64 0) := h.2.q1
theorem InBox2.z2 {w w' : World} {b : Nat} {i : InsIns} (h : InBox2 w b i w') : w'.cell? ⟨b + 1, 2, none⟩ = some (.int .i64 0) := h.2.q2
theorem InBox2.z3 {w w' : World} {b : Nat} {i : InsIns} (h : InBox2 w b i w') : w'.cell? ⟨b + 1, 3, none⟩ = some (.int .i64 0) := h.2.q3
theorem InBox2.z4 {w w' : World} {b : Nat} {i : InsIns} (h : InBox2 w b i w') : w'.cell? ⟨b + 1, 4, none⟩ = some (.int .i64 0) := h.2.q4
theorem InBox2.z5 {w w' : World} {b : Nat} {i : InsIns} (h : InBox2 w b i w') : w'.cell? ⟨b + 1, 5, none⟩ = some (.int .i64 0) := h.2.q5
theorem InBox2.z6 {w w' : World} {b : Nat} {i : InsIns} (h : InBox2 w b i w') : w'.cell? ⟨b + 1, 6, none⟩ = some (.int .i64 0) := h.2.q6
theorem InBox2.z7 {w w' : World} {b : Nat} {i : InsIns} (h : InBox2 w b i w') : w'.cell? ⟨b + 1, 7, none⟩ = some (.int .i64 0) := h.2.q7
theorem InBox2.mk_ {w W : World} {i : InsIns} (hc : Chg [] w W := by repeat (with_reducible first | exact Chg.refl _ _ | assumption | refine Chg.alloc ?_ _ | refine Chg.drew ?_ | refine Chg.drewN ?_ _ | refine Chg.r ?_ _)) (h0 : W.cell? ⟨w.heap.size, 0, none⟩ = some (.int .i64 i.Op) := by simp [go_sem]) (h1 : W.cell? ⟨w.heap.size, 1, none⟩ = some (.int .i64 i.D) := by simp [go_sem]) (h2 : W.cell? ⟨w.heap.size, 2, none⟩ = some (.int .i64 i.A) := by simp [go_sem]) (h3 : W.cell? ⟨w.heap.size, 3, none⟩ = some (.int .i64 i.B) := by simp [go_sem]) (h4 : W.cell? ⟨w.heap.size, 4, none⟩ = some (.int .i64 i.Rel) := by simp [go_sem]) (h5 : W.cell? ⟨w.heap.size, 5, none⟩ = some (.int .i64 i.Lo) := by simp [go_sem]) (h6 : W.cell? ⟨w.heap.size, 6, none⟩ = some (.int .i64 i.Hi) := by simp [go_sem]) (h7 : W.cell? ⟨w.heap.size, 7, none⟩ = some (.int .i64 i.To) := by simp [go_sem]) (z0 : W.cell? ⟨w.heap.size + 1, 0, none⟩ = some (.int .i64 insZero.Op) := by simp [go_sem, insZero]) (z1 : W.cell? ⟨w.heap.size + 1, 1, none⟩ = some (.int .i64 insZero.D) := by simp [go_sem, insZero]) (z2 : W.cell? ⟨w.heap.size + 1, 2, none⟩ = some (.int .i64 insZero.A) := by simp [go_sem, insZero]) (z3 : W.cell? ⟨w.heap.size + 1, 3, none⟩ = some (.int .i64 insZero.B) := by simp [go_sem, insZero]) (z4 : W.cell? ⟨w.heap.size + 1, 4, none⟩ = some (.int .i64 insZero.Rel) := by simp [go_sem, insZero]) (z5 : W.cell? ⟨w.heap.size + 1, 5, none⟩ = some (.int .i64 insZero.Lo) := by simp [go_sem, insZero]) (z6 : W.cell? ⟨w.heap.size + 1, 6, none⟩ = some (.int .i64 insZero.Hi) := by simp [go_sem, insZero]) (z7 : W.cell? ⟨w.heap.size + 1, 7, none⟩ = some (.int .i64 insZero.To) := by simp [go_sem, insZero]) : InBox2 w w.heap.size i W := ⟨⟨hc, h0, h1, h2, h3, h4, h5, h6, h7⟩, ⟨hc, z0, z1, z2, z3, z4, z5, z6, z7⟩⟩
theorem InBox2.chg {w w' w'' : World} {b : Nat} {i : InsIns} (h : InBox2 w b i w') (hc : Chg [] w' w'') : InBox2 w b i w'' := ⟨h.1.chg hc, h.2.chg hc⟩
set_option maxRecDepth 100000 in
set_option maxHeartbeats 2000000 in
theorem refIns_op (i : InsIns) (procs size : Int) (w : World) (hop : (decide (1 ≤ i.Op) && decide (i.Op ≤ 12)) = false) : Calls Tryz.prog 42 #[insV i, .int .i64 procs, .int .i64 size] w fun e w' => e = .returned (.bool false) ∧ Chg [] w w' := by
 go_enter Tryz.func42, Tryz.ntmps42
 go_wp2_with fail
 refine wp_region_quietC (C := InBox2 w w.heap.size i) (by kernel_rfl) (by kernel_rfl) InBox2.mk_ ?_
 go_big_quiet_want
 refine qV (.pointer (some ⟨w.heap.size, 0, none⟩)) (fun _ _ => by first | rfl | simp [go_sem]) ?_
 go_big_quiet_on
 (try simp only [pS, pN, pA, pZ, pC])
 go_big_quiet_want
 refine qV (.int .i64 i.Op) (fun wq hq => by simp [go_sem, hq.q0]) ?_
 go_big_quiet_on
 (try simp only [pS, pN, pA, pZ, pC])
 go_big_quiet_want
 refine quiet_enter (.bool (decide (1 ≤ i.Op) && decide (i.Op ≤ 12))) 71 #[.int .i64 i.Op, .int .i64 1, .int .i64 12] (fun wq hq => ?_) (fun wq hq => ?_) ?_
 · simp [go_sem]
 · exact (specL1In_c _ _ _ _).mono fun _ _ h => ⟨h.1, h.2 ▸ hq⟩
 go_big_quiet_on
 (try simp only [pS, pN, pA, pZ, pC])
 go_big_quiet_want
 refine qT (fun _ _ => by simp [go_sem, hop]) ?_
 go_big_quiet_on
 (try simp only [pS, pN, pA, pZ, pC])
 go_big_quiet_want
 refine qT (fun _ _ => by rfl) ?_
 go_big_quiet_on
 (try simp only [pS, pN, pA, pZ, pC])
 go_big_quiet_skip
 go_big_quiet_skip
 go_big_quiet_skip
 go_big_quiet_skip
 go_big_quiet_want
 refine qT (fun _ _ => by rfl) ?_
 go_big_quiet_on
 (try simp only [pS, pN, pA, pZ, pC])
 go_big_quiet_want
 refine qT (fun _ _ => by rfl) ?_
 go_big_quiet_on
 (try simp only [pS, pN, pA, pZ, pC])
 go_big_quiet_skip
 go_big_quiet_skip
 go_big_quiet_skip
 go_big_quiet_skip
 go_big_quiet_want
 refine qT (fun _ _ => by rfl) ?_
 go_big_quiet_on
 (try simp only [pS, pN, pA, pZ, pC])
 go_big_quiet_want
 refine qT (fun _ _ => by rfl) ?_
 go_big_quiet_on
 (try simp only [pS, pN, pA, pZ, pC])
 go_big_quiet_skip
 go_big_quiet_skip
 go_big_quiet_skip
 go_big_quiet_skip
 go_big_quiet_want
 refine qT (fun _ _ => by rfl) ?_
 go_big_quiet_on
 (try simp only [pS, pN, pA, pZ, pC])
 go_big_quiet_want
 refine qT (fun _ _ => by rfl) ?_
 go_big_quiet_on
 (try simp only [pS, pN, pA, pZ, pC])
 go_big_quiet_skip
 go_big_quiet_skip
 go_big_quiet_skip
 go_big_quiet_skip
 go_big_quiet_want
 refine qT (fun _ _ => by rfl) ?_
 go_big_quiet_on
 (try simp only [pS, pN, pA, pZ, pC])
 refine wpQuiet_nil (fun w2 hq => ?_)
 have hq1 := hq.1.1
 obtain ⟨⟨-, q0, q1, q2, q3, q4, q5, q6, q7⟩, -⟩ := hq
 clear q0 q1 q2 q3 q4 q5 q6 q7
 go_wp2
 go_ret
 exact ⟨rfl, Chg.e⟩
set_option maxRecDepth 100000 in
set_option maxHeartbeats 2000000 in
theorem refIns_form (i : InsIns) (procs size : Int) (w : World) (hop : (decide (1 ≤ i.Op) && decide (i.Op ≤ 12)) = true) (hs : formOk i = false) : Calls Tryz.prog 42 #[insV i, .int .i64 procs, .int .i64 size] w fun e w' => e = .returned (.bool false) ∧ Chg [] w w' := by
 have hop2 : 1 ≤ i.Op ∧ i.Op ≤ 12 := by simpa using hop
 have hne : ∀ w, (binOp .neq 27 (insV (formOf i)) (insV insZero)).run Tryz.prog w = .ok (.bool true) w := fun w => (neqIns (formOf i) insZero w).trans (by rw [formOf_ok hop2, hs]; rfl)
 have hgd := insGuard
 go_enter Tryz.func42, Tryz.ntmps42
 go_wp2_with fail
 refine wp_region_quietC (C := InBox2 w w.heap.size i) (by kernel_rfl) (by kernel_rfl) InBox2.mk_ ?_
 go_big_quiet_want
 refine qV (.pointer (some ⟨w.heap.size, 0, none⟩)) (fun _ _ => by first | rfl | simp [go_sem]) ?_
 go_big_quiet_on
 (try simp only [pS, pN, pA, pZ, pC])
 go_big_quiet_want
 refine qV (.int .i64 i.Op) (fun wq hq => by simp [go_sem, hq.q0]) ?_
 go_big_quiet_on
 (try simp only [pS, pN, pA, pZ, pC])
 go_big_quiet_want
 refine quiet_enter (.bool (decide (1 ≤ i.Op) && decide (i.Op ≤ 12))) 71 #[.int .i64 i.Op, .int .i64 1, .int .i64 12] (fun wq hq => ?_) (fun wq hq => ?_) ?_
 · simp [go_sem]
 · exact (specL1In_c _ _ _ _).mono fun _ _ h => ⟨h.1, h.2 ▸ hq⟩
 go_big_quiet_on
 (try simp only [pS, pN, pA, pZ, pC])
 go_big_quiet_want
 refine qF (fun _ _ => by simp [go_sem, hop]) ?_
 go_big_quiet_on
 (try simp only [pS, pN, pA, pZ, pC])
 go_big_quiet_want
 refine qF (fun _ _ => by rfl) ?_
 go_big_quiet_on
 (try simp only [pS, pN, pA, pZ, pC])
 go_big_quiet_want
 refine qV (insV i) (fun wq hq => by simp [go_sem, hq.q0, hq.q1, hq.q2, hq.q3, hq.q4, hq.q5, hq.q6, hq.q7]) ?_
 go_big_quiet_on
 (try simp only [pS, pN, pA, pZ, pC])
 go_big_quiet_want
 refine quiet_enter (insV (formOf i)) 104 #[insV i] (fun wq hq => ?_) (fun wq hq => ?_) ?_
 · simp [go_sem]
 · exact (l3Form_c i _ hop2).mono fun _ _ h => ⟨h.1, hq.chg h.2⟩
 go_big_quiet_on
 (try simp only [pS, pN, pA, pZ, pC])
 go_big_quiet_want
 refine qV (insV insZero) (fun wq hq => by simp [go_sem, hq.z0, hq.z1, hq.z2, hq.z3, hq.z4, hq.z5, hq.z6, hq.z7, insZero]) ?_
 go_big_quiet_on
 (try simp only [pS, pN, pA, pZ, pC])
 go_big_quiet_want
 refine qT (fun _ _ => by simp [go_sem, hne, hgd]) ?_
 go_big_quiet_on
 (try simp only [pS, pN, pA, pZ, pC])
 go_big_quiet_want
 refine qT (fun _ _ => by rfl) ?_
 go_big_quiet_on
 (try simp only [pS, pN, pA, pZ, pC])
 go_big_quiet_want
 refine qT (fun _ _ => by rfl) ?_
 go_big_quiet_on
 (try simp only [pS, pN, pA, pZ, pC])
 go_big_quiet_skip
 go_big_quiet_skip
 go_big_quiet_skip
 go_big_quiet_skip
 go_big_quiet_want
 refine qT (fun _ _ => by rfl) ?_
 go_big_quiet_on
 (try simp only [pS, pN, pA, pZ, pC])
 go_big_quiet_want
 refine qT (fun _ _ => by rfl) ?_
 go_big_quiet_on
 (try simp only [pS, pN, pA, pZ, pC])
 go_big_quiet_skip
 go_big_quiet_skip
 go_big_quiet_skip
 go_big_quiet_skip
 go_big_quiet_want
 refine qT (fun _ _ => by rfl) ?_
 go_big_quiet_on
 (try simp only [pS, pN, pA, pZ, pC])
 go_big_quiet_want
 refine qT (fun _ _ => by rfl) ?_
 go_big_quiet_on
 (try simp only [pS, pN, pA, pZ, pC])
 go_big_quiet_skip
 go_big_quiet_skip
 go_big_quiet_skip
 go_big_quiet_skip
 go_big_quiet_want
 refine qT (fun _ _ => by rfl) ?_
 go_big_quiet_on
 (try simp only [pS, pN, pA, pZ, pC])
 refine wpQuiet_nil (fun w2 hq => ?_)
 have hq1 := hq.1.1
 obtain ⟨⟨-, q0, q1, q2, q3, q4, q5, q6, q7⟩, -⟩ := hq
 clear q0 q1 q2 q3 q4 q5 q6 q7
 go_wp2
 go_ret
 exact ⟨rfl, Chg.e⟩
set_option maxRecDepth 100000 in
set_option maxHeartbeats 2000000 in
theorem refIns_D (i : InsIns) (procs size : Int) (w : World) (hop : (decide (1 ≤ i.Op) && decide (i.Op ≤ 12)) = true) (hs : formOk i = true) (hd : varOk i.D = false) : Calls Tryz.prog 42 #[insV i, .int .i64 procs, .int .i64 size] w fun e w' => e = .returned (.bool false) ∧ Chg [] w w' := by
 have hop2 : 1 ≤ i.Op ∧ i.Op ≤ 12 := by simpa using hop
 have hne : ∀ w, (binOp .neq 27 (insV (formOf i)) (insV insZero)).run Tryz.prog w = .ok (.bool false) w := fun w => (neqIns (formOf i) insZero w).trans (by rw [formOf_ok hop2, hs]; rfl)
 have hgd := insGuard
 go_enter Tryz.func42, Tryz.ntmps42
 go_wp2_with fail
 refine wp_region_quietC (C := InBox2 w w.heap.size i) (by kernel_rfl) (by kernel_rfl) InBox2.mk_ ?_
 go_big_quiet_want
 refine qV (.pointer (some ⟨w.heap.size, 0, none⟩)) (fun _ _ => by first | rfl | simp [go_sem]) ?_
 go_big_quiet_on
 (try simp only [pS, pN, pA, pZ, pC])
 go_big_quiet_want
 refine qV (.int .i64 i.Op) (fun wq hq => by simp [go_sem, hq.q0]) ?_
 go_big_quiet_on
 (try simp only [pS, pN, pA, pZ, pC])
 go_big_quiet_want
 refine quiet_enter (.bool (decide (1 ≤ i.Op) && decide (i.Op ≤ 12))) 71 #[.int .i64 i.Op, .int .i64 1, .int .i64 12] (fun wq hq => ?_) (fun wq hq => ?_) ?_
 · simp [go_sem]
 · exact (specL1In_c _ _ _ _).mono fun _ _ h => ⟨h.1, h.2 ▸ hq⟩
 go_big_quiet_on
 (try simp only [pS, pN, pA, pZ, pC])
 go_big_quiet_want
 refine qF (fun _ _ => by simp [go_sem, hop]) ?_
 go_big_quiet_on
 (try simp only [pS, pN, pA, pZ, pC])
 go_big_quiet_want
 refine qF (fun _ _ => by rfl) ?_
 go_big_quiet_on
 (try simp only [pS, pN, pA, pZ, pC])
 go_big_quiet_want
 refine qV (insV i) (fun wq hq => by simp [go_sem, hq.q0, hq.q1, hq.q2, hq.q3, hq.q4, hq.q5, hq.q6, hq.q7]) ?_
 go_big_quiet_on
 (try simp only [pS, pN, pA, pZ, pC])
 go_big_quiet_want
 refine quiet_enter (insV (formOf i)) 104 #[insV i] (fun wq hq => ?_) (fun wq hq => ?_) ?_
 · simp [go_sem]
 · exact (l3Form_c i _ hop2).mono fun _ _ h => ⟨h.1, hq.chg h.2⟩
 go_big_quiet_on
 (try simp only [pS, pN, pA, pZ, pC])
 go_big_quiet_want
 refine qV (insV insZero) (fun wq hq => by simp [go_sem, hq.z0, hq.z1, hq.z2, hq.z3, hq.z4, hq.z5, hq.z6, hq.z7, insZero]) ?_
 go_big_quiet_on
 (try simp only [pS, pN, pA, pZ, pC])
 go_big_quiet_want
 refine qF (fun _ _ => by simp [go_sem, hne, hgd]) ?_
 go_big_quiet_on
 (try simp only [pS, pN, pA, pZ, pC])
 go_big_quiet_want
 refine qF (fun _ _ => by rfl) ?_
 go_big_quiet_on
 (try simp only [pS, pN, pA, pZ, pC])
 go_big_quiet_want
 refine qF (fun _ _ => by rfl) ?_
 go_big_quiet_on
 (try simp only [pS, pN, pA, pZ, pC])
 go_big_quiet_want
 refine qV (.pointer (some ⟨w.heap.size, 1, none⟩)) (fun _ _ => by first | rfl | simp [go_sem]) ?_
 go_big_quiet_on
 (try simp only [pS, pN, pA, pZ, pC])
 go_big_quiet_want
 refine qV (.int .i64 i.D) (fun wq hq => by simp [go_sem, hq.q1]) ?_
 go_big_quiet_on
 (try simp only [pS, pN, pA, pZ, pC])
 go_big_quiet_want
 refine quiet_enter (.bool (varOk i.D)) 71 #[.int .i64 i.D, .int .i64 0, .int .i64 3] (fun wq hq => ?_) (fun wq hq => ?_) ?_
 · simp [go_sem]
 · exact (specL1In_c _ _ _ _).mono fun _ _ h => ⟨by rw [h.1, in_var], h.2 ▸ hq⟩
 go_big_quiet_on
 (try simp only [pS, pN, pA, pZ, pC])
 go_big_quiet_want
 refine qT (fun _ _ => by simp [go_sem, hd]) ?_
 go_big_quiet_on
 (try simp only [pS, pN, pA, pZ, pC])
 go_big_quiet_want
 refine qT (fun _ _ => by rfl) ?_
 go_big_quiet_on
 (try simp only [pS, pN, pA, pZ, pC])
 go_big_quiet_want
 refine qT (fun _ _ => by rfl) ?_
 go_big_quiet_on
 (try simp only [pS, pN, pA, pZ, pC])
 go_big_quiet_skip
 go_big_quiet_skip
 go_big_quiet_skip
 go_big_quiet_skip
 go_big_quiet_want
 refine qT (fun _ _ => by rfl) ?_
 go_big_quiet_on
 (try simp only [pS, pN, pA, pZ, pC])
 go_big_quiet_want
 refine qT (fun _ _ => by rfl) ?_
 go_big_quiet_on
 (try simp only [pS, pN, pA, pZ, pC])
 go_big_quiet_skip
 go_big_quiet_skip
 go_big_quiet_skip
 go_big_quiet_skip
 go_big_quiet_want
 refine qT (fun _ _ => by rfl) ?_
 go_big_quiet_on
 (try simp only [pS, pN, pA, pZ, pC])
 refine wpQuiet_nil (fun w2 hq => ?_)
 have hq1 := hq.1.1
 obtain ⟨⟨-, q0, q1, q2, q3, q4, q5, q6, q7⟩, -⟩ := hq
 clear q0 q1 q2 q3 q4 q5 q6 q7
 go_wp2
 go_ret
 exact ⟨rfl, Chg.e⟩
set_option maxRecDepth 100000 in
set_option maxHeartbeats 2000000 in
theorem refIns_A (i : InsIns) (procs size : Int) (w : World) (hop : (decide (1 ≤ i.Op) && decide (i.Op ≤ 12)) = true) (hs : formOk i = true) (hd : varOk i.D = true) (ha : varOk i.A = false) : Calls Tryz.prog 42 #[insV i, .int .i64 procs, .int .i64 size] w fun e w' => e = .returned (.bool false) ∧ Chg [] w w' := by
 have hop2 : 1 ≤ i.Op ∧ i.Op ≤ 12 := by simpa using hop
 have hne : ∀ w, (binOp .neq 27 (insV (formOf i)) (insV insZero)).run Tryz.prog w = .ok (.bool false) w := fun w => (neqIns (formOf i) insZero w).trans (by rw [formOf_ok hop2, hs]; rfl)
 have hgd := insGuard
 go_enter Tryz.func42, Tryz.ntmps42
 go_wp2_with fail
 refine wp_region_quietC (C := InBox2 w w.heap.size i) (by kernel_rfl) (by kernel_rfl) InBox2.mk_ ?_
 go_big_quiet_want
 refine qV (.pointer (some ⟨w.heap.size, 0, none⟩)) (fun _ _ => by first | rfl | simp [go_sem]) ?_
 go_big_quiet_on
 (try simp only [pS, pN, pA, pZ, pC])
 go_big_quiet_want
 refine qV (.int .i64 i.Op) (fun wq hq => by simp [go_sem, hq.q0]) ?_
 go_big_quiet_on
 (try simp only [pS, pN, pA, pZ, pC])
 go_big_quiet_want
 refine quiet_enter (.bool (decide (1 ≤ i.Op) && decide (i.Op ≤ 12))) 71 #[.int .i64 i.Op, .int .i64 1, .int .i64 12] (fun wq hq => ?_) (fun wq hq => ?_) ?_
 · simp [go_sem]
 · exact (specL1In_c _ _ _ _).mono fun _ _ h => ⟨h.1, h.2 ▸ hq⟩
 go_big_quiet_on
 (try simp only [pS, pN, pA, pZ, pC])
 go_big_quiet_want
 refine qF (fun _ _ => by simp [go_sem, hop]) ?_
 go_big_quiet_on
 (try simp only [pS, pN, pA, pZ, pC])
 go_big_quiet_want
 refine qF (fun _ _ => by rfl) ?_
 go_big_quiet_on
 (try simp only [pS, pN, pA, pZ, pC])
 go_big_quiet_want
 refine qV (insV i) (fun wq hq => by simp [go_sem, hq.q0, hq.q1, hq.q2, hq.q3, hq.q4, hq.q5, hq.q6, hq.q7]) ?_
 go_big_quiet_on
 (try simp only [pS, pN, pA, pZ, pC])
 go_big_quiet_want
 refine quiet_enter (insV (formOf i)) 104 #[insV i] (fun wq hq => ?_) (fun wq hq => ?_) ?_
 · simp [go_sem]
 · exact (l3Form_c i _ hop2).mono fun _ _ h => ⟨h.1, hq.chg h.2⟩
 go_big_quiet_on
 (try simp only [pS, pN, pA, pZ, pC])
 go_big_quiet_want
 refine qV (insV insZero) (fun wq hq => by simp [go_sem, hq.z0, hq.z1, hq.z2, hq.z3, hq.z4, hq.z5, hq.z6, hq.z7, insZero]) ?_
 go_big_quiet_on
 (try simp only [pS, pN, pA, pZ, pC])
 go_big_quiet_want
 refine qF (fun _ _ => by simp [go_sem, hne, hgd]) ?_
 go_big_quiet_on
 (try simp only [pS, pN, pA, pZ, pC])
 go_big_quiet_want
 refine qF (fun _ _ => by rfl) ?_
 go_big_quiet_on
 (try simp only [pS, pN, pA, pZ, pC])
 go_big_quiet_want
 refine qF (fun _ _ => by rfl) ?_
 go_big_quiet_on
 (try simp only [pS, pN, pA, pZ, pC])
 go_big_quiet_want
 refine qV (.pointer (some ⟨w.heap.size, 1, none⟩)) (fun _ _ => by first | rfl | simp [go_sem]) ?_
 go_big_quiet_on
 (try simp only [pS, pN, pA, pZ, pC])
 go_big_quiet_want
 refine qV (.int .i64 i.D) (fun wq hq => by simp [go_sem, hq.q1]) ?_
 go_big_quiet_on
 (try simp only [pS, pN, pA, pZ, pC])
 go_big_quiet_want
 refine quiet_enter (.bool (varOk i.D)) 71 #[.int .i64 i.D, .int .i64 0, .int .i64 3] (fun wq hq => ?_) (fun wq hq => ?_) ?_
 · simp [go_sem]
 · exact (specL1In_c _ _ _ _).mono fun _ _ h => ⟨by rw [h.1, in_var], h.2 ▸ hq⟩
 go_big_quiet_on
 (try simp only [pS, pN, pA, pZ, pC])
 go_big_quiet_want
 refine qF (fun _ _ => by simp [go_sem, hd]) ?_
 go_big_quiet_on
 (try simp only [pS, pN, pA, pZ, pC])
 go_big_quiet_want
 refine qF (fun _ _ => by rfl) ?_
 go_big_quiet_on
 (try simp only [pS, pN, pA, pZ, pC])
 go_big_quiet_want
 refine qF (fun _ _ => by rfl) ?_
 go_big_quiet_on
 (try simp only [pS, pN, pA, pZ, pC])
 go_big_quiet_want
 refine qV (.pointer (some ⟨w.heap.size, 2, none⟩)) (fun _ _ => by first | rfl | simp [go_sem]) ?_
 go_big_quiet_on
 (try simp only [pS, pN, pA, pZ, pC])
 go_big_quiet_want
 refine qV (.int .i64 i.A) (fun wq hq => by simp [go_sem, hq.q2]) ?_
 go_big_quiet_on
 (try simp only [pS, pN, pA, pZ, pC])
 go_big_quiet_want
 refine quiet_enter (.bool (varOk i.A)) 71 #[.int .i64 i.A, .int .i64 0, .int .i64 3] (fun wq hq => ?_) (fun wq hq => ?_) ?_
 · simp [go_sem]
 · exact (specL1In_c _ _ _ _).mono fun _ _ h => ⟨by rw [h.1, in_var], h.2 ▸ hq⟩
 go_big_quiet_on
 (try simp only [pS, pN, pA, pZ, pC])
 go_big_quiet_want
 refine qT (fun _ _ => by simp [go_sem, ha]) ?_
 go_big_quiet_on
 (try simp only [pS, pN, pA, pZ, pC])
 go_big_quiet_want
 refine qT (fun _ _ => by rfl) ?_
 go_big_quiet_on
 (try simp only [pS, pN, pA, pZ, pC])
 go_big_quiet_want
 refine qT (fun _ _ => by rfl) ?_
 go_big_quiet_on
 (try simp only [pS, pN, pA, pZ, pC])
 go_big_quiet_skip
 go_big_quiet_skip
 go_big_quiet_skip
 go_big_quiet_skip
 go_big_quiet_want
 refine qT (fun _ _ => by rfl) ?_
 go_big_quiet_on
 (try simp only [pS, pN, pA, pZ, pC])
 refine wpQuiet_nil (fun w2 hq => ?_)
 have hq1 := hq.1.1
 obtain ⟨⟨-, q0, q1, q2, q3, q4, q5, q6, q7⟩, -⟩ := hq
 clear q0 q1 q2 q3 q4 q5 q6 q7
 go_wp2
 go_ret
 exact ⟨rfl, Chg.e⟩
set_option maxRecDepth 100000 in
set_option maxHeartbeats 2000000 in
theorem refIns_B (i : InsIns) (procs size : Int) (w : World) (hop : (decide (1 ≤ i.Op) && decide (i.Op ≤ 12)) = true) (hs : formOk i = true) (hd : varOk i.D = true) (ha : varOk i.A = true) (hb : varOk i.B = false) : Calls Tryz.prog 42 #[insV i, .int .i64 procs, .int .i64 size] w fun e w' => e = .returned (.bool false) ∧ Chg [] w w' := by
 have hop2 : 1 ≤ i.Op ∧ i.Op ≤ 12 := by simpa using hop
 have hne : ∀ w, (binOp .neq 27 (insV (formOf i)) (insV insZero)).run Tryz.prog w = .ok (.bool false) w := fun w => (neqIns (formOf i) insZero w).trans (by rw [formOf_ok hop2, hs]; rfl)
 have hgd := insGuard
 go_enter Tryz.func42, Tryz.ntmps42
 go_wp2_with fail
 refine wp_region_quietC (C := InBox2 w w.heap.size i) (by kernel_rfl) (by kernel_rfl) InBox2.mk_ ?_
 go_big_quiet_want
 refine qV (.pointer (some ⟨w.heap.size, 0, none⟩)) (fun _ _ => by first | rfl | simp [go_sem]) ?_
 go_big_quiet_on
 (try simp only [pS, pN, pA, pZ, pC])
 go_big_quiet_want
 refine qV (.int .i64 i.Op) (fun wq hq => by simp [go_sem, hq.q0]) ?_
 go_big_quiet_on
 (try simp only [pS, pN, pA, pZ, pC])
 go_big_quiet_want
 refine quiet_enter (.bool (decide (1 ≤ i.Op) && decide (i.Op ≤ 12))) 71 #[.int .i64 i.Op, .int .i64 1, .int .i64 12] (fun wq hq => ?_) (fun wq hq => ?_) ?_
 · simp [go_sem]
 · exact (specL1In_c _ _ _ _).mono fun _ _ h => ⟨h.1, h.2 ▸ hq⟩
 go_big_quiet_on
 (try simp only [pS, pN, pA, pZ, pC])
 go_big_quiet_want
 refine qF (fun _ _ => by simp [go_sem, hop]) ?_
 go_big_quiet_on
 (try simp only [pS, pN, pA, pZ, pC])
 go_big_quiet_want
 refine qF (fun _ _ => by rfl) ?_
 go_big_quiet_on
 (try simp only [pS, pN, pA, pZ, pC])
 go_big_quiet_want
 refine qV (insV i) (fun wq hq => by simp [go_sem, hq.q0, hq.q1, hq.q2, hq.q3, hq.q4, hq.q5, hq.q6, hq.q7]) ?_
 go_big_quiet_on
 (try simp only [pS, pN, pA, pZ, pC])
 go_big_quiet_want
 refine quiet_enter (insV (formOf i)) 104 #[insV i] (fun wq hq => ?_) (fun wq hq => ?_) ?_
 · simp [go_sem]
 · exact (l3Form_c i _ hop2).mono fun _ _ h => ⟨h.1, hq.chg h.2⟩
 go_big_quiet_on
 (try simp only [pS, pN, pA, pZ, pC])
 go_big_quiet_want
 refine qV (insV insZero) (fun wq hq => by simp [go_sem, hq.z0, hq.z1, hq.z2, hq.z3, hq.z4, hq.z5, hq.z6, hq.z7, insZero]) ?_
 go_big_quiet_on
 (try simp only [pS, pN, pA, pZ, pC])
 go_big_quiet_want
 refine qF (fun _ _ => by simp [go_sem, hne, hgd]) ?_
 go_big_quiet_on
 (try simp only [pS, pN, pA, pZ, pC])
 go_big_quiet_want
 refine qF (fun _ _ => by rfl) ?_
 go_big_quiet_on
 (try simp only [pS, pN, pA, pZ, pC])
 go_big_quiet_want
 refine qF (fun _ _ => by rfl) ?_
 go_big_quiet_on
 (try simp only [pS, pN, pA, pZ, pC])
 go_big_quiet_want
 refine qV (.pointer (some ⟨w.heap.size, 1, none⟩)) (fun _ _ => by first | rfl | simp [go_sem]) ?_
 go_big_quiet_on
 (try simp only [pS, pN, pA, pZ, pC])
 go_big_quiet_want
 refine qV (.int .i64 i.D) (fun wq hq => by simp [go_sem, hq.q1]) ?_
 go_big_quiet_on
 (try simp only [pS, pN, pA, pZ, pC])
 go_big_quiet_want
 refine quiet_enter (.bool (varOk i.D)) 71 #[.int .i64 i.D, .int .i64 0, .int .i64 3] (fun wq hq => ?_) (fun wq hq => ?_) ?_
 · simp [go_sem]
 · exact (specL1In_c _ _ _ _).mono fun _ _ h => ⟨by rw [h.1, in_var], h.2 ▸ hq⟩
 go_big_quiet_on
 (try simp only [pS, pN, pA, pZ, pC])
 go_big_quiet_want
 refine qF (fun _ _ => by simp [go_sem, hd]) ?_
 go_big_quiet_on
 (try simp only [pS, pN, pA, pZ, pC])
 go_big_quiet_want
 refine qF (fun _ _ => by rfl) ?_
 go_big_quiet_on
 (try simp only [pS, pN, pA, pZ, pC])
 go_big_quiet_want
 refine qF (fun _ _ => by rfl) ?_
 go_big_quiet_on
 (try simp only [pS, pN, pA, pZ, pC])
 go_big_quiet_want
 refine qV (.pointer (some ⟨w.heap.size, 2, none⟩)) (fun _ _ => by first | rfl | simp [go_sem]) ?_
 go_big_quiet_on
 (try simp only [pS, pN, pA, pZ, pC])
 go_big_quiet_want
 refine qV (.int .i64 i.A) (fun wq hq => by simp [go_sem, hq.q2]) ?_
 go_big_quiet_on
 (try simp only [pS, pN, pA, pZ, pC])
 go_big_quiet_want
 refine quiet_enter (.bool (varOk i.A)) 71 #[.int .i64 i.A, .int .i64 0, .int .i64 3] (fun wq hq => ?_) (fun wq hq => ?_) ?_
 · simp [go_sem]
 · exact (specL1In_c _ _ _ _).mono fun _ _ h => ⟨by rw [h.1, in_var], h.2 ▸ hq⟩
 go_big_quiet_on
 (try simp only [pS, pN, pA, pZ, pC])
 go_big_quiet_want
 refine qF (fun _ _ => by simp [go_sem, ha]) ?_
 go_big_quiet_on
 (try simp only [pS, pN, pA, pZ, pC])
 go_big_quiet_want
 refine qF (fun _ _ => by rfl) ?_
 go_big_quiet_on
 (try simp only [pS, pN, pA, pZ, pC])
 go_big_quiet_want
 refine qF (fun _ _ => by rfl) ?_
 go_big_quiet_on
 (try simp only [pS, pN, pA, pZ, pC])
 go_big_quiet_want
 refine qV (.pointer (some ⟨w.heap.size, 3, none⟩)) (fun _ _ => by first | rfl | simp [go_sem]) ?_
 go_big_quiet_on
 (try simp only [pS, pN, pA, pZ, pC])
 go_big_quiet_want
 refine qV (.int .i64 i.B) (fun wq hq => by simp [go_sem, hq.q3]) ?_
 go_big_quiet_on
 (try simp only [pS, pN, pA, pZ, pC])
 go_big_quiet_want
 refine quiet_enter (.bool (varOk i.B)) 71 #[.int .i64 i.B, .int .i64 0, .int .i64 3] (fun wq hq => ?_) (fun wq hq => ?_) ?_
 · simp [go_sem]
 · exact (specL1In_c _ _ _ _).mono fun _ _ h => ⟨by rw [h.1, in_var], h.2 ▸ hq⟩
 go_big_quiet_on
 (try simp only [pS, pN, pA, pZ, pC])
 go_big_quiet_want
 refine qT (fun _ _ => by simp [go_sem, hb]) ?_
 go_big_quiet_on
 (try simp only [pS, pN, pA, pZ, pC])
 go_big_quiet_want
 refine qT (fun _ _ => by rfl) ?_
 go_big_quiet_on
 (try simp only [pS, pN, pA, pZ, pC])
 refine wpQuiet_nil (fun w2 hq => ?_)
 have hq1 := hq.1.1
 obtain ⟨⟨-, q0, q1, q2, q3, q4, q5, q6, q7⟩, -⟩ := hq
 clear q0 q1 q2 q3 q4 q5 q6 q7
 go_wp2
 go_ret
 exact ⟨rfl, Chg.e⟩
set_option maxRecDepth 100000 in
set_option maxHeartbeats 4000000 in
theorem refIns_ok (i : InsIns) (procs size : Int) (w : World) (hop : (decide (1 ≤ i.Op) && decide (i.Op ≤ 12)) = true) (hs : formOk i = true) (hd : varOk i.D = true) (ha : varOk i.A = true) (hb : varOk i.B = true) : Calls Tryz.prog 42 #[insV i, .int .i64 procs, .int .i64 size] w fun e w' => e = .returned (.bool (restOk i procs size)) ∧ Chg [] w w' := by
 have hop2 : 1 ≤ i.Op ∧ i.Op ≤ 12 := by simpa using hop
 have hne : ∀ w, (binOp .neq 27 (insV (formOf i)) (insV insZero)).run Tryz.prog w = .ok (.bool false) w := fun w => (neqIns (formOf i) insZero w).trans (by rw [formOf_ok hop2, hs]; rfl)
 have hgd := insGuard
 go_enter Tryz.func42, Tryz.ntmps42
 go_wp2_with fail
 refine wp_region_quietC (C := InBox2 w w.heap.size i) (by kernel_rfl) (by kernel_rfl) InBox2.mk_ ?_
 go_big_quiet_want
 refine qV (.pointer (some ⟨w.heap.size, 0, none⟩)) (fun _ _ => by first | rfl | simp [go_sem]) ?_
 go_big_quiet_on
 (try simp only [pS, pN, pA, pZ, pC])
 go_big_quiet_want
 refine qV (.int .i64 i.Op) (fun wq hq => by simp [go_sem, hq.q0]) ?_
 go_big_quiet_on
 (try simp only [pS, pN, pA, pZ, pC])
 go_big_quiet_want
 refine quiet_enter (.bool (decide (1 ≤ i.Op) && decide (i.Op ≤ 12))) 71 #[.int .i64 i.Op, .int .i64 1, .int .i64 12] (fun wq hq => ?_) (fun wq hq => ?_) ?_
 · simp [go_sem]
 · exact (specL1In_c _ _ _ _).mono fun _ _ h => ⟨h.1, h.2 ▸ hq⟩
 go_big_quiet_on
 (try simp only [pS, pN, pA, pZ, pC])
 go_big_quiet_want
 refine qF (fun _ _ => by simp [go_sem, hop]) ?_
 go_big_quiet_on
 (try simp only [pS, pN, pA, pZ, pC])
 go_big_quiet_want
 refine qF (fun _ _ => by rfl) ?_
 go_big_quiet_on
 (try simp only [pS, pN, pA, pZ, pC])
 go_big_quiet_want
 refine qV (insV i) (fun wq hq => by simp [go_sem, hq.q0, hq.q1, hq.q2, hq.q3, hq.q4, hq.q5, hq.q6, hq.q7]) ?_
 go_big_quiet_on
 (try simp only [pS, pN, pA, pZ, pC])
 go_big_quiet_want
 refine quiet_enter (insV (formOf i)) 104 #[insV i] (fun wq hq => ?_) (fun wq hq => ?_) ?_
 · simp [go_sem]
 · exact (l3Form_c i _ hop2).mono fun _ _ h => ⟨h.1, hq.chg h.2⟩
 go_big_quiet_on
 (try simp only [pS, pN, pA, pZ, pC])
 go_big_quiet_want
 refine qV (insV insZero) (fun wq hq => by simp [go_sem, hq.z0, hq.z1, hq.z2, hq.z3, hq.z4, hq.z5, hq.z6, hq.z7, insZero]) ?_
 go_big_quiet_on
 (try simp only [pS, pN, pA, pZ, pC])
 go_big_quiet_want
 refine qF (fun _ _ => by simp [go_sem, hne, hgd]) ?_
 go_big_quiet_on
 (try simp only [pS, pN, pA, pZ, pC])
 go_big_quiet_want
 refine qF (fun _ _ => by rfl) ?_
 go_big_quiet_on
 (try simp only [pS, pN, pA, pZ, pC])
 go_big_quiet_want
 refine qF (fun _ _ => by rfl) ?_
 go_big_quiet_on
 (try simp only [pS, pN, pA, pZ, pC])
 go_big_quiet_want
 refine qV (.pointer (some ⟨w.heap.size, 1, none⟩)) (fun _ _ => by first | rfl | simp [go_sem]) ?_
 go_big_quiet_on
 (try simp only [pS, pN, pA, pZ, pC])
 go_big_quiet_want
 refine qV (.int .i64 i.D) (fun wq hq => by simp [go_sem, hq.q1]) ?_
 go_big_quiet_on
 (try simp only [pS, pN, pA, pZ, pC])
 go_big_quiet_want
 refine quiet_enter (.bool (varOk i.D)) 71 #[.int .i64 i.D, .int .i64 0, .int .i64 3] (fun wq hq => ?_) (fun wq hq => ?_) ?_
 · simp [go_sem]
 · exact (specL1In_c _ _ _ _).mono fun _ _ h => ⟨by rw [h.1, in_var], h.2 ▸ hq⟩
 go_big_quiet_on
 (try simp only [pS, pN, pA, pZ, pC])
 go_big_quiet_want
 refine qF (fun _ _ => by simp [go_sem, hd]) ?_
 go_big_quiet_on
 (try simp only [pS, pN, pA, pZ, pC])
 go_big_quiet_want
 refine qF (fun _ _ => by rfl) ?_
 go_big_quiet_on
 (try simp only [pS, pN, pA, pZ, pC])
 go_big_quiet_want
 refine qF (fun _ _ => by rfl) ?_
 go_big_quiet_on
 (try simp only [pS, pN, pA, pZ, pC])
 go_big_quiet_want
 refine qV (.pointer (some ⟨w.heap.size, 2, none⟩)) (fun _ _ => by first | rfl | simp [go_sem]) ?_
 go_big_quiet_on
 (try simp only [pS, pN, pA, pZ, pC])
 go_big_quiet_want
 refine qV (.int .i64 i.A) (fun wq hq => by simp [go_sem, hq.q2]) ?_
 go_big_quiet_on
 (try simp only [pS, pN, pA, pZ, pC])
 go_big_quiet_want
 refine quiet_enter (.bool (varOk i.A)) 71 #[.int .i64 i.A, .int .i64 0, .int .i64 3] (fun wq hq => ?_) (fun wq hq => ?_) ?_
 · simp [go_sem]
 · exact (specL1In_c _ _ _ _).mono fun _ _ h => ⟨by rw [h.1, in_var], h.2 ▸ hq⟩
 go_big_quiet_on
 (try simp only [pS, pN, pA, pZ, pC])
 go_big_quiet_want
 refine qF (fun _ _ => by simp [go_sem, ha]) ?_
 go_big_quiet_on
 (try simp only [pS, pN, pA, pZ, pC])
 go_big_quiet_want
 refine qF (fun _ _ => by rfl) ?_
 go_big_quiet_on
 (try simp only [pS, pN, pA, pZ, pC])
 go_big_quiet_want
 refine qF (fun _ _ => by rfl) ?_
 go_big_quiet_on
 (try simp only [pS, pN, pA, pZ, pC])
 go_big_quiet_want
 refine qV (.pointer (some ⟨w.heap.size, 3, none⟩)) (fun _ _ => by first | rfl | simp [go_sem]) ?_
 go_big_quiet_on
 (try simp only [pS, pN, pA, pZ, pC])
 go_big_quiet_want
 refine qV (.int .i64 i.B) (fun wq hq => by simp [go_sem, hq.q3]) ?_
 go_big_quiet_on
 (try simp only [pS, pN, pA, pZ, pC])
 go_big_quiet_want
 refine quiet_enter (.bool (varOk i.B)) 71 #[.int .i64 i.B, .int .i64 0, .int .i64 3] (fun wq hq => ?_) (fun wq hq => ?_) ?_
 · simp [go_sem]
 · exact (specL1In_c _ _ _ _).mono fun _ _ h => ⟨by rw [h.1, in_var], h.2 ▸ hq⟩
 go_big_quiet_on
 (try simp only [pS, pN, pA, pZ, pC])
 go_big_quiet_want
 refine qF (fun _ _ => by simp [go_sem, hb]) ?_
 go_big_quiet_on
 (try simp only [pS, pN, pA, pZ, pC])
 go_big_quiet_want
 refine qF (fun _ _ => by rfl) ?_
 go_big_quiet_on
 (try simp only [pS, pN, pA, pZ, pC])
 refine wpQuiet_nil (fun w2 hq => ?_)
 have hq1 := hq.1.1
 obtain ⟨⟨-, q0, q1, q2, q3, q4, q5, q6, q7⟩, -⟩ := hq
 by_cases g5 : i.Op = 5
 case pos =>
  have e5 : (i.Op == 5) = true := by simp [g5]
  have er : restOk i procs size = (itvOk ⟨i.Lo, i.Hi⟩) := by unfold restOk; rw [if_pos g5]
  replace er := Lib.hid er
  clear hne hgd hop2 hs hd ha hb hop g5
  by_cases h1 : numOk i.Lo = true
  case neg =>
   rw [Bool.not_eq_true] at h1
   go_wp2_with (go_at_call 72; refine (specNumOk_c _ _).mono ?_; rintro e w4 ⟨rfl, rfl⟩)
   go_ret
   exact ⟨by rw [er.out]; first | (simp [itvOk, h1]; done) | (simp [itvOk, h1]; omega), Chg.e⟩
  by_cases h2 : numOk i.Hi = true
  case neg =>
   rw [Bool.not_eq_true] at h2
   go_wp2_with (go_at_call 72; refine (specNumOk_c _ _).mono ?_; rintro e w4 ⟨rfl, rfl⟩)
   go_ret
   exact ⟨by rw [er.out]; first | (simp [itvOk, h1, h2]; done) | (simp [itvOk, h1, h2]; omega), Chg.e⟩
  by_cases h3 : i.Lo ≤ i.Hi
  case neg =>
   go_wp2_with (go_at_call 72; refine (specNumOk_c _ _).mono ?_; rintro e w4 ⟨rfl, rfl⟩)
   go_ret
   exact ⟨by rw [er.out]; first | (simp [itvOk, h1, h2, h3]; done) | (simp [itvOk, h1, h2, h3]; omega), Chg.e⟩
  go_wp2_with (go_at_call 72; refine (specNumOk_c _ _).mono ?_; rintro e w4 ⟨rfl, rfl⟩)
  go_ret
  exact ⟨by rw [er.out]; first | (simp [itvOk, h1, h2, h3]; done) | (simp [itvOk, h1, h2, h3]; omega), Chg.e⟩
 by_cases g8 : i.Op = 8
 case pos =>
  have e5 : (i.Op == 5) = false := by simp [g5]
  have e8 : (i.Op == 8) = true := by simp [g8]
  have er : restOk i procs size = (relOk i.Rel && below i.To size) := by unfold restOk; rw [if_neg g5, if_pos g8]
  replace er := Lib.hid er
  clear hne hgd hop2 hs hd ha hb hop g5 g8
  by_cases h1 : relOk i.Rel = true
  case neg =>
   rw [Bool.not_eq_true] at h1
   go_wp2_with (go_at_call 71; refine (specL1In_c _ _ _ _).mono ?_; rintro e w4 ⟨rfl, rfl⟩; rw [in_rel])
   go_ret
   exact ⟨by rw [er.out]; first | (simp [below, h1]; done) | (simp [below, h1]; omega), Chg.e⟩
  by_cases h3 : 0 ≤ i.To
  case neg =>
   go_wp2_with (go_at_call 71; refine (specL1In_c _ _ _ _).mono ?_; rintro e w4 ⟨rfl, rfl⟩; rw [in_rel])
   go_ret
   exact ⟨by rw [er.out]; first | (simp [below, h1, h3]; done) | (simp [below, h1, h3]; omega), Chg.e⟩
  by_cases h4 : i.To < size
  case neg =>
   go_wp2_with (go_at_call 71; refine (specL1In_c _ _ _ _).mono ?_; rintro e w4 ⟨rfl, rfl⟩; rw [in_rel])
   go_ret
   exact ⟨by rw [er.out]; first | (simp [below, h1, h3, h4]; done) | (simp [below, h1, h3, h4]; omega), Chg.e⟩
  go_wp2_with (go_at_call 71; refine (specL1In_c _ _ _ _).mono ?_; rintro e w4 ⟨rfl, rfl⟩; rw [in_rel])
  go_ret
  exact ⟨by rw [er.out]; first | (simp [below, h1, h3, h4]; done) | (simp [below, h1, h3, h4]; omega), Chg.e⟩
 by_cases g9 : i.Op = 9
 case pos =>
  have e5 : (i.Op == 5) = false := by simp [g5]
  have e8 : (i.Op == 8) = false := by simp [g8]
  have e9 : (i.Op == 9) = true := by simp [g9]
  have er : restOk i procs size = (below i.To size) := by unfold restOk; rw [if_neg g5, if_neg g8, if_pos g9]
  replace er := Lib.hid er
  clear hne hgd hop2 hs hd ha hb hop g5 g8 g9
  by_cases h3 : 0 ≤ i.To
  case neg =>
   go_wp2
   go_ret
   exact ⟨by rw [er.out]; first | (simp [below, h3]; done) | (simp [below, h3]; omega), Chg.e⟩
  by_cases h4 : i.To < size
  case neg =>
   go_wp2
   go_ret
   exact ⟨by rw [er.out]; first | (simp [below, h3, h4]; done) | (simp [below, h3, h4]; omega), Chg.e⟩
  go_wp2
  go_ret
  exact ⟨by rw [er.out]; first | (simp [below, h3, h4]; done) | (simp [below, h3, h4]; omega), Chg.e⟩
 by_cases g10 : i.Op = 10
 case pos =>
  have e5 : (i.Op == 5) = false := by simp [g5]
  have e8 : (i.Op == 8) = false := by simp [g8]
  have e9 : (i.Op == 9) = false := by simp [g9]
  have e10 : (i.Op == 10) = true := by simp [g10]
  have er : restOk i procs size = (below i.To procs) := by unfold restOk; rw [if_neg g5, if_neg g8, if_neg g9, if_pos g10]
  replace er := Lib.hid er
  clear hne hgd hop2 hs hd ha hb hop g5 g8 g9 g10
  by_cases h3 : 0 ≤ i.To
  case neg =>
   go_wp2
   go_ret
   exact ⟨by rw [er.out]; first | (simp [below, h3]; done) | (simp [below, h3]; omega), Chg.e⟩
  by_cases h4 : i.To < procs
  case neg =>
   go_wp2
   go_ret
   exact ⟨by rw [er.out]; first | (simp [below, h3, h4]; done) | (simp [below, h3, h4]; omega), Chg.e⟩
  go_wp2
  go_ret
  exact ⟨by rw [er.out]; first | (simp [below, h3, h4]; done) | (simp [below, h3, h4]; omega), Chg.e⟩
 by_cases g11 : i.Op = 11
 case pos =>
  have e5 : (i.Op == 5) = false := by simp [g5]
  have e8 : (i.Op == 8) = false := by simp [g8]
  have e9 : (i.Op == 9) = false := by simp [g9]
  have e10 : (i.Op == 10) = false := by simp [g10]
  have e11 : (i.Op == 11) = true := by simp [g11]
  have er : restOk i procs size = (relOk i.Rel) := by unfold restOk; rw [if_neg g5, if_neg g8, if_neg g9, if_neg g10, if_pos g11]
  replace er := Lib.hid er
  clear hne hgd hop2 hs hd ha hb hop g5 g8 g9 g10 g11
  by_cases h1 : relOk i.Rel = true
  case neg =>
   rw [Bool.not_eq_true] at h1
   go_wp2_with (go_at_call 71; refine (specL1In_c _ _ _ _).mono ?_; rintro e w4 ⟨rfl, rfl⟩; rw [in_rel])
   go_ret
   exact ⟨by rw [er.out]; first | (simp [h1]; done) | (simp [h1]; omega), Chg.e⟩
  go_wp2_with (go_at_call 71; refine (specL1In_c _ _ _ _).mono ?_; rintro e w4 ⟨rfl, rfl⟩; rw [in_rel])
  go_ret
  exact ⟨by rw [er.out]; first | (simp [h1]; done) | (simp [h1]; omega), Chg.e⟩
 have e5 : (i.Op == 5) = false := by simp [g5]
 have e8 : (i.Op == 8) = false := by simp [g8]
 have e9 : (i.Op == 9) = false := by simp [g9]
 have e10 : (i.Op == 10) = false := by simp [g10]
 have e11 : (i.Op == 11) = false := by simp [g11]
 have er : restOk i procs size = true := by unfold restOk; rw [if_neg g5, if_neg g8, if_neg g9, if_neg g10, if_neg g11]
 replace er := Lib.hid er
 clear hne hgd hop2 hs hd ha hb hop g5 g8 g9 g10 g11
 go_wp2
 go_ret
 exact ⟨by rw [er.out]; rfl, Chg.e⟩
theorem refInsOk_c (i : InsIns) (procs size : Int) (w : World) : Calls Tryz.prog 42 #[insV i, .int .i64 procs, .int .i64 size] w fun e w' => e = .returned (.bool (insOk i procs size)) ∧ Chg [] w w' := by
 unfold insOk
 by_cases hop : (decide (1 ≤ i.Op) && decide (i.Op ≤ 12)) = true
 case neg =>
  rw [Bool.not_eq_true] at hop
  rw [hop]
  exact refIns_op i procs size w hop
 by_cases hs : formOk i = true
 case neg =>
  rw [Bool.not_eq_true] at hs
  rw [hop, hs]
  exact refIns_form i procs size w hop hs
 by_cases hd : varOk i.D = true
 case neg =>
  rw [Bool.not_eq_true] at hd
  rw [hop, hs, hd]
  exact refIns_D i procs size w hop hs hd
 by_cases ha : varOk i.A = true
 case neg =>
  rw [Bool.not_eq_true] at ha
  rw [hop, hs, hd, ha]
  exact refIns_A i procs size w hop hs hd ha
 by_cases hb : varOk i.B = true
 case neg =>
  rw [Bool.not_eq_true] at hb
  rw [hop, hs, hd, ha, hb]
  exact refIns_B i procs size w hop hs hd ha hb
 rw [hop, hs, hd, ha, hb]
 exact refIns_ok i procs size w hop hs hd ha hb
end Go.Proofs.YtjakhnhnjhafgaaGreat.Wk
namespace Go.Proofs.YtjakhnhnjhafgaaGreat.Wk
open Go Go.RowKit Go.Deep Ow
open Rp (R sz)
abbrev atV (x : Option InsIns) : Value := .tuple #[insV (x.getD insZero), .bool x.isSome]
end Go.Proofs.YtjakhnhnjhafgaaGreat.Wk
