/- A part of the proof. -/
import Derived.Test.YtjakhnhnjhafgaaGreatK29
set_option linter.unusedVariables false
set_option linter.unusedSimpArgs false
namespace Go.Proofs.YtjakhnhnjhafgaaGreat.Wk
open Go Go.RowKit Go.Deep Ow
set_option maxRecDepth 100000
set_option maxHeartbeats 2000000 in
theorem loop_x (b : List UInt8) (p : Int) (h0 : 0 ≤ p) (h1 : p + 10 ≤ 1000000000) : ∃ a : PrcProc × Int, (p ≤ a.2 ∧ a.2 ≤ p + 10 ∧ 1 ≤ a.1.Code.length ∧ a.1.Code.length ≤ 100) ∧ EC Tryz.prog 200 1 [.ptr 0 2 0 0] (rdH b p) (.agg [CI a.1.Lo, CI a.1.Hi, .d (.sl 8 (a.1.Code.map dInsIns))]) (rdH b a.2) 1 := by
 have key := (seat [] []).PX (mkM true [1, 1, 4, 67]) (f := 200) (fn := Tryz.f200) (args := [.ptr 0 2 0 0]) (h := rdH b p) ⟨by kernel_rfl, by kernel_rfl, rfl⟩ (Nat.le_refl 1) (fun (t : Int × Int × Int × Int × Int × Int × Int × Int × Int × Int × Int × Int × Int × Int × Int × Int) => match t with | ⟨t0, t1, t2, t3, t4, t5, t6, t7, t8, t9, t10, t11, t12, t13, t14, t15⟩ => mkEs [eLU8 1 b, eI 2 p, eInt 112000 (pickV b t0 t1), eI 112201 (pickP b t0 t1), eInt 212000 (pickV b t2 t3), eI 212201 (pickP b t2 t3), eInt 312000 (pickV b t4 t5), eI 312201 (pickP b t4 t5), eInt 414000 (pickV b t6 t7), eI 414201 (pickP b t6 t7), eInt 421000 (pickV b t8 t9), eI 421201 (pickP b t8 t9), eInt 429000 (pickV b t10 t11), eI 429201 (pickP b t10 t11), eInt 713000 (pickV b t12 t13), eI 713201 (pickP b t12 t13), eInt 811000 (pickV b t14 t15), eI 811201 (pickP b t14 t15)]) [.ptr 0 2 (.int .i64 0) 0] [rdX 0 (xLU8 1) (xi 2)] (fun ⟨t0, t1, t2, t3, t4, t5, t6, t7, t8, t9, t10, t11, t12, t13, t14, t15⟩ => by simp (maxSteps := 1000000) only [go_sem, Nat.reduceEqDiff, Nat.reduceAdd, Nat.reduceBEq, Int.reduceToNat]) (fun ⟨t0, t1, t2, t3, t4, t5, t6, t7, t8, t9, t10, t11, t12, t13, t14, t15⟩ => by simp (maxSteps := 1000000) only [go_sem, Nat.reduceEqDiff, Nat.reduceAdd, Nat.reduceBEq, Int.reduceToNat]) (xPrcProc 900) [rdX 0 (xLU8 951) (xi 952)] (fun a : PrcProc × Int => p ≤ a.2 ∧ a.2 ≤ p + 10 ∧ 1 ≤ a.1.Code.length ∧ a.1.Code.length ≤ 100) (fun a => mkEs [ePrcProc 900 a.1, eLU8 951 b, eI 952 a.2]) ⟨(⟨0, 0, [zInsIns]⟩, p), by simp [zPrcProc] <;> omega⟩ ?_
 · obtain ⟨a, h2, h3⟩ := key
   simp only [go_sem, Nat.reduceEqDiff, Nat.reduceAdd, Nat.reduceBEq, Int.reduceToNat] at h3
   exact ⟨a, h2, h3⟩
 conv => arg 1; ext t; arg 3; cbv
 simp (maxSteps := 4000000) only [V.Ex, go_sem, Nat.reduceEqDiff, Nat.reduceAdd, Nat.reduceBEq, Int.reduceToNat]
 iterate 16 apply Exists.intro
 try dsimp +instances only
 repeat' (first | with_reducible apply And.intro | intro _)
 all_goals first | exact pick_e (b := b) (by grind) (by grind) | (refine ⟨_, _, _, _, ?_, rfl, rfl, rfl, rfl⟩; (repeat' (first | with_reducible apply And.intro | intro _)); all_goals first | grind [wrapI] | grind (splits := 24) [wrapI] | exact sel_lo (by decide) | exact sel_hi (by decide) | (simp only [List.length_map, List.length_cons, List.length_nil]; omega) | ((repeat' split) <;> grind [wrapI])) | grind [wrapI] | grind (splits := 24) [wrapI] | exact sel_lo (by decide) | exact sel_hi (by decide) | (simp only [List.length_map, List.length_cons, List.length_nil]; omega) | ((repeat' split) <;> grind [wrapI]) | exact (0 : Int)
open Classical in
noncomputable def loopF (b : List UInt8) (p : Int) : PrcProc × Int := if h : 0 ≤ p ∧ p + 10 ≤ 1000000000 then (loop_x b p h.1 h.2).choose else (⟨0, 0, [zInsIns]⟩, p)
noncomputable def loopV (b : List UInt8) (p : Int) : PrcProc := (loopF b p).1
noncomputable def loopP (b : List UInt8) (p : Int) : Int := (loopF b p).2
theorem loop_e {b : List UInt8} {p : Int} (h0 : 0 ≤ p) (h1 : p + 10 ≤ 1000000000) : EC Tryz.prog 200 1 [.ptr 0 2 0 0] (rdH b p) (.agg [CI (loopV b p).Lo, CI (loopV b p).Hi, .d (.sl 8 ((loopV b p).Code.map dInsIns))]) (rdH b (loopP b p)) 1 := by
 have := (loop_x b p h0 h1).choose_spec.2
 simp only [loopV, loopP, loopF, dif_pos (show 0 ≤ p ∧ p + 10 ≤ 1000000000 from ⟨h0, h1⟩)]; exact this
@[grind =] theorem loop_i {b : List UInt8} {p : Int} : loopP b p = max p (min (loopP b p) (p + 10)) := by
 simp only [loopP, loopF]
 split
 · rename_i h; have := (loop_x b p h.1 h.2).choose_spec.1; omega
 · omega
theorem loop_j {b : List UInt8} {p : Int} : 1 ≤ (loopV b p).Code.length ∧ (loopV b p).Code.length ≤ 100 := by
 simp only [loopV, loopF]
 split
 · rename_i h; exact (loop_x b p h.1 h.2).choose_spec.1.2.2
 · simp [zPrcProc] <;> omega
end Go.Proofs.YtjakhnhnjhafgaaGreat.Wk
namespace Go.Proofs.YtjakhnhnjhafgaaGreat.Wk
open Go Go.RowKit Go.Deep Ow
set_option maxRecDepth 100000
set_option maxHeartbeats 2000000 in
theorem deep_x (b : List UInt8) (p : Int) (m : Int) (n : Int) (h0 : 0 ≤ p) (h1 : p + 10 ≤ 1000000000) : ∃ a : PrcProc × Int, (p ≤ a.2 ∧ a.2 ≤ p + 10 ∧ 1 ≤ a.1.Code.length ∧ a.1.Code.length ≤ 100) ∧ EC Tryz.prog 201 1 [.ptr 0 2 0 0, CI m, CI n] (rdH b p) (.agg [CI a.1.Lo, CI a.1.Hi, .d (.sl 8 (a.1.Code.map dInsIns))]) (rdH b a.2) 1 := by
 have key := (seat [] []).PX (mkM true [3, 3, 2, 34]) (f := 201) (fn := Tryz.f201) (args := [.ptr 0 2 0 0, CI m, CI n]) (h := rdH b p) ⟨by kernel_rfl, by kernel_rfl, rfl⟩ (Nat.le_refl 1) (fun (t : Int × Int × Int × Int × Int × Int × Int × Int) => match t with | ⟨t0, t1, t2, t3, t4, t5, t6, t7⟩ => mkEs [eLU8 1 b, eI 2 p, eInt 10 m, eInt 30 n, eInt 112000 (pickV b t0 t1), eI 112201 (pickP b t0 t1), eInt 217000 (pickV b t2 t3), eI 217201 (pickP b t2 t3), eInt 311000 (pickV b t4 t5), eI 311201 (pickP b t4 t5), eInt 414000 (pickV b t6 t7), eI 414201 (pickP b t6 t7)]) [.ptr 0 2 (.int .i64 0) 0, xInt 10, xInt 30] [rdX 0 (xLU8 1) (xi 2)] (fun ⟨t0, t1, t2, t3, t4, t5, t6, t7⟩ => by simp (maxSteps := 1000000) only [go_sem, Nat.reduceEqDiff, Nat.reduceAdd, Nat.reduceBEq, Int.reduceToNat]) (fun ⟨t0, t1, t2, t3, t4, t5, t6, t7⟩ => by simp (maxSteps := 1000000) only [go_sem, Nat.reduceEqDiff, Nat.reduceAdd, Nat.reduceBEq, Int.reduceToNat]) (xPrcProc 900) [rdX 0 (xLU8 951) (xi 952)] (fun a : PrcProc × Int => p ≤ a.2 ∧ a.2 ≤ p + 10 ∧ 1 ≤ a.1.Code.length ∧ a.1.Code.length ≤ 100) (fun a => mkEs [ePrcProc 900 a.1, eLU8 951 b, eI 952 a.2]) ⟨(⟨0, 0, [zInsIns]⟩, p), by simp [zPrcProc] <;> omega⟩ ?_
 · obtain ⟨a, h2, h3⟩ := key
   simp only [go_sem, Nat.reduceEqDiff, Nat.reduceAdd, Nat.reduceBEq, Int.reduceToNat] at h3
   exact ⟨a, h2, h3⟩
 conv => arg 1; ext t; arg 3; cbv
 simp (maxSteps := 4000000) only [V.Ex, go_sem, Nat.reduceEqDiff, Nat.reduceAdd, Nat.reduceBEq, Int.reduceToNat]
 iterate 8 apply Exists.intro
 try dsimp +instances only
 repeat' (first | with_reducible apply And.intro | intro _)
 all_goals first | exact pick_e (b := b) (by grind) (by grind) | (refine ⟨_, _, _, _, ?_, rfl, rfl, rfl, rfl⟩; (repeat' (first | with_reducible apply And.intro | intro _)); all_goals first | grind [wrapI] | grind (splits := 24) [wrapI] | exact sel_lo (by decide) | exact sel_hi (by decide) | (simp only [List.length_map, List.length_cons, List.length_nil]; omega) | ((repeat' split) <;> grind [wrapI])) | grind [wrapI] | grind (splits := 24) [wrapI] | exact sel_lo (by decide) | exact sel_hi (by decide) | (simp only [List.length_map, List.length_cons, List.length_nil]; omega) | ((repeat' split) <;> grind [wrapI]) | exact (0 : Int)
open Classical in
noncomputable def deepF (b : List UInt8) (p : Int) (m : Int) (n : Int) : PrcProc × Int := if h : 0 ≤ p ∧ p + 10 ≤ 1000000000 then (deep_x b p m n h.1 h.2).choose else (⟨0, 0, [zInsIns]⟩, p)
noncomputable def deepV (b : List UInt8) (p : Int) (m : Int) (n : Int) : PrcProc := (deepF b p m n).1
noncomputable def deepP (b : List UInt8) (p : Int) (m : Int) (n : Int) : Int := (deepF b p m n).2
theorem deep_e {b : List UInt8} {p : Int} {m : Int} {n : Int} (h0 : 0 ≤ p) (h1 : p + 10 ≤ 1000000000) : EC Tryz.prog 201 1 [.ptr 0 2 0 0, CI m, CI n] (rdH b p) (.agg [CI (deepV b p m n).Lo, CI (deepV b p m n).Hi, .d (.sl 8 ((deepV b p m n).Code.map dInsIns))]) (rdH b (deepP b p m n)) 1 := by
 have := (deep_x b p m n h0 h1).choose_spec.2
 simp only [deepV, deepP, deepF, dif_pos (show 0 ≤ p ∧ p + 10 ≤ 1000000000 from ⟨h0, h1⟩)]; exact this
@[grind =] theorem deep_i {b : List UInt8} {p : Int} {m : Int} {n : Int} : deepP b p m n = max p (min (deepP b p m n) (p + 10)) := by
 simp only [deepP, deepF]
 split
 · rename_i h; have := (deep_x b p m n h.1 h.2).choose_spec.1; omega
 · omega
theorem deep_j {b : List UInt8} {p : Int} {m : Int} {n : Int} : 1 ≤ (deepV b p m n).Code.length ∧ (deepV b p m n).Code.length ≤ 100 := by
 simp only [deepV, deepF]
 split
 · rename_i h; exact (deep_x b p m n h.1 h.2).choose_spec.1.2.2
 · simp [zPrcProc] <;> omega
end Go.Proofs.YtjakhnhnjhafgaaGreat.Wk
namespace Go.Proofs.YtjakhnhnjhafgaaGreat.Wk
open Go Go.RowKit Go.Deep Ow
set_option maxRecDepth 100000
set_option maxHeartbeats 2000000 in
theorem insd_x (b : List UInt8) (p : Int) (m : Int) (n : Int) (h0 : 0 ≤ p) (h1 : p + 40 ≤ 1000000000) : ∃ a : InsIns × Int, (p ≤ a.2 ∧ a.2 ≤ p + 40 ∧ True) ∧ EC Tryz.prog 48 1 [.ptr 0 2 0 0, CI m, CI n] (rdH b p) (.agg [CI a.1.Op, CI a.1.D, CI a.1.A, CI a.1.B, CI a.1.Rel, CI a.1.Lo, CI a.1.Hi, CI a.1.To]) (rdH b a.2) 1 := by
 have key := (seat [] []).PX (mkM true [3, 3, 4, 2, 1, 8, 1, 20, 1, 29, 1, 30]) (f := 48) (fn := Tryz.f48) (args := [.ptr 0 2 0 0, CI m, CI n]) (h := rdH b p) ⟨by kernel_rfl, by kernel_rfl, rfl⟩ (Nat.le_refl 1) (fun (t : Int × Int × Int × Int × Int × Int × Int × Int × Int × Int × Int × Int × Int × Int × Int × Int × Int × Int × Int × Int × Int × Int × Int × Int × Int × Int × Int × Int × Int × Int × Int × Int × Int × Int × Int × Int × Int × Int × Int × Int × Int × Int × Int × Int × Int × Int × Int × Int × Int) => match t with | ⟨t0, t1, t2, t3, t4, t5, t6, t7, t8, t9, t10, t11, t12, t13, t14, t15, t16, t17, t18, t19, t20, t21, t22, t23, t24, t25, t26, t27, t28, t29, t30, t31, t32, t33, t34, t35, t36, t37, t38, t39, t40, t41, t42, t43, t44, t45, t46, t47, t48⟩ => mkEs [eLU8 1 b, eI 2 p, eInt 10 m, eInt 30 n, eInt 211000 (pickV b t0 t1), eI 211201 (pickP b t0 t1), eInt 611000 (numV b t2), eI 611201 (numP b t2), eInt 711000 (pickV b t3 t4), eI 711201 (pickP b t3 t4), eItvItv 911000 (itvV b t5 t6), eI 911201 (itvP b t5 t6), eInt 1011000 (pickV b t7 t8), eI 1011201 (pickP b t7 t8), eInt 1412000 (pickV b t9 t10), eI 1412201 (pickP b t9 t10), eInt 1416000 (pickV b t11 t12), eI 1416201 (pickP b t11 t12), eInt 1418000 (pickV b t13 t14), eI 1418201 (pickP b t13 t14), eInt 1420000 (pickV b t15 t16), eI 1420201 (pickP b t15 t16), eInt 1611000 (pickV b t17 t18), eI 1611201 (pickP b t17 t18), eInt 1613000 (pickV b t19 t20), eI 1613201 (pickP b t19 t20), eInt 1811000 (pickV b t21 t22), eI 1811201 (pickP b t21 t22), eInt 1813000 (pickV b t23 t24), eI 1813201 (pickP b t23 t24), eInt 2111000 (pickV b t25 t26), eI 2111201 (pickP b t25 t26), eInt 2113000 (pickV b t27 t28), eI 2113201 (pickP b t27 t28), eInt 2115000 (pickV b t29 t30), eI 2115201 (pickP b t29 t30), eInt 2119000 (pickV b t31 t32), eI 2119201 (pickP b t31 t32), eInt 2311000 (pickV b t33 t34), eI 2311201 (pickP b t33 t34), eInt 2313000 (pickV b t35 t36), eI 2313201 (pickP b t35 t36), eInt 2316000 (pickV b t37 t38), eI 2316201 (pickP b t37 t38), eInt 311000 (pickV b t39 t40), eI 311201 (pickP b t39 t40), eInt 313000 (pickV b t41 t42), eI 313201 (pickP b t41 t42), eInt 315000 (pickV b t43 t44), eI 315201 (pickP b t43 t44), eBool 2411000 (oddV b t45 t46), eI 2411201 (oddP b t45 t46), eInt 2512000 (pickV b t47 t48), eI 2512201 (pickP b t47 t48)]) [.ptr 0 2 (.int .i64 0) 0, xInt 10, xInt 30] [rdX 0 (xLU8 1) (xi 2)] (fun ⟨t0, t1, t2, t3, t4, t5, t6, t7, t8, t9, t10, t11, t12, t13, t14, t15, t16, t17, t18, t19, t20, t21, t22, t23, t24, t25, t26, t27, t28, t29, t30, t31, t32, t33, t34, t35, t36, t37, t38, t39, t40, t41, t42, t43, t44, t45, t46, t47, t48⟩ => by simp (maxSteps := 1000000) only [go_sem, Nat.reduceEqDiff, Nat.reduceAdd, Nat.reduceBEq, Int.reduceToNat]) (fun ⟨t0, t1, t2, t3, t4, t5, t6, t7, t8, t9, t10, t11, t12, t13, t14, t15, t16, t17, t18, t19, t20, t21, t22, t23, t24, t25, t26, t27, t28, t29, t30, t31, t32, t33, t34, t35, t36, t37, t38, t39, t40, t41, t42, t43, t44, t45, t46, t47, t48⟩ => by simp (maxSteps := 1000000) only [go_sem, Nat.reduceEqDiff, Nat.reduceAdd, Nat.reduceBEq, Int.reduceToNat]) (xInsIns 900) [rdX 0 (xLU8 951) (xi 952)] (fun a : InsIns × Int => p ≤ a.2 ∧ a.2 ≤ p + 40 ∧ True) (fun a => mkEs [eInsIns 900 a.1, eLU8 951 b, eI 952 a.2]) ⟨(zInsIns, p), by simp <;> omega⟩ ?_
 · obtain ⟨a, h2, h3⟩ := key
   simp only [go_sem, Nat.reduceEqDiff, Nat.reduceAdd, Nat.reduceBEq, Int.reduceToNat] at h3
   exact ⟨a, h2, h3⟩
 conv => arg 1; ext t; arg 3; cbv
 simp (maxSteps := 4000000) only [V.Ex, go_sem, Nat.reduceEqDiff, Nat.reduceAdd, Nat.reduceBEq, Int.reduceToNat]
 iterate 49 apply Exists.intro
 try dsimp +instances only
 repeat' (first | with_reducible apply And.intro | intro _)
 all_goals first | exact pick_e (b := b) (by grind) (by grind) | exact num_e (b := b) (by grind) (by grind) | exact itv_e (b := b) (by grind) (by grind) | exact odd_e (b := b) (by grind) (by grind) | (refine ⟨_, _, _, _, _, _, _, _, _, ?_, rfl, rfl, rfl, rfl, rfl, rfl, rfl, rfl, rfl⟩; (repeat' (first | with_reducible apply And.intro | intro _)); all_goals first | grind [wrapI] | grind (splits := 24) [wrapI] | exact sel_lo (by decide) | exact sel_hi (by decide) | (simp only [List.length_map, List.length_cons, List.length_nil]; omega) | ((repeat' split) <;> grind [wrapI])) | grind [wrapI] | grind (splits := 24) [wrapI] | exact sel_lo (by decide) | exact sel_hi (by decide) | (simp only [List.length_map, List.length_cons, List.length_nil]; omega) | ((repeat' split) <;> grind [wrapI]) | exact (0 : Int)
open Classical in
noncomputable def insdF (b : List UInt8) (p : Int) (m : Int) (n : Int) : InsIns × Int := if h : 0 ≤ p ∧ p + 40 ≤ 1000000000 then (insd_x b p m n h.1 h.2).choose else (zInsIns, p)
noncomputable def insdV (b : List UInt8) (p : Int) (m : Int) (n : Int) : InsIns := (insdF b p m n).1
noncomputable def insdP (b : List UInt8) (p : Int) (m : Int) (n : Int) : Int := (insdF b p m n).2
theorem insd_e {b : List UInt8} {p : Int} {m : Int} {n : Int} (h0 : 0 ≤ p) (h1 : p + 40 ≤ 1000000000) : EC Tryz.prog 48 1 [.ptr 0 2 0 0, CI m, CI n] (rdH b p) (.agg [CI (insdV b p m n).Op, CI (insdV b p m n).D, CI (insdV b p m n).A, CI (insdV b p m n).B, CI (insdV b p m n).Rel, CI (insdV b p m n).Lo, CI (insdV b p m n).Hi, CI (insdV b p m n).To]) (rdH b (insdP b p m n)) 1 := by
 have := (insd_x b p m n h0 h1).choose_spec.2
 simp only [insdV, insdP, insdF, dif_pos (show 0 ≤ p ∧ p + 40 ≤ 1000000000 from ⟨h0, h1⟩)]; exact this
@[grind =] theorem insd_i {b : List UInt8} {p : Int} {m : Int} {n : Int} : insdP b p m n = max p (min (insdP b p m n) (p + 40)) := by
 simp only [insdP, insdF]
 split
 · rename_i h; have := (insd_x b p m n h.1 h.2).choose_spec.1; omega
 · omega
end Go.Proofs.YtjakhnhnjhafgaaGreat.Wk
namespace Go.Proofs.YtjakhnhnjhafgaaGreat.Wk
open Go Go.RowKit Go.Deep Ow
set_option maxRecDepth 100000
theorem end_e {lo hi : Int} {l : List InsIns} {i0 i1 i2 i3 i4 i5 i6 i7 : Int} {n : Nat} (hn : n = l.length) (hl : (l.length : Int) ≤ 1000000) : EC Tryz.prog 218 1 [.agg [CI lo, CI hi, .osl 0 8 0 n], .agg [CI i0, CI i1, CI i2, CI i3, CI i4, CI i5, CI i6, CI i7]]
 [(0, .c 8 (l.map (fun x => (dInsIns x).map C.d)))] (.agg [CI lo, CI hi, .d (.sl 8 ((l ++ ([⟨i0, i1, i2, i3, i4, i5, i6, i7⟩] : List InsIns)).map dInsIns))]) [] 1 := by
 subst hn
 refine (seat [] []).PB (mkM true []) (fn := Tryz.f218) ⟨by kernel_rfl, by kernel_rfl, rfl⟩ (Nat.le_refl 1) (mkEs [eI 10 lo, eI 11 hi, eLInsIns 12 l, eInsIns 30 ⟨i0, i1, i2, i3, i4, i5, i6, i7⟩, eLInsIns 60 (l ++ ([⟨i0, i1, i2, i3, i4, i5, i6, i7⟩] : List InsIns))]) noLps []
  [.agg (.cons (xi 10) (.cons (xi 11) (.cons (.osl 0 8 (.int .i64 0) (.rln (.rws kInsIns 12 .nil))) .nil))), xInsIns 30] [⟨0, kInsIns, .rws kInsIns 12 .nil⟩] ?_ ?_ (.agg (.cons (xi 10) (.cons (xi 11) (.cons (xLInsIns 60) .nil)))) [] ?_ rfl (fun _ => ?_)
 · simp only [go_sem, Nat.reduceEqDiff, Nat.reduceAdd, Int.reduceToNat]
 · simp only [go_sem, Nat.reduceEqDiff, Nat.reduceAdd]
 · simp only [go_sem, Nat.reduceEqDiff, Nat.reduceAdd]
 conv => arg 4; cbv
 simp only [go_sem, Nat.reduceEqDiff, Nat.reduceAdd, Nat.reduceBEq, Int.reduceToNat]
 omega
set_option maxHeartbeats 2000000 in
theorem proc_x (b : List UInt8) (p : Int) (m : Int) (h0 : 0 ≤ p) (h1 : p + 500 ≤ 1000000000) : ∃ a : PrcProc × Int, (p ≤ a.2 ∧ a.2 ≤ p + 500 ∧ 1 ≤ a.1.Code.length ∧ a.1.Code.length ≤ 100) ∧ EC Tryz.prog 203 1 [.ptr 0 2 0 0, CI m] (rdH b p) (.agg [CI a.1.Lo, CI a.1.Hi, .d (.sl 8 (a.1.Code.map dInsIns))]) (rdH b a.2) 1 := by
 have key := (seat [] [218]).PL (mkM true [2, 2, 5, 52]) (f := 203) (fn := Tryz.f203) (args := [.ptr 0 2 0 0, CI m]) (h := rdH b p) ⟨by kernel_rfl, by kernel_rfl, rfl⟩ (Nat.le_refl 1) (fun (t : Int × Int × Int × Int × Int × Int × Int × Int × Int × Int) => match t with | ⟨t0, t1, t2, t3, t4, t5, t6, t7, lo, hi⟩ => mkEs [eLU8 1 b, eI 2 p, eInt 10 m, eItvItv 111000 (itvV b t0 t1), eI 111201 (itvP b t0 t1), eInt 211000 (pickV b t2 t3), eI 211201 (pickP b t2 t3), eInt 318000 (pickV b t4 t5), eI 318201 (pickP b t4 t5), eInt 511000 (pickV b t6 t7), eI 511201 (pickP b t6 t7)]) (fun (t : Int × Int × Int × Int × Int × Int × Int × Int × Int × Int) => match t with | ⟨t0, t1, t2, t3, t4, t5, t6, t7, lo, hi⟩ => (consL ⟨Int × Int × List InsIns, fun _ x => match x with | ⟨k, q, l⟩ => 0 ≤ k ∧ k ≤ 1 + pickV b t6 t7 ∧ k = l.length ∧ p ≤ q ∧ q ≤ p + 24 + 40 * k, fun _ x => match x with | ⟨k, q, l⟩ => mkEs [eI 1 k, eI 2 q, eLInsIns 3 l, eInsIns 915000 (insdV b q m (IntKind.i64.wrap (2 + pickV b t6 t7))), eI 915201 (insdP b q m (IntKind.i64.wrap (2 + pickV b t6 t7))), eB 1011000 (oddV b q 9), eI 1011201 (oddP b q 9), eI 1113000 (pickV b (oddP b q 9) (IntKind.i64.wrap (2 + pickV b t6 t7))), eI 1113201 (oddP b q 9 + 1), ePrcProc 1115000 ⟨lo, hi, l ++ [⟨9, 0, 0, 0, 0, 0, 0, pickV b (oddP b q 9) (IntKind.i64.wrap (2 + pickV b t6 t7))⟩]⟩, eI 1212000 (pickV b (oddP b q 9) 4), eI 1212201 (oddP b q 9 + 1), ePrcProc 1214000 ⟨lo, hi, l ++ [⟨12, 0, pickV b (oddP b q 9) 4, 0, 0, 0, 0, 0⟩]⟩], fun _ x => match x with | ⟨k, q, l⟩ => (12 - k).toNat⟩ noLps)) [(0, fun s => (0, (((s.kl (mkM true [2, 2, 5, 52])).upd [(8, xi 100000001)]).cell 0 0 1 (xi 100000002)).own ((s.kl (mkM true [2, 2, 5, 52])).at_ 6) 0 2 kInsIns (.rws kInsIns 100000003 .nil)))] [.ptr 0 2 (.int .i64 0) 0, xInt 10] [rdX 0 (xLU8 1) (xi 2)] (fun ⟨t0, t1, t2, t3, t4, t5, t6, t7, lo, hi⟩ => by simp (maxSteps := 1000000) only [go_sem, Nat.reduceEqDiff, Nat.reduceAdd, Nat.reduceBEq, Int.reduceToNat]) (fun ⟨t0, t1, t2, t3, t4, t5, t6, t7, lo, hi⟩ => by simp (maxSteps := 1000000) only [go_sem, Nat.reduceEqDiff, Nat.reduceAdd, Nat.reduceBEq, Int.reduceToNat]) (xPrcProc 900) [rdX 0 (xLU8 951) (xi 952)] (fun a : PrcProc × Int => p ≤ a.2 ∧ a.2 ≤ p + 500 ∧ 1 ≤ a.1.Code.length ∧ a.1.Code.length ≤ 100) (fun a => mkEs [ePrcProc 900 a.1, eLU8 951 b, eI 952 a.2]) ⟨(⟨0, 0, [zInsIns]⟩, p), by simp [zPrcProc] <;> omega⟩ ?_
 · obtain ⟨a, h2, h3⟩ := key
   simp only [go_sem, Nat.reduceEqDiff, Nat.reduceAdd, Nat.reduceBEq, Int.reduceToNat] at h3
   exact ⟨a, h2, h3⟩
 conv => arg 1; ext t; arg 4; cbv
 simp (maxSteps := 4000000) only [V.ExL, lput, consL, go_sem, Nat.reduceEqDiff, Nat.reduceAdd, Nat.reduceBEq, Int.reduceToNat, Nat.reduceDiv, Nat.reduceMod]
 iterate 10 apply Exists.intro
 try dsimp +instances only
 repeat' (first | with_reducible apply And.intro | intro _)
 all_goals first | exact itv_e (b := b) (by grind) (by grind) | exact pick_e (b := b) (by grind) (by grind) | exact insd_e (b := b) (by grind) (by grind) | exact odd_e (b := b) (by grind) (by grind) | exact end_e (by grind) (by grind) | (refine ⟨_, _, _, _, ?_, rfl, rfl, rfl, rfl⟩; (repeat' (first | with_reducible apply And.intro | intro _)); all_goals first | grind [wrapI] | grind (splits := 24) [wrapI] | exact sel_lo (by decide) | exact sel_hi (by decide) | (simp only [List.length_map, List.length_cons, List.length_nil]; omega) | ((repeat' split) <;> grind [wrapI])) | ((repeat (with_reducible apply Exists.intro)); (refine And.intro ?_ ?_); rotate_left; (repeat' (first | with_reducible exact rfl | with_reducible apply And.intro)); all_goals (first | grind [wrapI] | grind (splits := 24) [wrapI] | exact sel_lo (by decide) | exact sel_hi (by decide) | (simp only [List.length_map, List.length_cons, List.length_nil]; omega) | ((repeat' split) <;> grind [wrapI]) | ((repeat' (first | with_reducible apply And.intro | intro _)); all_goals first | grind [wrapI] | grind (splits := 24) [wrapI] | exact sel_lo (by decide) | exact sel_hi (by decide) | (simp only [List.length_map, List.length_cons, List.length_nil]; omega) | ((repeat' split) <;> grind [wrapI])))) | grind [wrapI] | grind (splits := 24) [wrapI] | exact sel_lo (by decide) | exact sel_hi (by decide) | (simp only [List.length_map, List.length_cons, List.length_nil]; omega) | ((repeat' split) <;> grind [wrapI]) | exact (0 : Int)
open Classical in
noncomputable def procF (b : List UInt8) (p : Int) (m : Int) : PrcProc × Int := if h : 0 ≤ p ∧ p + 500 ≤ 1000000000 then (proc_x b p m h.1 h.2).choose else (⟨0, 0, [zInsIns]⟩, p)
noncomputable def procV (b : List UInt8) (p : Int) (m : Int) : PrcProc := (procF b p m).1
noncomputable def procP (b : List UInt8) (p : Int) (m : Int) : Int := (procF b p m).2
theorem proc_e {b : List UInt8} {p : Int} {m : Int} (h0 : 0 ≤ p) (h1 : p + 500 ≤ 1000000000) : EC Tryz.prog 203 1 [.ptr 0 2 0 0, CI m] (rdH b p) (.agg [CI (procV b p m).Lo, CI (procV b p m).Hi, .d (.sl 8 ((procV b p m).Code.map dInsIns))]) (rdH b (procP b p m)) 1 := by
 have := (proc_x b p m h0 h1).choose_spec.2
 simp only [procV, procP, procF, dif_pos (show 0 ≤ p ∧ p + 500 ≤ 1000000000 from ⟨h0, h1⟩)]; exact this
@[grind =] theorem proc_i {b : List UInt8} {p : Int} {m : Int} : procP b p m = max p (min (procP b p m) (p + 500)) := by
 simp only [procP, procF]
 split
 · rename_i h; have := (proc_x b p m h.1 h.2).choose_spec.1; omega
 · omega
theorem proc_j {b : List UInt8} {p : Int} {m : Int} : 1 ≤ (procV b p m).Code.length ∧ (procV b p m).Code.length ≤ 100 := by
 simp only [procV, procF]
 split
 · rename_i h; exact (proc_x b p m h.1 h.2).choose_spec.1.2.2
 · simp [zPrcProc] <;> omega
end Go.Proofs.YtjakhnhnjhafgaaGreat.Wk
namespace Go.Proofs.YtjakhnhnjhafgaaGreat.Wk
open Go Go.RowKit Go.Deep Ow
set_option maxRecDepth 100000
set_option maxHeartbeats 2000000 in
theorem calls_x (b : List UInt8) (p : Int) (m : Int) (h0 : 0 ≤ p) (h1 : p + 20 ≤ 1000000000) : ∃ a : PrcProc × Int, (p ≤ a.2 ∧ a.2 ≤ p + 20 ∧ 1 ≤ a.1.Code.length ∧ a.1.Code.length ≤ 100) ∧ EC Tryz.prog 202 1 [.ptr 0 2 0 0, CI m] (rdH b p) (.agg [CI a.1.Lo, CI a.1.Hi, .d (.sl 8 (a.1.Code.map dInsIns))]) (rdH b a.2) 1 := by
 have key := (seat [] [218]).PL (mkM true [2, 2, 3, 36]) (f := 202) (fn := Tryz.f202) (args := [.ptr 0 2 0 0, CI m]) (h := rdH b p) ⟨by kernel_rfl, by kernel_rfl, rfl⟩ (Nat.le_refl 1) (fun (t : Int × Int × Int × Int × Int) => match t with | ⟨t0, t1, t2, t3, hi⟩ => mkEs [eLU8 1 b, eI 2 p, eInt 10 m, eInt 111000 (pickV b t0 t1), eI 111201 (pickP b t0 t1), eInt 211000 (pickV b t2 t3), eI 211201 (pickP b t2 t3)]) (fun (t : Int × Int × Int × Int × Int) => match t with | ⟨t0, t1, t2, t3, hi⟩ => (consL ⟨Int × Int × List InsIns, fun _ x => match x with | ⟨k, q, l⟩ => 0 ≤ k ∧ k ≤ 1 + pickV b t2 t3 ∧ k + l.length = 1 + pickV b t2 t3 ∧ p ≤ q ∧ q + 2 * k = p + 4 + 2 * pickV b t2 t3, fun _ x => match x with | ⟨k, q, l⟩ => mkEs [eI 1 k, eI 2 q, eLInsIns 3 l, eInt 513000 (pickV b q 3), eI 513201 (q + 1), eInt 517000 (pickV b (q + 1) m), eI 517201 (q + 1 + 1), eInt 611000 (pickV b q 2), eI 611201 (q + 1), eInt 812000 (pickV b (q + 1) 4), eI 812201 (q + 1 + 1), ePrcProc 814000 ⟨0, hi, (if (pickV b q 2 == 0) = true then l ++ [⟨11, 0, 0, 1, 2, 0, 0, 0⟩] else l) ++ [⟨12, 0, pickV b (q + 1) 4, 0, 0, 0, 0, 0⟩]⟩], fun _ x => match x with | ⟨k, q, l⟩ => k.toNat⟩ noLps)) [(0, fun s => (0, (((s.kl (mkM true [2, 2, 3, 36])).upd [(6, xi 100000001)]).cell 0 0 1 (xi 100000002)).own ((s.kl (mkM true [2, 2, 3, 36])).at_ 5) 0 2 kInsIns (.rws kInsIns 100000003 .nil)))] [.ptr 0 2 (.int .i64 0) 0, xInt 10] [rdX 0 (xLU8 1) (xi 2)] (fun ⟨t0, t1, t2, t3, hi⟩ => by simp (maxSteps := 1000000) only [go_sem, Nat.reduceEqDiff, Nat.reduceAdd, Nat.reduceBEq, Int.reduceToNat]) (fun ⟨t0, t1, t2, t3, hi⟩ => by simp (maxSteps := 1000000) only [go_sem, Nat.reduceEqDiff, Nat.reduceAdd, Nat.reduceBEq, Int.reduceToNat]) (xPrcProc 900) [rdX 0 (xLU8 951) (xi 952)] (fun a : PrcProc × Int => p ≤ a.2 ∧ a.2 ≤ p + 20 ∧ 1 ≤ a.1.Code.length ∧ a.1.Code.length ≤ 100) (fun a => mkEs [ePrcProc 900 a.1, eLU8 951 b, eI 952 a.2]) ⟨(⟨0, 0, [zInsIns]⟩, p), by simp [zPrcProc] <;> omega⟩ ?_
 · obtain ⟨a, h2, h3⟩ := key
   simp only [go_sem, Nat.reduceEqDiff, Nat.reduceAdd, Nat.reduceBEq, Int.reduceToNat] at h3
   exact ⟨a, h2, h3⟩
 conv => arg 1; ext t; arg 4; cbv
 simp (maxSteps := 4000000) only [V.ExL, lput, consL, go_sem, Nat.reduceEqDiff, Nat.reduceAdd, Nat.reduceBEq, Int.reduceToNat, Nat.reduceDiv, Nat.reduceMod]
 iterate 5 apply Exists.intro
 try dsimp +instances only
 repeat' (first | with_reducible apply And.intro | intro _)
 all_goals first | exact pick_e (b := b) (by grind) (by grind) | exact end_e (by grind) (by grind) | (refine ⟨_, _, _, _, ?_, rfl, rfl, rfl, rfl⟩; (repeat' (first | with_reducible apply And.intro | intro _)); all_goals first | grind [wrapI] | grind (splits := 24) [wrapI] | exact sel_lo (by decide) | exact sel_hi (by decide) | (simp only [List.length_map, List.length_cons, List.length_nil]; omega) | ((repeat' split) <;> grind [wrapI])) | ((repeat (with_reducible apply Exists.intro)); (refine And.intro ?_ ?_); rotate_left; (repeat' (first | with_reducible exact rfl | with_reducible apply And.intro)); all_goals (first | grind [wrapI] | grind (splits := 24) [wrapI] | exact sel_lo (by decide) | exact sel_hi (by decide) | (simp only [List.length_map, List.length_cons, List.length_nil]; omega) | ((repeat' split) <;> grind [wrapI]) | ((repeat' (first | with_reducible apply And.intro | intro _)); all_goals first | grind [wrapI] | grind (splits := 24) [wrapI] | exact sel_lo (by decide) | exact sel_hi (by decide) | (simp only [List.length_map, List.length_cons, List.length_nil]; omega) | ((repeat' split) <;> grind [wrapI])))) | grind [wrapI] | grind (splits := 24) [wrapI] | exact sel_lo (by decide) | exact sel_hi (by decide) | (simp only [List.length_map, List.length_cons, List.length_nil]; omega) | ((repeat' split) <;> grind [wrapI]) | exact (0 : Int)
open Classical in
noncomputable def callsF (b : List UInt8) (p : Int) (m : Int) : PrcProc × Int := if h : 0 ≤ p ∧ p + 20 ≤ 1000000000 then (calls_x b p m h.1 h.2).choose else (⟨0, 0, [zInsIns]⟩, p)
noncomputable def callsV (b : List UInt8) (p : Int) (m : Int) : PrcProc := (callsF b p m).1
noncomputable def callsP (b : List UInt8) (p : Int) (m : Int) : Int := (callsF b p m).2
theorem calls_e {b : List UInt8} {p : Int} {m : Int} (h0 : 0 ≤ p) (h1 : p + 20 ≤ 1000000000) : EC Tryz.prog 202 1 [.ptr 0 2 0 0, CI m] (rdH b p) (.agg [CI (callsV b p m).Lo, CI (callsV b p m).Hi, .d (.sl 8 ((callsV b p m).Code.map dInsIns))]) (rdH b (callsP b p m)) 1 := by
 have := (calls_x b p m h0 h1).choose_spec.2
 simp only [callsV, callsP, callsF, dif_pos (show 0 ≤ p ∧ p + 20 ≤ 1000000000 from ⟨h0, h1⟩)]; exact this
@[grind =] theorem calls_i {b : List UInt8} {p : Int} {m : Int} : callsP b p m = max p (min (callsP b p m) (p + 20)) := by
 simp only [callsP, callsF]
 split
 · rename_i h; have := (calls_x b p m h.1 h.2).choose_spec.1; omega
 · omega
theorem calls_j {b : List UInt8} {p : Int} {m : Int} : 1 ≤ (callsV b p m).Code.length ∧ (callsV b p m).Code.length ≤ 100 := by
 simp only [callsV, callsF]
 split
 · rename_i h; exact (calls_x b p m h.1 h.2).choose_spec.1.2.2
 · simp [zPrcProc] <;> omega
end Go.Proofs.YtjakhnhnjhafgaaGreat.Wk
namespace Go.Proofs.YtjakhnhnjhafgaaGreat.Wk
open Go Go.RowKit Go.Deep Ow
set_option maxRecDepth 100000
set_option maxHeartbeats 2000000 in
theorem any_x (b : List UInt8) (p : Int) (m : Int) (n : Int) (h0 : 0 ≤ p) (h1 : p + 510 ≤ 1000000000) : ∃ a : PrcProc × Int, (p ≤ a.2 ∧ a.2 ≤ p + 510 ∧ 1 ≤ a.1.Code.length ∧ a.1.Code.length ≤ 100) ∧ EC Tryz.prog 166 1 [.ptr 0 2 0 0, CI m, CI n] (rdH b p) (.agg [CI a.1.Lo, CI a.1.Hi, .d (.sl 8 (a.1.Code.map dInsIns))]) (rdH b a.2) 1 := by
 have key := (seat [] []).PX (mkM true []) (f := 166) (fn := Tryz.f166) (args := [.ptr 0 2 0 0, CI m, CI n]) (h := rdH b p) ⟨by kernel_rfl, by kernel_rfl, rfl⟩ (Nat.le_refl 1) (fun (t : Int × Int × Int × Int × Int × Int × Int × Int × Int × Int × Int × Int) => match t with | ⟨t0, t1, t2, t3, t4, t5, t6, t7, t8, t9, t10, t11⟩ => mkEs [eLU8 1 b, eI 2 p, eInt 10 m, eInt 30 n, eInt 111000 (pickV b t0 t1), eI 111201 (pickP b t0 t1), ePrcProc 311000 (loopV b t2), eI 311201 (loopP b t2), eInt 514000 (pickV b t3 t4), eI 514201 (pickP b t3 t4), ePrcProc 515000 (deepV b t5 t6 t7), eI 515201 (deepP b t5 t6 t7), ePrcProc 712000 (callsV b t8 t9), eI 712201 (callsP b t8 t9), ePrcProc 812000 (procV b t10 t11), eI 812201 (procP b t10 t11)]) [.ptr 0 2 (.int .i64 0) 0, xInt 10, xInt 30] [rdX 0 (xLU8 1) (xi 2)] (fun ⟨t0, t1, t2, t3, t4, t5, t6, t7, t8, t9, t10, t11⟩ => by simp (maxSteps := 1000000) only [go_sem, Nat.reduceEqDiff, Nat.reduceAdd, Nat.reduceBEq, Int.reduceToNat]) (fun ⟨t0, t1, t2, t3, t4, t5, t6, t7, t8, t9, t10, t11⟩ => by simp (maxSteps := 1000000) only [go_sem, Nat.reduceEqDiff, Nat.reduceAdd, Nat.reduceBEq, Int.reduceToNat]) (xPrcProc 900) [rdX 0 (xLU8 951) (xi 952)] (fun a : PrcProc × Int => p ≤ a.2 ∧ a.2 ≤ p + 510 ∧ 1 ≤ a.1.Code.length ∧ a.1.Code.length ≤ 100) (fun a => mkEs [ePrcProc 900 a.1, eLU8 951 b, eI 952 a.2]) ⟨(⟨0, 0, [zInsIns]⟩, p), by simp [zPrcProc] <;> omega⟩ ?_
 · obtain ⟨a, h2, h3⟩ := key
   simp only [go_sem, Nat.reduceEqDiff, Nat.reduceAdd, Nat.reduceBEq, Int.reduceToNat] at h3
   exact ⟨a, h2, h3⟩
 conv => arg 1; ext t; arg 3; cbv
 simp (maxSteps := 4000000) only [V.Ex, go_sem, Nat.reduceEqDiff, Nat.reduceAdd, Nat.reduceBEq, Int.reduceToNat]
 iterate 12 apply Exists.intro
 try dsimp +instances only
 repeat' (first | with_reducible apply And.intro | intro _)
 all_goals first | exact pick_e (b := b) (by grind) (by grind) | exact loop_e (b := b) (by grind) (by grind) | exact deep_e (b := b) (by grind) (by grind) | exact calls_e (b := b) (by grind) (by grind) | exact proc_e (b := b) (by grind) (by grind) | (refine ⟨_, _, _, _, ?_, rfl, rfl, rfl, rfl⟩; (repeat' (first | with_reducible apply And.intro | intro _)); all_goals first | grind [wrapI, loop_j, deep_j, calls_j, proc_j] | grind (splits := 24) [wrapI, loop_j, deep_j, calls_j, proc_j] | exact sel_lo (by decide) | exact sel_hi (by decide) | (simp only [List.length_map, List.length_cons, List.length_nil]; omega) | ((repeat' split) <;> grind [wrapI, loop_j, deep_j, calls_j, proc_j])) | grind [wrapI, loop_j, deep_j, calls_j, proc_j] | grind (splits := 24) [wrapI, loop_j, deep_j, calls_j, proc_j] | exact sel_lo (by decide) | exact sel_hi (by decide) | (simp only [List.length_map, List.length_cons, List.length_nil]; omega) | ((repeat' split) <;> grind [wrapI, loop_j, deep_j, calls_j, proc_j]) | exact (0 : Int)
open Classical in
noncomputable def anyF (b : List UInt8) (p : Int) (m : Int) (n : Int) : PrcProc × Int := if h : 0 ≤ p ∧ p + 510 ≤ 1000000000 then (any_x b p m n h.1 h.2).choose else (⟨0, 0, [zInsIns]⟩, p)
noncomputable def anyV (b : List UInt8) (p : Int) (m : Int) (n : Int) : PrcProc := (anyF b p m n).1
noncomputable def anyP (b : List UInt8) (p : Int) (m : Int) (n : Int) : Int := (anyF b p m n).2
theorem any_e {b : List UInt8} {p : Int} {m : Int} {n : Int} (h0 : 0 ≤ p) (h1 : p + 510 ≤ 1000000000) : EC Tryz.prog 166 1 [.ptr 0 2 0 0, CI m, CI n] (rdH b p) (.agg [CI (anyV b p m n).Lo, CI (anyV b p m n).Hi, .d (.sl 8 ((anyV b p m n).Code.map dInsIns))]) (rdH b (anyP b p m n)) 1 := by
 have := (any_x b p m n h0 h1).choose_spec.2
 simp only [anyV, anyP, anyF, dif_pos (show 0 ≤ p ∧ p + 510 ≤ 1000000000 from ⟨h0, h1⟩)]; exact this
@[grind =] theorem any_i {b : List UInt8} {p : Int} {m : Int} {n : Int} : anyP b p m n = max p (min (anyP b p m n) (p + 510)) := by
 simp only [anyP, anyF]
 split
 · rename_i h; have := (any_x b p m n h.1 h.2).choose_spec.1; omega
 · omega
theorem any_j {b : List UInt8} {p : Int} {m : Int} {n : Int} : 1 ≤ (anyV b p m n).Code.length ∧ (anyV b p m n).Code.length ≤ 100 := by
 simp only [anyV, anyF]
 split
 · rename_i h; exact (any_x b p m n h.1 h.2).choose_spec.1.2.2
 · simp [zPrcProc] <;> omega
end Go.Proofs.YtjakhnhnjhafgaaGreat.Wk
namespace Go.Proofs.YtjakhnhnjhafgaaGreat.Wk
open Go Go.RowKit Go.Deep Ow
set_option maxRecDepth 100000
theorem selN (i : Int) : sel [1, 2, 2, 3, 4, 3] i = max 0 (min (sel [1, 2, 2, 3, 4, 3] i) 4) := by
 have h1 : 0 ≤ sel [1, 2, 2, 3, 4, 3] i := sel_lo (by decide)
 have h2 : sel [1, 2, 2, 3, 4, 3] i ≤ 4 := sel_hi (by decide)
 omega
theorem selN1 (i : Int) (h0 : 0 ≤ i) (h : i < 6) : 1 ≤ sel [1, 2, 2, 3, 4, 3] i := by
 have : i = 0 ∨ i = 1 ∨ i = 2 ∨ i = 3 ∨ i = 4 ∨ i = 5 := by omega
 rcases this with rfl | rfl | rfl | rfl | rfl | rfl <;> decide
set_option maxHeartbeats 2000000 in
theorem prog_x (b : List UInt8) (p : Int) (h0 : 0 ≤ p) (h1 : p + 2100 ≤ 1000000000) : ∃ a : PrgProg × Int, (p ≤ a.2 ∧ a.2 ≤ p + 2100 ∧ 1 ≤ a.1.Procs.length ∧ a.1.Procs.length ≤ 4 ∧ ∀ c ∈ a.1.Procs, 1 ≤ c.Code.length ∧ c.Code.length ≤ 100) ∧ EC Tryz.prog 111 1 [.ptr 0 2 0 0] (rdH b p) (.agg [.osl 1 3 0 a.1.Procs.length]) (rdH b a.2 ++ [(1, .c 3 (a.1.Procs.map (fun x => (dPrcProc x).map C.d)))]) 2 := by
 have key := (seat [] []).PL (mkM true [1, 1, 4, 21]) (f := 111) (fn := Tryz.f111) (args := [.ptr 0 2 0 0]) (h := rdH b p) ⟨by kernel_rfl, by kernel_rfl, rfl⟩ (show (1 : Nat) ≤ 2 by decide) (fun (t : Int × Int) => match t with | ⟨t0, t1⟩ => mkEs [eLU8 1 b, eI 2 p, eInt 112000 (pickV b t0 t1), eI 112201 (pickP b t0 t1)]) (fun (t : Int × Int) => match t with | ⟨t0, t1⟩ => (consL ⟨Int × Int × List PrcProc, fun _ x => match x with | ⟨k, q, l⟩ => 0 ≤ k ∧ k ≤ sel [1, 2, 2, 3, 4, 3] (pickV b t0 t1) ∧ k = l.length ∧ p ≤ q ∧ q ≤ p + 1 + 510 * k ∧ ∀ c ∈ l, 1 ≤ c.Code.length ∧ c.Code.length ≤ 100, fun _ x => match x with | ⟨k, q, l⟩ => mkEs [eI 1 k, eI 2 q, eLPrcProc 3 l, ePrcProc 615000 (anyV b q k (sel [1, 2, 2, 3, 4, 3] (pickV b t0 t1))), eI 615201 (anyP b q k (sel [1, 2, 2, 3, 4, 3] (pickV b t0 t1)))], fun _ x => match x with | ⟨k, q, l⟩ => (5 - k).toNat⟩ noLps)) [(0, fun s => (0, ((((s.kl (mkM true [1, 1, 4, 21])).upd [(5, xi 100000001)]).cell 0 0 1 (xi 100000002)).own ((s.kl (mkM true [1, 1, 4, 21])).at_ 4) 0 0 kPrcProc (.rws kPrcProc 100000003 .nil)).gc 1))] [.ptr 0 2 (.int .i64 0) 0] [rdX 0 (xLU8 1) (xi 2)] (fun ⟨t0, t1⟩ => by simp (maxSteps := 1000000) only [go_sem, Nat.reduceEqDiff, Nat.reduceAdd, Nat.reduceBEq, Int.reduceToNat]) (fun ⟨t0, t1⟩ => by simp (maxSteps := 1000000) only [go_sem, Nat.reduceEqDiff, Nat.reduceAdd, Nat.reduceBEq, Int.reduceToNat]) (.agg (.cons (.osl 1 3 (.int .i64 0) (.rln (.rws kPrcProc 900 .nil))) .nil)) [rdX 0 (xLU8 951) (xi 952), ⟨1, kPrcProc, .rws kPrcProc 900 .nil⟩] (fun a : PrgProg × Int => p ≤ a.2 ∧ a.2 ≤ p + 2100 ∧ 1 ≤ a.1.Procs.length ∧ a.1.Procs.length ≤ 4 ∧ ∀ c ∈ a.1.Procs, 1 ≤ c.Code.length ∧ c.Code.length ≤ 100) (fun a => mkEs [ePrgProg 900 a.1, eLU8 951 b, eI 952 a.2]) ⟨(⟨[⟨0, 0, [zInsIns]⟩]⟩, p), by simp [zPrgProg] <;> omega⟩ ?_
 · obtain ⟨a, h2, h3⟩ := key
   simp only [go_sem, Nat.reduceEqDiff, Nat.reduceAdd, Nat.reduceBEq, Int.reduceToNat] at h3
   exact ⟨a, h2, h3⟩
 conv => arg 1; ext t; arg 4; cbv
 simp (maxSteps := 4000000) only [V.ExL, lput, consL, go_sem, Nat.reduceEqDiff, Nat.reduceAdd, Nat.reduceBEq, Int.reduceToNat, Nat.reduceDiv, Nat.reduceMod]
 iterate 2 apply Exists.intro
 try dsimp +instances only
 repeat' (first | with_reducible apply And.intro | intro _)
 all_goals first | exact pick_e (b := b) (by grind) (by grind) | exact any_e (b := b) (by grind) (by grind) | (refine ⟨_, _, ?_, rfl, rfl⟩; (repeat' (first | with_reducible apply And.intro | intro _)); all_goals first | grind [wrapI, selN, selN1, any_j] | grind (splits := 24) [wrapI, selN, selN1, any_j] | exact sel_lo (by decide) | exact sel_hi (by decide) | (simp only [List.length_map, List.length_cons, List.length_nil]; omega) | ((repeat' split) <;> grind [wrapI, selN, selN1, any_j])) | ((repeat (with_reducible apply Exists.intro)); (refine And.intro ?_ ?_); rotate_left; (repeat' (first | with_reducible exact rfl | with_reducible apply And.intro)); all_goals (first | grind [wrapI, selN, selN1, any_j] | grind (splits := 24) [wrapI, selN, selN1, any_j] | exact sel_lo (by decide) | exact sel_hi (by decide) | (simp only [List.length_map, List.length_cons, List.length_nil]; omega) | ((repeat' split) <;> grind [wrapI, selN, selN1, any_j]) | ((repeat' (first | with_reducible apply And.intro | intro _)); all_goals first | grind [wrapI, selN, selN1, any_j] | grind (splits := 24) [wrapI, selN, selN1, any_j] | exact sel_lo (by decide) | exact sel_hi (by decide) | (simp only [List.length_map, List.length_cons, List.length_nil]; omega) | ((repeat' split) <;> grind [wrapI, selN, selN1, any_j])))) | grind [wrapI, selN, selN1, any_j] | grind (splits := 24) [wrapI, selN, selN1, any_j] | exact sel_lo (by decide) | exact sel_hi (by decide) | (simp only [List.length_map, List.length_cons, List.length_nil]; omega) | ((repeat' split) <;> grind [wrapI, selN, selN1, any_j]) | exact (0 : Int)
open Classical in
noncomputable def progF (b : List UInt8) (p : Int) : PrgProg × Int := if h : 0 ≤ p ∧ p + 2100 ≤ 1000000000 then (prog_x b p h.1 h.2).choose else (⟨[⟨0, 0, [zInsIns]⟩]⟩, p)
noncomputable def progV (b : List UInt8) (p : Int) : PrgProg := (progF b p).1
noncomputable def progP (b : List UInt8) (p : Int) : Int := (progF b p).2
theorem prog_e {b : List UInt8} {p : Int} (h0 : 0 ≤ p) (h1 : p + 2100 ≤ 1000000000) : EC Tryz.prog 111 1 [.ptr 0 2 0 0] (rdH b p) (.agg [.osl 1 3 0 (progV b p).Procs.length]) (rdH b (progP b p) ++ [(1, .c 3 ((progV b p).Procs.map (fun x => (dPrcProc x).map C.d)))]) 2 := by
 have := (prog_x b p h0 h1).choose_spec.2
 simp only [progV, progP, progF, dif_pos (show 0 ≤ p ∧ p + 2100 ≤ 1000000000 from ⟨h0, h1⟩)]; exact this
@[grind =] theorem prog_i {b : List UInt8} {p : Int} : progP b p = max p (min (progP b p) (p + 2100)) := by
 simp only [progP, progF]
 split
 · rename_i h; have := (prog_x b p h.1 h.2).choose_spec.1; omega
 · omega
theorem prog_j {b : List UInt8} {p : Int} : 1 ≤ (progV b p).Procs.length ∧ (progV b p).Procs.length ≤ 4 ∧ ∀ c ∈ (progV b p).Procs, 1 ≤ c.Code.length ∧ c.Code.length ≤ 100 := by
 simp only [progV, progF]
 split
 · rename_i h; exact (prog_x b p h.1 h.2).choose_spec.1.2.2
 · simp [zPrgProg] <;> omega
end Go.Proofs.YtjakhnhnjhafgaaGreat.Wk
namespace Go.Proofs.YtjakhnhnjhafgaaGreat.Wk
open Go Go.RowKit Go.Deep Ow
set_option maxRecDepth 100000
theorem codeG {l : List PrcProc} {i : Int} (h : ∀ c ∈ l, 1 ≤ c.Code.length ∧ c.Code.length ≤ 100) (h0 : 0 ≤ i) (h1 : i < l.length) : 1 ≤ (l.getD i.toNat zPrcProc).Code.length ∧ (l.getD i.toNat zPrcProc).Code.length ≤ 100 := by
 rw [List.getD_eq_getElem?_getD, List.getElem?_eq_getElem (by omega)]
 exact h _ (List.getElem_mem _)
set_option maxHeartbeats 2000000 in
theorem progOr_x (b : List UInt8) (p : Int) (n : Int) (h0 : 0 ≤ p) (h1 : p + 2200 ≤ 1000000000) : ∃ a : PrgProg × Int, (p ≤ a.2 ∧ a.2 ≤ p + 2200 ∧ True) ∧ EC Tryz.prog 47 1 [.ptr 0 2 0 0, CI n] (rdH b p) (.agg [.d (.sl 3 (a.1.Procs.map dPrcProc))]) (rdH b a.2) 1 := by
 have key := (seat [111] []).PL (mkF [(17, fun s => s.in_ 7), (24, fun s => s.in_ 7), (9, fun s => s.in_ 7)] (mkM true [2, 2, 5, 21, 1, 77])) (f := 47) (fn := Tryz.f47) (args := [.ptr 0 2 0 0, CI n]) (h := rdH b p) ⟨by kernel_rfl, by kernel_rfl, rfl⟩ (Nat.le_refl 1) (fun (t : Int × Int × Int × Int × Int × Int × Int × Int × Int × Int × InsIns) => match t with | ⟨t0, t1, t2, t3, t4, t5, t6, t7, t8, t9, t10⟩ => mkEs [eLU8 1 b, eI 2 p, eInt 10 n, ePrgProg 111000 (progV b t0), eI 111201 (progP b t0), eBool 212000 (oddV b t1 t2), eI 212201 (oddP b t1 t2), eInt 314000 (pickV b t3 t4), eI 314201 (pickP b t3 t4), eInt 514000 (pickV b t5 t6), eI 514201 (pickP b t5 t6), eInt 611000 (pickV b t7 t8), eI 611201 (pickP b t7 t8), eInsIns 2319000 (spoilV b t9 t10), eI 2319201 (spoilP b t9 t10)]) (fun (t : Int × Int × Int × Int × Int × Int × Int × Int × Int × Int × InsIns) => match t with | ⟨t0, t1, t2, t3, t4, t5, t6, t7, t8, t9, t10⟩ => (consL ⟨List PrcProc, fun _ l => (l.length : Int) ≤ 5, fun _ l => mkEs [eLPrcProc 1 l], fun _ l => 6 - l.length⟩ noLps)) [(1, fun s => (0, (s.kl (mkF [(17, fun s => s.in_ 7), (24, fun s => s.in_ 7), (9, fun s => s.in_ 7)] (mkM true [2, 2, 5, 21, 1, 77]))).grow (((s.kl (mkF [(17, fun s => s.in_ 7), (24, fun s => s.in_ 7), (9, fun s => s.in_ 7)] (mkM true [2, 2, 5, 21, 1, 77]))).in_ 5).headD 0) (.rws kPrcProc 100000001 .nil)))] [.ptr 0 2 (.int .i64 0) 0, xInt 10] [rdX 0 (xLU8 1) (xi 2)] (fun ⟨t0, t1, t2, t3, t4, t5, t6, t7, t8, t9, t10⟩ => by simp (maxSteps := 1000000) only [go_sem, Nat.reduceEqDiff, Nat.reduceAdd, Nat.reduceBEq, Int.reduceToNat]) (fun ⟨t0, t1, t2, t3, t4, t5, t6, t7, t8, t9, t10⟩ => by simp (maxSteps := 1000000) only [go_sem, Nat.reduceEqDiff, Nat.reduceAdd, Nat.reduceBEq, Int.reduceToNat]) (xPrgProg 900) [rdX 0 (xLU8 951) (xi 952)] (fun a : PrgProg × Int => p ≤ a.2 ∧ a.2 ≤ p + 2200 ∧ True) (fun a => mkEs [ePrgProg 900 a.1, eLU8 951 b, eI 952 a.2]) ⟨(zPrgProg, p), by simp <;> omega⟩ ?_
 · obtain ⟨a, h2, h3⟩ := key
   simp only [go_sem, Nat.reduceEqDiff, Nat.reduceAdd, Nat.reduceBEq, Int.reduceToNat] at h3
   exact ⟨a, h2, h3⟩
 conv => arg 1; ext t; arg 4; cbv
 simp (maxSteps := 4000000) only [V.ExL, lput, consL, go_sem, Nat.reduceEqDiff, Nat.reduceAdd, Nat.reduceBEq, Int.reduceToNat, Nat.reduceDiv, Nat.reduceMod]
 iterate 18 apply Exists.intro
 try dsimp +instances only
 repeat' (first | with_reducible apply And.intro | intro _)
 all_goals first | exact prog_e (b := b) (by grind) (by grind) | exact odd_e (b := b) (by grind) (by grind) | exact pick_e (b := b) (by grind) (by grind) | exact spoil_e (b := b) (by grind) (by grind) | (refine ⟨_, _, ?_, rfl, rfl⟩; (repeat' (first | with_reducible apply And.intro | intro _)); all_goals first | grind [wrapI, prog_j, codeG] | grind (splits := 24) [wrapI, prog_j, codeG] | exact sel_lo (by decide) | exact sel_hi (by decide) | (simp only [List.length_map, List.length_cons, List.length_nil]; omega) | ((repeat' split) <;> grind [wrapI, prog_j, codeG])) | ((repeat (with_reducible apply Exists.intro)); (refine And.intro ?_ ?_); rotate_left; (repeat' (first | with_reducible exact rfl | with_reducible apply And.intro)); all_goals (first | grind [wrapI, prog_j, codeG] | grind (splits := 24) [wrapI, prog_j, codeG] | exact sel_lo (by decide) | exact sel_hi (by decide) | (simp only [List.length_map, List.length_cons, List.length_nil]; omega) | ((repeat' split) <;> grind [wrapI, prog_j, codeG]) | ((repeat' (first | with_reducible apply And.intro | intro _)); all_goals first | grind [wrapI, prog_j, codeG] | grind (splits := 24) [wrapI, prog_j, codeG] | exact sel_lo (by decide) | exact sel_hi (by decide) | (simp only [List.length_map, List.length_cons, List.length_nil]; omega) | ((repeat' split) <;> grind [wrapI, prog_j, codeG])))) | grind [wrapI, prog_j, codeG] | grind (splits := 24) [wrapI, prog_j, codeG] | exact sel_lo (by decide) | exact sel_hi (by decide) | (simp only [List.length_map, List.length_cons, List.length_nil]; omega) | ((repeat' split) <;> grind [wrapI, prog_j, codeG]) | exact (0 : Int)
open Classical in
noncomputable def progOrF (b : List UInt8) (p : Int) (n : Int) : PrgProg × Int := if h : 0 ≤ p ∧ p + 2200 ≤ 1000000000 then (progOr_x b p n h.1 h.2).choose else (zPrgProg, p)
noncomputable def progOrV (b : List UInt8) (p : Int) (n : Int) : PrgProg := (progOrF b p n).1
noncomputable def progOrP (b : List UInt8) (p : Int) (n : Int) : Int := (progOrF b p n).2
theorem progOr_e {b : List UInt8} {p : Int} {n : Int} (h0 : 0 ≤ p) (h1 : p + 2200 ≤ 1000000000) : EC Tryz.prog 47 1 [.ptr 0 2 0 0, CI n] (rdH b p) (.agg [.d (.sl 3 ((progOrV b p n).Procs.map dPrcProc))]) (rdH b (progOrP b p n)) 1 := by
 have := (progOr_x b p n h0 h1).choose_spec.2
 simp only [progOrV, progOrP, progOrF, dif_pos (show 0 ≤ p ∧ p + 2200 ≤ 1000000000 from ⟨h0, h1⟩)]; exact this
@[grind =] theorem progOr_i {b : List UInt8} {p : Int} {n : Int} : progOrP b p n = max p (min (progOrP b p n) (p + 2200)) := by
 simp only [progOrP, progOrF]
 split
 · rename_i h; have := (progOr_x b p n h.1 h.2).choose_spec.1; omega
 · omega
end Go.Proofs.YtjakhnhnjhafgaaGreat.Wk
namespace Go.Proofs.YtjakhnhnjhafgaaGreat.Wk
open Go Go.RowKit Go.Deep Ow
set_option maxRecDepth 100000
@[go_sem high] theorem qtk_ItvItv {l : List ItvItv} {m n : Nat} : List.map (fun r => C.tup (List.map C.d r)) (List.take n (List.drop m (List.map dItvItv l))) = qItvItv ((l.drop m).take n) := by
 rw [← List.map_drop, ← List.map_take, List.map_map]; rfl
set_option maxHeartbeats 2000000 in
theorem state_x (b : List UInt8) (p : Int) (n : Int) (h0 : 0 ≤ p) (h1 : p + 120 ≤ 1000000000) : ∃ a : AbsState × Int, (p ≤ a.2 ∧ a.2 ≤ p + 120 ∧ a.1.Vars.length ≤ 4) ∧ EC Tryz.prog 52 1 [.ptr 0 2 0 0, CI n] (rdH b p) (.agg [CB a.1.On, .osl 1 2 0 a.1.Vars.length, CI a.1.Cells.Lo, CI a.1.Cells.Hi]) (rdH b a.2 ++ [(1, .c 2 (a.1.Vars.map (fun x => (dItvItv x).map C.d)))]) 2 := by
 have key := (seat [] []).PL (mkT [(17, fun s => s.osl_ 5 1)] (mkM true [2, 2, 3, 21, 1, 20])) (f := 52) (fn := Tryz.f52) (args := [.ptr 0 2 0 0, CI n]) (h := rdH b p) ⟨by kernel_rfl, by kernel_rfl, rfl⟩ (show (1 : Nat) ≤ 2 by decide) (fun (t : Int × Int × Int × Int) => match t with | ⟨t0, t1, t2, t3⟩ => mkEs [eLU8 1 b, eI 2 p, eInt 10 n, eBool 111000 (oddV b t0 t1), eI 111201 (oddP b t0 t1), eItvItv 311000 (itvV b t2 t3), eI 311201 (itvP b t2 t3)]) (fun (t : Int × Int × Int × Int) => match t with | ⟨t0, t1, t2, t3⟩ => (consL ⟨Int × Int × List ItvItv, fun _ x => match x with | ⟨k, q, l⟩ => 0 ≤ k ∧ k ≤ 4 ∧ k = l.length ∧ p ≤ q ∧ q ≤ p + 21 + 20 * k, fun _ x => match x with | ⟨k, q, l⟩ => mkEs [eI 1 k, eI 2 q, eLItvItv 3 l, eItvItv 713000 (itvV b q 99999), eI 713201 (itvP b q 99999), eB 812000 (oddV b q n), eI 812201 (oddP b q n), eInt 911000 (pickV b (oddP b q n) 4), eI 911201 (oddP b q n + 1), eInt 1413000 (pickV b (oddP b q n + 1) 4), eI 1413201 (oddP b q n + 1 + 1)], fun _ x => match x with | ⟨k, q, l⟩ => (4 - k).toNat⟩ noLps)) [(0, fun s => (0, ((((s.kl (mkT [(17, fun s => s.osl_ 5 1)] (mkM true [2, 2, 3, 21, 1, 20]))).upd [(6, xi 100000001)]).cell 0 0 1 (xi 100000002)).own ((s.kl (mkT [(17, fun s => s.osl_ 5 1)] (mkM true [2, 2, 3, 21, 1, 20]))).at_ 5) 0 1 kItvItv (.rws kItvItv 100000003 .nil)).gc 1))] [.ptr 0 2 (.int .i64 0) 0, xInt 10] [rdX 0 (xLU8 1) (xi 2)] (fun ⟨t0, t1, t2, t3⟩ => by simp (maxSteps := 1000000) only [go_sem, Nat.reduceEqDiff, Nat.reduceAdd, Nat.reduceBEq, Int.reduceToNat]) (fun ⟨t0, t1, t2, t3⟩ => by simp (maxSteps := 1000000) only [go_sem, Nat.reduceEqDiff, Nat.reduceAdd, Nat.reduceBEq, Int.reduceToNat]) (.agg (.cons (.atb 900 .nil) (.cons (.osl 1 2 (.int .i64 0) (.rln (.rws kItvItv 901 .nil))) (.cons (.ati .i64 902 .nil) (.cons (.ati .i64 903 .nil) .nil))))) [rdX 0 (xLU8 951) (xi 952), ⟨1, kItvItv, .rws kItvItv 901 .nil⟩] (fun a : AbsState × Int => p ≤ a.2 ∧ a.2 ≤ p + 120 ∧ a.1.Vars.length ≤ 4) (fun a => mkEs [eAbsState 900 a.1, eLU8 951 b, eI 952 a.2]) ⟨(zAbsState, p), by simp [zAbsState] <;> omega⟩ ?_
 · obtain ⟨a, h2, h3⟩ := key
   simp only [go_sem, Nat.reduceEqDiff, Nat.reduceAdd, Nat.reduceBEq, Int.reduceToNat] at h3
   exact ⟨a, h2, h3⟩
 conv => arg 1; ext t; arg 4; cbv
 simp (maxSteps := 4000000) only [V.ExL, lput, consL, go_sem, Nat.reduceEqDiff, Nat.reduceAdd, Nat.reduceBEq, Int.reduceToNat, Nat.reduceDiv, Nat.reduceMod]
 iterate 4 apply Exists.intro
 try dsimp +instances only
 repeat' (first | with_reducible apply And.intro | intro _)
 all_goals first | exact odd_e (b := b) (by grind) (by grind) | exact itv_e (b := b) (by grind) (by grind) | exact pick_e (b := b) (by grind) (by grind) | (refine ⟨_, _, _, _, _, ?_, rfl, rfl, rfl, rfl, rfl⟩; (repeat' (first | with_reducible apply And.intro | intro _)); all_goals first | grind [wrapI] | grind (splits := 24) [wrapI] | exact sel_lo (by decide) | exact sel_hi (by decide) | (simp only [List.length_map, List.length_cons, List.length_nil]; omega) | ((repeat' split) <;> grind [wrapI])) | ((repeat (with_reducible apply Exists.intro)); (refine And.intro ?_ ?_); rotate_left; (repeat' (first | with_reducible exact rfl | with_reducible apply And.intro)); all_goals (first | grind [wrapI] | grind (splits := 24) [wrapI] | exact sel_lo (by decide) | exact sel_hi (by decide) | (simp only [List.length_map, List.length_cons, List.length_nil]; omega) | ((repeat' split) <;> grind [wrapI]) | ((repeat' (first | with_reducible apply And.intro | intro _)); all_goals first | grind [wrapI] | grind (splits := 24) [wrapI] | exact sel_lo (by decide) | exact sel_hi (by decide) | (simp only [List.length_map, List.length_cons, List.length_nil]; omega) | ((repeat' split) <;> grind [wrapI])))) | grind [wrapI] | grind (splits := 24) [wrapI] | exact sel_lo (by decide) | exact sel_hi (by decide) | (simp only [List.length_map, List.length_cons, List.length_nil]; omega) | ((repeat' split) <;> grind [wrapI]) | exact (0 : Int)
open Classical in
noncomputable def stateF (b : List UInt8) (p : Int) (n : Int) : AbsState × Int := if h : 0 ≤ p ∧ p + 120 ≤ 1000000000 then (state_x b p n h.1 h.2).choose else (zAbsState, p)
noncomputable def stateV (b : List UInt8) (p : Int) (n : Int) : AbsState := (stateF b p n).1
noncomputable def stateP (b : List UInt8) (p : Int) (n : Int) : Int := (stateF b p n).2
theorem state_e {b : List UInt8} {p : Int} {n : Int} (h0 : 0 ≤ p) (h1 : p + 120 ≤ 1000000000) : EC Tryz.prog 52 1 [.ptr 0 2 0 0, CI n] (rdH b p) (.agg [CB (stateV b p n).On, .osl 1 2 0 (stateV b p n).Vars.length, CI (stateV b p n).Cells.Lo, CI (stateV b p n).Cells.Hi]) (rdH b (stateP b p n) ++ [(1, .c 2 ((stateV b p n).Vars.map (fun x => (dItvItv x).map C.d)))]) 2 := by
 have := (state_x b p n h0 h1).choose_spec.2
 simp only [stateV, stateP, stateF, dif_pos (show 0 ≤ p ∧ p + 120 ≤ 1000000000 from ⟨h0, h1⟩)]; exact this
@[grind =] theorem state_i {b : List UInt8} {p : Int} {n : Int} : stateP b p n = max p (min (stateP b p n) (p + 120)) := by
 simp only [stateP, stateF]
 split
 · rename_i h; have := (state_x b p n h.1 h.2).choose_spec.1; omega
 · omega
end Go.Proofs.YtjakhnhnjhafgaaGreat.Wk
namespace Go.Proofs.YtjakhnhnjhafgaaGreat.Wk
open Go Go.RowKit Go.Deep Ow
set_option maxRecDepth 100000
theorem open_e {b : List UInt8} : EC Tryz.prog 46 0 [.d (.sl 1 (b.map dU8))] [] (.ptr 0 2 0 0) (rdH (b.take 2000) 0) 1 := by
 refine (seat [] []).PB (mkM true []) (fn := Tryz.f46) ⟨by kernel_rfl, by kernel_rfl, rfl⟩ (show (0 : Nat) ≤ 1 by decide) (mkEs [eLU8 10 b, eLU8 60 (b.take 2000)]) noLps []
  [xLU8 10] [] ?_ rfl (.ptr 0 2 (.int .i64 0) 0) [rdX 0 (xLU8 60) (.int .i64 0)] rfl ?_ (fun _ => ?_)
 · simp only [go_sem, Nat.reduceEqDiff, Nat.reduceAdd, Int.reduceToNat]
 · simp only [go_sem, Nat.reduceEqDiff, Nat.reduceAdd]
 conv => arg 4; cbv
 simp only [go_sem, Nat.reduceEqDiff, Nat.reduceAdd, Nat.reduceBEq, Int.reduceToNat]
 refine ⟨by omega, ?_⟩
 rw [List.drop_zero, Nat.sub_zero]
 split
 · rw [List.map_take]
 · rename_i h
   rw [List.take_of_length_le (by have := of_decide_eq_false (Bool.eq_false_iff.2 h); omega)]
end Go.Proofs.YtjakhnhnjhafgaaGreat.Wk
