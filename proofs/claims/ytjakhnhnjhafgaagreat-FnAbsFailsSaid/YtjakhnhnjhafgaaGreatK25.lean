/- A part of the proof. -/
import Derived.Test.YtjakhnhnjhafgaaGreatK24
set_option linter.unusedVariables false
set_option linter.unusedSimpArgs false
namespace Go.Proofs.YtjakhnhnjhafgaaGreat.Wk
open Go Go.RowKit Go.Deep Ow
set_option maxRecDepth 100000
def l7Given (p : PrgProg) (i : InsIns) : ItvItv := ⟨(p.Procs.getD i.To.toNat zPrcProc).Lo, (p.Procs.getD i.To.toNat zPrcProc).Hi⟩
theorem l7Given_e {p0 : List PrcProc} {i0 : Int} {i1 : Int} {i2 : Int} {i3 : Int} {i4 : Int} {i5 : Int} {i6 : Int} {i7 : Int} {r : ItvItv} (hi : 0 ≤ (⟨i0, i1, i2, i3, i4, i5, i6, i7⟩ : InsIns).To) (hj : (⟨i0, i1, i2, i3, i4, i5, i6, i7⟩ : InsIns).To < (⟨p0⟩ : PrgProg).Procs.length) (h : l7Given (⟨p0⟩ : PrgProg) (⟨i0, i1, i2, i3, i4, i5, i6, i7⟩ : InsIns) = r) : EC Tryz.prog 61 0 [.agg [.d (.sl 3 (p0.map dPrcProc))], .agg [CI i0, CI i1, CI i2, CI i3, CI i4, CI i5, CI i6, CI i7]] [] (.agg [CI r.Lo, CI r.Hi]) [] 0 := by
 subst h
 refine (seat [] []).PU (mkM true []) (fn := Tryz.f61) ⟨by kernel_rfl, by kernel_rfl, rfl⟩ (mkEs [ePrgProg 10 ⟨p0⟩, eInsIns 30 ⟨i0, i1, i2, i3, i4, i5, i6, i7⟩]) noLps [] [xPrgProg 10, xInsIns 30] (by simp only [go_sem, Nat.reduceEqDiff, Nat.reduceAdd, Nat.reduceBEq, Int.reduceToNat]) (fun _ => ?_)
 conv => arg 4; cbv
 simp only [go_sem, Nat.reduceEqDiff, Nat.reduceAdd, Nat.reduceBEq, Int.reduceToNat]
 grind [l7Given]
def l7Fit (p : PrgProg) (i : InsIns) (s : AbsState) : Bool := prgOk p && insOk i p.Procs.length 10 && absOk s && s.On
theorem l7Fit_e {p0 : List PrcProc} {i0 : Int} {i1 : Int} {i2 : Int} {i3 : Int} {i4 : Int} {i5 : Int} {i6 : Int} {i7 : Int} {s0 : Bool} {s1 : List ItvItv} {s2 : Int} {s3 : Int} {r : Bool} (h : l7Fit (⟨p0⟩ : PrgProg) (⟨i0, i1, i2, i3, i4, i5, i6, i7⟩ : InsIns) (⟨s0, s1, ⟨s2, s3⟩⟩ : AbsState) = r) : EC Tryz.prog 57 0 [.agg [.d (.sl 3 (p0.map dPrcProc))], .agg [CI i0, CI i1, CI i2, CI i3, CI i4, CI i5, CI i6, CI i7], .agg [CB s0, .d (.sl 2 (s1.map dItvItv)), CI s2, CI s3]] [] (CB r) [] 0 := by
 subst h
 refine (seat [] []).PU (mkM true []) (fn := Tryz.f57) ⟨by kernel_rfl, by kernel_rfl, rfl⟩ (mkEs [ePrgProg 10 ⟨p0⟩, eInsIns 30 ⟨i0, i1, i2, i3, i4, i5, i6, i7⟩, eAbsState 50 ⟨s0, s1, ⟨s2, s3⟩⟩, eB 111000 (prgOk (⟨p0⟩ : PrgProg)), eB 117000 (insOk (⟨i0, i1, i2, i3, i4, i5, i6, i7⟩ : InsIns) (⟨p0⟩ : PrgProg).Procs.length 10), eB 121000 (absOk (⟨s0, s1, ⟨s2, s3⟩⟩ : AbsState))]) noLps [] [xPrgProg 10, xInsIns 30, xAbsState 50] (by simp only [go_sem, Nat.reduceEqDiff, Nat.reduceAdd, Nat.reduceBEq, Int.reduceToNat]) (fun _ => ?_)
 conv => arg 4; cbv
 simp only [go_sem, Nat.reduceEqDiff, Nat.reduceAdd, Nat.reduceBEq, Int.reduceToNat, PrgOk_e, InsOk_e, AbsOk_e]
 grind [l7Fit]
def absFails (p : PrgProg) (i : InsIns) (s : AbsState) : Bool :=
 l7Fit p i s && (if i.Op = 4 then itvHas (s.Vars.getD i.B.toNat zItvItv) 0
 else if i.Op = 6 ∨ i.Op = 7 then !itvIn (s.Vars.getD i.A.toNat zItvItv) ⟨0, 3⟩
 else if i.Op = 10 then !itvIn (s.Vars.getD i.A.toNat zItvItv) (l7Given p i)
 else if i.Op = 11 then (itvNot i.Rel (s.Vars.getD i.A.toNat zItvItv) (s.Vars.getD i.B.toNat zItvItv)).2.2
 else false)
theorem absOk_len {s : AbsState} (h : absOk s = true) (h1 : s.On = true) : s.Vars.length = 4 := by simp [absOk, h1] at h; exact h.1.1
theorem fit_facts {p : PrgProg} {i : InsIns} {s : AbsState} (h : l7Fit p i s = true) : prgOk p = true ∧ insOk i p.Procs.length 10 = true ∧ s.Vars.length = 4 ∧ s.On = true := by
 simp only [l7Fit, Bool.and_eq_true] at h
 obtain ⟨⟨⟨h1, h2⟩, h3⟩, h4⟩ := h
 refine ⟨h1, h2, ?_, h4⟩
 simp [absOk, h4] at h3; exact h3.1.1
theorem ins_vars {i : InsIns} {n m : Int} (h : insOk i n m = true) : 0 ≤ i.D ∧ i.D < 4 ∧ 0 ≤ i.A ∧ i.A < 4 ∧ 0 ≤ i.B ∧ i.B < 4 ∧ (i.Op = 10 → 0 ≤ i.To ∧ i.To < n) := by
 simp only [insOk, Bool.and_eq_true, decide_eq_true_eq, varOk, restOk] at h
 obtain ⟨⟨⟨⟨⟨⟨h1, h2⟩, h3⟩, h4⟩, h5⟩, h6⟩, h7⟩ := h
 refine ⟨by omega, by omega, by omega, by omega, by omega, by omega, fun e => ?_⟩
 simp [e, below] at h7
 omega
theorem AbsFails_e {p0 : List PrcProc} {i0 : Int} {i1 : Int} {i2 : Int} {i3 : Int} {i4 : Int} {i5 : Int} {i6 : Int} {i7 : Int} {s0 : Bool} {s1 : List ItvItv} {s2 : Int} {s3 : Int} {r : Bool} (h : absFails (⟨p0⟩ : PrgProg) (⟨i0, i1, i2, i3, i4, i5, i6, i7⟩ : InsIns) (⟨s0, s1, ⟨s2, s3⟩⟩ : AbsState) = r) : EC Tryz.prog 10 0 [.agg [.d (.sl 3 (p0.map dPrcProc))], .agg [CI i0, CI i1, CI i2, CI i3, CI i4, CI i5, CI i6, CI i7], .agg [CB s0, .d (.sl 2 (s1.map dItvItv)), CI s2, CI s3]] [] (CB r) [] 0 := by
 subst h
 refine (seat [] []).PU (mkM true [7, 2, 1, 6, 1, 9, 1, 46]) (fn := Tryz.f10) ⟨by kernel_rfl, by kernel_rfl, rfl⟩ (mkEs [ePrgProg 10 ⟨p0⟩, eInsIns 30 ⟨i0, i1, i2, i3, i4, i5, i6, i7⟩, eAbsState 50 ⟨s0, s1, ⟨s2, s3⟩⟩, eB 113000 (l7Fit (⟨p0⟩ : PrgProg) (⟨i0, i1, i2, i3, i4, i5, i6, i7⟩ : InsIns) (⟨s0, s1, ⟨s2, s3⟩⟩ : AbsState)), eB 516000 (itvHas ((⟨s0, s1, ⟨s2, s3⟩⟩ : AbsState).Vars.getD (⟨i0, i1, i2, i3, i4, i5, i6, i7⟩ : InsIns).B.toNat zItvItv) 0), eItvItv 816000 ⟨0, 3⟩, eB 817000 (itvIn ((⟨s0, s1, ⟨s2, s3⟩⟩ : AbsState).Vars.getD (⟨i0, i1, i2, i3, i4, i5, i6, i7⟩ : InsIns).A.toNat zItvItv) ⟨0, 3⟩), eItvItv 1018000 (l7Given (⟨p0⟩ : PrgProg) (⟨i0, i1, i2, i3, i4, i5, i6, i7⟩ : InsIns)), eB 1019000 (itvIn ((⟨s0, s1, ⟨s2, s3⟩⟩ : AbsState).Vars.getD (⟨i0, i1, i2, i3, i4, i5, i6, i7⟩ : InsIns).A.toNat zItvItv) (l7Given (⟨p0⟩ : PrgProg) (⟨i0, i1, i2, i3, i4, i5, i6, i7⟩ : InsIns))), eItvItv 1224000 (itvNot (⟨i0, i1, i2, i3, i4, i5, i6, i7⟩ : InsIns).Rel ((⟨s0, s1, ⟨s2, s3⟩⟩ : AbsState).Vars.getD (⟨i0, i1, i2, i3, i4, i5, i6, i7⟩ : InsIns).A.toNat zItvItv) ((⟨s0, s1, ⟨s2, s3⟩⟩ : AbsState).Vars.getD (⟨i0, i1, i2, i3, i4, i5, i6, i7⟩ : InsIns).B.toNat zItvItv)).1, eItvItv 1224030 (itvNot (⟨i0, i1, i2, i3, i4, i5, i6, i7⟩ : InsIns).Rel ((⟨s0, s1, ⟨s2, s3⟩⟩ : AbsState).Vars.getD (⟨i0, i1, i2, i3, i4, i5, i6, i7⟩ : InsIns).A.toNat zItvItv) ((⟨s0, s1, ⟨s2, s3⟩⟩ : AbsState).Vars.getD (⟨i0, i1, i2, i3, i4, i5, i6, i7⟩ : InsIns).B.toNat zItvItv)).2.1, eB 1224060 (itvNot (⟨i0, i1, i2, i3, i4, i5, i6, i7⟩ : InsIns).Rel ((⟨s0, s1, ⟨s2, s3⟩⟩ : AbsState).Vars.getD (⟨i0, i1, i2, i3, i4, i5, i6, i7⟩ : InsIns).A.toNat zItvItv) ((⟨s0, s1, ⟨s2, s3⟩⟩ : AbsState).Vars.getD (⟨i0, i1, i2, i3, i4, i5, i6, i7⟩ : InsIns).B.toNat zItvItv)).2.2]) noLps [] [xPrgProg 10, xInsIns 30, xAbsState 50] (by simp only [go_sem, Nat.reduceEqDiff, Nat.reduceAdd, Nat.reduceBEq, Int.reduceToNat]) (fun _ => ?_)
 conv => arg 4; cbv
 simp only [go_sem, Nat.reduceEqDiff, Nat.reduceAdd, Nat.reduceBEq, Int.reduceToNat]
 repeat' (first | with_reducible apply And.intro | intro _)
 all_goals first | exact l7Fit_e rfl | exact ItvHas_e rfl | exact ItvIn_e rfl | exact l7Places_e rfl | exact ItvNot_e rfl rfl rfl | (have F := fit_facts (by assumption); have I := ins_vars F.2.1; first | exact l7Given_e (by grind) (by grind) rfl | grind [absFails, wrapI]) | grind [absFails, wrapI] | skip
end Go.Proofs.YtjakhnhnjhafgaaGreat.Wk
namespace Go.Proofs.YtjakhnhnjhafgaaGreat.Wk
open Go Go.RowKit Go.Deep Ow
set_option maxRecDepth 100000
theorem iNumOk_e {n : Int} {r : Bool} (h : numOk n = r) : EC Tryz.prog 63 0 [CI n] [] (CB r) [] 0 := by
 subst h
 refine (seat [] []).PU (mkM true []) (fn := Tryz.f63) ⟨by kernel_rfl, by kernel_rfl, rfl⟩ (mkEs [eInt 10 n]) noLps [] [xInt 10] (by simp only [go_sem, Nat.reduceEqDiff, Nat.reduceAdd, Nat.reduceBEq, Int.reduceToNat]) (fun _ => ?_)
 conv => arg 4; cbv
 simp only [go_sem, Nat.reduceEqDiff, Nat.reduceAdd, Nat.reduceBEq, Int.reduceToNat]
 simp [numOk]
theorem iItvOk_e {a0 : Int} {a1 : Int} {r : Bool} (h : itvOk (⟨a0, a1⟩ : ItvItv) = r) : EC Tryz.prog 113 0 [.agg [CI a0, CI a1]] [] (CB r) [] 0 := by
 subst h
 refine (seat [] []).PU (mkM true []) (fn := Tryz.f113) ⟨by kernel_rfl, by kernel_rfl, rfl⟩ (mkEs [eItvItv 10 ⟨a0, a1⟩, eB 112000 (numOk (⟨a0, a1⟩ : ItvItv).Lo), eB 116000 (numOk (⟨a0, a1⟩ : ItvItv).Hi)]) noLps [] [xItvItv 10] (by simp only [go_sem, Nat.reduceEqDiff, Nat.reduceAdd, Nat.reduceBEq, Int.reduceToNat]) (fun _ => ?_)
 conv => arg 4; cbv
 simp only [go_sem, Nat.reduceEqDiff, Nat.reduceAdd, Nat.reduceBEq, Int.reduceToNat, iNumOk_e]
 simp [itvOk, Bool.and_assoc]
theorem bothOk_e {a0 : Int} {a1 : Int} {b0 : Int} {b1 : Int} {r : Bool} (h : (itvOk (⟨a0, a1⟩ : ItvItv) && itvOk (⟨b0, b1⟩ : ItvItv)) = r) : EC Tryz.prog 170 0 [.agg [CI a0, CI a1], .agg [CI b0, CI b1]] [] (CB r) [] 0 := by
 subst h
 refine (seat [] []).PU (mkM true []) (fn := Tryz.f170) ⟨by kernel_rfl, by kernel_rfl, rfl⟩ (mkEs [eItvItv 10 ⟨a0, a1⟩, eItvItv 30 ⟨b0, b1⟩, eB 111000 (itvOk (⟨a0, a1⟩ : ItvItv)), eB 114000 (itvOk (⟨b0, b1⟩ : ItvItv))]) noLps [] [xItvItv 10, xItvItv 30] (by simp only [go_sem, Nat.reduceEqDiff, Nat.reduceAdd, Nat.reduceBEq, Int.reduceToNat]) (fun _ => ?_)
 conv => arg 4; cbv
 simp only [go_sem, Nat.reduceEqDiff, Nat.reduceAdd, Nat.reduceBEq, Int.reduceToNat, iItvOk_e]
theorem iItvHas_e {a0 : Int} {a1 : Int} {n : Int} {r : Bool} (h : itvHas (⟨a0, a1⟩ : ItvItv) n = r) : EC Tryz.prog 108 0 [.agg [CI a0, CI a1], CI n] [] (CB r) [] 0 := by
 subst h
 refine (seat [] []).PU (mkM true []) (fn := Tryz.f108) ⟨by kernel_rfl, by kernel_rfl, rfl⟩ (mkEs [eItvItv 10 ⟨a0, a1⟩, eInt 30 n, eB 111000 (itvOk (⟨a0, a1⟩ : ItvItv))]) noLps [] [xItvItv 10, xInt 30] (by simp only [go_sem, Nat.reduceEqDiff, Nat.reduceAdd, Nat.reduceBEq, Int.reduceToNat]) (fun _ => ?_)
 conv => arg 4; cbv
 simp only [go_sem, Nat.reduceEqDiff, Nat.reduceAdd, Nat.reduceBEq, Int.reduceToNat, iItvOk_e]
 grind [itvHas, l1In]
theorem iItvIn_e {a0 : Int} {a1 : Int} {b0 : Int} {b1 : Int} {r : Bool} (h : itvIn (⟨a0, a1⟩ : ItvItv) (⟨b0, b1⟩ : ItvItv) = r) : EC Tryz.prog 123 0 [.agg [CI a0, CI a1], .agg [CI b0, CI b1]] [] (CB r) [] 0 := by
 subst h
 refine (seat [] []).PU (mkM true []) (fn := Tryz.f123) ⟨by kernel_rfl, by kernel_rfl, rfl⟩ (mkEs [eItvItv 10 ⟨a0, a1⟩, eItvItv 30 ⟨b0, b1⟩, eB 112000 (itvOk (⟨a0, a1⟩ : ItvItv) && itvOk (⟨b0, b1⟩ : ItvItv))]) noLps [] [xItvItv 10, xItvItv 30] (by simp only [go_sem, Nat.reduceEqDiff, Nat.reduceAdd, Nat.reduceBEq, Int.reduceToNat]) (fun _ => ?_)
 conv => arg 4; cbv
 simp only [go_sem, Nat.reduceEqDiff, Nat.reduceAdd, Nat.reduceBEq, Int.reduceToNat, bothOk_e]
 grind [itvIn]
theorem cellIndexes_e {r : ItvItv} (h : (⟨0, 3⟩ : ItvItv) = r) : EC Tryz.prog 124 0 [] [] (.agg [CI r.Lo, CI r.Hi]) [] 0 := by
 subst h
 refine (seat [] []).PU (mkM true []) (fn := Tryz.f124) ⟨by kernel_rfl, by kernel_rfl, rfl⟩ (mkEs []) noLps [] [] (by simp only [go_sem, Nat.reduceEqDiff, Nat.reduceAdd, Nat.reduceBEq, Int.reduceToNat]) (fun _ => ?_)
 conv => arg 4; cbv
 simp only [go_sem, Nat.reduceEqDiff, Nat.reduceAdd, Nat.reduceBEq, Int.reduceToNat]
theorem cutItv_e {a0 : Int} {a1 : Int} {lo : Int} {hi : Int} {r : ItvItv} (h : (⟨mx (⟨a0, a1⟩ : ItvItv).Lo lo, mn (⟨a0, a1⟩ : ItvItv).Hi hi⟩ : ItvItv) = r) : EC Tryz.prog 190 0 [.agg [CI a0, CI a1], CI lo, CI hi] [] (.agg [CI r.Lo, CI r.Hi]) [] 0 := by
 subst h
 refine (seat [] []).PU (mkM true []) (fn := Tryz.f190) ⟨by kernel_rfl, by kernel_rfl, rfl⟩ (mkEs [eItvItv 10 ⟨a0, a1⟩, eInt 30 lo, eInt 50 hi]) noLps [] [xItvItv 10, xInt 30, xInt 50] (by simp only [go_sem, Nat.reduceEqDiff, Nat.reduceAdd, Nat.reduceBEq, Int.reduceToNat]) (fun _ => ?_)
 conv => arg 4; cbv
 simp only [go_sem, Nat.reduceEqDiff, Nat.reduceAdd, Nat.reduceBEq, Int.reduceToNat]
def without (a b : ItvItv) : ItvItv := if b.Lo ≠ b.Hi then a else if a.Lo = b.Lo then ⟨IntKind.i64.wrap (a.Lo + 1), a.Hi⟩ else if a.Hi = b.Lo then ⟨a.Lo, IntKind.i64.wrap (a.Hi - 1)⟩ else a
theorem without_e {a0 : Int} {a1 : Int} {b0 : Int} {b1 : Int} {r : ItvItv} (h : without (⟨a0, a1⟩ : ItvItv) (⟨b0, b1⟩ : ItvItv) = r) : EC Tryz.prog 192 0 [.agg [CI a0, CI a1], .agg [CI b0, CI b1]] [] (.agg [CI r.Lo, CI r.Hi]) [] 0 := by
 subst h
 refine (seat [] []).PU (mkM true []) (fn := Tryz.f192) ⟨by kernel_rfl, by kernel_rfl, rfl⟩ (mkEs [eItvItv 10 ⟨a0, a1⟩, eItvItv 30 ⟨b0, b1⟩]) noLps [] [xItvItv 10, xItvItv 30] (by simp only [go_sem, Nat.reduceEqDiff, Nat.reduceAdd, Nat.reduceBEq, Int.reduceToNat]) (fun _ => ?_)
 conv => arg 4; cbv
 simp only [go_sem, Nat.reduceEqDiff, Nat.reduceAdd, Nat.reduceBEq, Int.reduceToNat]
 grind [without]
theorem lessRel_e {a0 : Int} {a1 : Int} {b0 : Int} {b1 : Int} {r0 : ItvItv} {r1 : ItvItv} (h0 : (((⟨mx (⟨a0, a1⟩ : ItvItv).Lo (-32768), mn (⟨a0, a1⟩ : ItvItv).Hi (IntKind.i64.wrap ((⟨b0, b1⟩ : ItvItv).Hi - 1))⟩ : ItvItv), (⟨mx (⟨b0, b1⟩ : ItvItv).Lo (IntKind.i64.wrap ((⟨a0, a1⟩ : ItvItv).Lo + 1)), mn (⟨b0, b1⟩ : ItvItv).Hi 32767⟩ : ItvItv))).1 = r0) (h1 : (((⟨mx (⟨a0, a1⟩ : ItvItv).Lo (-32768), mn (⟨a0, a1⟩ : ItvItv).Hi (IntKind.i64.wrap ((⟨b0, b1⟩ : ItvItv).Hi - 1))⟩ : ItvItv), (⟨mx (⟨b0, b1⟩ : ItvItv).Lo (IntKind.i64.wrap ((⟨a0, a1⟩ : ItvItv).Lo + 1)), mn (⟨b0, b1⟩ : ItvItv).Hi 32767⟩ : ItvItv))).2 = r1) : EC Tryz.prog 252 0 [.agg [], .agg [CI a0, CI a1], .agg [CI b0, CI b1]] [] (.tup [.agg [CI r0.Lo, CI r0.Hi], .agg [CI r1.Lo, CI r1.Hi]]) [] 0 := by
 subst h0 h1
 refine (seat [] []).PU (mkM true []) (fn := Tryz.f252) ⟨by kernel_rfl, by kernel_rfl, rfl⟩ (mkEs [eItvItv 30 ⟨a0, a1⟩, eItvItv 50 ⟨b0, b1⟩, eItvItv 114000 ⟨mx (⟨a0, a1⟩ : ItvItv).Lo (-32768), mn (⟨a0, a1⟩ : ItvItv).Hi (IntKind.i64.wrap ((⟨b0, b1⟩ : ItvItv).Hi - 1))⟩, eItvItv 119000 ⟨mx (⟨b0, b1⟩ : ItvItv).Lo (IntKind.i64.wrap ((⟨a0, a1⟩ : ItvItv).Lo + 1)), mn (⟨b0, b1⟩ : ItvItv).Hi 32767⟩]) noLps [] [.agg .nil, xItvItv 30, xItvItv 50] (by simp only [go_sem, Nat.reduceEqDiff, Nat.reduceAdd, Nat.reduceBEq, Int.reduceToNat]) (fun _ => ?_)
 conv => arg 4; cbv
 simp only [go_sem, Nat.reduceEqDiff, Nat.reduceAdd, Nat.reduceBEq, Int.reduceToNat]
 repeat' (first | with_reducible apply And.intro | intro _)
 all_goals first | exact cutItv_e rfl | rfl | skip
theorem mostRel_e {a0 : Int} {a1 : Int} {b0 : Int} {b1 : Int} {r0 : ItvItv} {r1 : ItvItv} (h0 : (((⟨mx (⟨a0, a1⟩ : ItvItv).Lo (-32768), mn (⟨a0, a1⟩ : ItvItv).Hi (⟨b0, b1⟩ : ItvItv).Hi⟩ : ItvItv), (⟨mx (⟨b0, b1⟩ : ItvItv).Lo (⟨a0, a1⟩ : ItvItv).Lo, mn (⟨b0, b1⟩ : ItvItv).Hi 32767⟩ : ItvItv))).1 = r0) (h1 : (((⟨mx (⟨a0, a1⟩ : ItvItv).Lo (-32768), mn (⟨a0, a1⟩ : ItvItv).Hi (⟨b0, b1⟩ : ItvItv).Hi⟩ : ItvItv), (⟨mx (⟨b0, b1⟩ : ItvItv).Lo (⟨a0, a1⟩ : ItvItv).Lo, mn (⟨b0, b1⟩ : ItvItv).Hi 32767⟩ : ItvItv))).2 = r1) : EC Tryz.prog 253 0 [.agg [], .agg [CI a0, CI a1], .agg [CI b0, CI b1]] [] (.tup [.agg [CI r0.Lo, CI r0.Hi], .agg [CI r1.Lo, CI r1.Hi]]) [] 0 := by
 subst h0 h1
 refine (seat [] []).PU (mkM true []) (fn := Tryz.f253) ⟨by kernel_rfl, by kernel_rfl, rfl⟩ (mkEs [eItvItv 30 ⟨a0, a1⟩, eItvItv 50 ⟨b0, b1⟩, eItvItv 113000 ⟨mx (⟨a0, a1⟩ : ItvItv).Lo (-32768), mn (⟨a0, a1⟩ : ItvItv).Hi (⟨b0, b1⟩ : ItvItv).Hi⟩, eItvItv 117000 ⟨mx (⟨b0, b1⟩ : ItvItv).Lo (⟨a0, a1⟩ : ItvItv).Lo, mn (⟨b0, b1⟩ : ItvItv).Hi 32767⟩]) noLps [] [.agg .nil, xItvItv 30, xItvItv 50] (by simp only [go_sem, Nat.reduceEqDiff, Nat.reduceAdd, Nat.reduceBEq, Int.reduceToNat]) (fun _ => ?_)
 conv => arg 4; cbv
 simp only [go_sem, Nat.reduceEqDiff, Nat.reduceAdd, Nat.reduceBEq, Int.reduceToNat]
 repeat' (first | with_reducible apply And.intro | intro _)
 all_goals first | exact cutItv_e rfl | rfl | skip
theorem sameRel_e {a0 : Int} {a1 : Int} {b0 : Int} {b1 : Int} {r0 : ItvItv} {r1 : ItvItv} (h0 : (((⟨mx (⟨a0, a1⟩ : ItvItv).Lo (⟨b0, b1⟩ : ItvItv).Lo, mn (⟨a0, a1⟩ : ItvItv).Hi (⟨b0, b1⟩ : ItvItv).Hi⟩ : ItvItv), (⟨mx (⟨a0, a1⟩ : ItvItv).Lo (⟨b0, b1⟩ : ItvItv).Lo, mn (⟨a0, a1⟩ : ItvItv).Hi (⟨b0, b1⟩ : ItvItv).Hi⟩ : ItvItv))).1 = r0) (h1 : (((⟨mx (⟨a0, a1⟩ : ItvItv).Lo (⟨b0, b1⟩ : ItvItv).Lo, mn (⟨a0, a1⟩ : ItvItv).Hi (⟨b0, b1⟩ : ItvItv).Hi⟩ : ItvItv), (⟨mx (⟨a0, a1⟩ : ItvItv).Lo (⟨b0, b1⟩ : ItvItv).Lo, mn (⟨a0, a1⟩ : ItvItv).Hi (⟨b0, b1⟩ : ItvItv).Hi⟩ : ItvItv))).2 = r1) : EC Tryz.prog 251 0 [.agg [], .agg [CI a0, CI a1], .agg [CI b0, CI b1]] [] (.tup [.agg [CI r0.Lo, CI r0.Hi], .agg [CI r1.Lo, CI r1.Hi]]) [] 0 := by
 subst h0 h1
 refine (seat [] []).PU (mkM true []) (fn := Tryz.f251) ⟨by kernel_rfl, by kernel_rfl, rfl⟩ (mkEs [eItvItv 30 ⟨a0, a1⟩, eItvItv 50 ⟨b0, b1⟩, eItvItv 115000 ⟨mx (⟨a0, a1⟩ : ItvItv).Lo (⟨b0, b1⟩ : ItvItv).Lo, mn (⟨a0, a1⟩ : ItvItv).Hi (⟨b0, b1⟩ : ItvItv).Hi⟩]) noLps [] [.agg .nil, xItvItv 30, xItvItv 50] (by simp only [go_sem, Nat.reduceEqDiff, Nat.reduceAdd, Nat.reduceBEq, Int.reduceToNat]) (fun _ => ?_)
 conv => arg 4; cbv
 simp only [go_sem, Nat.reduceEqDiff, Nat.reduceAdd, Nat.reduceBEq, Int.reduceToNat]
 repeat' (first | with_reducible apply And.intro | intro _)
 all_goals first | exact cutItv_e rfl | rfl | skip
theorem otherRel_e {a0 : Int} {a1 : Int} {b0 : Int} {b1 : Int} {r0 : ItvItv} {r1 : ItvItv} (h0 : ((without (⟨a0, a1⟩ : ItvItv) (⟨b0, b1⟩ : ItvItv), without (⟨b0, b1⟩ : ItvItv) (⟨a0, a1⟩ : ItvItv))).1 = r0) (h1 : ((without (⟨a0, a1⟩ : ItvItv) (⟨b0, b1⟩ : ItvItv), without (⟨b0, b1⟩ : ItvItv) (⟨a0, a1⟩ : ItvItv))).2 = r1) : EC Tryz.prog 254 0 [.agg [], .agg [CI a0, CI a1], .agg [CI b0, CI b1]] [] (.tup [.agg [CI r0.Lo, CI r0.Hi], .agg [CI r1.Lo, CI r1.Hi]]) [] 0 := by
 subst h0 h1
 refine (seat [] []).PU (mkM true []) (fn := Tryz.f254) ⟨by kernel_rfl, by kernel_rfl, rfl⟩ (mkEs [eItvItv 30 ⟨a0, a1⟩, eItvItv 50 ⟨b0, b1⟩, eItvItv 112000 (without (⟨a0, a1⟩ : ItvItv) (⟨b0, b1⟩ : ItvItv)), eItvItv 115000 (without (⟨b0, b1⟩ : ItvItv) (⟨a0, a1⟩ : ItvItv))]) noLps [] [.agg .nil, xItvItv 30, xItvItv 50] (by simp only [go_sem, Nat.reduceEqDiff, Nat.reduceAdd, Nat.reduceBEq, Int.reduceToNat]) (fun _ => ?_)
 conv => arg 4; cbv
 simp only [go_sem, Nat.reduceEqDiff, Nat.reduceAdd, Nat.reduceBEq, Int.reduceToNat]
 repeat' (first | with_reducible apply And.intro | intro _)
 all_goals first | exact without_e rfl | rfl | skip
end Go.Proofs.YtjakhnhnjhafgaaGreat.Wk
namespace Go.Proofs.YtjakhnhnjhafgaaGreat.Wk
open Go Go.RowKit Go.Deep Ow
set_option maxRecDepth 100000
theorem owOk_e {r : Bool} (h : true = r) : EC Tryz.prog 11 0 [] [] (CB r) [] 0 := by
 subst h
 refine (seat [] []).PU (mkM true []) (fn := Tryz.f11) ⟨by kernel_rfl, by kernel_rfl, rfl⟩ (mkEs [eB 110000 true]) noLps [] [] (by simp only [go_sem, Nat.reduceEqDiff, Nat.reduceAdd, Nat.reduceBEq, Int.reduceToNat]) (fun _ => ?_)
 conv => arg 4; cbv
 simp only [go_sem, Nat.reduceEqDiff, Nat.reduceAdd, Nat.reduceBEq, Int.reduceToNat, iNumOk_e]
 first | done | exact iNumOk_e rfl | simp [iNumOk_e, numOk]
theorem iInsRisks_e {op : Int} {r : Bool} (h : insRisks op = r) : EC Tryz.prog 12 0 [CI op] [] (CB r) [] 0 := by
 subst h
 refine (seat [] []).PU (mkM true []) (fn := Tryz.f12) ⟨by kernel_rfl, by kernel_rfl, rfl⟩ (mkEs [eInt 10 op]) noLps [] [xInt 10] (by simp only [go_sem, Nat.reduceEqDiff, Nat.reduceAdd, Nat.reduceBEq, Int.reduceToNat]) (fun _ => ?_)
 conv => arg 4; cbv
 simp only [go_sem, Nat.reduceEqDiff, Nat.reduceAdd, Nat.reduceBEq, Int.reduceToNat]
 grind [insRisks]
def loneIns (i : InsIns) : InsIns := ⟨i.Op, i.D, i.A, i.B, i.Rel, i.Lo, i.Hi, if i.Op = 10 then 0 else if i.Op = 8 ∨ i.Op = 9 then 1 else i.To⟩
def owLone (i : InsIns) : PrgProg := ⟨[⟨-32768, 32767, [loneIns i, ⟨12, 0, 0, 0, 0, 0, 0, 0⟩]⟩]⟩
end Go.Proofs.YtjakhnhnjhafgaaGreat.Wk
namespace Go.Proofs.YtjakhnhnjhafgaaGreat.Wk
open Go Go.RowKit Go.Deep Ow
theorem lone_eq {i : InsIns} (h : i.Op = 4 ∨ i.Op = 6 ∨ i.Op = 7 ∨ i.Op = 11) : loneIns i = i := by
 obtain ⟨o, d, a, b, r, l, hi, t⟩ := i
 have h1 : ¬ o = 10 := by simp only at h; omega
 have h2 : ¬ (o = 8 ∨ o = 9) := by simp only at h; omega
 simp [loneIns, h1, h2]
theorem lone_ok {i : InsIns} {n : Int} (h : insOk i n 10 = true) (hop : i.Op = 4 ∨ i.Op = 6 ∨ i.Op = 7 ∨ i.Op = 11) : prgOk (owLone i) = true := by
 have hi : insOk i 1 2 = true := by
  have hr : restOk i 1 2 = restOk i n 10 := by
   have h5 : ¬ i.Op = 5 := by omega
   have h8 : ¬ i.Op = 8 := by omega
   have h9 : ¬ i.Op = 9 := by omega
   have h10 : ¬ i.Op = 10 := by omega
   simp only [restOk, h5, h8, h9, h10, if_false]
  simpa only [insOk, hr] using h
 have he : loneIns i = i := lone_eq hop
 simp only [prgOk, owLone, he, List.length_cons, List.length_nil, List.all_cons, List.all_nil, Bool.and_true, procOk]
 have hz : insOk ⟨12, 0, 0, 0, 0, 0, 0, 0⟩ 1 2 = true := by decide
 simp [hi, hz, itvOk, numOk, insEnds]
theorem step_lone {i : InsIns} {n : Int} {V : List Int} (h : insOk i n 10 = true) (hop : i.Op = 4 ∨ i.Op = 6 ∨ i.Op = 7 ∨ i.Op = 11) (hV : numsOk V 4 = true) :
 runStep (owLone i) ⟨1, [⟨0, 0, V, [0, 0, 0, 0]⟩], 0, 0, 0⟩ 0 = stepAt (owLone i) [⟨0, 0, V, [0, 0, 0, 0]⟩] ⟨0, 0, V, [0, 0, 0, 0]⟩ i 0 := by
 have hp := lone_ok h hop
 have hat : prgAt (owLone i) 0 0 = some i := by simp [prgAt, owLone, lone_eq hop]
 have hC : numsOk [0, 0, 0, 0] 4 = true := by decide
 have hok : runOk (owLone i) ⟨1, [⟨0, 0, V, [0, 0, 0, 0]⟩], 0, 0, 0⟩ = true := by
  simp [runOk, hp, nestOk, frameOk, hat, hV, hC, numOk]
 rw [runStep, hok, if_pos rfl, if_pos rfl]
 simp [stepped, hat]
theorem fail_div {i : InsIns} {p : PrgProg} {fs : List RunFrame} {f : RunFrame} (hop : i.Op = 4) (hb : getI f.Vars i.B = 0) : (stepAt p fs f i 0).State = 3 := by
 have h4 : i.Op ≤ 4 := by omega
 simp [stepAt, hop, hb, numDo, runFail]
theorem fail_cell {i : InsIns} {p : PrgProg} {fs : List RunFrame} {f : RunFrame} (hop : i.Op = 6 ∨ i.Op = 7) (ha : below (getI f.Vars i.A) 4 = false) : (stepAt p fs f i 0).State = 3 := by
 rcases hop with h | h <;> simp [stepAt, h, ha, runFail]
theorem fail_assert {i : InsIns} {p : PrgProg} {fs : List RunFrame} {f : RunFrame} (hop : i.Op = 11) (ha : relHolds i.Rel (getI f.Vars i.A) (getI f.Vars i.B) = false) : (stepAt p fs f i 0).State = 3 := by
 simp [stepAt, hop, ha, runFail]
theorem not_ends {rel : Int} {a b : ItvItv} (h : (itvNot rel a b).2.2 = true) (ha : itvOk a = true) (hb : itvOk b = true) (hr : 1 ≤ rel ∧ rel ≤ 4) :
 relHolds rel a.Hi b.Lo = false ∨ relHolds rel a.Lo b.Lo = false ∨ relHolds rel a.Lo b.Hi = false ∨ relHolds rel a.Hi b.Hi = false ∨ (relHolds rel (mx a.Lo b.Lo) (mx a.Lo b.Lo) = false) := by
 obtain ⟨a0, a1⟩ := a
 obtain ⟨b0, b1⟩ := b
 have ha' := ha
 have hb' := hb
 simp only [itvOk, numOk, Bool.and_eq_true, decide_eq_true_eq] at ha hb
 have w1 : IntKind.i64.wrap (a0 + 1) = a0 + 1 := by rw [wrapI] <;> omega
 have w2 : IntKind.i64.wrap (a1 - 1) = a1 - 1 := by rw [wrapI] <;> omega
 have w3 : IntKind.i64.wrap (b0 + 1) = b0 + 1 := by rw [wrapI] <;> omega
 have w4 : IntKind.i64.wrap (b1 - 1) = b1 - 1 := by rw [wrapI] <;> omega
 rcases (by omega : rel = 1 ∨ rel = 2 ∨ rel = 3 ∨ rel = 4) with rfl | rfl | rfl | rfl
 · simp [itvNot, itvRel, ha', hb', l2Both, relHolds] at h ⊢ <;> grind
 · simp [itvNot, itvRel, ha', hb', l2Both, relHolds, w1, w4, w2, w3] at h ⊢ <;> grind
 · simp [itvNot, itvRel, ha', hb', l2Other, l2Cut, relHolds] at h ⊢ <;> grind
 · right; right; right; right
   simp [relHolds]
def tryB (i : InsIns) (s1 : List ItvItv) (x : Int) : List Int := (s1.map (·.Lo)).modify i.A.toNat fun _ => sel [(s1.getD i.A.toNat zItvItv).Lo, (s1.getD i.A.toNat zItvItv).Hi] (x.tmod 2)
def tryC (i : InsIns) (s1 : List ItvItv) (x : Int) : List Int := (tryB i s1 x).modify i.B.toNat fun _ => sel [(s1.getD i.B.toNat zItvItv).Lo, (s1.getD i.B.toNat zItvItv).Hi] ((IntKind.i64.wrap (x.tdiv 2)).tmod 2)
def tryD (i : InsIns) (s1 : List ItvItv) (x : Int) : List Int := (tryC i s1 x).modify i.A.toNat fun _ => if decide ((s1.getD i.A.toNat zItvItv).Lo < (s1.getD i.B.toNat zItvItv).Lo) = true then (s1.getD i.B.toNat zItvItv).Lo else (s1.getD i.A.toNat zItvItv).Lo
def tryVars (i : InsIns) (s1 : List ItvItv) (x : Int) : List Int :=
 if (i.Op == 4) = true then (tryB i s1 x).modify i.B.toNat fun _ => 0
 else if (i.Op == 11) = true then
  if decide (3 < x) = true then (tryD i s1 x).modify i.B.toNat fun _ => (tryD i s1 x).getD i.A.toNat 0
  else tryC i s1 x
 else tryB i s1 x
theorem getI_same {l : List Int} {k : Int} {f : Int → Int} (h0 : 0 ≤ k) (h : k < l.length) : getI (l.modify k.toNat f) k = f (getI l k) := by
 unfold getI
 have h' : k.toNat < l.length := by omega
 rw [List.getD_eq_getElem?_getD, List.getD_eq_getElem?_getD, List.getElem?_modify_eq, List.getElem?_eq_getElem h']
 rfl
theorem getI_other {l : List Int} {j k : Int} {f : Int → Int} (h0 : 0 ≤ j) (h1 : 0 ≤ k) (h : j ≠ k) : getI (l.modify j.toNat f) k = getI l k := by
 unfold getI
 have hne : ¬ j.toNat = k.toNat := by omega
 simp [List.getElem?_modify, hne]
theorem nums_modify {l : List Int} {n : Nat} {v : Int} (h : numsOk l 4 = true) (hv : numOk v = true) : numsOk (l.modify n fun _ => v) 4 = true := by
 simp only [numsOk, Bool.and_eq_true, List.length_modify, List.all_eq_true] at h ⊢
 refine ⟨h.1, fun x hx => ?_⟩
 obtain ⟨j, hj, rfl⟩ := List.getElem_of_mem hx
 rw [List.getElem_modify]
 split
 · exact hv
 · exact h.2 _ (List.getElem_mem _)
theorem sel_num {a b : Int} (ha : numOk a = true) (hb : numOk b = true) (x : Int) : numOk (sel [a, b] x) = true := by
 rcases sel_mem [a, b] x with e | e
 · rw [e]; decide
 · simp only [List.mem_cons, List.not_mem_nil, or_false] at e
   rcases e with e | e <;> rw [e] <;> assumption
theorem itv_at {s : AbsState} (h : absOk s = true) (hon : s.On = true) {k : Int} (h0 : 0 ≤ k) (h4 : k < 4) : itvOk (s.Vars.getD k.toNat zItvItv) = true ∧ getI (s.Vars.map (·.Lo)) k = (s.Vars.getD k.toNat zItvItv).Lo := by
 have hl := absOk_len h hon
 have hk : k.toNat < s.Vars.length := by omega
 simp only [absOk, hon, if_true, Bool.and_eq_true, List.all_eq_true] at h
 rw [List.getD_eq_getElem?_getD, List.getElem?_eq_getElem hk]
 refine ⟨h.2 _ (List.getElem_mem _), ?_⟩
 unfold getI
 rw [List.getD_eq_getElem?_getD, List.getElem?_map, List.getElem?_eq_getElem hk]
 rfl
theorem itv_nums {a : ItvItv} (h : itvOk a = true) : numOk a.Lo = true ∧ numOk a.Hi = true ∧ a.Lo ≤ a.Hi := by
 simp only [itvOk, Bool.and_eq_true, decide_eq_true_eq] at h
 exact ⟨h.1.1, h.1.2, h.2⟩
theorem tries_nums {i : InsIns} {s : AbsState} (h : absOk s = true) (hon : s.On = true) (hA : 0 ≤ i.A ∧ i.A < 4) (hB : 0 ≤ i.B ∧ i.B < 4) (x : Int) : numsOk (tryB i s.Vars x) 4 = true ∧ numsOk (tryC i s.Vars x) 4 = true ∧ numsOk (tryD i s.Vars x) 4 = true := by
 have hl := absOk_len h hon
 have h0 : numsOk (s.Vars.map (·.Lo)) 4 = true := by
  simp only [absOk, hon, if_true, Bool.and_eq_true, List.all_eq_true] at h
  simp only [numsOk, Bool.and_eq_true, List.all_eq_true, List.length_map]
  refine ⟨by simp [hl], fun y hy => ?_⟩
  obtain ⟨a, ha, rfl⟩ := List.mem_map.1 hy
  exact (itv_nums (h.2 a ha)).1
 obtain ⟨a1, a2, a3⟩ := itv_nums (itv_at h hon hA.1 hA.2).1
 obtain ⟨b1, b2, b3⟩ := itv_nums (itv_at h hon hB.1 hB.2).1
 have hb := nums_modify (n := i.A.toNat) h0 (sel_num a1 a2 (x.tmod 2))
 have hc := nums_modify (n := i.B.toNat) hb (sel_num b1 b2 ((IntKind.i64.wrap (x.tdiv 2)).tmod 2))
 refine ⟨hb, hc, nums_modify hc ?_⟩
 split <;> assumption
theorem tries {p : PrgProg} {i : InsIns} {s : AbsState} (h : absFails p i s = true) (hr : insRisks i.Op = true) (hab : ¬ (i.Op = 11 ∧ i.A = i.B)) (h10 : ¬ i.Op = 10) :
 ∃ k : Int, 0 ≤ k ∧ k < 6 ∧ (runStep (owLone i) ⟨1, [⟨0, 0, tryVars i s.Vars k, [0, 0, 0, 0]⟩], 0, 0, 0⟩ 0).State = 3 := by
 have hfit : l7Fit p i s = true := by simp only [absFails, Bool.and_eq_true] at h; exact h.1
 have hval : (if i.Op = 4 then itvHas (s.Vars.getD i.B.toNat zItvItv) 0
  else if i.Op = 6 ∨ i.Op = 7 then !itvIn (s.Vars.getD i.A.toNat zItvItv) ⟨0, 3⟩
  else if i.Op = 10 then !itvIn (s.Vars.getD i.A.toNat zItvItv) (l7Given p i)
  else if i.Op = 11 then (itvNot i.Rel (s.Vars.getD i.A.toNat zItvItv) (s.Vars.getD i.B.toNat zItvItv)).2.2
  else false) = true := by simp only [absFails, Bool.and_eq_true] at h; exact h.2
 obtain ⟨hp, hi, hl, hon⟩ := fit_facts hfit
 have hok : absOk s = true := by simp only [l7Fit, Bool.and_eq_true] at hfit; exact hfit.1.2
 obtain ⟨d0, d4, a0, a4, b0, b4, -⟩ := ins_vars hi
 have hops : i.Op = 4 ∨ i.Op = 6 ∨ i.Op = 7 ∨ i.Op = 11 := by
  simp only [insRisks, Bool.or_eq_true, beq_iff_eq] at hr; omega
 obtain ⟨ia, la⟩ := itv_at hok hon a0 a4
 obtain ⟨ib, lb⟩ := itv_at hok hon b0 b4
 generalize ha : s.Vars.getD i.A.toNat zItvItv = a at *
 generalize hb : s.Vars.getD i.B.toNat zItvItv = b at *
 obtain ⟨na, na', nle⟩ := itv_nums ia
 obtain ⟨nb, nb', nlb⟩ := itv_nums ib
 have hlen : ∀ x, (tryB i s.Vars x).length = 4 ∧ (tryC i s.Vars x).length = 4 ∧ (tryD i s.Vars x).length = 4 := fun x => by simp [tryB, tryC, tryD, hl]
 have gB : ∀ x, getI (tryB i s.Vars x) i.A = sel [a.Lo, a.Hi] (x.tmod 2) := fun x => by
  unfold tryB; rw [getI_same a0 (by simp [hl]; omega), ha]
 have hN := fun x => tries_nums (i := i) hok hon ⟨a0, a4⟩ ⟨b0, b4⟩ x
 have key : ∀ k : Int, 0 ≤ k → k < 6 → numsOk (tryVars i s.Vars k) 4 = true → (stepAt (owLone i) [⟨0, 0, tryVars i s.Vars k, [0, 0, 0, 0]⟩] ⟨0, 0, tryVars i s.Vars k, [0, 0, 0, 0]⟩ i 0).State = 3 → ∃ k : Int, 0 ≤ k ∧ k < 6 ∧ (runStep (owLone i) ⟨1, [⟨0, 0, tryVars i s.Vars k, [0, 0, 0, 0]⟩], 0, 0, 0⟩ 0).State = 3 := fun k h0 h6 hn hs =>
  ⟨k, h0, h6, by rw [step_lone hi hops hn]; exact hs⟩
 rcases hops with h4 | h67 | h67 | h11
 · have e : tryVars i s.Vars 0 = (tryB i s.Vars 0).modify i.B.toNat fun _ => 0 := by simp [tryVars, h4]
   refine key 0 (by omega) (by omega) (by rw [e]; exact nums_modify (hN 0).1 (by decide)) (fail_div h4 ?_)
   show getI (tryVars i s.Vars 0) i.B = 0
   rw [e, getI_same b0 (by rw [(hlen 0).1]; omega)]
 · have e : ∀ x, tryVars i s.Vars x = tryB i s.Vars x := fun x => by simp [tryVars, h67]
   simp [h67, itvIn, ia] at hval
   by_cases hlo : 0 ≤ a.Lo
   · refine key 1 (by omega) (by omega) (by rw [e]; exact (hN 1).1) (fail_cell (.inl h67) ?_)
     show below (getI (tryVars i s.Vars 1) i.A) 4 = false
     rw [e, gB]
     have : sel [a.Lo, a.Hi] (Int.tmod 1 2) = a.Hi := rfl
     rw [this]
     have h3 : itvOk ⟨0, 3⟩ = true := by decide
     simp only [below, Bool.and_eq_false_iff, decide_eq_false_iff_not]
     grind
   · refine key 0 (by omega) (by omega) (by rw [e]; exact (hN 0).1) (fail_cell (.inl h67) ?_)
     show below (getI (tryVars i s.Vars 0) i.A) 4 = false
     rw [e, gB]
     have : sel [a.Lo, a.Hi] (Int.tmod 0 2) = a.Lo := rfl
     rw [this]
     simp only [below, Bool.and_eq_false_iff, decide_eq_false_iff_not]
     omega
 · have e : ∀ x, tryVars i s.Vars x = tryB i s.Vars x := fun x => by simp [tryVars, h67]
   simp [h67, itvIn, ia] at hval
   by_cases hlo : 0 ≤ a.Lo
   · refine key 1 (by omega) (by omega) (by rw [e]; exact (hN 1).1) (fail_cell (.inr h67) ?_)
     show below (getI (tryVars i s.Vars 1) i.A) 4 = false
     rw [e, gB]
     have : sel [a.Lo, a.Hi] (Int.tmod 1 2) = a.Hi := rfl
     rw [this]
     have h3 : itvOk ⟨0, 3⟩ = true := by decide
     simp only [below, Bool.and_eq_false_iff, decide_eq_false_iff_not]
     grind
   · refine key 0 (by omega) (by omega) (by rw [e]; exact (hN 0).1) (fail_cell (.inr h67) ?_)
     show below (getI (tryVars i s.Vars 0) i.A) 4 = false
     rw [e, gB]
     have : sel [a.Lo, a.Hi] (Int.tmod 0 2) = a.Lo := rfl
     rw [this]
     simp only [below, Bool.and_eq_false_iff, decide_eq_false_iff_not]
     omega
 · have hne : i.A ≠ i.B := fun h => hab ⟨h11, h⟩
   have hrel : 1 ≤ i.Rel ∧ i.Rel ≤ 4 := by
    simp only [insOk, Bool.and_eq_true, restOk, h11] at hi
    have := hi.2
    simp [relOk] at this
    exact this
   have hnot : (itvNot i.Rel a b).2.2 = true := by simpa [h11] using hval
   have gC : ∀ x, getI (tryC i s.Vars x) i.A = sel [a.Lo, a.Hi] (x.tmod 2) := fun x => by
    unfold tryC; rw [getI_other b0 a0 (Ne.symm hne), gB]
   have gC2 : ∀ x, getI (tryC i s.Vars x) i.B = sel [b.Lo, b.Hi] ((IntKind.i64.wrap (x.tdiv 2)).tmod 2) := fun x => by
    unfold tryC; rw [getI_same b0 (by rw [(hlen x).1]; omega), hb]
   have e : ∀ x, ¬ 3 < x → tryVars i s.Vars x = tryC i s.Vars x := fun x hx => by simp [tryVars, h11, hx]
   have low : ∀ (k : Int) (u v : Int), 0 ≤ k → k ≤ 3 → sel [a.Lo, a.Hi] (k.tmod 2) = u → sel [b.Lo, b.Hi] ((IntKind.i64.wrap (k.tdiv 2)).tmod 2) = v → relHolds i.Rel u v = false → ∃ k : Int, 0 ≤ k ∧ k < 6 ∧ (runStep (owLone i) ⟨1, [⟨0, 0, tryVars i s.Vars k, [0, 0, 0, 0]⟩], 0, 0, 0⟩ 0).State = 3 := fun k u v h0 h3 hu hv hh =>
    key k h0 (by omega) (by rw [e k (by omega)]; exact (hN k).2.1) (fail_assert h11 (by
     show relHolds i.Rel (getI (tryVars i s.Vars k) i.A) (getI (tryVars i s.Vars k) i.B) = false
     rw [e k (by omega), gC, gC2, hu, hv]; exact hh))
   rcases not_ends hnot ia ib hrel with h | h | h | h | h
   · exact low 1 _ _ (by omega) (by omega) rfl rfl h
   · exact low 0 _ _ (by omega) (by omega) rfl rfl h
   · exact low 2 _ _ (by omega) (by omega) rfl rfl h
   · exact low 3 _ _ (by omega) (by omega) rfl rfl h
   · have e4 : tryVars i s.Vars 4 = (tryD i s.Vars 4).modify i.B.toNat fun _ => (tryD i s.Vars 4).getD i.A.toNat 0 := by simp [tryVars, h11]
     have gD : getI (tryD i s.Vars 4) i.A = mx a.Lo b.Lo := by
      unfold tryD; rw [getI_same a0 (by rw [(hlen 4).2.1]; omega), ha, hb]
     have gD' : (tryD i s.Vars 4).getD i.A.toNat 0 = mx a.Lo b.Lo := gD
     have nm : numOk (mx a.Lo b.Lo) = true := by unfold mx; split <;> assumption
     refine key 4 (by omega) (by omega) (by rw [e4, gD']; exact nums_modify (hN 4).2.2 nm) (fail_assert h11 ?_)
     show relHolds i.Rel (getI (tryVars i s.Vars 4) i.A) (getI (tryVars i s.Vars 4) i.B) = false
     rw [e4, gD', getI_same b0 (by rw [(hlen 4).2.2]; omega), getI_other b0 a0 (Ne.symm hne), gD]
     exact h
end Go.Proofs.YtjakhnhnjhafgaaGreat.Wk
namespace Ow
open Go Go.RowKit Go.Deep
def litL : List C → Option (List Value)
 | [] => some []
 | .d (.lit v) :: cs => if v.oneCell' then (litL cs).map (v :: ·) else none
 | _ :: _ => none
def litT : List C → Option (List Value)
 | [] => some []
 | .d (.lit v) :: cs => (litT cs).map (v :: ·)
 | .agg az :: cs => (litL az).bind (fun a => (litT cs).map (.agg a.toArray :: ·))
 | _ :: _ => none
section
variable {ρ : Pl} {RO : Nat → Prop} {w : World}
theorem litL_ok : ∀ {cs : List C} {us : List Value}, litL cs = some us → us.length = cs.length ∧ (∀ v ∈ us, v.oneCell' = true) ∧ (∀ (i : Nat) (c : C) (v : Value), cs[i]? = some c → us[i]? = some v → RelC ρ RO w c v) := by
 intro cs
 induction cs with
 | nil => intro us h; cases h; exact ⟨rfl, by simp, fun i c v h => by simp at h⟩
 | cons c cs ih =>
   intro us h
   unfold litL at h
   split at h
   · rename_i h0; cases h0
   · rename_i x cs' h0
     cases h0
     split at h
     · rename_i hone
       cases hc : litL cs with
       | none => rw [hc] at h; cases h
       | some us' =>
         rw [hc] at h
         cases h
         obtain ⟨h1, h2, h3⟩ := ih hc
         refine ⟨by simp [h1], fun v hv => ?_, fun i c v hc hv => ?_⟩
         · rcases List.mem_cons.1 hv with rfl | hv
           · exact hone
           · exact h2 v hv
         · cases i with
           | zero => cases hc; cases hv; exact .d _ _ (.lit _)
           | succ i => exact h3 i c v hc hv
     · cases h
   · cases h
theorem litT_ok : ∀ {cs : List C} {us : List Value}, litT cs = some us → us.length = cs.length ∧ (∀ (i : Nat) (c : C) (v : Value), cs[i]? = some c → us[i]? = some v → RelC ρ RO w c v) := by
 intro cs
 induction cs with
 | nil => intro us h; cases h; exact ⟨rfl, fun i c v h => by simp at h⟩
 | cons c cs ih =>
   intro us h
   unfold litT at h
   split at h
   · rename_i h0; cases h0
   · rename_i x cs' h0
     cases h0
     cases hc : litT cs with
     | none => rw [hc] at h; cases h
     | some us' =>
       rw [hc] at h
       cases h
       obtain ⟨h1, h3⟩ := ih hc
       refine ⟨by simp [h1], fun i c v hc hv => ?_⟩
       cases i with
       | zero => cases hc; cases hv; exact .d _ _ (.lit _)
       | succ i => exact h3 i c v hc hv
   · rename_i az cs' h0
     cases h0
     cases ha : litL az with
     | none => rw [ha] at h; cases h
     | some a =>
       cases hc : litT cs with
       | none => rw [ha, hc] at h; cases h
       | some us' =>
         rw [ha, hc] at h
         cases h
         obtain ⟨h1, h3⟩ := ih hc
         obtain ⟨g1, g2, g3⟩ := litL_ok (ρ := ρ) (RO := RO) (w := w) ha
         refine ⟨by simp [h1], fun i c v hc hv => ?_⟩
         cases i with
         | zero => cases hc; cases hv; exact .agg _ _ g1 g2 g3
         | succ i => exact h3 i c v hc hv
   · cases h
theorem litT_rel {T : List C} {us : List Value} (h : litT T = some us) : RelT ρ RO w T us.toArray := by
 obtain ⟨h1, h2⟩ := litT_ok (ρ := ρ) (RO := RO) (w := w) h
 exact ⟨by simpa using h1, fun i c v hc hv => h2 i c v hc (by simpa using hv)⟩
def litR : C → Option Value
 | .d (.lit v) => some v
 | .agg az => (valL az).map fun a => .agg a.toArray
 | .tup az => (valT az).map fun a => .tuple a.toArray
 | _ => none
theorem litR_ok {c : C} {u v : Value} (h : litR c = some u) (hr : RelC ρ RO w c v) : v = u := by
 unfold litR at h
 split at h
 · cases h; exact RelC.lit hr
 · rename_i az
   cases ha : valL az with
   | none => rw [ha] at h; cases h
   | some a =>
     rw [ha] at h; cases h
     cases hr with
     | agg cs vs hl one rel => rw [valL_ok ha hl rel]
 · rename_i az
   cases ha : valT az with
   | none => rw [ha] at h; cases h
   | some a =>
     rw [ha] at h; cases h
     cases hr with
     | tup cs vs hl rel => rw [valT_ok ha hl rel]
 · cases h
end
theorem EC.calls {P : Program} {f : FuncId} {args : List C} {val : C} {RO : Nat → Prop} {w : World} {vs : Array Value} (e : EC P f 0 args [] val [] 0) (hro : ∀ b, RO b → b < w.heap.size) (ha : RelT (fun _ => none) RO w args vs) :
 Calls P f vs w fun e w' => ∃ RO' v, e = .returned v ∧ Chg [] w w' ∧ (∀ b, RO b → RO' b) ∧ (∀ b, RO' b → RO b ∨ w.heap.size ≤ b) ∧ (∀ b, RO' b → b < w'.heap.size) ∧ RelC (fun _ => none) RO' w' val v := by
 refine (e.2.2 (fun _ => none) (fun _ => []) RO w vs ⟨fun l B h => (by cases h), fun l l' B B' _ h => (by cases h), fun l B h => (by cases h), hro⟩ (fun l h => absurd rfl h) ha).mono ?_
 rintro e w' ⟨ρ', F', RO', v, he, hx, hv, hρ⟩
 have hn : ρ' = fun _ => none := funext fun l => by
  cases hl : ρ' l with
  | none => rfl
  | some p => exact absurd (hρ l (by rw [hl]; exact nofun)) (Nat.not_lt_zero l)
 subst hn
 refine ⟨RO', v, he, (hx.chg.mono (fun b hb => ?_)).to, hx.ro, fun b hb => ?_, hx.sim.ro, hv⟩
 · obtain ⟨l, B, h, _⟩ := hb; cases h
 · rcases hx.ro' b hb with h | h | h
   · exact .inl h
   · obtain ⟨l, B, h, _⟩ := h; cases h
   · exact .inr h
theorem EC.lit {P : Program} {f : FuncId} {args : List C} {val : C} {us : List Value} {u : Value} (e : EC P f 0 args [] val [] 0) (ha : litT args = some us) (hv : litR val = some u) (w : World) :
 Calls P f us.toArray w fun e w' => e = .returned u ∧ Chg [] w w' := by
 refine (e.calls (RO := fun _ => False) (w := w) (fun b h => h.elim) (litT_rel ha)).mono ?_
 rintro e w' ⟨RO', v, rfl, hc, -, -, -, hr⟩
 exact ⟨by rw [litR_ok hv hr], hc⟩
def litV : C → Option Value
 | .d (.lit v) => some v
 | .agg az => (litL az).map fun a => .agg a.toArray
 | .tup az => (litT az).map fun a => .tuple a.toArray
 | _ => none
theorem litV_ok {ρ : Pl} {RO : Nat → Prop} {w : World} {c : C} {u : Value} (h : litV c = some u) : RelC ρ RO w c u := by
 unfold litV at h
 split at h
 · cases h; exact .d _ _ (.lit _)
 · rename_i az
   cases ha : litL az with
   | none => rw [ha] at h; cases h
   | some a =>
     rw [ha] at h; cases h
     obtain ⟨h1, h2, h3⟩ := litL_ok (ρ := ρ) (RO := RO) (w := w) ha
     exact .agg _ _ h1 h2 h3
 · rename_i az
   cases ha : litT az with
   | none => rw [ha] at h; cases h
   | some a =>
     rw [ha] at h; cases h
     obtain ⟨h1, h3⟩ := litT_ok (ρ := ρ) (RO := RO) (w := w) ha
     exact .tup _ _ h1 h3
 · cases h
theorem EC.ofVal {P : Program} {f : FuncId} {args : List C} {val : C} {u : Value} (hf : FnOk P f) (hv : litV val = some u) (h : ∀ (ρ : Pl) (RO : Nat → Prop) (w : World) (vs : Array Value), (∀ b, RO b → b < w.heap.size) → RelT ρ RO w args vs → Calls P f vs w fun e w' => e = .returned u ∧ Chg [] w w') :
 EC P f 0 args [] val [] 0 :=
 ⟨hf, Nat.le_refl _, fun ρ F RO w vs hs hρ ha => (h ρ RO w vs hs.ro ha).mono (fun e w' ⟨he, hc⟩ => ⟨ρ, F, RO, u, he,
   ⟨(ChgP.of hc).mono (fun b hb => by cases hb), fun _ _ => rfl, fun _ h => h, fun _ h => .inl h,
     ⟨fun l B h => (by cases h), fun l l' B B' _ h => (by cases h), fun l B h => (by cases h), fun b hb => Nat.lt_of_lt_of_le (hs.ro b hb) hc.size⟩,
     fun b ⟨l, B, h, _⟩ => (by cases h)⟩, litV_ok hv, hρ⟩)⟩
end Ow
namespace Ow
open Go Go.RowKit Go.Deep
class Bo (α : Type) [Rp α] where
 d : α → List D
 ok : α → Prop
 len : ∀ x, (d x).length = Rp.sz α
 to : ∀ {RO : Nat → Prop} {w : World} {x : α} {vs : List Value}, (∀ b, RO b → b < w.heap.size) → ok x → vs.length = (d x).length → (∀ (j : Nat) (c : D) (u : Value), (d x)[j]? = some c → vs[j]? = some u → RelD RO w c u) → ∃ F, (∀ b ∈ F, RO b) ∧ Rp.R w x vs F
 of : ∀ {w : World} {x : α} {vs : List Value} {F : List Nat}, Rp.R w x vs F → ∀ (j : Nat) (c : D) (u : Value), (d x)[j]? = some c → vs[j]? = some u → RelD (· ∈ F) w c u
theorem one_of {vs : List Value} (h : vs.length = 1) : ∃ v, vs = [v] := by
 match vs, h with | [v], _ => exact ⟨v, rfl⟩
instance : Bo Int where
 d x := [.lit (.int .i64 x)]
 ok x := I64 x
 len _ := rfl
 to := fun _ ho hl h => by
  obtain ⟨v, rfl⟩ := one_of hl
  have := h 0 _ v rfl rfl
  cases this
  exact ⟨[], by simp, rfl, rfl, ho⟩
 of := fun h j c u hc hu => by
  obtain ⟨rfl, rfl, -⟩ := h
  match j, hc, hu with
  | 0, hc, hu => cases hc; cases hu; exact .lit _
instance {α β : Type} [Rp α] [Rp β] [Bo α] [Bo β] : Bo (α × β) where
 d x := Bo.d x.1 ++ Bo.d x.2
 ok x := Bo.ok x.1 ∧ Bo.ok x.2
 len x := by rw [List.length_append, Bo.len, Bo.len]; rfl
 to := fun {RO w x vs} hro ho hl h => by
  rw [List.length_append] at hl
  obtain ⟨F1, h1, r1⟩ := Bo.to (x := x.1) (vs := vs.take (Bo.d x.1).length) hro ho.1 (by rw [List.length_take]; omega) (fun j c u hc hu => by
   have hj := (List.getElem?_eq_some_iff.1 hc).1
   exact h j c u (by rw [List.getElem?_append_left hj]; exact hc) (by rw [List.getElem?_take, if_pos hj] at hu; exact hu))
  obtain ⟨F2, h2, r2⟩ := Bo.to (x := x.2) (vs := vs.drop (Bo.d x.1).length) hro ho.2 (by rw [List.length_drop]; omega) (fun j c u hc hu =>
   h ((Bo.d x.1).length + j) c u (by rw [List.getElem?_append_right (by omega), Nat.add_sub_cancel_left]; exact hc) (by rw [List.getElem?_drop] at hu; exact hu))
  exact ⟨F1 ++ F2, fun b hb => (List.mem_append.1 hb).elim (h1 b) (h2 b), _, _, F1, F2, (List.take_append_drop _ vs).symm, rfl, r1, r2⟩
 of := fun {w x vs F} h j c u hc hu => by
  obtain ⟨c1, c2, F1, F2, rfl, rfl, h1, h2⟩ := h
  have e1 : c1.length = (Bo.d x.1).length := by rw [Bo.len]; exact Rp.len h1
  rcases Nat.lt_or_ge j (Bo.d x.1).length with hj | hj
  · rw [List.getElem?_append_left hj] at hc
    rw [List.getElem?_append_left (by omega)] at hu
    exact (Bo.of h1 j c u hc hu).mono (fun b hb => List.mem_append.2 (.inl hb)) (fun _ _ => rfl)
  · rw [List.getElem?_append_right hj] at hc
    rw [List.getElem?_append_right (by omega), e1] at hu
    exact (Bo.of h2 _ c u hc hu).mono (fun b hb => List.mem_append.2 (.inr hb)) (fun _ _ => rfl)
@[reducible] def Bo.by_ {α β : Type} [Rp β] [Bo β] (f : α → β) : @Bo α (Rp.by_ f) :=
 letI := Rp.by_ f
 { d := fun x => Bo.d (f x), ok := fun x => Bo.ok (f x), len := fun x => Bo.len (f x), to := fun {_ _ x _} hro ho hl h => Bo.to (α := β) (x := f x) hro ho hl h, of := fun {_ x _ _} h => Bo.of (α := β) (x := f x) h }
theorem RL.ofD {α : Type} [Rp α] [Bo α] {RO : Nat → Prop} {w : World} {xs : List α} {v : Value} (hro : ∀ b, RO b → b < w.heap.size) (hx : xs ≠ []) (ho : ∀ x ∈ xs, Bo.ok x) (h : RelD RO w (.sl (Rp.sz α) (xs.map Bo.d)) v) :
 ∃ F, (∀ b ∈ F, RO b) ∧ RL w xs v F := by
 generalize he : xs.map Bo.d = els at h
 cases h with
 | nil sz A cap hc => exact absurd (List.map_eq_nil_iff.1 he) hx
 | sl sz els b off cap U hb hn hc hr cell one rel =>
   subst he
   rw [List.length_map] at hn ⊢
   have hat : ∀ (i : Nat) (hi : i < xs.length) (j : Nat) (c : D), (Bo.d xs[i])[j]? = some c → at2 (xs.map Bo.d) i j = some c := fun i hi j c hc => by
    simp [at2, List.getElem?_eq_getElem hi, hc]
   have key : ∀ i, ∃ F : List Nat, (∀ b ∈ F, RO b) ∧ ∀ hi : i < xs.length, Rp.R w xs[i] ((List.range (Rp.sz α)).map (U i)) F := fun i => by
    by_cases hi : i < xs.length
    · obtain ⟨F, h1, h2⟩ := Bo.to (x := xs[i]) (vs := (List.range (Rp.sz α)).map (U i)) hro (ho _ (List.getElem_mem hi)) (by simp [Bo.len]) (fun j c u hc hu => by
       have hj := (List.getElem?_eq_some_iff.1 hc).1
       rw [Bo.len] at hj
       rw [List.getElem?_map, List.getElem?_range hj] at hu
       cases hu
       exact rel i j c (hat i hi j c hc))
      exact ⟨F, h1, fun _ => h2⟩
    · exact ⟨[], by simp, fun h => absurd h hi⟩
   refine ⟨footOf b xs.length (fun i => (key i).choose), fun g hg => ?_, some ⟨b, off, none⟩, cap, rfl, hn, hc, ?_⟩
   · simp only [footOf, List.mem_cons, List.mem_flatMap, List.mem_range] at hg
     rcases hg with rfl | ⟨i, -, hi⟩
     · exact hb
     · exact (key i).choose_spec.1 g hi
   · refine .inr ⟨b, off, fun i => (List.range (Rp.sz α)).map (U i), fun i => (key i).choose, rfl, rfl, hx, hro b hb, fun i hi j hj => ?_, fun i hi => (key i).choose_spec.2 hi⟩
     have hj' : j < (Bo.d xs[i]).length := by rw [Bo.len]; exact hj
     rw [cell i j _ (hat i hi j _ (List.getElem?_eq_getElem hj'))]
     simp [hj]
theorem RL.toD {α : Type} [Rp α] [Bo α] {w : World} {xs : List α} {v : Value} {F : List Nat} (h : RL w xs v F) : RelD (· ∈ F) w (.sl (Rp.sz α) (xs.map Bo.d)) v := by
 obtain ⟨A, cap, rfl, hl, hm, h4⟩ := h
 rcases h4 with ⟨rfl, rfl, -⟩ | ⟨b, off, C, Fs, rfl, rfl, hx, hrow⟩
 · exact .nil _ _ _ hm
 · have key : ∀ i j x, at2 (xs.map Bo.d) i j = some x → ∃ (hi : i < xs.length), (Bo.d xs[i])[j]? = some x ∧ j < Rp.sz α := fun i j x hx => by
    obtain ⟨hi, hj, e⟩ := at2_lt hx
    rw [List.length_map] at hi
    refine ⟨hi, ?_, ?_⟩
    · simp only [List.getElem_map] at e hj
      rw [List.getElem?_eq_getElem hj, e]
    · simp only [List.getElem_map] at hj
      rw [Bo.len] at hj; exact hj
   have hU : ∀ i j x, at2 (xs.map Bo.d) i j = some x → (C i)[j]? = some ((C i).getD j undef) := fun i j x hx => by
    obtain ⟨hi, -, hj⟩ := key i j x hx
    have := Rp.len (hrow.elem i hi)
    rw [List.getD_eq_getElem?_getD, List.getElem?_eq_getElem (by omega)]; rfl
   have := RelD.sl (RO := (· ∈ footOf b xs.length Fs)) (w := w) (Rp.sz α) (xs.map Bo.d) b off cap (fun i j => (C i).getD j undef) (by simp [footOf]) (by simpa using hl) hm (fun r hr => by
    obtain ⟨x, -, rfl⟩ := List.mem_map.1 hr; exact Bo.len x)
    (fun i j x hx => by
      obtain ⟨hi, -, hj⟩ := key i j x hx
      rw [hrow.cell i hi j hj]; exact hU i j x hx)
    (fun i j x hx => by
      obtain ⟨hi, -, hj⟩ := key i j x hx
      exact Rp.one (hrow.elem i hi) _ (List.mem_of_getElem? (hU i j x hx)))
    (fun i j x hx => by
      obtain ⟨hi, h1, hj⟩ := key i j x hx
      refine (Bo.of (hrow.elem i hi) j x _ h1 (hU i j x hx)).mono (fun g hg => ?_) (fun _ _ => rfl)
      simp only [footOf, List.mem_cons, List.mem_flatMap, List.mem_range]
      exact .inr ⟨i, hi, hg⟩)
   rw [List.length_map] at this
   exact this
instance {α : Type} [Rp α] [Bo α] : Bo (List α) where
 d xs := [.sl (Rp.sz α) (xs.map Bo.d)]
 ok xs := xs ≠ [] ∧ ∀ x ∈ xs, Bo.ok x
 len _ := rfl
 to := fun hro ho hl h => by
  obtain ⟨v, rfl⟩ := one_of hl
  obtain ⟨F, h1, h2⟩ := RL.ofD hro ho.1 ho.2 (h 0 _ v rfl rfl)
  exact ⟨F, h1, v, rfl, h2⟩
 of := fun h j c u hc hu => by
  obtain ⟨v, rfl, h⟩ := h
  match j, hc, hu with
  | 0, hc, hu => cases hc; cases hu; exact h.toD
instance : Bo InsIns := Bo.by_ (fun (x : InsIns) => (x.Op, x.D, x.A, x.B, x.Rel, x.Lo, x.Hi, x.To))
instance : Bo PrcProc := Bo.by_ (fun (x : PrcProc) => (x.Lo, x.Hi, x.Code))
instance : Bo RunFrame := Bo.by_ (fun (x : RunFrame) => (x.Proc, x.Pc, x.Vars, x.Cells))
section
variable {ρ : Pl} {RO : Nat → Prop} {w : World}
theorem RelC.dd {x : D} {v : Value} (h : RelC ρ RO w (.d x) v) : RelD RO w x v := by cases h with | d x v h => exact h
theorem RelC.aggL {cs : List C} {v : Value} (h : RelC ρ RO w (.agg cs) v) : ∃ us : List Value, v = .agg us.toArray ∧ us.length = cs.length ∧ ∀ (i : Nat) (c : C) (u : Value), cs[i]? = some c → us[i]? = some u → RelC ρ RO w c u := by
 cases h with | agg cs us hl one rel => exact ⟨us, rfl, hl, rel⟩
theorem RelT.vs3 {a b c : C} {vs : Array Value} (h : RelT ρ RO w [a, b, c] vs) : ∃ x y z, vs = #[x, y, z] ∧ RelC ρ RO w a x ∧ RelC ρ RO w b y ∧ RelC ρ RO w c z := by
 obtain ⟨hl, hr⟩ := h
 obtain ⟨vs⟩ := vs
 match vs, hl, hr with | [x, y, z], _, hr => exact ⟨x, y, z, rfl, hr 0 a x rfl rfl, hr 1 b y rfl rfl, hr 2 c z rfl rfl⟩
theorem RelC.agg1 {a : C} {v : Value} (h : RelC ρ RO w (.agg [a]) v) : ∃ x, v = .agg #[x] ∧ RelC ρ RO w a x := by
 obtain ⟨us, rfl, hl, hr⟩ := h.aggL
 match us, hl, hr with | [x], _, hr => exact ⟨x, rfl, hr 0 a x rfl rfl⟩
theorem RelC.agg4 {a b c d : C} {v : Value} (h : RelC ρ RO w (.agg [a, b, c, d]) v) : ∃ x y z t, v = .agg #[x, y, z, t] ∧ RelC ρ RO w a x ∧ RelC ρ RO w b y ∧ RelC ρ RO w c z ∧ RelC ρ RO w d t := by
 obtain ⟨us, rfl, hl, hr⟩ := h.aggL
 match us, hl, hr with | [x, y, z, t], _, hr => exact ⟨x, y, z, t, rfl, hr 0 a x rfl rfl, hr 1 b y rfl rfl, hr 2 c z rfl rfl, hr 3 d t rfl rfl⟩
theorem RelC.agg5 {a b c d e : C} {v : Value} (h : RelC ρ RO w (.agg [a, b, c, d, e]) v) : ∃ x y z t u, v = .agg #[x, y, z, t, u] ∧ RelC ρ RO w a x ∧ RelC ρ RO w b y ∧ RelC ρ RO w c z ∧ RelC ρ RO w d t ∧ RelC ρ RO w e u := by
 obtain ⟨us, rfl, hl, hr⟩ := h.aggL
 match us, hl, hr with | [x, y, z, t, u], _, hr => exact ⟨x, y, z, t, u, rfl, hr 0 a x rfl rfl, hr 1 b y rfl rfl, hr 2 c z rfl rfl, hr 3 d t rfl rfl, hr 4 e u rfl rfl⟩
end
theorem EC.ofMem {P : Program} {f : FuncId} {args : List C} {val : C} (hf : FnOk P f) (h : ∀ (ρ : Pl) (RO : Nat → Prop) (w : World) (vs : Array Value), (∀ b, RO b → b < w.heap.size) → RelT ρ RO w args vs →
 Calls P f vs w fun e w' => ∃ (v : Value) (G : List Nat), e = .returned v ∧ Chg [] w w' ∧ (∀ g ∈ G, RO g ∨ w.heap.size ≤ g) ∧ (∀ g ∈ G, g < w'.heap.size) ∧ RelC ρ (fun b => RO b ∨ b ∈ G) w' val v) :
 EC P f 0 args [] val [] 0 :=
 ⟨hf, Nat.le_refl _, fun ρ F RO w vs hs hρ ha => (h ρ RO w vs hs.ro ha).mono (fun e w' ⟨v, G, he, hc, hG, hlt, hv⟩ => ⟨ρ, F, fun b => RO b ∨ b ∈ G, v, he,
   ⟨(ChgP.of hc).mono (fun b hb => by cases hb), fun _ _ => rfl, fun _ h => .inl h, fun b h => h.elim .inl (fun h => (hG b h).elim .inl (fun h => .inr (.inr h))),
     ⟨fun l B h => (by cases h), fun l l' B B' _ h => (by cases h), fun l B h => (by cases h), fun b hb => hb.elim (fun hb => Nat.lt_of_lt_of_le (hs.ro b hb) hc.size) (hlt b)⟩,
     fun b ⟨l, B, h, _⟩ => (by cases h)⟩, hv, hρ⟩)⟩
end Ow
