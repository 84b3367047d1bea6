/- The program's runner: call. Written by a program of mine (wip/gen/gen_runner4.py). -/
import Derived.Test.YtjakhnhnjhafgaaGreatZRunner
import Derived.Test.YtjakhnhnjhafgaaGreatZRunMem
import Derived.Test.YtjakhnhnjhafgaaGreatZCatch
import Derived.Test.YtjakhnhnjhafgaaGreatZImplPrg
import Derived.Test.YtjakhnhnjhafgaaGreatZRefCopy
import Derived.Test.YtjakhnhnjhafgaaGreatZRefRunC
set_option linter.unusedVariables false
set_option linter.unusedSimpArgs false
namespace Go.Proofs.YtjakhnhnjhafgaaGreat.Wk
open Go Go.RowKit Go.Deep Ow
open Rp (R sz)

set_option maxHeartbeats 1000000 in
theorem callBad_c (p : PrgProg) (fs : List RunFrame) (X : Nat) (vP : Value) (FP : List Nat) (b off m cap : Nat) (G : List Nat) (w : World) (hP : RL w p.Procs vP FP) (hX : RunX w X vP (goes fs) (.slice (some ⟨b, off, none⟩) (m + 1) cap)) (hm : (m : Int) ≤ 4) (k : Nat) (lk : k < p.Procs.length) (hi : itvOk ⟨p.Procs[k].Lo, p.Procs[k].Hi⟩ = true) (arg : Int) (fq : RunFrame) (c0 : w.cell? ⟨b, off + m * 4, none⟩ = some (.int .i64 fq.Proc)) (c1 : w.cell? ⟨b, off + m * 4 + 1, none⟩ = some (.int .i64 fq.Pc)) (hbad : ¬ (p.Procs[k].Lo ≤ arg ∧ arg ≤ p.Procs[k].Hi)) :
    Calls Tryz.prog 179 #[.pointer (some ⟨X, 0, none⟩), .int .i64 k, .int .i64 arg] w (StepBad 182 X G (runFail fq) w) := by
  obtain ⟨AP, cP, rfl, -, -⟩ := hP.form
  obtain ⟨bp, op, kp, cs1, f1, e1, r1, m1, -⟩ := hP.elem lk
  obtain ⟨vD, FD, rfl, rfl, -, -, g1⟩ := R_PrcProc.1 r1
  obtain ⟨AD, kD, rfl, -, -⟩ := g1.form
  injection e1 with e1 _ e1c
  subst e1 e1c
  have y0 := m1 0 (by decide)
  have y1 := m1 1 (by decide)
  have y2 := m1 2 (by decide)
  simp only [sz_PrcProc, Nat.add_zero, List.getElem?_cons_zero, List.getElem?_cons_succ] at y0 y1 y2
  have hkI : (k : Int) < p.Procs.length := by omega
  have X0 := hX.c0
  have X2 := hX.c2
  have hX' := Lib.hid hX
  have hin := Lib.hid (show (decide (p.Procs[k].Lo ≤ arg) && decide (arg ≤ p.Procs[k].Hi)) = false by
    rw [Bool.eq_false_iff]
    intro hh
    simp only [Bool.and_eq_true, decide_eq_true_eq] at hh
    exact hbad hh)
  have hfl := fun (wx : World) (hx : Chg [] w wx) => failYes_c X b off m cap fq wx (hx.cell0 X2) (by omega) (hx.cell0 c0) (hx.cell0 c1)
  clear hP m1 r1 g1 hbad c0 c1 hX
  go_enter Tryz.func179, Tryz.ntmps179
  go_wp2_with (first
    | (go_at_call 116; refine (itv_c _ _ _ _).mono ?_; rintro e w3 ⟨rfl, hc3⟩; have hK3 : Chg [] w w3 := Chg.trans0 (show Chg [] w _ from Chg.c) hc3)
    | (go_at_call 108; refine (implHas_c _ _ _ hi _).mono ?_; rintro e w4 ⟨rfl, hc4⟩; rw [hin.out]; have hK4 : Chg [] w w4 := Chg.trans0 (show Chg [] w _ from Chg.k) hc4)
    | (go_at_call 176; refine (hfl _ (Chg.k)).mono ?_; rintro e w5 ⟨rfl, hc5⟩; have hK5 : Chg [] w w5 := Chg.trans0 (show Chg [] w _ from Chg.k) hc5))
  exact ⟨rfl, rfl, hK5.of0⟩
set_option maxHeartbeats 1000000 in
theorem callDeep_c (p : PrgProg) (fs : List RunFrame) (X : Nat) (vP : Value) (FP : List Nat) (b off m cap : Nat) (G : List Nat) (w : World) (hP : RL w p.Procs vP FP) (hX : RunX w X vP (goes fs) (.slice (some ⟨b, off, none⟩) (m + 1) cap)) (hm : (m : Int) ≤ 4) (k : Nat) (lk : k < p.Procs.length) (hi : itvOk ⟨p.Procs[k].Lo, p.Procs[k].Hi⟩ = true) (arg : Int) (hok : p.Procs[k].Lo ≤ arg ∧ arg ≤ p.Procs[k].Hi) (h5 : m = 4) :
    Calls Tryz.prog 179 #[.pointer (some ⟨X, 0, none⟩), .int .i64 k, .int .i64 arg] w (StepBad 182 X G runDeep w) := by
  obtain ⟨AP, cP, rfl, -, -⟩ := hP.form
  obtain ⟨bp, op, kp, cs1, f1, e1, r1, m1, -⟩ := hP.elem lk
  obtain ⟨vD, FD, rfl, rfl, -, -, g1⟩ := R_PrcProc.1 r1
  obtain ⟨AD, kD, rfl, -, -⟩ := g1.form
  injection e1 with e1 _ e1c
  subst e1 e1c
  have y0 := m1 0 (by decide)
  have y1 := m1 1 (by decide)
  have y2 := m1 2 (by decide)
  simp only [sz_PrcProc, Nat.add_zero, List.getElem?_cons_zero, List.getElem?_cons_succ] at y0 y1 y2
  have hkI : (k : Int) < p.Procs.length := by omega
  have X0 := hX.c0
  have X2 := hX.c2
  have hX' := Lib.hid hX
  have hin := Lib.hid (show (decide (p.Procs[k].Lo ≤ arg) && decide (arg ≤ p.Procs[k].Hi)) = true by simp [hok.1, hok.2])
  have hm5 : ((m : Int) + 1 == 5) = true := by rw [h5]; rfl
  clear hP m1 r1 g1 hok h5 hX
  go_enter Tryz.func179, Tryz.ntmps179
  go_wp2_with (first
    | (go_at_call 116; refine (itv_c _ _ _ _).mono ?_; rintro e w3 ⟨rfl, hc3⟩; have hK3 : Chg [] w w3 := Chg.trans0 (show Chg [] w _ from Chg.c) hc3)
    | (go_at_call 108; refine (implHas_c _ _ _ hi _).mono ?_; rintro e w4 ⟨rfl, hc4⟩; rw [hin.out]; have hK4 : Chg [] w w4 := Chg.trans0 (show Chg [] w _ from Chg.k) hc4)
    | (go_at_call 176; refine (failNo_c X _).mono ?_; rintro e w5 ⟨rfl, hc5⟩; have hK5 : Chg [] w w5 := Chg.trans0 (show Chg [] w _ from Chg.k) hc5; have X25 := hK5.cell0 X2))
  exact ⟨rfl, rfl, hK5.of0⟩
set_option maxRecDepth 100000 in
set_option maxHeartbeats 4000000 in
theorem callGo_c (p : PrgProg) (fs : List RunFrame) (X : Nat) (vP : Value) (FP : List Nat) (b off m cap : Nat) (G : List Nat) (w : World) (hP : RL w p.Procs vP FP) (hX : RunX w X vP (goes fs) (.slice (some ⟨b, off, none⟩) (m + 1) cap)) (hm : (m : Int) ≤ 4) (k : Nat) (lk : k < p.Procs.length) (hi : itvOk ⟨p.Procs[k].Lo, p.Procs[k].Hi⟩ = true) (arg : Int) (h : RL w fs (.slice (some ⟨b, off, none⟩) (m + 1) cap) G) (ho : Own w G) (hroom : Room w 58 (.slice (some ⟨b, off, none⟩) (m + 1) cap) fs.length) (hlen : Hid (fs.length = m + 1)) (hXG : X ∉ G) (hok : p.Procs[k].Lo ≤ arg ∧ arg ≤ p.Procs[k].Hi) (h5 : m < 4) (ha : I64 arg) (hkk : I64 k) :
    Calls Tryz.prog 179 #[.pointer (some ⟨X, 0, none⟩), .int .i64 k, .int .i64 arg] w (StepOut X vP G (goes (fs ++ [entered k arg])) w) := by
  have hroom' := Lib.hid hroom
  have h' := Lib.hid h
  have ho' := Lib.hid ho
  have ha' := Lib.hid ha
  have hkk' := Lib.hid hkk
  have hXG' := Lib.hid hXG
  obtain ⟨AP, cP, rfl, -, -⟩ := hP.form
  obtain ⟨bp, op, kp, cs1, f1, e1, r1, m1, -⟩ := hP.elem lk
  obtain ⟨vD, FD, rfl, rfl, -, -, g1⟩ := R_PrcProc.1 r1
  obtain ⟨AD, kD, rfl, -, -⟩ := g1.form
  injection e1 with e1 _ e1c
  subst e1 e1c
  have y0 := m1 0 (by decide)
  have y1 := m1 1 (by decide)
  have y2 := m1 2 (by decide)
  simp only [sz_PrcProc, Nat.add_zero, List.getElem?_cons_zero, List.getElem?_cons_succ] at y0 y1 y2
  have hkI : (k : Int) < p.Procs.length := by omega
  have X0 := hX.c0
  have X2 := hX.c2
  have hX' := Lib.hid hX
  have hin := Lib.hid (show (decide (p.Procs[k].Lo ≤ arg) && decide (arg ≤ p.Procs[k].Hi)) = true by simp [hok.1, hok.2])
  have hm5 : ((m : Int) + 1 == 5) = false := by simp; omega
  have hne := Lib.hid (show fs ≠ [] by intro e; have := hlen.out; rw [e] at this; simp at this)
  have hl9 := Lib.hid (show fs.length < 1000 by have := hlen.out; omega)
  have fX := hX.fz 2
  have hlX := Lib.hid hX.lt
  clear hP m1 r1 g1 hok h5 hX h ho hroom ha hkk hXG
  go_enter Tryz.func179, Tryz.ntmps179
  go_wp2_with (first
    | (go_at_call 116; refine (itv_c _ _ _ _).mono ?_; rintro e w3 ⟨rfl, hc3⟩; have hK3 : Chg [] w w3 := Chg.trans0 (show Chg [] w _ from Chg.c) hc3)
    | (go_at_call 108; refine (implHas_c _ _ _ hi _).mono ?_; rintro e w4 ⟨rfl, hc4⟩; rw [hin.out]; have hK4 : Chg [] w w4 := Chg.trans0 (show Chg [] w _ from Chg.k) hc4)
    | (go_at_call 176; refine (failNo_c X _).mono ?_; rintro e w5 ⟨rfl, hc5⟩; have hK5 : Chg [] w w5 := Chg.trans0 (show Chg [] w _ from Chg.k) hc5; have X25 := hK5.cell0 X2; have fX5 := (hK5.cells.2 X 2 hlX.out).trans fX; have lX5 := Nat.lt_of_lt_of_le hlX.out hK5.size))
  go_region_law (first
    | (refine step_push2 _ rfl (.tmp 35) (.tmp 39) rfl w fs _ G h'.out ho'.out hroom'.out hne.out ?_ hl9.out (m + 1) hlen.out rfl _ _ (entered k arg) AVn cVn GVn ACn cCn GCn rfl (frame_alloc _ (entered k arg) _ _ _ _ _) ?_ ?_
       · repeat (with_reducible first | refine Chg.r ?_ _ | refine Chg.alloc ?_ _ | refine Chg.drewN ?_ _ | refine Chg.drew ?_ | exact Chg.refl _ _ | assumption | refine Chg.trans0 ?_ hK6)
       · exact hN6.chg ((Chg.refl _ _).alloc _)
       intro g cap7 w7 G7 hR7 hO7 hC7 nG7
       have hX7 := (hX6.out.chg0 ((Chg.refl _ _).alloc _)).chg hC7 hXG'.out
       have X27 := hX7.c2
       have fX7 := hX7.fz 2
       have hX7' := Lib.hid hX7
       clear hX7)
    | (go_simp
       go_at_call 208
       refine (implEnter_c _ _ _ ha'.out).mono ?_
       rintro e w6 ⟨AVn, cVn, GVn, ACn, cCn, GCn, rfl, hc6, r6V, r6C, o6, n6⟩
       have hK6 : Chg [] w w6 := Chg.trans0 (show Chg [] w _ from Chg.k) hc6
       have hN6 : NewFrame w6 (entered k arg) AVn cVn GVn ACn cCn GCn w.heap.size := ⟨r6V, r6C, o6, fun g hg => Nat.le_trans (show Chg [] w _ from Chg.k).size (n6 g hg), hkk'.out, I64_0⟩
       have hX6 := Lib.hid (hX'.out.chg0 hK6)
       have X26 := hX6.out.c2
       have fX6 := hX6.out.fz 2
       have lX6 := Nat.lt_of_lt_of_le hlX.out hK6.size))
  all_goals
    have hlt6 := hK6.size
    have n7 : X ∉ G7 := fun hb => by
      have hlx := hlX.out
      rcases nG7 X hb with h1 | h1 | h1
      · exact hXG'.out h1
      · have h3 := hN6.new X h1
        omega
      · simp only [World.size_alloc, World.size_drew] at h1; omega
    have hcG : Chg (X :: G) w w7 := Chg.trans (show Chg (X :: G) w w6 from hK6.of0) (Chg.trans (show Chg (X :: G) w6 _ from ((Chg.refl _ _).alloc _)) hC7 (fun g hg => Or.inl (List.mem_cons_of_mem _ hg))) (fun g hg => Or.inl hg)
    go_wp2
    go_end0
    refine ⟨rfl, _, G7, (hX7'.out.setF (.slice (some ⟨g, 0, none⟩) (m + 1 + 1) cap7) (fs ++ [entered k arg])).chg0 (Chg.c), ?_, hR7.chg (G := [X]) (Chg.g) (fun c hc hc' => n7 (List.mem_singleton.1 hc' ▸ hc)), hO7.chg (G := [X]) (Chg.g) (fun c hc hc' => n7 (List.mem_singleton.1 hc' ▸ hc)), fun c hc => ?_⟩
    · repeat (with_reducible first | exact hcG | refine Chg.setCell ?_ (Or.inl (by simp)) _ | refine Chg.alloc ?_ _ | refine Chg.drew ?_)
    · rcases nG7 c hc with h1 | h1 | h1
      · exact Or.inl h1
      · exact Or.inr (hN6.new c h1)
      · simp only [World.size_alloc, World.size_drew] at h1
        exact Or.inr (by omega)
end Go.Proofs.YtjakhnhnjhafgaaGreat.Wk
