/- The reference's l5Run: written by a program of mine (wip/gen/gen_runcopy.py). -/
import Derived.Test.YtjakhnhnjhafgaaGreatZRefCopy
import Derived.Deep.RegionLaw
set_option linter.unusedVariables false
set_option linter.unusedSimpArgs false
namespace Go.Proofs.YtjakhnhnjhafgaaGreat.Wk
open Go Go.RowKit Go.Deep Ow
open Rp (R sz)

/-- what hands back a run in new memory -/
def RetCopy (x : RunRun) (w : World) (e : Ending) (w' : World) : Prop := ∃ v base, e = .returned (runV x v) ∧ Chg [] w w' ∧ Grow base w' 58 x.Frames v ∧ w.heap.size ≤ base
/-- the boxes while the copy is made -/
def RunBox (w : World) (r : RunRun) (vF v : Value) (w' : World) : Prop := w'.cell? ⟨w.heap.size, 1, none⟩ = some vF ∧ w'.cell? ⟨w.heap.size + 2, 0, none⟩ = some (.int .i64 r.State) ∧ w'.cell? ⟨w.heap.size + 2, 1, none⟩ = some (v) ∧ w'.cell? ⟨w.heap.size + 2, 2, none⟩ = some (.int .i64 r.Out) ∧ w'.cell? ⟨w.heap.size + 2, 3, none⟩ = some (.int .i64 r.Proc) ∧ w'.cell? ⟨w.heap.size + 2, 4, none⟩ = some (.int .i64 r.Pc) ∧ w'.frozen? ⟨w.heap.size + 2, 1, none⟩ = false ∧ w'.cell? ⟨w.heap.size + 1, 0, none⟩ = some (.int .i64 0) ∧ w'.cell? ⟨w.heap.size + 1, 1, none⟩ = some (.slice none 0 0) ∧ w'.cell? ⟨w.heap.size + 1, 2, none⟩ = some (.int .i64 0) ∧ w'.cell? ⟨w.heap.size + 1, 3, none⟩ = some (.int .i64 0) ∧ w'.cell? ⟨w.heap.size + 1, 4, none⟩ = some (.int .i64 0) ∧ w'.frozen? ⟨w.heap.size + 1, 0, none⟩ = false ∧ w'.frozen? ⟨w.heap.size + 1, 1, none⟩ = false ∧ w'.frozen? ⟨w.heap.size + 1, 2, none⟩ = false ∧ w'.frozen? ⟨w.heap.size + 1, 3, none⟩ = false ∧ w'.frozen? ⟨w.heap.size + 1, 4, none⟩ = false ∧ w.heap.size + 3 ≤ w'.heap.size
theorem RunBox.below {w w1 w2 : World} {r : RunRun} {vF v : Value} (h : RunBox w r vF v w1) (hb : Below (w.heap.size + 3) w1 w2) : RunBox w r vF v w2 := by
  obtain ⟨p1, x0, x1, x2, x3, x4, zx, q0, q1, q2, q3, q4, s0, s1, s2, s3, s4, lt⟩ := h
  have hm := hb.size
  have e0 : ∀ b o, b < w.heap.size + 3 → w2.cell? ⟨b, o, none⟩ = w1.cell? ⟨b, o, none⟩ := fun b o h => Below.cellB hb h
  have e1 : ∀ b o, b < w.heap.size + 3 → w2.frozen? ⟨b, o, none⟩ = w1.frozen? ⟨b, o, none⟩ := fun b o h => Below.frozenB hb h
  exact ⟨(e0 _ _ (by omega)).trans p1, (e0 _ _ (by omega)).trans x0, (e0 _ _ (by omega)).trans x1, (e0 _ _ (by omega)).trans x2, (e0 _ _ (by omega)).trans x3, (e0 _ _ (by omega)).trans x4, (e1 _ _ (by omega)).trans zx, (e0 _ _ (by omega)).trans q0, (e0 _ _ (by omega)).trans q1, (e0 _ _ (by omega)).trans q2, (e0 _ _ (by omega)).trans q3, (e0 _ _ (by omega)).trans q4, (e1 _ _ (by omega)).trans s0, (e1 _ _ (by omega)).trans s1, (e1 _ _ (by omega)).trans s2, (e1 _ _ (by omega)).trans s3, (e1 _ _ (by omega)).trans s4, by omega⟩
theorem RunBox.chg {w w1 w2 : World} {r : RunRun} {vF v : Value} (h : RunBox w r vF v w1) (hc : Chg [] w1 w2) : RunBox w r vF v w2 :=
  h.below ⟨hc.os, hc.tape, hc.output, hc.size, fun k hk => hc.block k (by have := h.2.2.2.2.2.2.2.2.2.2.2.2.2.2.2.2.2; omega) (by simp)⟩
theorem RunBox.set {w w1 : World} {r : RunRun} {vF v : Value} (h : RunBox w r vF v w1) (u : Value) : RunBox w r vF u (w1.setCell ⟨w.heap.size + 2, 1, none⟩ u) := by
  obtain ⟨p1, x0, x1, x2, x3, x4, zx, q0, q1, q2, q3, q4, s0, s1, s2, s3, s4, lt⟩ := h
  have e0 : ∀ b o, (b ≠ w.heap.size + 2 ∨ o ≠ 1) → (w1.setCell ⟨w.heap.size + 2, 1, none⟩ u).cell? ⟨b, o, none⟩ = w1.cell? ⟨b, o, none⟩ := fun b o hh =>
    World.cell?_setCell_other _ _ _ _ (by intro e; injection e with e1 e2; omega)
  have e1 : ∀ b o, (w1.setCell ⟨w.heap.size + 2, 1, none⟩ u).frozen? ⟨b, o, none⟩ = w1.frozen? ⟨b, o, none⟩ := fun b o => by simp
  exact ⟨(e0 _ _ (by omega)).trans p1, (e0 _ _ (by omega)).trans x0, World.cell?_setCell_same _ _ _ x1, (e0 _ _ (by omega)).trans x2, (e0 _ _ (by omega)).trans x3, (e0 _ _ (by omega)).trans x4, (e1 _ _).trans zx, (e0 _ _ (by omega)).trans q0, (e0 _ _ (by omega)).trans q1, (e0 _ _ (by omega)).trans q2, (e0 _ _ (by omega)).trans q3, (e0 _ _ (by omega)).trans q4, (e1 _ _).trans s0, (e1 _ _).trans s1, (e1 _ _).trans s2, (e1 _ _).trans s3, (e1 _ _).trans s4, by simpa using lt⟩
theorem Grow.empty_at {base n : Nat} {w : World} {e : TypeId} (hn : n = w.heap.size) (hb : base ≤ n) : Grow base (w.alloc (.cells #[] e)) e [] (.slice (some ⟨n, 0, none⟩) 0 0) := by
  subst hn
  exact Grow.empty base w e hb
theorem frame_alloc (w : World) (f : RunFrame) (AV : Option Addr) (cV : Nat) (AC : Option Addr) (cC : Nat) (t : TypeId) : ∀ j u, (frameCells f AV cV AC cC)[j]? = some u → (w.alloc (.cells #[.int .i64 f.Proc, .int .i64 f.Pc, .slice AV 4 cV, .slice AC 4 cC] t)).cell? ⟨w.heap.size, j, none⟩ = some u := by
  intro j u hj
  rw [World.cell?_alloc_new]
  simpa using hj

set_option maxRecDepth 100000 in
set_option maxHeartbeats 4000000 in
theorem refRun_c (r : RunRun) (vF : Value) (FF : List Nat) (w : World) (h : RL w r.Frames vF FF) (hl5 : r.Frames.length ≤ 5) (h4 : ∀ f ∈ r.Frames, f.Vars.length = 4 ∧ f.Cells.length = 4) :
    Calls Tryz.prog 79 #[runV r vF] w (RetCopy r w) := by
  obtain ⟨A, ca, rfl, hl, hm⟩ := h.form
  have hn : (r.Frames.length : Int) ≤ 5 := by omega
  have H4 := Lib.hid h4
  have HL := Lib.hid hl5
  clear h4 hl5 hm
  go_enter Tryz.func79, Tryz.ntmps79
  go_wp2
  go_loopw [4] (fun i wr => ∃ (k : Nat) (v : Value), k ≤ r.Frames.length ∧ i = .int .i64 k ∧ Chg [] w wr ∧ RunBox w r (.slice A r.Frames.length ca) v wr ∧ Grow (w.heap.size + 3) wr 58 (r.Frames.take k) v ∧ (∃ g cap, v = .slice (some ⟨g, 0, none⟩) k cap)) (fun i _ => r.Frames.length - (intOf i).toNat)
  case atStart =>
    refine ⟨0, .slice (some ⟨w.heap.size + 3, 0, none⟩) 0 0, Nat.zero_le _, rfl, Chg.c, ?_, ?_, ⟨_, _, rfl⟩⟩
    · unfold RunBox
      refine ⟨?_, ?_, ?_, ?_, ?_, ?_, ?_, ?_, ?_, ?_, ?_, ?_, ?_, ?_, ?_, ?_, ?_, ?_⟩
      all_goals first | (simp [go_sem]; done) | (simp; omega)
    · rw [List.take_zero]
      exact Grow.empty_at (by simp) (by omega)
  case round =>
    obtain ⟨k, v, hk, rfl, hc, hbx, hG, g0, cap0, rfl⟩ := hrel
    have HB := hbx
    unfold RunBox at hbx
    obtain ⟨p1, x0, x1, x2, x3, x4, zx, q0, q1, q2, q3, q4, s0, s1, s2, s3, s4, lt⟩ := hbx
    by_cases hlt : k < r.Frames.length
    · obtain ⟨b1, o1, p1', c1, f1, e1, r1, m1, -⟩ := (h.chg0 hc).elem hlt
      obtain ⟨vV, FV, vC, FC, rfl, hF1, iP, iC, gV, gC⟩ := R_RunFrame.1 r1
      injection e1 with e1 _ e1c
      subst e1 e1c
      have ya0 := m1 0 (by decide)
      have ya1 := m1 1 (by decide)
      have ya2 := m1 2 (by decide)
      have ya3 := m1 3 (by decide)
      simp only [sz_RunFrame, Nat.add_zero, List.getElem?_cons_zero, List.getElem?_cons_succ] at ya0 ya1 ya2 ya3
      obtain ⟨AV, cV, rfl, -, -⟩ := gV.form
      obtain ⟨AC, cC, rfl, -, -⟩ := gC.form
      have h44 := H4.out r.Frames[k] (List.getElem_mem hlt)
      have hcp := fun (wx : World) (hx : Chg [] wr wx) => refCopy_c r.Frames[k] _ _ _ _ wx (gV.chg0 hx) (gC.chg0 hx) h44.1 h44.2
      have HG := Lib.hid hG
      have hbase : w.heap.size + 3 ≤ wr.heap.size := lt
      have iP' := Lib.hid iP
      have iC' := Lib.hid iC
      have htk := Lib.hid (show (r.Frames.take k).length = k by rw [List.length_take]; omega)
      have hl9 := Lib.hid (show (r.Frames.take k).length < 1000 by rw [List.length_take]; have := HL.out; omega)
      clear hG h gV gC m1 r1 h44 iP iC
      go_wp2_with fail
      go_region_law (first
        | (refine step_push _ rfl (.tmp 16) (.tmp 23) rfl wr (w.heap.size + 3) (r.Frames.take k) _ HG.out ?_ hbase hl9.out k htk.out rfl _ _ r.Frames[k] AVn cVn GVn ACn cCn GCn rfl (frame_alloc _ _ _ _ _ _ _) ?_ ?_
           · exact hK5.alloc _
           · exact hN5.chg ((Chg.refl _ _).alloc _)
           intro g cap w6 hG6 hB6
           have hK6 := hK5
           have hbx6 := (HB.chg (hK5.alloc _)).below hB6
           have HB6 := hbx6
           unfold RunBox at hbx6
           obtain ⟨p16, x06, x16, x26, x36, x46, zx6, q06, q16, q26, q36, q46, s06, s16, s26, s36, s46, lt6⟩ := hbx6
           have la6 : w.heap.size + 2 < w6.heap.size := lt6
           have lb6 : w.heap.size + 1 < w6.heap.size := Nat.lt_of_succ_lt la6
           have lc6 : w.heap.size < w6.heap.size := Nat.lt_of_succ_lt lb6)
        | (go_simp
           go_at_call 138
           refine (hcp _ (Chg.c)).mono ?_
           rintro e w5 ⟨AVn, cVn, GVn, ACn, cCn, GCn, rfl, hc5, r5V, r5C, o5, n5⟩
           have hK5 : Chg [] wr w5 := Chg.trans0 (show Chg [] wr _ from Chg.c) hc5
           have hN5 : NewFrame w5 r.Frames[k] AVn cVn GVn ACn cCn GCn wr.heap.size := ⟨r5V, r5C, o5, fun g hg => by have := n5 g hg; simpa using this, iP'.out, iC'.out⟩
           have hbx5 := HB.chg hK5
           unfold RunBox at hbx5
           obtain ⟨p15, x05, x15, x25, x35, x45, zx5, q05, q15, q25, q35, q45, s05, s15, s25, s35, s45, lt5⟩ := hbx5
           have la5 : w.heap.size + 2 < w5.heap.size := lt5
           have lb5 : w.heap.size + 1 < w5.heap.size := Nat.lt_of_succ_lt la5
           have lc5 : w.heap.size < w5.heap.size := Nat.lt_of_succ_lt lb5))
      all_goals
        go_wp2
        go_roundw
        case rel =>
          refine ⟨k + 1, .slice (some ⟨g, 0, none⟩) (k + 1) cap, by omega, by go_num, ?_, HB6.set _, ?_, ⟨_, _, rfl⟩⟩
          · exact (Chg.andBelow (hc.trans0 (show Chg [] wr _ from Chg.k)) hB6 (by omega)).setCell (Or.inr (by simp; omega)) _
          · rw [List.take_succ_eq_append_getElem hlt]
            exact hG6.chg (G := [w.heap.size + 2]) ((Chg.refl _ _).setCell (Or.inl (by simp)) _) (by simp)
        case measure => simp [intOf]; omega
    · obtain rfl : k = r.Frames.length := by omega
      rw [List.take_length] at hG
      have HG := Lib.hid hG
      clear h hG
      go_wp2
      refine bodyPost_ret (v := runV r (.slice (some ⟨g0, 0, none⟩) r.Frames.length cap0)) ?_ rfl ?_
      · simp [results, Tryz.results79, go_sem, q0, q1, q2, q3, q4, x0, x1, x2, x3, x4]
      · exact ⟨_, w.heap.size + 3, rfl, Chg.c, HG.out.chg (G := [w.heap.size + 1]) (Chg.g) (by simp), by omega⟩
end Go.Proofs.YtjakhnhnjhafgaaGreat.Wk
