/- The program's copyRun: written by a program of mine (wip/gen/gen_copyrun.py). -/
import Derived.Test.YtjakhnhnjhafgaaGreatZRefRunC
set_option linter.unusedVariables false
set_option linter.unusedSimpArgs false
namespace Go.Proofs.YtjakhnhnjhafgaaGreat.Wk
open Go Go.RowKit Go.Deep Ow
open Rp (R sz)

def Clone4 (l : List Int) (w : World) (e : Ending) (w' : World) : Prop := ∃ A c G, e = .returned (.slice A 4 c) ∧ Chg [] w w' ∧ RL w' l (.slice A 4 c) G ∧ Own w' G ∧ ∀ g ∈ G, w.heap.size ≤ g
theorem clone4_c (l : List Int) (v : Value) (F : List Nat) (w : World) (h : RL w l v F) (h4 : l.length = 4) : Calls Tryz.prog 128 #[v] w (Clone4 l w) := by
  refine (cloneInt_c l v F w h h4).mono ?_
  rintro e w' ⟨v', G, rfl, hc, hr, ho, hg⟩
  obtain ⟨A, c, rfl, -, -⟩ := hr.form
  rw [h4] at hr ⊢
  exact ⟨A, c, G, rfl, hc, hr, ho, hg⟩
/-- the boxes while the copy is made -/
def CopyBox (w : World) (r : RunRun) (v : Value) (w' : World) : Prop := w'.cell? ⟨w.heap.size, 0, none⟩ = some (.int .i64 r.State) ∧ w'.cell? ⟨w.heap.size, 1, none⟩ = some (v) ∧ w'.cell? ⟨w.heap.size, 2, none⟩ = some (.int .i64 r.Out) ∧ w'.cell? ⟨w.heap.size, 3, none⟩ = some (.int .i64 r.Proc) ∧ w'.cell? ⟨w.heap.size, 4, none⟩ = some (.int .i64 r.Pc) ∧ w'.frozen? ⟨w.heap.size, 1, none⟩ = false ∧ w'.cell? ⟨w.heap.size + 1, 0, none⟩ = some (.int .i64 0) ∧ w'.cell? ⟨w.heap.size + 1, 1, none⟩ = some (.slice none 0 0) ∧ w'.cell? ⟨w.heap.size + 1, 2, none⟩ = some (.int .i64 0) ∧ w'.cell? ⟨w.heap.size + 1, 3, none⟩ = some (.int .i64 0) ∧ w'.cell? ⟨w.heap.size + 1, 4, none⟩ = some (.int .i64 0) ∧ w'.frozen? ⟨w.heap.size + 1, 0, none⟩ = false ∧ w'.frozen? ⟨w.heap.size + 1, 1, none⟩ = false ∧ w'.frozen? ⟨w.heap.size + 1, 2, none⟩ = false ∧ w'.frozen? ⟨w.heap.size + 1, 3, none⟩ = false ∧ w'.frozen? ⟨w.heap.size + 1, 4, none⟩ = false ∧ w.heap.size + 2 ≤ w'.heap.size
theorem CopyBox.below {w w1 w2 : World} {r : RunRun} {v : Value} (h : CopyBox w r v w1) (hb : Below (w.heap.size + 2) w1 w2) : CopyBox w r v w2 := by
  obtain ⟨x0, x1, x2, x3, x4, zx, q0, q1, q2, q3, q4, s0, s1, s2, s3, s4, lt⟩ := h
  have hm := hb.size
  have e0 : ∀ b o, b < w.heap.size + 2 → w2.cell? ⟨b, o, none⟩ = w1.cell? ⟨b, o, none⟩ := fun b o h => Below.cellB hb h
  have e1 : ∀ b o, b < w.heap.size + 2 → w2.frozen? ⟨b, o, none⟩ = w1.frozen? ⟨b, o, none⟩ := fun b o h => Below.frozenB hb h
  exact ⟨(e0 _ _ (by omega)).trans x0, (e0 _ _ (by omega)).trans x1, (e0 _ _ (by omega)).trans x2, (e0 _ _ (by omega)).trans x3, (e0 _ _ (by omega)).trans x4, (e1 _ _ (by omega)).trans zx, (e0 _ _ (by omega)).trans q0, (e0 _ _ (by omega)).trans q1, (e0 _ _ (by omega)).trans q2, (e0 _ _ (by omega)).trans q3, (e0 _ _ (by omega)).trans q4, (e1 _ _ (by omega)).trans s0, (e1 _ _ (by omega)).trans s1, (e1 _ _ (by omega)).trans s2, (e1 _ _ (by omega)).trans s3, (e1 _ _ (by omega)).trans s4, by omega⟩
theorem CopyBox.chg {w w1 w2 : World} {r : RunRun} {v : Value} (h : CopyBox w r v w1) (hc : Chg [] w1 w2) : CopyBox w r v w2 :=
  h.below ⟨hc.os, hc.tape, hc.output, hc.size, fun k hk => hc.block k (by have := h.2.2.2.2.2.2.2.2.2.2.2.2.2.2.2.2; omega) (by simp)⟩
theorem CopyBox.set {w w1 : World} {r : RunRun} {v : Value} (h : CopyBox w r v w1) (u : Value) : CopyBox w r u (w1.setCell ⟨w.heap.size, 1, none⟩ u) := by
  obtain ⟨x0, x1, x2, x3, x4, zx, q0, q1, q2, q3, q4, s0, s1, s2, s3, s4, lt⟩ := h
  have e0 : ∀ b o, (b ≠ w.heap.size ∨ o ≠ 1) → (w1.setCell ⟨w.heap.size, 1, none⟩ u).cell? ⟨b, o, none⟩ = w1.cell? ⟨b, o, none⟩ := fun b o hh =>
    World.cell?_setCell_other _ _ _ _ (by intro e; injection e with e1 e2; omega)
  have e1 : ∀ b o, (w1.setCell ⟨w.heap.size, 1, none⟩ u).frozen? ⟨b, o, none⟩ = w1.frozen? ⟨b, o, none⟩ := fun b o => by simp
  exact ⟨(e0 _ _ (by omega)).trans x0, World.cell?_setCell_same _ _ _ x1, (e0 _ _ (by omega)).trans x2, (e0 _ _ (by omega)).trans x3, (e0 _ _ (by omega)).trans x4, (e1 _ _).trans zx, (e0 _ _ (by omega)).trans q0, (e0 _ _ (by omega)).trans q1, (e0 _ _ (by omega)).trans q2, (e0 _ _ (by omega)).trans q3, (e0 _ _ (by omega)).trans q4, (e1 _ _).trans s0, (e1 _ _).trans s1, (e1 _ _).trans s2, (e1 _ _).trans s3, (e1 _ _).trans s4, by simpa using lt⟩

theorem Chg.toBelow {w w' : World} {G : List Nat} {n : Nat} (h : Chg G w w') (hG : ∀ g ∈ G, n ≤ g) (hn : n ≤ w.heap.size) : Below n w w' :=
  ⟨h.os, h.tape, h.output, h.size, fun k hk => h.block k (by omega) (fun hh => by have := hG k hh; omega)⟩

set_option maxRecDepth 100000 in
set_option maxHeartbeats 4000000 in
theorem copyRun_c (r : RunRun) (vF : Value) (FF : List Nat) (w : World) (h : RL w r.Frames vF FF) (hl5 : r.Frames.length ≤ 5) (h4 : ∀ f ∈ r.Frames, f.Vars.length = 4 ∧ f.Cells.length = 4) :
    Calls Tryz.prog 65 #[runV r vF] w (RetCopy r w) := by
  obtain ⟨A, ca, rfl, hl, hm⟩ := h.form
  have hn : (r.Frames.length : Int) ≤ 5 := by omega
  have H4 := Lib.hid h4
  have HL := Lib.hid hl5
  clear h4 hl5 hm
  go_enter Tryz.func65, Tryz.ntmps65
  go_wp2
  go_loopw [11] (fun i wr => ∃ (k : Nat) (A0 : Option Addr) (cap0 : Nat), k ≤ r.Frames.length ∧ i = .int .i64 k ∧ Chg [] w wr ∧ CopyBox w r (.slice A0 k cap0) wr ∧ Grow (w.heap.size + 2) wr 58 (r.Frames.take k) (.slice A0 k cap0)) (fun i _ => r.Frames.length - (intOf i).toNat)
  case atStart =>
    refine ⟨0, none, 0, Nat.zero_le _, rfl, Chg.c, ?_, ?_⟩
    · unfold CopyBox
      refine ⟨?_, ?_, ?_, ?_, ?_, ?_, ?_, ?_, ?_, ?_, ?_, ?_, ?_, ?_, ?_, ?_, ?_⟩
      all_goals first | (simp [go_sem]; done) | (simp; omega)
    · rw [List.take_zero]
      exact Grow.nil_ _ _ _
  case round =>
    obtain ⟨k, A0, cap0, hk, rfl, hc, hbx, hG⟩ := hrel
    have HB := hbx
    unfold CopyBox at hbx
    obtain ⟨x0, x1, x2, x3, x4, zx, q0, q1, q2, q3, q4, s0, s1, s2, s3, s4, lt⟩ := hbx
    by_cases hlt : k < r.Frames.length
    · obtain ⟨b1, o1, p1', c1, f1, e1, r1, m1, -⟩ := (h.chg0 hc).elem hlt
      obtain ⟨vV, FV, vC, FC, rfl, hF1, iP, iC, gV, gC⟩ := R_RunFrame.1 r1
      injection e1 with e1 _ e1c
      subst e1 e1c
      have ya0 := m1 0 (by decide)
      have ya1 := m1 1 (by decide)
      have ya2 := m1 2 (by decide)
      have ya3 := m1 3 (by decide)
      simp only [sz_RunFrame, Nat.add_zero, List.getElem?_cons_zero, List.getElem?_cons_succ] at ya0 ya1 ya2 ya3
      obtain ⟨AV, cV, rfl, -, -⟩ := gV.form
      obtain ⟨AC, cC, rfl, -, -⟩ := gC.form
      have h44 := H4.out r.Frames[k] (List.getElem_mem hlt)
      have hclV := fun (wx : World) (hx : Chg [] wr wx) => clone4_c r.Frames[k].Vars _ _ wx (gV.chg0 hx) h44.1
      have hclC := fun (wx : World) (hx : Chg [] wr wx) => clone4_c r.Frames[k].Cells _ _ wx (gC.chg0 hx) h44.2
      have HG := Lib.hid hG
      have iP' := Lib.hid iP
      have iC' := Lib.hid iC
      have htk := Lib.hid (show (r.Frames.take k).length = k by rw [List.length_take]; omega)
      have hl9 := Lib.hid (show (r.Frames.take k).length < 1000 by rw [List.length_take]; have := HL.out; omega)
      clear hG h gV gC m1 r1 h44 iP iC
      have wl1 : w.heap.size + 1 < wr.heap.size := lt
      have wl0 : w.heap.size < wr.heap.size := Nat.lt_of_succ_lt wl1
      go_wp2_with fail
      go_region_with (first
        | (go_at_call_of 128 AV
           refine (hclV _ (Chg.c)).mono ?_
           rintro e wV ⟨AVn, cVn, GV', rfl, hcV, hrV, hoV, hgV⟩
           have kV : Chg [] wr wV := Chg.trans0 (show Chg [] wr _ from Chg.c) hcV
           have tV0 : wV.cell? ⟨wr.heap.size, 0, none⟩ = some (.int .i64 r.Frames[k].Proc) := hcV.cell0 (by simp)
           have tV1 : wV.cell? ⟨wr.heap.size, 1, none⟩ = some (.int .i64 r.Frames[k].Pc) := hcV.cell0 (by simp)
           have tV2 : wV.cell? ⟨wr.heap.size, 2, none⟩ = some (.slice AV r.Frames[k].Vars.length cV) := hcV.cell0 (by simp)
           have tV3 : wV.cell? ⟨wr.heap.size, 3, none⟩ = some (.slice AC r.Frames[k].Cells.length cC) := hcV.cell0 (by simp)
           have zV2 : wV.frozen? ⟨wr.heap.size, 2, none⟩ = false := (hcV.cells.2 wr.heap.size 2 (by simp)).trans (by simp)
           have zV3 : wV.frozen? ⟨wr.heap.size, 3, none⟩ = false := (hcV.cells.2 wr.heap.size 3 (by simp)).trans (by simp)
           have lV : wr.heap.size < wV.heap.size := Nat.lt_of_lt_of_le (by simp) hcV.size)
        | (go_at_call_of 128 AC
           refine (hclC _ (Chg.k)).mono ?_
           rintro e wC ⟨ACn, cCn, GC', rfl, hcC, hrC, hoC, hgC⟩
           have kC : Chg [] wr wC := Chg.trans0 (show Chg [] wr _ from Chg.k) hcC
           have kVC : Chg [] wV wC := Chg.trans0 (show Chg [] wV _ from Chg.c) hcC
           have tC0 := kVC.cell0 tV0
           have tC1 := kVC.cell0 tV1
           have tC2 := kVC.cell0 tV2
           have tC3 := kVC.cell0 tV3
           have zC2 := (kVC.cells.2 wr.heap.size 2 lV).trans zV2
           have zC3 := (kVC.cells.2 wr.heap.size 3 lV).trans zV3
           have lC : wr.heap.size < wC.heap.size := Nat.lt_of_lt_of_le lV kVC.size
           have hbx5 := HB.chg kC
           unfold CopyBox at hbx5
           obtain ⟨x05, x15, x25, x35, x45, zx5, q05, q15, q25, q35, q45, s05, s15, s25, s35, s45, lt5⟩ := hbx5))
      all_goals
        have hne0 : ¬ w.heap.size = wr.heap.size := Nat.ne_of_lt wl0
        have hne1 : ¬ w.heap.size + 1 = wr.heap.size := Nat.ne_of_lt wl1
        have la5 : w.heap.size + 1 < wC.heap.size := lt5
        have lb5 : w.heap.size < wC.heap.size := Nat.lt_of_succ_lt la5
        have dV : ∀ b ∈ GV', b ∉ [wr.heap.size] := fun b hb hb' => by have h1 := hgV b hb; have h2 := List.mem_singleton.1 hb'; (try simp at h1); omega
        have dC : ∀ b ∈ GC', b ∉ [wr.heap.size] := fun b hb hb' => by have h1 := hgC b hb; have h2 := List.mem_singleton.1 hb'; (try simp at h1); omega
        have hap : ∀ b ∈ GV', b ∉ GC' := fun b hb hb' => by have h1 := hoV.lt b hb; have h2 := hgC b hb'; (try simp at h2); omega
        have hNC := fun (Wx : World) (hx : Chg [wr.heap.size] wC Wx) => (NewFrame.mk ((hrV.chg0 kVC).chg hx dV) (hrC.chg hx dC) (Own.append ((hoV.chg0 kVC).chg hx dV) (hoC.chg hx dC) hap) (fun g hg => by
          rcases List.mem_append.1 hg with h1 | h1
          · have h2 := hgV g h1; (try simp at h2); omega
          · have h2 := hgC g h1; (try simp at h2); omega) iP'.out iC'.out : NewFrame Wx r.Frames[k] AVn cVn GV' ACn cCn GC' wr.heap.size)
        have hBx := fun (Wx : World) (hx : Chg [wr.heap.size] wC Wx) => (HB.chg kC).below (Chg.toBelow hx (n := w.heap.size + 2) (fun g hg => by have := List.mem_singleton.1 hg; omega) lt5)
        generalize hWf : ((wC.setCell ⟨wr.heap.size, 2, none⟩ (.slice AVn 4 cVn)).setCell ⟨wr.heap.size, 3, none⟩ (.slice ACn 4 cCn)) = Wf
        have hxF : Chg [wr.heap.size] wC Wf := hWf ▸ (((Chg.refl [wr.heap.size] wC).setCell (Or.inl (by simp)) _).setCell (Or.inl (by simp)) _)
        have kF : Chg [] wr Wf := kC.trans hxF (fun g hg => Or.inr (Nat.le_of_eq (List.mem_singleton.1 hg).symm))
        have u0 : Wf.cell? ⟨wr.heap.size, 0, none⟩ = some (.int .i64 r.Frames[k].Proc) := hWf ▸ (World.cell?_setCell_other _ _ _ _ (by intro e; injection e with e1 e2; omega)).trans ((World.cell?_setCell_other _ _ _ _ (by intro e; injection e with e1 e2; omega)).trans tC0)
        have u1 : Wf.cell? ⟨wr.heap.size, 1, none⟩ = some (.int .i64 r.Frames[k].Pc) := hWf ▸ (World.cell?_setCell_other _ _ _ _ (by intro e; injection e with e1 e2; omega)).trans ((World.cell?_setCell_other _ _ _ _ (by intro e; injection e with e1 e2; omega)).trans tC1)
        have u2 : Wf.cell? ⟨wr.heap.size, 2, none⟩ = some (.slice AVn 4 cVn) := hWf ▸ (World.cell?_setCell_other _ _ _ _ (by intro e; injection e with e1 e2; omega)).trans (World.cell?_setCell_same _ _ _ tC2)
        have u3 : Wf.cell? ⟨wr.heap.size, 3, none⟩ = some (.slice ACn 4 cCn) := hWf ▸ World.cell?_setCell_same _ _ _ ((World.cell?_setCell_other _ _ _ _ (by intro e; injection e with e1 e2; omega)).trans tC3)
        have HBF := hBx _ hxF
        have hNF := hNC _ hxF
        have hbxF := HBF
        unfold CopyBox at hbxF
        obtain ⟨x0F, x1F, x2F, x3F, x4F, zxF, q0F, q1F, q2F, q3F, q4F, s0F, s1F, s2F, s3F, s4F, ltF⟩ := hbxF
        have lF : wr.heap.size < Wf.heap.size := Nat.lt_of_lt_of_le lC hxF.size
        have laF : w.heap.size + 1 < Wf.heap.size := ltF
        have lbF : w.heap.size < Wf.heap.size := Nat.lt_of_succ_lt laF
        have HNF := Lib.hid hNF
        clear hWf hNC hBx hNF hclV hclC tV0 tC0 tV1 tC1 tV2 tC2 tV3 tC3 zV2 zV3 zC2 zC3 x05 x15 x25 x35 x45 zx5 q05 q15 q25 q35 q45 s05 s15 s25 s35 s45
        go_wp2_with (at_builtin
                     go_loud (refine wpList_push _ rfl _ _ rfl wr (w.heap.size + 2) (r.Frames.take k) _ HG.out ?_ lt hl9.out k htk.out rfl _ _ r.Frames[k] AVn cVn GV' ACn cCn GC' rfl (frame_alloc _ _ _ _ _ _ _) ?_ ?_)
                     · exact kF.alloc _
                     · exact HNF.out.chg ((Chg.refl _ _).alloc _)
                     intro g cap w6 hG6 hB6
                     have hbx6 := (HBF.chg ((Chg.refl _ _).alloc _)).below hB6
                     have HB6 := hbx6
                     unfold CopyBox at hbx6
                     obtain ⟨x06, x16, x26, x36, x46, zx6, q06, q16, q26, q36, q46, s06, s16, s26, s36, s46, lt6⟩ := hbx6
                     have hK6 := Chg.andBelow (hc.trans0 (kF.alloc _)) hB6 (by omega))
        go_roundw
        case rel =>
          refine ⟨k + 1, some ⟨g, 0, none⟩, cap, by omega, by go_num, ?_, HB6.set _, ?_⟩
          · exact hK6.setCell (Or.inr (by simp)) _
          · rw [List.take_succ_eq_append_getElem hlt]
            exact hG6.chg (G := [w.heap.size]) ((Chg.refl _ _).setCell (Or.inl (by simp)) _) (by simp)
        case measure => simp [intOf]; omega
    · obtain rfl : k = r.Frames.length := by omega
      rw [List.take_length] at hG
      have HG := Lib.hid hG
      clear h hG
      go_wp2
      refine bodyPost_ret (v := runV r (.slice A0 r.Frames.length cap0)) ?_ rfl ?_
      · simp [results, Tryz.results65, go_sem, q0, q1, q2, q3, q4, x0, x1, x2, x3, x4]
      · exact ⟨_, w.heap.size + 2, rfl, Chg.c, HG.out.chg (G := [w.heap.size + 1]) (Chg.g) (by simp), by omega⟩
end Go.Proofs.YtjakhnhnjhafgaaGreat.Wk
