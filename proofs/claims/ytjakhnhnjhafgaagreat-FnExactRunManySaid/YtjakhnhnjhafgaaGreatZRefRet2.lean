/- The reference's l5Ret of an inner call: written by a program of mine (wip/gen/gen_refret2.py). -/
import Derived.Test.YtjakhnhnjhafgaaGreatZRefMut
import Derived.Test.YtjakhnhnjhafgaaGreatZRefRunOk
set_option linter.unusedVariables false
set_option linter.unusedSimpArgs false
namespace Go.Proofs.YtjakhnhnjhafgaaGreat.Wk
open Go Go.RowKit Go.Deep Ow
open Rp (R sz)

set_option maxRecDepth 100000 in
theorem wrapA {n : Int} (h0 : 0 ≤ n) (h1 : n ≤ 9223372036854775807) : wrap64 n = n := by unfold wrap64; omega
theorem wrap2i (hA : ∀ n : Int, 0 ≤ n → n ≤ 9223372036854775807 → wrap64 n = n) (n : Int) (h0 : 0 ≤ n) (h : n + 2 ≤ 9223372036854775807) : wrap64 (n + 1) = n + 1 ∧ wrap64 n = n := by
  have g1 : n + 1 ≤ 9223372036854775807 := by omega
  have g2 : n ≤ 9223372036854775807 := by omega
  have g0 : 0 ≤ n + 1 := by omega
  generalize 9223372036854775807 = M at *
  exact ⟨hA _ g0 g1, hA _ h0 g2⟩
theorem wrap2 (m : Nat) (h : (m : Int) + 2 ≤ 9223372036854775807) : wrap64 ((m : Int) + 1) = (m : Int) + 1 ∧ wrap64 (m : Int) = (m : Int) ∧ IntKind.i64.wrap ((m : Int) + 1) = (m : Int) + 1 ∧ IntKind.i64.wrap (m : Int) = (m : Int) := by
  have g := wrap2i (fun _ h0 h1 => wrapA h0 h1) m (Int.natCast_nonneg m) h
  exact ⟨g.1, g.2, (show IntKind.i64.wrap ((m : Int) + 1) = wrap64 ((m : Int) + 1) by rw [IntKind.wrap_i64, wrap64]).trans g.1, (show IntKind.i64.wrap (m : Int) = wrap64 (m : Int) by rw [IntKind.wrap_i64, wrap64]).trans g.2⟩
set_option maxRecDepth 100000 in
set_option maxHeartbeats 4000000 in
theorem refRet2_c (p : PrgProg) (vP : Value) (FP : List Nat) (r : RunRun) (v : Value) (G : List Nat) (w : World) (hP : RL w p.Procs vP FP) (h : RL w r.Frames v G) (ho : Own w G) (m : Nat) (hm : r.Frames.length = m + 2) (n : Int) (hn : I64 n)
    (i : InsIns) (hi : prgAt p r.Frames[m].Proc r.Frames[m].Pc = some i) (dD : Nat) (hD : i.D = dD) (hdD : dD < r.Frames[m].Vars.length) (hq : I64 (r.Frames[m].Pc + 1)) :
    Calls Tryz.prog 87 #[.agg #[vP], runV r v, .int .i64 n] w (RetRun G { r with Frames := (r.Frames.take (m + 1)).set m { r.Frames[m] with Vars := r.Frames[m].Vars.set dD n, Pc := r.Frames[m].Pc + 1 } } w) := by
  obtain ⟨AP, cP, rfl, -, -⟩ := hP.form
  obtain ⟨A0, cap, rfl, hcap, hcm⟩ := h.form
  obtain ⟨G2, h2, o2, s2⟩ := h.less ho (m := m + 1) (by omega)
  generalize hfs : r.Frames.take (m + 1) = fs at h2
  have hl : fs.length = m + 1 := by rw [← hfs, List.length_take]; omega
  have eg : r.Frames[m] = fs[m] := by simp [← hfs]
  rw [eg] at hi hdD hq ⊢
  obtain ⟨b, off, capx, vV, vC, FV, FC, F⟩ := frame_in h2 o2 (i := m) (by omega)
  have ev := F.eq
  rw [hl] at ev
  injection ev with ev1 _ ev2
  subst ev1 ev2
  have c0 := F.c0
  have c1 := F.c1
  have hb : b < w.heap.size := World.block_lt_of_cell? _ _ c1
  have hat := fun (wx : World) (hx : Chg [] w wx) => refPrgAt_c p fs[m].Proc fs[m].Pc _ _ wx (hP.chg0 hx)
  rw [hi] at hat
  have hset := fun (wx : World) (hx : Chg [] w wx) => refSet_c { r with Frames := fs } _ G2 wx (h2.chg0 hx) (o2.chg0 hx) m hl dD hdD n hn hq
  have hlt := Lib.hid (fun g (hg : g ∈ G2) => h2.lt g hg)
  have hsub2 := Lib.hid s2
  have hk0 : ((m : Int) + 1 == 0) = false := by simp; omega
  have hs1 : ((m : Int) + 2 - 1) = (m : Int) + 1 := by omega
  have hs2 : ((m : Int) + 1 - 1) = (m : Int) := by omega
  have hcp : (0 : Int) ≤ (m : Int) + 1 ∧ (m : Int) + 1 ≤ cap := by omega
  have hmx : (m : Int) + 2 ≤ 9223372036854775807 := by unfold maxLen at hcm; omega
  have hm0 : (0 : Int) ≤ (m : Int) + 1 := by omega
  have hmt : ((m : Int) + 1).toNat = m + 1 := by omega
  have hm1 : (m : Int) < (m : Int) + 1 := by omega
  have hm2 : (0 : Int) ≤ (m : Int) := by omega
  rw [hm] at *
  clear F h ho hi hq h2 o2 hP hcap hcm s2 hdD eg
  obtain ⟨iOp, iD, iA, iB, iRel, iLo, iHi, iTo⟩ := i
  simp only at hD
  subst hD
  obtain ⟨hw1, hw0, hw3, hw2⟩ := wrap2 m hmx
  clear hmx
  go_enter Tryz.func87, Tryz.ntmps87
  go_wp2_with fail
  generalize hWr : World.alloc _ _ = wr
  have hwr : Chg [] w wr := hWr ▸ Chg.c
  have p0 : wr.cell? ⟨w.heap.size, 0, none⟩ = some (.slice AP p.Procs.length cP) := by rw [← hWr]; simp [go_sem]
  have r0 : wr.cell? ⟨w.heap.size + 1, 0, none⟩ = some (.int .i64 r.State) := by rw [← hWr]; simp [go_sem]
  have r1 : wr.cell? ⟨w.heap.size + 1, 1, none⟩ = some (.slice (some ⟨b, off, none⟩) (m + 1) cap) := by rw [← hWr]; simp [go_sem]
  have r2 : wr.cell? ⟨w.heap.size + 1, 2, none⟩ = some (.int .i64 r.Out) := by rw [← hWr]; simp [go_sem]
  have r3 : wr.cell? ⟨w.heap.size + 1, 3, none⟩ = some (.int .i64 r.Proc) := by rw [← hWr]; simp [go_sem]
  have r4 : wr.cell? ⟨w.heap.size + 1, 4, none⟩ = some (.int .i64 r.Pc) := by rw [← hWr]; simp [go_sem]
  have x0 : wr.cell? ⟨w.heap.size + 2, 0, none⟩ = some (.int .i64 0) := by rw [← hWr]; simp [go_sem]
  have x1 : wr.cell? ⟨w.heap.size + 2, 1, none⟩ = some (.slice none 0 0) := by rw [← hWr]; simp [go_sem]
  have x2 : wr.cell? ⟨w.heap.size + 2, 2, none⟩ = some (.int .i64 0) := by rw [← hWr]; simp [go_sem]
  have x3 : wr.cell? ⟨w.heap.size + 2, 3, none⟩ = some (.int .i64 0) := by rw [← hWr]; simp [go_sem]
  have x4 : wr.cell? ⟨w.heap.size + 2, 4, none⟩ = some (.int .i64 0) := by rw [← hWr]; simp [go_sem]
  have fx0 : wr.frozen? ⟨w.heap.size + 2, 0, none⟩ = false := by rw [← hWr]; simp [go_sem]
  have fx1 : wr.frozen? ⟨w.heap.size + 2, 1, none⟩ = false := by rw [← hWr]; simp [go_sem]
  have fx2 : wr.frozen? ⟨w.heap.size + 2, 2, none⟩ = false := by rw [← hWr]; simp [go_sem]
  have fx3 : wr.frozen? ⟨w.heap.size + 2, 3, none⟩ = false := by rw [← hWr]; simp [go_sem]
  have fx4 : wr.frozen? ⟨w.heap.size + 2, 4, none⟩ = false := by rw [← hWr]; simp [go_sem]
  have y0 := hwr.cell0 c0
  have y1 := hwr.cell0 c1
  have hwl : w.heap.size + 2 < wr.heap.size := by rw [← hWr]; simp [go_sem]
  have n4d : ¬ w.heap.size + 2 = wr.heap.size := Nat.ne_of_lt hwl
  have n4b : ¬ w.heap.size + 1 = wr.heap.size := Nat.ne_of_lt (Nat.lt_of_succ_lt hwl)
  have n4a : ¬ w.heap.size = wr.heap.size := Nat.ne_of_lt (Nat.lt_of_succ_lt (Nat.lt_of_succ_lt hwl))
  have n4c : ¬ b = wr.heap.size := Nat.ne_of_lt (Nat.lt_of_lt_of_le hb hwr.size)
  clear hWr c0 c1
  go_region_held3 (fun w' => w'.cell? ⟨w.heap.size, 0, none⟩ = some (.slice AP p.Procs.length cP) ∧ w'.cell? ⟨w.heap.size + 1, 1, none⟩ = some (.slice (some ⟨b, off, none⟩) (m + 1) cap) ∧ w'.cell? ⟨b, off + m * 4, none⟩ = some (.int .i64 fs[m].Proc) ∧ w'.cell? ⟨b, off + m * 4 + 1, none⟩ = some (.int .i64 fs[m].Pc) ∧ Chg [] wr w') (((try dsimp only); (repeat' apply And.intro) <;> (first | with_reducible assumption | ((simp only [World.size_alloc, World.size_setCell, World.size_drew]); omega) | (with_reducible refine (cell8 ?_).trans ?_ <;> (first | with_reducible assumption | exact n4a | exact n4b | exact n4c | exact n5a | exact n5b | exact n5c | (go_keep; done))) | (go_keep; done) | (repeat (with_reducible first | refine Chg.r ?_ _ | refine Chg.alloc ?_ _ | refine Chg.drewN ?_ _ | refine Chg.drew ?_ | exact Chg.refl _ _ | assumption)))))
    (first | (go_at_call 22; refine (hat _ (Chg.k)).mono ?_; rintro e w5 ⟨rfl, hc5⟩; clear hw1 hw0 hw3 hw2; have h51 := Chg.trans0 (show Chg [] wr _ from Chg.c) hc5; have p0t := h51.cell0 p0; have r0t := h51.cell0 r0; have r1t := h51.cell0 r1; have r2t := h51.cell0 r2; have r3t := h51.cell0 r3; have r4t := h51.cell0 r4; have x0t := h51.cell0 x0; have x1t := h51.cell0 x1; have x2t := h51.cell0 x2; have x3t := h51.cell0 x3; have x4t := h51.cell0 x4; have y0t := h51.cell0 y0; have y1t := h51.cell0 y1; have zc0 := hc5.cells.1 wr.heap.size 0; have zc1 := hc5.cells.1 wr.heap.size 1; have zc2 := hc5.cells.1 wr.heap.size 2; have zc3 := hc5.cells.1 wr.heap.size 3; have zc4 := hc5.cells.1 wr.heap.size 4; have zc5 := hc5.cells.1 wr.heap.size 5; have zc6 := hc5.cells.1 wr.heap.size 6; have zc7 := hc5.cells.1 wr.heap.size 7; have zf0 := hc5.cells.2 wr.heap.size 0; have zf1 := hc5.cells.2 wr.heap.size 1; have zf2 := hc5.cells.2 wr.heap.size 2; have zf3 := hc5.cells.2 wr.heap.size 3; have zf4 := hc5.cells.2 wr.heap.size 4; have zf5 := hc5.cells.2 wr.heap.size 5; have zf6 := hc5.cells.2 wr.heap.size 6; have zf7 := hc5.cells.2 wr.heap.size 7; have hzt : w.heap.size + 2 < w5.heap.size := Nat.lt_of_lt_of_le hwl h51.size; have lqb : w.heap.size + 1 < w5.heap.size := Nat.lt_of_succ_lt hzt; have lqa : w.heap.size < w5.heap.size := Nat.lt_of_succ_lt lqb; have n5a : ¬ w.heap.size = w5.heap.size := Nat.ne_of_lt lqa; have n5b : ¬ w.heap.size + 1 = w5.heap.size := Nat.ne_of_lt lqb; have n5d : ¬ w.heap.size + 2 = w5.heap.size := Nat.ne_of_lt hzt; have hb5 : b < w5.heap.size := Nat.lt_of_lt_of_le hb (hwr.trans0 h51).size; have n5c : ¬ b = w5.heap.size := Nat.ne_of_lt hb5))
  all_goals
    clear hat
    have h5w : Chg [] w w5 := hwr.trans0 h51
    clear hc5
    go_wp2_with fail
    refine (hset _ (Chg.k)).mono ?_
    rintro e w9 ⟨v9, G9, rfl, hc9, r9, o9, g9⟩
    have hX : Chg G2 wr w9 := Chg.trans (show Chg G2 wr _ from (show Chg [] wr _ from Chg.k).of0) hc9 (fun g hg => Or.inl hg)
    have hcG : Chg G w w9 := (Chg.trans (show Chg G2 w wr from hwr.of0) hX (fun g hg => Or.inl hg)).mono hsub2.out
    have hnin : w.heap.size + 2 ∉ G2 := fun hg => absurd (hlt.out _ hg) (by omega)
    have q0 := (hX.cell (p := ⟨w.heap.size + 2, 0, none⟩) hwl hnin).trans x0
    have q1 := (hX.cell (p := ⟨w.heap.size + 2, 1, none⟩) hwl hnin).trans x1
    have q2 := (hX.cell (p := ⟨w.heap.size + 2, 2, none⟩) hwl hnin).trans x2
    have q3 := (hX.cell (p := ⟨w.heap.size + 2, 3, none⟩) hwl hnin).trans x3
    have q4 := (hX.cell (p := ⟨w.heap.size + 2, 4, none⟩) hwl hnin).trans x4
    have z0 := (show w9.frozen? ⟨w.heap.size + 2, 0, none⟩ = wr.frozen? ⟨w.heap.size + 2, 0, none⟩ from World.frozen?_of_block (hX.block (w.heap.size + 2) hwl hnin)).trans fx0
    have z1 := (show w9.frozen? ⟨w.heap.size + 2, 1, none⟩ = wr.frozen? ⟨w.heap.size + 2, 1, none⟩ from World.frozen?_of_block (hX.block (w.heap.size + 2) hwl hnin)).trans fx1
    have z2 := (show w9.frozen? ⟨w.heap.size + 2, 2, none⟩ = wr.frozen? ⟨w.heap.size + 2, 2, none⟩ from World.frozen?_of_block (hX.block (w.heap.size + 2) hwl hnin)).trans fx2
    have z3 := (show w9.frozen? ⟨w.heap.size + 2, 3, none⟩ = wr.frozen? ⟨w.heap.size + 2, 3, none⟩ from World.frozen?_of_block (hX.block (w.heap.size + 2) hwl hnin)).trans fx3
    have z4 := (show w9.frozen? ⟨w.heap.size + 2, 4, none⟩ = wr.frozen? ⟨w.heap.size + 2, 4, none⟩ from World.frozen?_of_block (hX.block (w.heap.size + 2) hwl hnin)).trans fx4
    have l9 : w.heap.size + 2 < w9.heap.size := Nat.lt_of_lt_of_le hwl hX.size
    obtain ⟨A9, c9, rfl, -, -⟩ := r9.form
    have n9 : ∀ b ∈ G9, b ∉ [w.heap.size + 2] := fun b hb hb' => by
      have h2 := List.mem_singleton.1 hb'
      rcases g9 b hb with h1 | h1
      · have h3 := hlt.out b h1; omega
      · simp only [World.size_alloc, World.size_setCell, World.size_drew] at h1; omega
    clear hset hc9 hX
    go_wp2
    refine bodyPost_ret (v := runV r (.slice A9 (fs.set m { fs[m] with Vars := fs[m].Vars.set dD n, Pc := fs[m].Pc + 1 }).length c9)) ?_ rfl ?_
    · simp [results, Tryz.results87, go_sem, q0, q1, q2, q3, q4, hl]
    · exact ⟨_, G9, rfl, Chg.k, r9.chg (G := [w.heap.size + 2]) (Chg.g) n9, o9.chg (G := [w.heap.size + 2]) (Chg.g) n9, fun g hg => (g9 g hg).imp (hsub2.out g) (fun h1 => by simp only [World.size_alloc, World.size_setCell, World.size_drew] at h1; omega)⟩
end Go.Proofs.YtjakhnhnjhafgaaGreat.Wk
