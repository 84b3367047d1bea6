/- The law FnExactRunMany returns true: written by a program of mine (wip/gen/gen_manylaw.py). -/
import Derived.Test.YtjakhnhnjhafgaaGreatRefMany
import Derived.Test.YtjakhnhnjhafgaaGreatImpMany
import Derived.Test.YtjakhnhnjhafgaaGreatZLawEq
import Derived.Test.YtjakhnhnjhafgaaGreatZLawSz
import Derived.Test.YtjakhnhnjhafgaaGreatZLawTo
import Derived.Test.YtjakhnhnjhafgaaGreatZPlain
import Derived.Deep.RegionHeld3
set_option linter.unusedVariables false
set_option linter.unusedSimpArgs false
namespace Go.Proofs.YtjakhnhnjhafgaaGreat.Wk
open Go Go.RowKit Go.Deep Ow
open Rp (R sz)

/-- what hands back a run in new memory, in the laws' form -/
def NewRunM (x : RunRun) (w : World) (e : Ending) (w' : World) : Prop := ∃ v F, e = .returned (.agg #[.int .i64 x.State, v, .int .i64 x.Out, .int .i64 x.Proc, .int .i64 x.Pc]) ∧ Chg [] w w' ∧ RL w' x.Frames v F ∧ Own w' F ∧ ∀ g ∈ F, w.heap.size ≤ g
theorem newRunM_of {x : RunRun} {w : World} {e : Ending} {w' : World} (h : RetRun [] x w e w') : NewRunM x w e w' := by
  obtain ⟨v, F, he, hc, hR, hO, hg⟩ := h
  exact ⟨v, F, he, hc, hR, hO, fun g hh => (hg g hh).elim (fun h1 => absurd h1 (by simp)) id⟩
theorem form3M {α : Type} [Rp α] {w : World} {xs : List α} {v : Value} {F : List Nat} (h : RL w xs v F) : ∃ A n c, v = .slice A n c := by
  obtain ⟨A, c, e, -, -⟩ := h.form
  exact ⟨A, _, c, e⟩
theorem cell5M {w : World} {n : Nat} {u0 u1 u2 u3 u4 : Value} {a : Addr} (ha : a.block ≠ n) : (((((w.setCell ⟨n, 0, none⟩ u0).setCell ⟨n, 1, none⟩ u1).setCell ⟨n, 2, none⟩ u2).setCell ⟨n, 3, none⟩ u3).setCell ⟨n, 4, none⟩ u4).cell? a = w.cell? a := by
  have h : ∀ (w : World) (j : Nat) (u : Value), (w.setCell ⟨n, j, none⟩ u).cell? a = w.cell? a := fun w j u => World.cell?_setCell_other _ _ _ _ (by intro e; apply ha; rw [← e])
  simp only [h]
theorem _root_.Ow.Chg.cb {F : List Nat} {w w' : World} (h : Chg F w w') {b : Nat} (hb : b < w.heap.size := by (repeat (first | rw [World.size_alloc] | rw [World.size_setCell] | rw [World.size_drew] | rw [World.heap_drewN])); omega) (hn : b ∉ F := by simp) (o : Nat) : w'.cell? ⟨b, o, none⟩ = w.cell? ⟨b, o, none⟩ := h.cell (p := ⟨b, o, none⟩) hb hn
/-- the world behind the first drawn region -/
def CutM (u : World) (x : RunRun) (B : Nat) (v : Value) (G : List Nat) (W : World) : Prop :=
  Chg [] u W ∧ RL W x.Frames v G ∧ Own W G ∧ (∀ g ∈ G, u.heap.size ≤ g) ∧ u.heap.size ≤ B ∧ B < W.heap.size ∧ B ∉ G ∧
  W.cell? ⟨B, 0, none⟩ = some (.int .i64 x.State) ∧ W.cell? ⟨B, 1, none⟩ = some v ∧ W.cell? ⟨B, 2, none⟩ = some (.int .i64 x.Out) ∧ W.cell? ⟨B, 3, none⟩ = some (.int .i64 x.Proc) ∧ W.cell? ⟨B, 4, none⟩ = some (.int .i64 x.Pc)
set_option maxRecDepth 100000 in
set_option maxHeartbeats 16000000 in
theorem walkRunMany (p : PrgProg) (r : RunRun) (ins : List Int) (fuel : Int) (vP : Value) (Fa_Procs : List Nat) (vF : Value) (Fb_Frames : List Nat) (vI : Value) (Fi_L : List Nat) (w : World) (ha_Procs : RL w p.Procs vP Fa_Procs) (hb_Frames : RL w r.Frames vF Fb_Frames) (hi_L : RL w ins vI Fi_L) (hfu : I64 fuel) : Calls Tryz.prog 6 #[.agg #[vP], .agg #[.int .i64 r.State, vF, .int .i64 r.Out, .int .i64 r.Proc, .int .i64 r.Pc], vI, .int .i64 fuel] w fun e w' => e = .returned (.bool true) ∧ Chg [] w w' := by
  obtain ⟨AP, cP, rfl, -, -⟩ := ha_Procs.form
  obtain ⟨AF, cF, rfl, -, -⟩ := hb_Frames.form
  obtain ⟨AI, cI, rfl, hI1, hI2⟩ := hi_L.form
  have hIlen : (ins.length : Int) ≤ 9223372036854775807 := by have h2 := hI2; unfold maxLen at h2; omega
  clear hI1 hI2
  have Ba := Lib.hid (show ∀ g ∈ Fa_Procs, g < w.heap.size from ha_Procs.lt)
  have Bb := Lib.hid (show ∀ g ∈ Fb_Frames, g < w.heap.size from hb_Frames.lt)
  have Bi := Lib.hid (show ∀ g ∈ Fi_L, g < w.heap.size from hi_L.lt)
  replace ha_Procs := Lib.hid ha_Procs
  replace hb_Frames := Lib.hid hb_Frames
  replace hi_L := Lib.hid hi_L
  generalize hxx : runMany p r ins fuel = x
  have hspec : ∀ vp Fp vf Ff vi Fi (u : World), RL u p.Procs vp Fp → RL u r.Frames vf Ff → RL u ins vi Fi → Calls Tryz.prog 33 #[.agg #[vp], .agg #[.int .i64 r.State, vf, .int .i64 r.Out, .int .i64 r.Proc, .int .i64 r.Pc], vi, .int .i64 fuel] u (NewRunM x u) := fun vp Fp vf Ff vi Fi u h1 h2 h3 => (refMany_c p r ins fuel vp vf vi Fp Ff Fi u h1 h2 h3 hfu).mono (fun e w2 hh => newRunM_of (hxx ▸ hh))
  have himpl : ∀ vp Fp vf Ff vi Fi (u : World), RL u p.Procs vp Fp → RL u r.Frames vf Ff → RL u ins vi Fi → Calls Tryz.prog 19 #[.agg #[vp], .agg #[.int .i64 r.State, vf, .int .i64 r.Out, .int .i64 r.Proc, .int .i64 r.Pc], vi, .int .i64 fuel] u (NewRunM x u) := fun vp Fp vf Ff vi Fi u h1 h2 h3 => (implMany_c p r ins fuel vp vf vi Fp Ff Fi u h1 h2 h3 hfu).mono (fun e w2 hh => newRunM_of (hxx ▸ hh))
  have hcx_ := Lib.hid (show cntL x.Frames ≤ 50 from hxx ▸ many_cnt p r ins fuel)
  clear hxx hfu
  by_cases hbig : (1048576 : Int) < ins.length
  · go_enter Tryz.func6, Tryz.ntmps6
    go_wp2
    go_ret
    exact ⟨rfl, by repeat (first | with_reducible refine Chg.setCell ?_ (Or.inr (by first | (simp; done) | (simp; omega))) _ | with_reducible refine Chg.alloc ?_ _ | with_reducible refine Chg.drewN ?_ _ | with_reducible refine Chg.drew ?_ | with_reducible exact Chg.refl _ _ | with_reducible assumption)⟩
  have HZi : Hid (szL ins ≤ 1048576) := Lib.hid (by rw [szL, szI_int]; omega)
  have hIn : (ins.length : Int) ≤ 1048576 := by omega
  go_enter Tryz.func6, Tryz.ntmps6
  go_wp2_with fail
  refine (szPrgProg_c p _ _ 1048576 _ (ha_Procs.out.chg0 (by repeat (first | with_reducible exact Chg.refl _ _ | with_reducible refine Chg.alloc ?_ _ | with_reducible refine Chg.drewN ?_ _ | with_reducible refine Chg.drew ?_))) (by omega) (by omega)).mono ?_
  rintro e w1 ⟨⟨r1, rfl, hr1⟩, hm⟩
  have hs1 := hm.size
  repeat (first | rw [World.size_alloc] at hs1 | rw [World.size_setCell] at hs1 | rw [World.size_drew] at hs1 | rw [World.heap_drewN] at hs1)
  have hb1_0 := hm.cb (b := w.heap.size)
  have hb1_1 := hm.cb (b := w.heap.size + 1)
  have hl1_0 : w.heap.size < w1.heap.size := by omega
  have hl1_1 : w.heap.size + 1 < w1.heap.size := by omega
  have hX : Chg ([]) w w1 := Chg.trans (Chg.d) hm (fun g hg => Or.inl hg)
  replace hX := Lib.hid hX
  clear hm
  replace ha_Procs := Lib.hid (ha_Procs.out.chg0 hX.out)
  replace hb_Frames := Lib.hid (hb_Frames.out.chg0 hX.out)
  replace hi_L := Lib.hid (hi_L.out.chg0 hX.out)
  have hK1 := Lib.hid (hX.out)
  clear hX
  rcases hr1 with rfl | ⟨hn1, he1⟩
  · go_wp2
    go_ret
    exact ⟨rfl, hK1.out⟩
  go_wp2_with fail
  refine (szRunRun_c r _ _ r1 _ (hb_Frames.out.chg0 (by repeat (first | with_reducible exact Chg.refl _ _ | with_reducible refine Chg.alloc ?_ _ | with_reducible refine Chg.drewN ?_ _ | with_reducible refine Chg.drew ?_))) hn1 (by omega)).mono ?_
  rintro e w2 ⟨⟨r2, rfl, hr2⟩, hm⟩
  have hs2 := hm.size
  repeat (first | rw [World.size_alloc] at hs2 | rw [World.size_setCell] at hs2 | rw [World.size_drew] at hs2 | rw [World.heap_drewN] at hs2)
  have hb2_0 := hm.cb (b := w.heap.size)
  have hb2_1 := hm.cb (b := w.heap.size + 1)
  have hl2_0 : w.heap.size < w2.heap.size := by omega
  have hl2_1 : w.heap.size + 1 < w2.heap.size := by omega
  have hX : Chg ([]) w1 w2 := Chg.trans (Chg.d) hm (fun g hg => Or.inl hg)
  replace hX := Lib.hid hX
  clear hm
  replace ha_Procs := Lib.hid (ha_Procs.out.chg0 hX.out)
  replace hb_Frames := Lib.hid (hb_Frames.out.chg0 hX.out)
  replace hi_L := Lib.hid (hi_L.out.chg0 hX.out)
  have hK2 := Lib.hid ((hK1.out.trans0 hX.out))
  clear hX hK1
  rcases hr2 with rfl | ⟨hn2, he2⟩
  · go_wp2
    go_ret
    exact ⟨rfl, hK2.out⟩
  have HZa : Hid (Sz.size p ≤ 1048576) := Lib.hid (by omega)
  have HZb : Hid (Sz.size r ≤ 1048576) := Lib.hid (by omega)
  clear he1 he2
  have pp : w2.cell? ⟨w.heap.size, 0, none⟩ = some (.slice AP p.Procs.length cP) := by simp [go_sem, hb2_0, hb1_0]
  have pr0 : w2.cell? ⟨w.heap.size + 1, 0, none⟩ = some (.int .i64 r.State) := by simp [go_sem, hb2_1, hb1_1]
  have pr1 : w2.cell? ⟨w.heap.size + 1, 1, none⟩ = some (.slice AF r.Frames.length cF) := by simp [go_sem, hb2_1, hb1_1]
  have pr2 : w2.cell? ⟨w.heap.size + 1, 2, none⟩ = some (.int .i64 r.Out) := by simp [go_sem, hb2_1, hb1_1]
  have pr3 : w2.cell? ⟨w.heap.size + 1, 3, none⟩ = some (.int .i64 r.Proc) := by simp [go_sem, hb2_1, hb1_1]
  have pr4 : w2.cell? ⟨w.heap.size + 1, 4, none⟩ = some (.int .i64 r.Pc) := by simp [go_sem, hb2_1, hb1_1]
  have lUP := hl2_0
  have lUR := hl2_1
  have nUP : ¬ w.heap.size = w2.heap.size := Nat.ne_of_lt hl2_0
  have nUR : ¬ w.heap.size + 1 = w2.heap.size := Nat.ne_of_lt hl2_1
  clear hb1_0 hb1_1 hb2_0 hb2_1 hs1 hs2 hl1_0 hl1_1
  go_wp2_with fail
  refine (show (∀ Q : Exit → Act → World → Prop, (∀ (B : Nat) (y19 y20 y21 y22 y23 y24 y25 y26 y27 y28 y29 y30 y31 y32 y33 y34 y35 y36 y37 y38 y39 : Value) (v : Value) (G : List Nat) (W : World), CutM w2 x B v G W → Q .normal { tmps := #[.agg #[.slice AP p.Procs.length cP], .agg #[.int .i64 r.State, .slice AF r.Frames.length cF, .int .i64 r.Out, .int .i64 r.Proc, .int .i64 r.Pc], .slice AI ins.length cI, .int .i64 fuel, .pointer (some ⟨w.heap.size, 0, none⟩), .pointer (some ⟨w.heap.size + 1, 0, none⟩), undef, undef, .bool false, .int .i64 r2, .pointer (some ⟨B, 0, none⟩), undef, undef, undef, undef, undef, undef, undef, undef, y19, y20, y21, y22, y23, y24, y25, y26, y27, y28, y29, y30, y31, y32, y33, y34, y35, y36, y37, y38, y39, undef, undef, undef, undef, undef, undef, undef, undef, undef, undef, undef, undef, undef, undef, undef, undef, undef, undef, undef, undef, undef, undef, undef, undef, undef, undef, undef, undef, undef, undef, undef, undef, undef, undef, undef, undef, undef, undef, undef, undef, undef, undef, undef, undef, undef, undef, undef, undef, undef, undef, undef, undef, undef, undef, undef, undef, undef, undef, undef, undef, undef, undef, undef, undef, undef, undef, undef, undef, undef, undef, undef, undef, undef, undef, undef, undef, undef, undef], defers := [] } W) → Code.wp _ _ Q _ _) → _ from fun key => Code.wp_mono ?_ (key (fun e a W => e = .normal ∧ ∃ (B : Nat) (y19 y20 y21 y22 y23 y24 y25 y26 y27 y28 y29 y30 y31 y32 y33 y34 y35 y36 y37 y38 y39 : Value) (v : Value) (G : List Nat), a = { tmps := #[.agg #[.slice AP p.Procs.length cP], .agg #[.int .i64 r.State, .slice AF r.Frames.length cF, .int .i64 r.Out, .int .i64 r.Proc, .int .i64 r.Pc], .slice AI ins.length cI, .int .i64 fuel, .pointer (some ⟨w.heap.size, 0, none⟩), .pointer (some ⟨w.heap.size + 1, 0, none⟩), undef, undef, .bool false, .int .i64 r2, .pointer (some ⟨B, 0, none⟩), undef, undef, undef, undef, undef, undef, undef, undef, y19, y20, y21, y22, y23, y24, y25, y26, y27, y28, y29, y30, y31, y32, y33, y34, y35, y36, y37, y38, y39, undef, undef, undef, undef, undef, undef, undef, undef, undef, undef, undef, undef, undef, undef, undef, undef, undef, undef, undef, undef, undef, undef, undef, undef, undef, undef, undef, undef, undef, undef, undef, undef, undef, undef, undef, undef, undef, undef, undef, undef, undef, undef, undef, undef, undef, undef, undef, undef, undef, undef, undef, undef, undef, undef, undef, undef, undef, undef, undef, undef, undef, undef, undef, undef, undef, undef, undef, undef, undef, undef, undef, undef, undef, undef, undef, undef, undef, undef], defers := [] } ∧ CutM w2 x B v G W) (fun B y19 y20 y21 y22 y23 y24 y25 y26 y27 y28 y29 y30 y31 y32 y33 y34 y35 y36 y37 y38 y39 v G W h => ⟨rfl, B, y19, y20, y21, y22, y23, y24, y25, y26, y27, y28, y29, y30, y31, y32, y33, y34, y35, y36, y37, y38, y39, v, G, rfl, h⟩))) ?_
  rotate_left
  · intro Q hM
    have hM' := Lib.hid hM
    clear hM
    go_region_held3 (fun w' => w'.cell? ⟨w.heap.size, 0, none⟩ = some (.slice AP p.Procs.length cP) ∧ w'.cell? ⟨w.heap.size + 1, 0, none⟩ = some (.int .i64 r.State) ∧ w'.cell? ⟨w.heap.size + 1, 1, none⟩ = some (.slice AF r.Frames.length cF) ∧ w'.cell? ⟨w.heap.size + 1, 2, none⟩ = some (.int .i64 r.Out) ∧ w'.cell? ⟨w.heap.size + 1, 3, none⟩ = some (.int .i64 r.Proc) ∧ w'.cell? ⟨w.heap.size + 1, 4, none⟩ = some (.int .i64 r.Pc)) (((try dsimp only); (repeat' apply And.intro) <;> (first | with_reducible assumption | (with_reducible refine (cell5M ?_).trans ?_ <;> (first | with_reducible assumption | exact nUP | exact nUR | exact naP | exact naR | exact nbP | exact nbR | exact niP | exact niR | exact ncP | exact ncR)) | (go_keep; done))))
      (first | (go_at_call 26; refine (toPrgProg_c p _ _ _ (ha_Procs.out.chg0 (by repeat (first | with_reducible refine Chg.setCell ?_ (Or.inr (by first | (simp; done) | (simp; omega))) _ | with_reducible refine Chg.alloc ?_ _ | with_reducible refine Chg.drewN ?_ _ | with_reducible refine Chg.drew ?_ | with_reducible exact Chg.refl _ _ | with_reducible assumption))) HZa.out).mono ?_; rintro e wa ⟨ua, Ga, rfl, hqwa, ra, oa, ga⟩; obtain ⟨Aa, ka, rfl, -, -⟩ := ra.form; have hKwa : Chg [] w2 wa := Chg.trans0 (show Chg [] w2 _ from by repeat (first | with_reducible refine Chg.setCell ?_ (Or.inr (by first | (simp; done) | (simp; omega))) _ | with_reducible refine Chg.alloc ?_ _ | with_reducible refine Chg.drewN ?_ _ | with_reducible refine Chg.drew ?_ | with_reducible exact Chg.refl _ _ | with_reducible assumption)) hqwa; have ppwa := hKwa.cell0 pp; have pr0wa := hKwa.cell0 pr0; have pr1wa := hKwa.cell0 pr1; have pr2wa := hKwa.cell0 pr2; have pr3wa := hKwa.cell0 pr3; have pr4wa := hKwa.cell0 pr4; have swa := hKwa.size; have naP : ¬ w.heap.size = wa.heap.size := Nat.ne_of_lt (Nat.lt_of_lt_of_le lUP swa); have naR : ¬ w.heap.size + 1 = wa.heap.size := Nat.ne_of_lt (Nat.lt_of_lt_of_le lUR swa); have zUc0 := hqwa.cells.1 w2.heap.size 0; have zUc1 := hqwa.cells.1 w2.heap.size 1; have zUc2 := hqwa.cells.1 w2.heap.size 2; have zUc3 := hqwa.cells.1 w2.heap.size 3; have zUc4 := hqwa.cells.1 w2.heap.size 4; have zUf0 := hqwa.cells.2 w2.heap.size 0; have zUf1 := hqwa.cells.2 w2.heap.size 1; have zUf2 := hqwa.cells.2 w2.heap.size 2; have zUf3 := hqwa.cells.2 w2.heap.size 3; have zUf4 := hqwa.cells.2 w2.heap.size 4; have szwa := hqwa.size; (try simp only [World.size_alloc, World.size_setCell, World.size_drew] at szwa); (try have lt_U_wa := Nat.lt_of_succ_le szwa); have ra_ := Lib.hid ra; clear ra oa ga) | (go_at_call 27; refine (toRunRun_c r _ _ _ (hb_Frames.out.chg0 (by repeat (first | with_reducible refine Chg.setCell ?_ (Or.inr (by first | (simp; done) | (simp; omega))) _ | with_reducible refine Chg.alloc ?_ _ | with_reducible refine Chg.drewN ?_ _ | with_reducible refine Chg.drew ?_ | with_reducible exact Chg.refl _ _ | with_reducible assumption | with_reducible refine Chg.trans0 ?_ hKwa))) HZb.out).mono ?_; rintro e wb ⟨ub, Gb, rfl, hqwb, rb, ob, gb⟩; obtain ⟨Ab, kb, rfl, -, -⟩ := rb.form; have hKwb : Chg [] w2 wb := Chg.trans0 (show Chg [] w2 _ from by repeat (first | with_reducible refine Chg.setCell ?_ (Or.inr (by first | (simp; done) | (simp; omega))) _ | with_reducible refine Chg.alloc ?_ _ | with_reducible refine Chg.drewN ?_ _ | with_reducible refine Chg.drew ?_ | with_reducible exact Chg.refl _ _ | with_reducible assumption | with_reducible refine Chg.trans0 ?_ hKwa)) hqwb; have ppwb := hKwb.cell0 pp; have pr0wb := hKwb.cell0 pr0; have pr1wb := hKwb.cell0 pr1; have pr2wb := hKwb.cell0 pr2; have pr3wb := hKwb.cell0 pr3; have pr4wb := hKwb.cell0 pr4; have swb := hKwb.size; have nbP : ¬ w.heap.size = wb.heap.size := Nat.ne_of_lt (Nat.lt_of_lt_of_le lUP swb); have nbR : ¬ w.heap.size + 1 = wb.heap.size := Nat.ne_of_lt (Nat.lt_of_lt_of_le lUR swb); have zUc0 := hqwb.cells.1 w2.heap.size 0; have zUc1 := hqwb.cells.1 w2.heap.size 1; have zUc2 := hqwb.cells.1 w2.heap.size 2; have zUc3 := hqwb.cells.1 w2.heap.size 3; have zUc4 := hqwb.cells.1 w2.heap.size 4; have zUf0 := hqwb.cells.2 w2.heap.size 0; have zUf1 := hqwb.cells.2 w2.heap.size 1; have zUf2 := hqwb.cells.2 w2.heap.size 2; have zUf3 := hqwb.cells.2 w2.heap.size 3; have zUf4 := hqwb.cells.2 w2.heap.size 4; have zwac0 := hqwb.cells.1 wa.heap.size 0; have zwac1 := hqwb.cells.1 wa.heap.size 1; have zwac2 := hqwb.cells.1 wa.heap.size 2; have zwac3 := hqwb.cells.1 wa.heap.size 3; have zwac4 := hqwb.cells.1 wa.heap.size 4; have zwaf0 := hqwb.cells.2 wa.heap.size 0; have zwaf1 := hqwb.cells.2 wa.heap.size 1; have zwaf2 := hqwb.cells.2 wa.heap.size 2; have zwaf3 := hqwb.cells.2 wa.heap.size 3; have zwaf4 := hqwb.cells.2 wa.heap.size 4; have szwb := hqwb.size; (try simp only [World.size_alloc, World.size_setCell, World.size_drew] at szwb); (try have lt_wa_wb := Nat.lt_of_succ_le szwb); (try have lt_U_wb := Nat.lt_of_lt_of_le lt_U_wa (Nat.le_of_lt_succ (Nat.lt_succ_of_le szwb))); have rb_ := Lib.hid rb; clear rb ob gb) | (go_at_call 34; refine (toIntS_c ins _ _ _ (hi_L.out.chg0 (by repeat (first | with_reducible refine Chg.setCell ?_ (Or.inr (by first | (simp; done) | (simp; omega))) _ | with_reducible refine Chg.alloc ?_ _ | with_reducible refine Chg.drewN ?_ _ | with_reducible refine Chg.drew ?_ | with_reducible exact Chg.refl _ _ | with_reducible assumption | with_reducible refine Chg.trans0 ?_ hKwb))) HZi.out).mono ?_; rintro e wi ⟨ui, Gi, rfl, hqwi, ri, oi, gi⟩; obtain ⟨Ai, ki, rfl, -, -⟩ := ri.form; have hKwi : Chg [] w2 wi := Chg.trans0 (show Chg [] w2 _ from by repeat (first | with_reducible refine Chg.setCell ?_ (Or.inr (by first | (simp; done) | (simp; omega))) _ | with_reducible refine Chg.alloc ?_ _ | with_reducible refine Chg.drewN ?_ _ | with_reducible refine Chg.drew ?_ | with_reducible exact Chg.refl _ _ | with_reducible assumption | with_reducible refine Chg.trans0 ?_ hKwb)) hqwi; have ppwi := hKwi.cell0 pp; have pr0wi := hKwi.cell0 pr0; have pr1wi := hKwi.cell0 pr1; have pr2wi := hKwi.cell0 pr2; have pr3wi := hKwi.cell0 pr3; have pr4wi := hKwi.cell0 pr4; have swi := hKwi.size; have niP : ¬ w.heap.size = wi.heap.size := Nat.ne_of_lt (Nat.lt_of_lt_of_le lUP swi); have niR : ¬ w.heap.size + 1 = wi.heap.size := Nat.ne_of_lt (Nat.lt_of_lt_of_le lUR swi); have zUc0 := hqwi.cells.1 w2.heap.size 0; have zUc1 := hqwi.cells.1 w2.heap.size 1; have zUc2 := hqwi.cells.1 w2.heap.size 2; have zUc3 := hqwi.cells.1 w2.heap.size 3; have zUc4 := hqwi.cells.1 w2.heap.size 4; have zUf0 := hqwi.cells.2 w2.heap.size 0; have zUf1 := hqwi.cells.2 w2.heap.size 1; have zUf2 := hqwi.cells.2 w2.heap.size 2; have zUf3 := hqwi.cells.2 w2.heap.size 3; have zUf4 := hqwi.cells.2 w2.heap.size 4; have zwac0 := hqwi.cells.1 wa.heap.size 0; have zwac1 := hqwi.cells.1 wa.heap.size 1; have zwac2 := hqwi.cells.1 wa.heap.size 2; have zwac3 := hqwi.cells.1 wa.heap.size 3; have zwac4 := hqwi.cells.1 wa.heap.size 4; have zwaf0 := hqwi.cells.2 wa.heap.size 0; have zwaf1 := hqwi.cells.2 wa.heap.size 1; have zwaf2 := hqwi.cells.2 wa.heap.size 2; have zwaf3 := hqwi.cells.2 wa.heap.size 3; have zwaf4 := hqwi.cells.2 wa.heap.size 4; have zwbc0 := hqwi.cells.1 wb.heap.size 0; have zwbc1 := hqwi.cells.1 wb.heap.size 1; have zwbc2 := hqwi.cells.1 wb.heap.size 2; have zwbc3 := hqwi.cells.1 wb.heap.size 3; have zwbc4 := hqwi.cells.1 wb.heap.size 4; have zwbf0 := hqwi.cells.2 wb.heap.size 0; have zwbf1 := hqwi.cells.2 wb.heap.size 1; have zwbf2 := hqwi.cells.2 wb.heap.size 2; have zwbf3 := hqwi.cells.2 wb.heap.size 3; have zwbf4 := hqwi.cells.2 wb.heap.size 4; have szwi := hqwi.size; (try simp only [World.size_alloc, World.size_setCell, World.size_drew] at szwi); (try have lt_wb_wi := Nat.lt_of_succ_le szwi); (try have lt_U_wi := Nat.lt_of_lt_of_le lt_U_wb (Nat.le_of_lt_succ (Nat.lt_succ_of_le szwi))); (try have lt_wa_wi := Nat.lt_of_lt_of_le lt_wa_wb (Nat.le_of_lt_succ (Nat.lt_succ_of_le szwi))); have hKbi : Chg [] wb wi := Chg.trans0 (show Chg [] wb _ from by repeat (first | with_reducible refine Chg.setCell ?_ (Or.inr (by first | (simp; done) | (simp; omega))) _ | with_reducible refine Chg.alloc ?_ _ | with_reducible refine Chg.drewN ?_ _ | with_reducible refine Chg.drew ?_ | with_reducible exact Chg.refl _ _ | with_reducible assumption)) hqwi; have hKai : Chg [] wa wi := Chg.trans0 (show Chg [] wa _ from by repeat (first | with_reducible refine Chg.setCell ?_ (Or.inr (by first | (simp; done) | (simp; omega))) _ | with_reducible refine Chg.alloc ?_ _ | with_reducible refine Chg.drewN ?_ _ | with_reducible refine Chg.drew ?_ | with_reducible exact Chg.refl _ _ | with_reducible assumption | with_reducible refine Chg.trans0 ?_ (hqwb))) hqwi; have ri_ := Lib.hid ri; clear ri oi gi) | (go_at_call 33; refine (hspec _ _ _ _ _ _ _ (ra_.out.chg0 (by repeat (first | with_reducible refine Chg.setCell ?_ (Or.inr (by first | (simp; done) | (simp; omega))) _ | with_reducible refine Chg.alloc ?_ _ | with_reducible refine Chg.drewN ?_ _ | with_reducible refine Chg.drew ?_ | with_reducible exact Chg.refl _ _ | with_reducible assumption | with_reducible refine Chg.trans0 ?_ hKai))) (rb_.out.chg0 (by repeat (first | with_reducible refine Chg.setCell ?_ (Or.inr (by first | (simp; done) | (simp; omega))) _ | with_reducible refine Chg.alloc ?_ _ | with_reducible refine Chg.drewN ?_ _ | with_reducible refine Chg.drew ?_ | with_reducible exact Chg.refl _ _ | with_reducible assumption | with_reducible refine Chg.trans0 ?_ hKbi))) (ri_.out.chg0 (by repeat (first | with_reducible refine Chg.setCell ?_ (Or.inr (by first | (simp; done) | (simp; omega))) _ | with_reducible refine Chg.alloc ?_ _ | with_reducible refine Chg.drewN ?_ _ | with_reducible refine Chg.drew ?_ | with_reducible exact Chg.refl _ _ | with_reducible assumption)))).mono ?_; rintro e wc ⟨vc, Gc, rfl, hqwc, rc, oc, gc⟩; obtain ⟨Ac, kc, cc, rfl⟩ := form3M rc; have hKwc : Chg [] w2 wc := Chg.trans0 (show Chg [] w2 _ from by repeat (first | with_reducible refine Chg.setCell ?_ (Or.inr (by first | (simp; done) | (simp; omega))) _ | with_reducible refine Chg.alloc ?_ _ | with_reducible refine Chg.drewN ?_ _ | with_reducible refine Chg.drew ?_ | with_reducible exact Chg.refl _ _ | with_reducible assumption | with_reducible refine Chg.trans0 ?_ hKwi)) hqwc; have ppwc := hKwc.cell0 pp; have pr0wc := hKwc.cell0 pr0; have pr1wc := hKwc.cell0 pr1; have pr2wc := hKwc.cell0 pr2; have pr3wc := hKwc.cell0 pr3; have pr4wc := hKwc.cell0 pr4; have swc := hKwc.size; have ncP : ¬ w.heap.size = wc.heap.size := Nat.ne_of_lt (Nat.lt_of_lt_of_le lUP swc); have ncR : ¬ w.heap.size + 1 = wc.heap.size := Nat.ne_of_lt (Nat.lt_of_lt_of_le lUR swc); have zUc0 := hqwc.cells.1 w2.heap.size 0; have zUc1 := hqwc.cells.1 w2.heap.size 1; have zUc2 := hqwc.cells.1 w2.heap.size 2; have zUc3 := hqwc.cells.1 w2.heap.size 3; have zUc4 := hqwc.cells.1 w2.heap.size 4; have zUf0 := hqwc.cells.2 w2.heap.size 0; have zUf1 := hqwc.cells.2 w2.heap.size 1; have zUf2 := hqwc.cells.2 w2.heap.size 2; have zUf3 := hqwc.cells.2 w2.heap.size 3; have zUf4 := hqwc.cells.2 w2.heap.size 4; have zwac0 := hqwc.cells.1 wa.heap.size 0; have zwac1 := hqwc.cells.1 wa.heap.size 1; have zwac2 := hqwc.cells.1 wa.heap.size 2; have zwac3 := hqwc.cells.1 wa.heap.size 3; have zwac4 := hqwc.cells.1 wa.heap.size 4; have zwaf0 := hqwc.cells.2 wa.heap.size 0; have zwaf1 := hqwc.cells.2 wa.heap.size 1; have zwaf2 := hqwc.cells.2 wa.heap.size 2; have zwaf3 := hqwc.cells.2 wa.heap.size 3; have zwaf4 := hqwc.cells.2 wa.heap.size 4; have zwbc0 := hqwc.cells.1 wb.heap.size 0; have zwbc1 := hqwc.cells.1 wb.heap.size 1; have zwbc2 := hqwc.cells.1 wb.heap.size 2; have zwbc3 := hqwc.cells.1 wb.heap.size 3; have zwbc4 := hqwc.cells.1 wb.heap.size 4; have zwbf0 := hqwc.cells.2 wb.heap.size 0; have zwbf1 := hqwc.cells.2 wb.heap.size 1; have zwbf2 := hqwc.cells.2 wb.heap.size 2; have zwbf3 := hqwc.cells.2 wb.heap.size 3; have zwbf4 := hqwc.cells.2 wb.heap.size 4; have zwic0 := hqwc.cells.1 wi.heap.size 0; have zwic1 := hqwc.cells.1 wi.heap.size 1; have zwic2 := hqwc.cells.1 wi.heap.size 2; have zwic3 := hqwc.cells.1 wi.heap.size 3; have zwic4 := hqwc.cells.1 wi.heap.size 4; have zwif0 := hqwc.cells.2 wi.heap.size 0; have zwif1 := hqwc.cells.2 wi.heap.size 1; have zwif2 := hqwc.cells.2 wi.heap.size 2; have zwif3 := hqwc.cells.2 wi.heap.size 3; have zwif4 := hqwc.cells.2 wi.heap.size 4; have szwc := hqwc.size; (try simp only [World.size_alloc, World.size_setCell, World.size_drew] at szwc); (try have lt_wi_wc := Nat.lt_of_succ_le szwc); (try have lt_U_wc := Nat.lt_of_lt_of_le lt_U_wi (Nat.le_of_lt_succ (Nat.lt_succ_of_le szwc))); (try have lt_wa_wc := Nat.lt_of_lt_of_le lt_wa_wi (Nat.le_of_lt_succ (Nat.lt_succ_of_le szwc))); (try have lt_wb_wc := Nat.lt_of_lt_of_le lt_wb_wi (Nat.le_of_lt_succ (Nat.lt_succ_of_le szwc))); have rc_ := Lib.hid rc; have oc_ := Lib.hid oc; (try simp only [World.size_alloc, World.size_setCell, World.size_drew] at gc); have gc_ := Lib.hid gc; clear rc oc gc))
    · refine hM'.out wc.heap.size _ _ _ _ _ _ _ _ _ _ _ _ _ _ _ _ _ _ _ _ _ (.slice Ac kc cc) Gc _ ?_
      refine ⟨by repeat (first | with_reducible refine Chg.setCell ?_ (Or.inr (by first | (simp; done) | (simp; omega))) _ | with_reducible refine Chg.alloc ?_ _ | with_reducible refine Chg.drewN ?_ _ | with_reducible refine Chg.drew ?_ | with_reducible exact Chg.refl _ _ | with_reducible assumption | with_reducible refine Chg.trans0 ?_ hKwc), rc_.out.chg0 (by repeat (first | with_reducible refine Chg.setCell ?_ (Or.inr (by first | (simp; done) | (simp; omega))) _ | with_reducible refine Chg.alloc ?_ _ | with_reducible refine Chg.drewN ?_ _ | with_reducible refine Chg.drew ?_ | with_reducible exact Chg.refl _ _ | with_reducible assumption)), oc_.out.chg0 (by repeat (first | with_reducible refine Chg.setCell ?_ (Or.inr (by first | (simp; done) | (simp; omega))) _ | with_reducible refine Chg.alloc ?_ _ | with_reducible refine Chg.drewN ?_ _ | with_reducible refine Chg.drew ?_ | with_reducible exact Chg.refl _ _ | with_reducible assumption)), fun g hg => by have h1 := gc_.out g hg; omega, by omega, by (first | (simp; done) | (simp; omega)), fun hg => absurd (oc_.out.lt _ hg) (Nat.lt_irrefl _), ?_⟩
      simp [go_sem]
    · refine hM'.out wi.heap.size _ _ _ _ _ _ _ _ _ _ _ _ _ _ _ _ _ _ _ _ _ (.slice Ac kc cc) Gc _ ?_
      refine ⟨by repeat (first | with_reducible refine Chg.setCell ?_ (Or.inr (by first | (simp; done) | (simp; omega))) _ | with_reducible refine Chg.alloc ?_ _ | with_reducible refine Chg.drewN ?_ _ | with_reducible refine Chg.drew ?_ | with_reducible exact Chg.refl _ _ | with_reducible assumption | with_reducible refine Chg.trans0 ?_ hKwc), rc_.out.chg (G := [wi.heap.size]) (by repeat (first | with_reducible refine Chg.setCell ?_ (Or.inl (by first | (simp; done) | (simp; omega))) _ | with_reducible refine Chg.alloc ?_ _ | with_reducible refine Chg.drewN ?_ _ | with_reducible refine Chg.drew ?_ | with_reducible exact Chg.refl _ _ | with_reducible assumption)) (fun g hg hg2 => by have h1 := gc_.out g hg; have h2 := List.mem_singleton.1 hg2; omega), oc_.out.chg (G := [wi.heap.size]) (by repeat (first | with_reducible refine Chg.setCell ?_ (Or.inl (by first | (simp; done) | (simp; omega))) _ | with_reducible refine Chg.alloc ?_ _ | with_reducible refine Chg.drewN ?_ _ | with_reducible refine Chg.drew ?_ | with_reducible exact Chg.refl _ _ | with_reducible assumption)) (fun g hg hg2 => by have h1 := gc_.out g hg; have h2 := List.mem_singleton.1 hg2; omega), fun g hg => by have h1 := gc_.out g hg; omega, by omega, by (first | (simp; done) | (simp; omega)), fun hg => by have h1 := gc_.out _ hg; omega, ?_⟩
      go_simp
    · refine hM'.out wb.heap.size _ _ _ _ _ _ _ _ _ _ _ _ _ _ _ _ _ _ _ _ _ (.slice Ac kc cc) Gc _ ?_
      refine ⟨by repeat (first | with_reducible refine Chg.setCell ?_ (Or.inr (by first | (simp; done) | (simp; omega))) _ | with_reducible refine Chg.alloc ?_ _ | with_reducible refine Chg.drewN ?_ _ | with_reducible refine Chg.drew ?_ | with_reducible exact Chg.refl _ _ | with_reducible assumption | with_reducible refine Chg.trans0 ?_ hKwc), rc_.out.chg (G := [wb.heap.size]) (by repeat (first | with_reducible refine Chg.setCell ?_ (Or.inl (by first | (simp; done) | (simp; omega))) _ | with_reducible refine Chg.alloc ?_ _ | with_reducible refine Chg.drewN ?_ _ | with_reducible refine Chg.drew ?_ | with_reducible exact Chg.refl _ _ | with_reducible assumption)) (fun g hg hg2 => by have h1 := gc_.out g hg; have h2 := List.mem_singleton.1 hg2; omega), oc_.out.chg (G := [wb.heap.size]) (by repeat (first | with_reducible refine Chg.setCell ?_ (Or.inl (by first | (simp; done) | (simp; omega))) _ | with_reducible refine Chg.alloc ?_ _ | with_reducible refine Chg.drewN ?_ _ | with_reducible refine Chg.drew ?_ | with_reducible exact Chg.refl _ _ | with_reducible assumption)) (fun g hg hg2 => by have h1 := gc_.out g hg; have h2 := List.mem_singleton.1 hg2; omega), fun g hg => by have h1 := gc_.out g hg; omega, by omega, by (first | (simp; done) | (simp; omega)), fun hg => by have h1 := gc_.out _ hg; omega, ?_⟩
      go_simp
    · refine hM'.out wa.heap.size _ _ _ _ _ _ _ _ _ _ _ _ _ _ _ _ _ _ _ _ _ (.slice Ac kc cc) Gc _ ?_
      refine ⟨by repeat (first | with_reducible refine Chg.setCell ?_ (Or.inr (by first | (simp; done) | (simp; omega))) _ | with_reducible refine Chg.alloc ?_ _ | with_reducible refine Chg.drewN ?_ _ | with_reducible refine Chg.drew ?_ | with_reducible exact Chg.refl _ _ | with_reducible assumption | with_reducible refine Chg.trans0 ?_ hKwc), rc_.out.chg (G := [wa.heap.size]) (by repeat (first | with_reducible refine Chg.setCell ?_ (Or.inl (by first | (simp; done) | (simp; omega))) _ | with_reducible refine Chg.alloc ?_ _ | with_reducible refine Chg.drewN ?_ _ | with_reducible refine Chg.drew ?_ | with_reducible exact Chg.refl _ _ | with_reducible assumption)) (fun g hg hg2 => by have h1 := gc_.out g hg; have h2 := List.mem_singleton.1 hg2; omega), oc_.out.chg (G := [wa.heap.size]) (by repeat (first | with_reducible refine Chg.setCell ?_ (Or.inl (by first | (simp; done) | (simp; omega))) _ | with_reducible refine Chg.alloc ?_ _ | with_reducible refine Chg.drewN ?_ _ | with_reducible refine Chg.drew ?_ | with_reducible exact Chg.refl _ _ | with_reducible assumption)) (fun g hg hg2 => by have h1 := gc_.out g hg; have h2 := List.mem_singleton.1 hg2; omega), fun g hg => by have h1 := gc_.out g hg; omega, by omega, by (first | (simp; done) | (simp; omega)), fun hg => by have h1 := gc_.out _ hg; omega, ?_⟩
      go_simp
    · refine hM'.out w2.heap.size _ _ _ _ _ _ _ _ _ _ _ _ _ _ _ _ _ _ _ _ _ (.slice Ac kc cc) Gc _ ?_
      refine ⟨by repeat (first | with_reducible refine Chg.setCell ?_ (Or.inr (by first | (simp; done) | (simp; omega))) _ | with_reducible refine Chg.alloc ?_ _ | with_reducible refine Chg.drewN ?_ _ | with_reducible refine Chg.drew ?_ | with_reducible exact Chg.refl _ _ | with_reducible assumption | with_reducible refine Chg.trans0 ?_ hKwc), rc_.out.chg (G := [w2.heap.size]) (by repeat (first | with_reducible refine Chg.setCell ?_ (Or.inl (by first | (simp; done) | (simp; omega))) _ | with_reducible refine Chg.alloc ?_ _ | with_reducible refine Chg.drewN ?_ _ | with_reducible refine Chg.drew ?_ | with_reducible exact Chg.refl _ _ | with_reducible assumption)) (fun g hg hg2 => by have h1 := gc_.out g hg; have h2 := List.mem_singleton.1 hg2; omega), oc_.out.chg (G := [w2.heap.size]) (by repeat (first | with_reducible refine Chg.setCell ?_ (Or.inl (by first | (simp; done) | (simp; omega))) _ | with_reducible refine Chg.alloc ?_ _ | with_reducible refine Chg.drewN ?_ _ | with_reducible refine Chg.drew ?_ | with_reducible exact Chg.refl _ _ | with_reducible assumption)) (fun g hg hg2 => by have h1 := gc_.out g hg; have h2 := List.mem_singleton.1 hg2; omega), fun g hg => by have h1 := gc_.out g hg; omega, by omega, by (first | (simp; done) | (simp; omega)), fun hg => by have h1 := gc_.out _ hg; omega, ?_⟩
      go_simp
  rintro e act w3 ⟨rfl, B1, y19, y20, y21, y22, y23, y24, y25, y26, y27, y28, y29, y30, y31, y32, y33, y34, y35, y36, y37, y38, y39, vw, Fw_Frames, rfl, hcut⟩
  obtain ⟨hX0, rw0, ow0, gw0, B1a, B1b, B1n, B1c0, B1c1, B1c2, B1c3, B1c4⟩ := hcut
  obtain ⟨Aw_Frames, cw_Frames, rfl, -, -⟩ := rw0.form
  have hs3 := hX0.size
  have hb3_0 := fun o => hX0.cell (p := ⟨w.heap.size, o, none⟩) hl2_0 (by simp)
  have hb3_1 := fun o => hX0.cell (p := ⟨w.heap.size + 1, o, none⟩) hl2_1 (by simp)
  have hl3_0 : w.heap.size < w3.heap.size := by omega
  have hl3_1 : w.heap.size + 1 < w3.heap.size := by omega
  replace ha_Procs := Lib.hid (ha_Procs.out.chg0 hX0)
  replace hb_Frames := Lib.hid (hb_Frames.out.chg0 hX0)
  replace hi_L := Lib.hid (hi_L.out.chg0 hX0)
  have hK3 := Lib.hid (hK2.out.trans0 hX0)
  have Bw : ∀ g ∈ Fw_Frames, w.heap.size + 1 < g ∧ g < w3.heap.size := fun g hg => ⟨by have := gw0 g hg; omega, ow0.lt g hg⟩
  replace Bw := Lib.hid Bw
  have Ow := Lib.hid ow0
  have hw_Frames := Lib.hid rw0
  have hl3_2 : B1 < w3.heap.size := B1b
  obtain ⟨M1, hM1⟩ : ∃ M, w3.heap.size = M + 1 := ⟨w3.heap.size - 1, by omega⟩
  clear hX0 rw0 ow0 gw0
  have hb0 : 1 + (cntL p.Procs : Int) ≤ 4000000000 := by have := prg_cnt p HZa.out; omega
  have hb1 : 1 + (cntL p.Procs : Int) + (cntL r.Frames : Int) ≤ 4000000000 := by have := prg_cnt p HZa.out; have := run_cnt r HZb.out; omega
  have hb3 : 1 + (cntL p.Procs : Int) + (cntL r.Frames : Int) + (cntL ins : Int) ≤ 4000000000 := by have := prg_cnt p HZa.out; have := run_cnt r HZb.out; have := cntL_int ins; omega
  have hb2 : 1 + (cntL x.Frames : Int) ≤ 4000000000 := by have := hcx_.out; omega
  go_wp2_with fail
  refine (toPrgProg_c p _ _ _ (ha_Procs.out.chg0 (by repeat (first | with_reducible exact Chg.refl _ _ | with_reducible refine Chg.alloc ?_ _ | with_reducible refine Chg.drewN ?_ _ | with_reducible refine Chg.drew ?_))) HZa.out).mono ?_
  rintro e w4 ⟨vx_Procs, Fx_Procs, rfl, hm, hx_Procs, Ox, Bx⟩
  obtain ⟨Ax_Procs, cx_Procs, rfl, -, -⟩ := hx_Procs.form
  replace Bx : ∀ g ∈ Fx_Procs, M1 < g ∧ g < w4.heap.size := fun g hg => ⟨by have := Bx g hg; (repeat (first | rw [World.size_alloc] at this | rw [World.size_setCell] at this | rw [World.size_drew] at this | rw [World.heap_drewN] at this)); omega, Ox.lt g hg⟩
  replace Bx := Lib.hid Bx
  replace Ox := Lib.hid Ox
  replace hx_Procs := Lib.hid hx_Procs
  have hs4 := hm.size
  repeat (first | rw [World.size_alloc] at hs4 | rw [World.size_setCell] at hs4 | rw [World.size_drew] at hs4 | rw [World.heap_drewN] at hs4)
  have hb4_0 := hm.cb (b := w.heap.size)
  have hb4_1 := hm.cb (b := w.heap.size + 1)
  have hb4_2 := hm.cb (b := B1)
  have hl4_0 : w.heap.size < w4.heap.size := by omega
  have hl4_1 : w.heap.size + 1 < w4.heap.size := by omega
  have hl4_2 : B1 < w4.heap.size := by omega
  have hX : Chg ([]) w3 w4 := Chg.trans (Chg.d) hm (fun g hg => Or.inl hg)
  replace hX := Lib.hid hX
  clear hm
  replace ha_Procs := Lib.hid (ha_Procs.out.chg0 hX.out)
  replace hb_Frames := Lib.hid (hb_Frames.out.chg0 hX.out)
  replace hi_L := Lib.hid (hi_L.out.chg0 hX.out)
  replace hw_Frames := Lib.hid (hw_Frames.out.chg0 hX.out)
  replace Ow := Lib.hid (Ow.out.chg0 hX.out)
  have hK4 := Lib.hid ((hK3.out.trans0 hX.out))
  clear hX hK3
  go_wp2_with fail
  refine (toRunRun_c r _ _ _ (hb_Frames.out.chg0 (by repeat (first | with_reducible exact Chg.refl _ _ | with_reducible refine Chg.alloc ?_ _ | with_reducible refine Chg.drewN ?_ _ | with_reducible refine Chg.drew ?_))) HZb.out).mono ?_
  rintro e w5 ⟨vz_Frames, Fz_Frames, rfl, hm, hz_Frames, Oz, Bz⟩
  obtain ⟨Az_Frames, cz_Frames, rfl, -, -⟩ := hz_Frames.form
  replace Bz : ∀ g ∈ Fz_Frames, w4.heap.size < g ∧ g < w5.heap.size := fun g hg => ⟨by have := Bz g hg; (repeat (first | rw [World.size_alloc] at this | rw [World.size_setCell] at this | rw [World.size_drew] at this | rw [World.heap_drewN] at this)); omega, Oz.lt g hg⟩
  replace Bz := Lib.hid Bz
  replace Oz := Lib.hid Oz
  replace hz_Frames := Lib.hid hz_Frames
  have hs5 := hm.size
  repeat (first | rw [World.size_alloc] at hs5 | rw [World.size_setCell] at hs5 | rw [World.size_drew] at hs5 | rw [World.heap_drewN] at hs5)
  have hb5_0 := hm.cb (b := w.heap.size)
  have hb5_1 := hm.cb (b := w.heap.size + 1)
  have hb5_2 := hm.cb (b := B1)
  have hb5_3 := hm.cb (b := w4.heap.size)
  have hl5_0 : w.heap.size < w5.heap.size := by omega
  have hl5_1 : w.heap.size + 1 < w5.heap.size := by omega
  have hl5_2 : B1 < w5.heap.size := by omega
  have hl5_3 : w4.heap.size < w5.heap.size := by omega
  have hX : Chg ([]) w4 w5 := Chg.trans (Chg.d) hm (fun g hg => Or.inl hg)
  replace hX := Lib.hid hX
  clear hm
  replace ha_Procs := Lib.hid (ha_Procs.out.chg0 hX.out)
  replace hb_Frames := Lib.hid (hb_Frames.out.chg0 hX.out)
  replace hi_L := Lib.hid (hi_L.out.chg0 hX.out)
  replace hw_Frames := Lib.hid (hw_Frames.out.chg0 hX.out)
  replace hx_Procs := Lib.hid (hx_Procs.out.chg0 hX.out)
  replace Ow := Lib.hid (Ow.out.chg0 hX.out)
  replace Ox := Lib.hid (Ox.out.chg0 hX.out)
  have hK5 := Lib.hid ((hK4.out.trans0 hX.out))
  clear hX hK4
  go_wp2_with fail
  refine (toIntS_c ins _ _ _ (hi_L.out.chg0 (by repeat (first | with_reducible exact Chg.refl _ _ | with_reducible refine Chg.alloc ?_ _ | with_reducible refine Chg.drewN ?_ _ | with_reducible refine Chg.drew ?_))) HZi.out).mono ?_
  rintro e w6 ⟨vj_L, Fj_L, rfl, hm, hj_L, Oj, Bj⟩
  obtain ⟨Aj_L, cj_L, rfl, -, -⟩ := hj_L.form
  replace Bj : ∀ g ∈ Fj_L, w5.heap.size < g ∧ g < w6.heap.size := fun g hg => ⟨by have := Bj g hg; (repeat (first | rw [World.size_alloc] at this | rw [World.size_setCell] at this | rw [World.size_drew] at this | rw [World.heap_drewN] at this)); omega, Oj.lt g hg⟩
  replace Bj := Lib.hid Bj
  replace Oj := Lib.hid Oj
  replace hj_L := Lib.hid hj_L
  have hs6 := hm.size
  repeat (first | rw [World.size_alloc] at hs6 | rw [World.size_setCell] at hs6 | rw [World.size_drew] at hs6 | rw [World.heap_drewN] at hs6)
  have hb6_0 := hm.cb (b := w.heap.size)
  have hb6_1 := hm.cb (b := w.heap.size + 1)
  have hb6_2 := hm.cb (b := B1)
  have hb6_3 := hm.cb (b := w4.heap.size)
  have hb6_4 := hm.cb (b := w5.heap.size)
  have hl6_0 : w.heap.size < w6.heap.size := by omega
  have hl6_1 : w.heap.size + 1 < w6.heap.size := by omega
  have hl6_2 : B1 < w6.heap.size := by omega
  have hl6_3 : w4.heap.size < w6.heap.size := by omega
  have hl6_4 : w5.heap.size < w6.heap.size := by omega
  have hX : Chg ([]) w5 w6 := Chg.trans (Chg.d) hm (fun g hg => Or.inl hg)
  replace hX := Lib.hid hX
  clear hm
  replace ha_Procs := Lib.hid (ha_Procs.out.chg0 hX.out)
  replace hb_Frames := Lib.hid (hb_Frames.out.chg0 hX.out)
  replace hi_L := Lib.hid (hi_L.out.chg0 hX.out)
  replace hw_Frames := Lib.hid (hw_Frames.out.chg0 hX.out)
  replace hx_Procs := Lib.hid (hx_Procs.out.chg0 hX.out)
  replace hz_Frames := Lib.hid (hz_Frames.out.chg0 hX.out)
  replace Ow := Lib.hid (Ow.out.chg0 hX.out)
  replace Ox := Lib.hid (Ox.out.chg0 hX.out)
  replace Oz := Lib.hid (Oz.out.chg0 hX.out)
  have hK6 := Lib.hid ((hK5.out.trans0 hX.out))
  clear hX hK5
  obtain ⟨MJ, hMJ⟩ : ∃ M, w6.heap.size = M + 1 := ⟨w6.heap.size - 1, by omega⟩
  go_wp2_with fail
  refine (himpl _ _ _ _ _ _ _ (hx_Procs.out.chg0 (by repeat (first | with_reducible exact Chg.refl _ _ | with_reducible refine Chg.alloc ?_ _ | with_reducible refine Chg.drewN ?_ _ | with_reducible refine Chg.drew ?_))) (hz_Frames.out.chg0 (by repeat (first | with_reducible exact Chg.refl _ _ | with_reducible refine Chg.alloc ?_ _ | with_reducible refine Chg.drewN ?_ _ | with_reducible refine Chg.drew ?_))) (hj_L.out.chg0 (by repeat (first | with_reducible exact Chg.refl _ _ | with_reducible refine Chg.alloc ?_ _ | with_reducible refine Chg.drewN ?_ _ | with_reducible refine Chg.drew ?_)))).mono ?_
  rintro e w7 ⟨vg_Frames, Fg_Frames, rfl, hm, hg_Frames, Og, Bg⟩
  obtain ⟨Ag_Frames, cg_Frames, rfl, -, -⟩ := hg_Frames.form
  replace Bg : ∀ g ∈ Fg_Frames, MJ < g ∧ g < w7.heap.size := fun g hg => ⟨by have := Bg g hg; (repeat (first | rw [World.size_alloc] at this | rw [World.size_setCell] at this | rw [World.size_drew] at this | rw [World.heap_drewN] at this)); omega, Og.lt g hg⟩
  replace Bg := Lib.hid Bg
  replace Og := Lib.hid Og
  replace hg_Frames := Lib.hid hg_Frames
  have hs7 := hm.size
  repeat (first | rw [World.size_alloc] at hs7 | rw [World.size_setCell] at hs7 | rw [World.size_drew] at hs7 | rw [World.heap_drewN] at hs7)
  have hb7_0 := hm.cb (b := w.heap.size)
  have hb7_1 := hm.cb (b := w.heap.size + 1)
  have hb7_2 := hm.cb (b := B1)
  have hb7_3 := hm.cb (b := w4.heap.size)
  have hb7_4 := hm.cb (b := w5.heap.size)
  have hl7_0 : w.heap.size < w7.heap.size := by omega
  have hl7_1 : w.heap.size + 1 < w7.heap.size := by omega
  have hl7_2 : B1 < w7.heap.size := by omega
  have hl7_3 : w4.heap.size < w7.heap.size := by omega
  have hl7_4 : w5.heap.size < w7.heap.size := by omega
  have hX : Chg ([]) w6 w7 := Chg.trans (Chg.d) hm (fun g hg => Or.inl hg)
  replace hX := Lib.hid hX
  clear hm
  replace ha_Procs := Lib.hid (ha_Procs.out.chg0 hX.out)
  replace hb_Frames := Lib.hid (hb_Frames.out.chg0 hX.out)
  replace hi_L := Lib.hid (hi_L.out.chg0 hX.out)
  replace hw_Frames := Lib.hid (hw_Frames.out.chg0 hX.out)
  replace hx_Procs := Lib.hid (hx_Procs.out.chg0 hX.out)
  replace hz_Frames := Lib.hid (hz_Frames.out.chg0 hX.out)
  replace hj_L := Lib.hid (hj_L.out.chg0 hX.out)
  replace Ow := Lib.hid (Ow.out.chg0 hX.out)
  replace Ox := Lib.hid (Ox.out.chg0 hX.out)
  replace Oz := Lib.hid (Oz.out.chg0 hX.out)
  replace Oj := Lib.hid (Oj.out.chg0 hX.out)
  have hK7 := Lib.hid ((hK6.out.trans0 hX.out))
  clear hX hK6
  go_wp2_with fail
  refine (eqRunRun_c x _ _ _ _ _ (hg_Frames.out.chg0 (by repeat (first | with_reducible exact Chg.refl _ _ | with_reducible refine Chg.alloc ?_ _ | with_reducible refine Chg.drewN ?_ _ | with_reducible refine Chg.drew ?_))) (hw_Frames.out.chg0 (by repeat (first | with_reducible exact Chg.refl _ _ | with_reducible refine Chg.alloc ?_ _ | with_reducible refine Chg.drewN ?_ _ | with_reducible refine Chg.drew ?_)))).mono ?_
  rintro e w8 ⟨rfl, hm⟩
  have hs8 := hm.size
  repeat (first | rw [World.size_alloc] at hs8 | rw [World.size_setCell] at hs8 | rw [World.size_drew] at hs8 | rw [World.heap_drewN] at hs8)
  have hb8_0 := hm.cb (b := w.heap.size)
  have hb8_1 := hm.cb (b := w.heap.size + 1)
  have hb8_2 := hm.cb (b := B1)
  have hb8_3 := hm.cb (b := w4.heap.size)
  have hb8_4 := hm.cb (b := w5.heap.size)
  have hb8_5 := hm.cb (b := w7.heap.size)
  have hl8_0 : w.heap.size < w8.heap.size := by omega
  have hl8_1 : w.heap.size + 1 < w8.heap.size := by omega
  have hl8_2 : B1 < w8.heap.size := by omega
  have hl8_3 : w4.heap.size < w8.heap.size := by omega
  have hl8_4 : w5.heap.size < w8.heap.size := by omega
  have hl8_5 : w7.heap.size < w8.heap.size := by omega
  have hX : Chg ([]) w7 w8 := Chg.trans (Chg.d) hm (fun g hg => Or.inl hg)
  replace hX := Lib.hid hX
  clear hm
  replace ha_Procs := Lib.hid (ha_Procs.out.chg0 hX.out)
  replace hb_Frames := Lib.hid (hb_Frames.out.chg0 hX.out)
  replace hi_L := Lib.hid (hi_L.out.chg0 hX.out)
  replace hw_Frames := Lib.hid (hw_Frames.out.chg0 hX.out)
  replace hx_Procs := Lib.hid (hx_Procs.out.chg0 hX.out)
  replace hz_Frames := Lib.hid (hz_Frames.out.chg0 hX.out)
  replace hj_L := Lib.hid (hj_L.out.chg0 hX.out)
  replace hg_Frames := Lib.hid (hg_Frames.out.chg0 hX.out)
  replace Ow := Lib.hid (Ow.out.chg0 hX.out)
  replace Ox := Lib.hid (Ox.out.chg0 hX.out)
  replace Oz := Lib.hid (Oz.out.chg0 hX.out)
  replace Oj := Lib.hid (Oj.out.chg0 hX.out)
  replace Og := Lib.hid (Og.out.chg0 hX.out)
  have hK8 := Lib.hid ((hK7.out.trans0 hX.out))
  clear hX hK7
  go_wp2_with fail
  refine (show (∀ Q : Exit → Act → World → Prop, (∀ (y19 y20 y21 y22 y23 y24 y25 y26 y27 y28 y29 y30 y31 y32 y33 y34 y35 y36 y37 y38 y39 y40 y41 y42 y43 y44 y45 y46 y47 y48 y49 y50 y51 y52 y53 y54 y55 y56 y57 y58 : Value) (W : World), Chg [] w8 W → Q .normal { tmps := #[.agg #[.slice AP p.Procs.length cP], .agg #[.int .i64 r.State, .slice AF r.Frames.length cF, .int .i64 r.Out, .int .i64 r.Proc, .int .i64 r.Pc], .slice AI ins.length cI, .int .i64 fuel, .pointer (some ⟨w.heap.size, 0, none⟩), .pointer (some ⟨w.heap.size + 1, 0, none⟩), undef, undef, .bool false, .int .i64 r2, .pointer (some ⟨B1, 0, none⟩), .pointer (some ⟨w4.heap.size, 0, none⟩), .pointer (some ⟨w5.heap.size, 0, none⟩), .slice Aj_L ins.length cj_L, .pointer (some ⟨w7.heap.size, 0, none⟩), undef, undef, undef, undef, y19, y20, y21, y22, y23, y24, y25, y26, y27, y28, y29, y30, y31, y32, y33, y34, y35, y36, y37, y38, y39, y40, y41, y42, y43, y44, y45, y46, y47, y48, y49, y50, y51, y52, y53, y54, y55, y56, y57, y58, .bool false, undef, undef, undef, undef, undef, undef, undef, undef, undef, undef, undef, undef, undef, undef, undef, undef, undef, undef, undef, undef, undef, undef, undef, undef, undef, undef, undef, undef, undef, undef, undef, undef, undef, undef, undef, undef, undef, undef, undef, undef, undef, undef, undef, undef, undef, undef, undef, undef, undef, undef, undef, undef, undef, undef, undef, undef, undef, undef], defers := [] } W) → Code.wp _ _ Q _ _) → _ from fun key => Code.wp_mono ?_ (key (fun e a W => e = .normal ∧ ∃ (y19 y20 y21 y22 y23 y24 y25 y26 y27 y28 y29 y30 y31 y32 y33 y34 y35 y36 y37 y38 y39 y40 y41 y42 y43 y44 y45 y46 y47 y48 y49 y50 y51 y52 y53 y54 y55 y56 y57 y58 : Value), a = { tmps := #[.agg #[.slice AP p.Procs.length cP], .agg #[.int .i64 r.State, .slice AF r.Frames.length cF, .int .i64 r.Out, .int .i64 r.Proc, .int .i64 r.Pc], .slice AI ins.length cI, .int .i64 fuel, .pointer (some ⟨w.heap.size, 0, none⟩), .pointer (some ⟨w.heap.size + 1, 0, none⟩), undef, undef, .bool false, .int .i64 r2, .pointer (some ⟨B1, 0, none⟩), .pointer (some ⟨w4.heap.size, 0, none⟩), .pointer (some ⟨w5.heap.size, 0, none⟩), .slice Aj_L ins.length cj_L, .pointer (some ⟨w7.heap.size, 0, none⟩), undef, undef, undef, undef, y19, y20, y21, y22, y23, y24, y25, y26, y27, y28, y29, y30, y31, y32, y33, y34, y35, y36, y37, y38, y39, y40, y41, y42, y43, y44, y45, y46, y47, y48, y49, y50, y51, y52, y53, y54, y55, y56, y57, y58, .bool false, undef, undef, undef, undef, undef, undef, undef, undef, undef, undef, undef, undef, undef, undef, undef, undef, undef, undef, undef, undef, undef, undef, undef, undef, undef, undef, undef, undef, undef, undef, undef, undef, undef, undef, undef, undef, undef, undef, undef, undef, undef, undef, undef, undef, undef, undef, undef, undef, undef, undef, undef, undef, undef, undef, undef, undef, undef, undef], defers := [] } ∧ Chg [] w8 W) (fun y19 y20 y21 y22 y23 y24 y25 y26 y27 y28 y29 y30 y31 y32 y33 y34 y35 y36 y37 y38 y39 y40 y41 y42 y43 y44 y45 y46 y47 y48 y49 y50 y51 y52 y53 y54 y55 y56 y57 y58 W h => ⟨rfl, y19, y20, y21, y22, y23, y24, y25, y26, y27, y28, y29, y30, y31, y32, y33, y34, y35, y36, y37, y38, y39, y40, y41, y42, y43, y44, y45, y46, y47, y48, y49, y50, y51, y52, y53, y54, y55, y56, y57, y58, rfl, h⟩))) ?_
  rotate_left
  · intro Q hM
    have hM' := Lib.hid hM
    clear hM
    refine wp_region_noPanic ?_
    go_region_with
      (first | (go_at_call 26; refine (toPrgProg_c p _ _ _ (ha_Procs.out.chg0 (by repeat (first | with_reducible refine Chg.setCell ?_ (Or.inr (by first | (simp; done) | (simp; omega))) _ | with_reducible refine Chg.alloc ?_ _ | with_reducible refine Chg.drewN ?_ _ | with_reducible refine Chg.drew ?_ | with_reducible exact Chg.refl _ _ | with_reducible assumption))) HZa.out).mono ?_; rintro e wa ⟨ua, Ga, rfl, hqa, ra, oa, ga⟩; obtain ⟨Aa, ka, rfl, -, -⟩ := ra.form; have hKa : Chg [] w8 wa := Chg.trans0 (show Chg [] w8 _ from by repeat (first | with_reducible refine Chg.setCell ?_ (Or.inr (by first | (simp; done) | (simp; omega))) _ | with_reducible refine Chg.alloc ?_ _ | with_reducible refine Chg.drewN ?_ _ | with_reducible refine Chg.drew ?_ | with_reducible exact Chg.refl _ _ | with_reducible assumption)) hqa; have hba_3 := fun o => hKa.cell (p := ⟨w4.heap.size, o, none⟩) hl8_3 (by simp); have hba_0 := fun o => hKa.cell (p := ⟨w.heap.size, o, none⟩) hl8_0 (by simp)) | (go_at_call 29; refine (eqPrgProg_c p _ _ _ _ _ (hx_Procs.out.chg0 (by repeat (first | with_reducible refine Chg.setCell ?_ (Or.inr (by first | (simp; done) | (simp; omega))) _ | with_reducible refine Chg.alloc ?_ _ | with_reducible refine Chg.drewN ?_ _ | with_reducible refine Chg.drew ?_ | with_reducible exact Chg.refl _ _ | with_reducible assumption | with_reducible refine Chg.trans0 ?_ hKa))) (ra.chg0 (by repeat (first | with_reducible refine Chg.setCell ?_ (Or.inr (by first | (simp; done) | (simp; omega))) _ | with_reducible refine Chg.alloc ?_ _ | with_reducible refine Chg.drewN ?_ _ | with_reducible refine Chg.drew ?_ | with_reducible exact Chg.refl _ _ | with_reducible assumption)))).mono ?_; rintro e wb ⟨rfl, hqb⟩; have hKb : Chg [] w8 wb := Chg.trans0 (show Chg [] w8 _ from by repeat (first | with_reducible refine Chg.setCell ?_ (Or.inr (by first | (simp; done) | (simp; omega))) _ | with_reducible refine Chg.alloc ?_ _ | with_reducible refine Chg.drewN ?_ _ | with_reducible refine Chg.drew ?_ | with_reducible exact Chg.refl _ _ | with_reducible assumption | with_reducible refine Chg.trans0 ?_ hKa)) hqb))
    all_goals
      exact NoPanic.normal (hM'.out _ _ _ _ _ _ _ _ _ _ _ _ _ _ _ _ _ _ _ _ _ _ _ _ _ _ _ _ _ _ _ _ _ _ _ _ _ _ _ _ _ (by repeat (first | with_reducible refine Chg.setCell ?_ (Or.inr (by first | (simp; done) | (simp; omega))) _ | with_reducible refine Chg.alloc ?_ _ | with_reducible refine Chg.drewN ?_ _ | with_reducible refine Chg.drew ?_ | with_reducible exact Chg.refl _ _ | with_reducible assumption | with_reducible refine Chg.trans0 ?_ hKb)))
  rintro e act w9 ⟨rfl, y19, y20, y21, y22, y23, y24, y25, y26, y27, y28, y29, y30, y31, y32, y33, y34, y35, y36, y37, y38, y39, y40, y41, y42, y43, y44, y45, y46, y47, y48, y49, y50, y51, y52, y53, y54, y55, y56, y57, y58, rfl, hm⟩
  have hs9 := hm.size
  repeat (first | rw [World.size_alloc] at hs9 | rw [World.size_setCell] at hs9 | rw [World.size_drew] at hs9 | rw [World.heap_drewN] at hs9)
  have hb9_0 := hm.cb (b := w.heap.size)
  have hb9_1 := hm.cb (b := w.heap.size + 1)
  have hb9_2 := hm.cb (b := B1)
  have hb9_3 := hm.cb (b := w4.heap.size)
  have hb9_4 := hm.cb (b := w5.heap.size)
  have hb9_5 := hm.cb (b := w7.heap.size)
  have hl9_0 : w.heap.size < w9.heap.size := by omega
  have hl9_1 : w.heap.size + 1 < w9.heap.size := by omega
  have hl9_2 : B1 < w9.heap.size := by omega
  have hl9_3 : w4.heap.size < w9.heap.size := by omega
  have hl9_4 : w5.heap.size < w9.heap.size := by omega
  have hl9_5 : w7.heap.size < w9.heap.size := by omega
  have hX : Chg ([]) w8 w9 := Chg.trans (Chg.d) hm (fun g hg => Or.inl hg)
  replace hX := Lib.hid hX
  clear hm
  replace ha_Procs := Lib.hid (ha_Procs.out.chg0 hX.out)
  replace hb_Frames := Lib.hid (hb_Frames.out.chg0 hX.out)
  replace hi_L := Lib.hid (hi_L.out.chg0 hX.out)
  replace hw_Frames := Lib.hid (hw_Frames.out.chg0 hX.out)
  replace hx_Procs := Lib.hid (hx_Procs.out.chg0 hX.out)
  replace hz_Frames := Lib.hid (hz_Frames.out.chg0 hX.out)
  replace hj_L := Lib.hid (hj_L.out.chg0 hX.out)
  replace hg_Frames := Lib.hid (hg_Frames.out.chg0 hX.out)
  replace Ow := Lib.hid (Ow.out.chg0 hX.out)
  replace Ox := Lib.hid (Ox.out.chg0 hX.out)
  replace Oz := Lib.hid (Oz.out.chg0 hX.out)
  replace Oj := Lib.hid (Oj.out.chg0 hX.out)
  replace Og := Lib.hid (Og.out.chg0 hX.out)
  have hK9 := Lib.hid ((hK8.out.trans0 hX.out))
  clear hX hK8
  go_wp2_with fail
  refine (show (∀ Q : Exit → Act → World → Prop, (∀ (y19 y20 y21 y22 y23 y24 y25 y26 y27 y28 y29 y30 y31 y32 y33 y34 y35 y36 y37 y38 y39 y40 y41 y42 y43 y44 y45 y46 y47 y48 y49 y50 y51 y52 y53 y54 y55 y56 y57 y58 y59 y60 y61 y62 y63 : Value) (W : World), Chg [] w9 W → Q .normal { tmps := #[.agg #[.slice AP p.Procs.length cP], .agg #[.int .i64 r.State, .slice AF r.Frames.length cF, .int .i64 r.Out, .int .i64 r.Proc, .int .i64 r.Pc], .slice AI ins.length cI, .int .i64 fuel, .pointer (some ⟨w.heap.size, 0, none⟩), .pointer (some ⟨w.heap.size + 1, 0, none⟩), undef, undef, .bool false, .int .i64 r2, .pointer (some ⟨B1, 0, none⟩), .pointer (some ⟨w4.heap.size, 0, none⟩), .pointer (some ⟨w5.heap.size, 0, none⟩), .slice Aj_L ins.length cj_L, .pointer (some ⟨w7.heap.size, 0, none⟩), undef, undef, undef, undef, y19, y20, y21, y22, y23, y24, y25, y26, y27, y28, y29, y30, y31, y32, y33, y34, y35, y36, y37, y38, y39, y40, y41, y42, y43, y44, y45, y46, y47, y48, y49, y50, y51, y52, y53, y54, y55, y56, y57, y58, y59, y60, y61, y62, y63, .bool false, undef, undef, undef, undef, undef, undef, undef, undef, undef, undef, undef, undef, undef, undef, undef, undef, undef, undef, undef, undef, undef, undef, undef, undef, undef, undef, undef, undef, undef, undef, undef, undef, undef, undef, undef, undef, undef, undef, undef, undef, undef, undef, undef, undef, undef, undef, undef, undef, undef, undef, undef, undef, undef], defers := [] } W) → Code.wp _ _ Q _ _) → _ from fun key => Code.wp_mono ?_ (key (fun e a W => e = .normal ∧ ∃ (y19 y20 y21 y22 y23 y24 y25 y26 y27 y28 y29 y30 y31 y32 y33 y34 y35 y36 y37 y38 y39 y40 y41 y42 y43 y44 y45 y46 y47 y48 y49 y50 y51 y52 y53 y54 y55 y56 y57 y58 y59 y60 y61 y62 y63 : Value), a = { tmps := #[.agg #[.slice AP p.Procs.length cP], .agg #[.int .i64 r.State, .slice AF r.Frames.length cF, .int .i64 r.Out, .int .i64 r.Proc, .int .i64 r.Pc], .slice AI ins.length cI, .int .i64 fuel, .pointer (some ⟨w.heap.size, 0, none⟩), .pointer (some ⟨w.heap.size + 1, 0, none⟩), undef, undef, .bool false, .int .i64 r2, .pointer (some ⟨B1, 0, none⟩), .pointer (some ⟨w4.heap.size, 0, none⟩), .pointer (some ⟨w5.heap.size, 0, none⟩), .slice Aj_L ins.length cj_L, .pointer (some ⟨w7.heap.size, 0, none⟩), undef, undef, undef, undef, y19, y20, y21, y22, y23, y24, y25, y26, y27, y28, y29, y30, y31, y32, y33, y34, y35, y36, y37, y38, y39, y40, y41, y42, y43, y44, y45, y46, y47, y48, y49, y50, y51, y52, y53, y54, y55, y56, y57, y58, y59, y60, y61, y62, y63, .bool false, undef, undef, undef, undef, undef, undef, undef, undef, undef, undef, undef, undef, undef, undef, undef, undef, undef, undef, undef, undef, undef, undef, undef, undef, undef, undef, undef, undef, undef, undef, undef, undef, undef, undef, undef, undef, undef, undef, undef, undef, undef, undef, undef, undef, undef, undef, undef, undef, undef, undef, undef, undef, undef], defers := [] } ∧ Chg [] w9 W) (fun y19 y20 y21 y22 y23 y24 y25 y26 y27 y28 y29 y30 y31 y32 y33 y34 y35 y36 y37 y38 y39 y40 y41 y42 y43 y44 y45 y46 y47 y48 y49 y50 y51 y52 y53 y54 y55 y56 y57 y58 y59 y60 y61 y62 y63 W h => ⟨rfl, y19, y20, y21, y22, y23, y24, y25, y26, y27, y28, y29, y30, y31, y32, y33, y34, y35, y36, y37, y38, y39, y40, y41, y42, y43, y44, y45, y46, y47, y48, y49, y50, y51, y52, y53, y54, y55, y56, y57, y58, y59, y60, y61, y62, y63, rfl, h⟩))) ?_
  rotate_left
  · intro Q hM
    have hM' := Lib.hid hM
    clear hM
    refine wp_region_noPanic ?_
    go_region_with
      (first | (go_at_call 27; refine (toRunRun_c r _ _ _ (hb_Frames.out.chg0 (by repeat (first | with_reducible refine Chg.setCell ?_ (Or.inr (by first | (simp; done) | (simp; omega))) _ | with_reducible refine Chg.alloc ?_ _ | with_reducible refine Chg.drewN ?_ _ | with_reducible refine Chg.drew ?_ | with_reducible exact Chg.refl _ _ | with_reducible assumption))) HZb.out).mono ?_; rintro e wa ⟨ua, Ga, rfl, hqa, ra, oa, ga⟩; obtain ⟨Aa, ka, rfl, -, -⟩ := ra.form; have hKa : Chg [] w9 wa := Chg.trans0 (show Chg [] w9 _ from by repeat (first | with_reducible refine Chg.setCell ?_ (Or.inr (by first | (simp; done) | (simp; omega))) _ | with_reducible refine Chg.alloc ?_ _ | with_reducible refine Chg.drewN ?_ _ | with_reducible refine Chg.drew ?_ | with_reducible exact Chg.refl _ _ | with_reducible assumption)) hqa; have hba_4 := fun o => hKa.cell (p := ⟨w5.heap.size, o, none⟩) hl9_4 (by simp); have hba_1 := fun o => hKa.cell (p := ⟨w.heap.size + 1, o, none⟩) hl9_1 (by simp)) | (go_at_call 28; refine (eqRunRun_c r _ _ _ _ _ (hz_Frames.out.chg0 (by repeat (first | with_reducible refine Chg.setCell ?_ (Or.inr (by first | (simp; done) | (simp; omega))) _ | with_reducible refine Chg.alloc ?_ _ | with_reducible refine Chg.drewN ?_ _ | with_reducible refine Chg.drew ?_ | with_reducible exact Chg.refl _ _ | with_reducible assumption | with_reducible refine Chg.trans0 ?_ hKa))) (ra.chg0 (by repeat (first | with_reducible refine Chg.setCell ?_ (Or.inr (by first | (simp; done) | (simp; omega))) _ | with_reducible refine Chg.alloc ?_ _ | with_reducible refine Chg.drewN ?_ _ | with_reducible refine Chg.drew ?_ | with_reducible exact Chg.refl _ _ | with_reducible assumption)))).mono ?_; rintro e wb ⟨rfl, hqb⟩; have hKb : Chg [] w9 wb := Chg.trans0 (show Chg [] w9 _ from by repeat (first | with_reducible refine Chg.setCell ?_ (Or.inr (by first | (simp; done) | (simp; omega))) _ | with_reducible refine Chg.alloc ?_ _ | with_reducible refine Chg.drewN ?_ _ | with_reducible refine Chg.drew ?_ | with_reducible exact Chg.refl _ _ | with_reducible assumption | with_reducible refine Chg.trans0 ?_ hKa)) hqb))
    all_goals
      exact NoPanic.normal (hM'.out _ _ _ _ _ _ _ _ _ _ _ _ _ _ _ _ _ _ _ _ _ _ _ _ _ _ _ _ _ _ _ _ _ _ _ _ _ _ _ _ _ _ _ _ _ _ (by repeat (first | with_reducible refine Chg.setCell ?_ (Or.inr (by first | (simp; done) | (simp; omega))) _ | with_reducible refine Chg.alloc ?_ _ | with_reducible refine Chg.drewN ?_ _ | with_reducible refine Chg.drew ?_ | with_reducible exact Chg.refl _ _ | with_reducible assumption | with_reducible refine Chg.trans0 ?_ hKb)))
  rintro e act w10 ⟨rfl, y19, y20, y21, y22, y23, y24, y25, y26, y27, y28, y29, y30, y31, y32, y33, y34, y35, y36, y37, y38, y39, y40, y41, y42, y43, y44, y45, y46, y47, y48, y49, y50, y51, y52, y53, y54, y55, y56, y57, y58, y59, y60, y61, y62, y63, rfl, hm⟩
  have hs10 := hm.size
  repeat (first | rw [World.size_alloc] at hs10 | rw [World.size_setCell] at hs10 | rw [World.size_drew] at hs10 | rw [World.heap_drewN] at hs10)
  have hb10_0 := hm.cb (b := w.heap.size)
  have hb10_1 := hm.cb (b := w.heap.size + 1)
  have hb10_2 := hm.cb (b := B1)
  have hb10_3 := hm.cb (b := w4.heap.size)
  have hb10_4 := hm.cb (b := w5.heap.size)
  have hb10_5 := hm.cb (b := w7.heap.size)
  have hl10_0 : w.heap.size < w10.heap.size := by omega
  have hl10_1 : w.heap.size + 1 < w10.heap.size := by omega
  have hl10_2 : B1 < w10.heap.size := by omega
  have hl10_3 : w4.heap.size < w10.heap.size := by omega
  have hl10_4 : w5.heap.size < w10.heap.size := by omega
  have hl10_5 : w7.heap.size < w10.heap.size := by omega
  have hX : Chg ([]) w9 w10 := Chg.trans (Chg.d) hm (fun g hg => Or.inl hg)
  replace hX := Lib.hid hX
  clear hm
  replace ha_Procs := Lib.hid (ha_Procs.out.chg0 hX.out)
  replace hb_Frames := Lib.hid (hb_Frames.out.chg0 hX.out)
  replace hi_L := Lib.hid (hi_L.out.chg0 hX.out)
  replace hw_Frames := Lib.hid (hw_Frames.out.chg0 hX.out)
  replace hx_Procs := Lib.hid (hx_Procs.out.chg0 hX.out)
  replace hz_Frames := Lib.hid (hz_Frames.out.chg0 hX.out)
  replace hj_L := Lib.hid (hj_L.out.chg0 hX.out)
  replace hg_Frames := Lib.hid (hg_Frames.out.chg0 hX.out)
  replace Ow := Lib.hid (Ow.out.chg0 hX.out)
  replace Ox := Lib.hid (Ox.out.chg0 hX.out)
  replace Oz := Lib.hid (Oz.out.chg0 hX.out)
  replace Oj := Lib.hid (Oj.out.chg0 hX.out)
  replace Og := Lib.hid (Og.out.chg0 hX.out)
  have hK10 := Lib.hid ((hK9.out.trans0 hX.out))
  clear hX hK9
  go_wp2_with fail
  refine (toIntS_c ins _ _ _ (hi_L.out.chg0 (by repeat (first | with_reducible exact Chg.refl _ _ | with_reducible refine Chg.alloc ?_ _ | with_reducible refine Chg.drewN ?_ _ | with_reducible refine Chg.drew ?_))) HZi.out).mono ?_
  rintro e w11 ⟨vq_L, Fq_L, rfl, hm, hq_L, Oq, Bq⟩
  obtain ⟨Aq_L, cq_L, rfl, -, -⟩ := hq_L.form
  replace Bq : ∀ g ∈ Fq_L, w7.heap.size < g ∧ g < w11.heap.size := fun g hg => ⟨by have := Bq g hg; (repeat (first | rw [World.size_alloc] at this | rw [World.size_setCell] at this | rw [World.size_drew] at this | rw [World.heap_drewN] at this)); omega, Oq.lt g hg⟩
  replace Bq := Lib.hid Bq
  replace Oq := Lib.hid Oq
  replace hq_L := Lib.hid hq_L
  have hs11 := hm.size
  repeat (first | rw [World.size_alloc] at hs11 | rw [World.size_setCell] at hs11 | rw [World.size_drew] at hs11 | rw [World.heap_drewN] at hs11)
  have hb11_0 := hm.cb (b := w.heap.size)
  have hb11_1 := hm.cb (b := w.heap.size + 1)
  have hb11_2 := hm.cb (b := B1)
  have hb11_3 := hm.cb (b := w4.heap.size)
  have hb11_4 := hm.cb (b := w5.heap.size)
  have hb11_5 := hm.cb (b := w7.heap.size)
  have hl11_0 : w.heap.size < w11.heap.size := by omega
  have hl11_1 : w.heap.size + 1 < w11.heap.size := by omega
  have hl11_2 : B1 < w11.heap.size := by omega
  have hl11_3 : w4.heap.size < w11.heap.size := by omega
  have hl11_4 : w5.heap.size < w11.heap.size := by omega
  have hl11_5 : w7.heap.size < w11.heap.size := by omega
  have hX : Chg ([]) w10 w11 := Chg.trans (Chg.d) hm (fun g hg => Or.inl hg)
  replace hX := Lib.hid hX
  clear hm
  replace ha_Procs := Lib.hid (ha_Procs.out.chg0 hX.out)
  replace hb_Frames := Lib.hid (hb_Frames.out.chg0 hX.out)
  replace hi_L := Lib.hid (hi_L.out.chg0 hX.out)
  replace hw_Frames := Lib.hid (hw_Frames.out.chg0 hX.out)
  replace hx_Procs := Lib.hid (hx_Procs.out.chg0 hX.out)
  replace hz_Frames := Lib.hid (hz_Frames.out.chg0 hX.out)
  replace hj_L := Lib.hid (hj_L.out.chg0 hX.out)
  replace hg_Frames := Lib.hid (hg_Frames.out.chg0 hX.out)
  replace Ow := Lib.hid (Ow.out.chg0 hX.out)
  replace Ox := Lib.hid (Ox.out.chg0 hX.out)
  replace Oz := Lib.hid (Oz.out.chg0 hX.out)
  replace Oj := Lib.hid (Oj.out.chg0 hX.out)
  replace Og := Lib.hid (Og.out.chg0 hX.out)
  have hK11 := Lib.hid ((hK10.out.trans0 hX.out))
  clear hX hK10
  go_wp2_with fail
  refine (eqIntS_c ins _ _ _ _ _ (hj_L.out.chg0 (by repeat (first | with_reducible exact Chg.refl _ _ | with_reducible refine Chg.alloc ?_ _ | with_reducible refine Chg.drewN ?_ _ | with_reducible refine Chg.drew ?_))) (hq_L.out.chg0 (by repeat (first | with_reducible exact Chg.refl _ _ | with_reducible refine Chg.alloc ?_ _ | with_reducible refine Chg.drewN ?_ _ | with_reducible refine Chg.drew ?_)))).mono ?_
  rintro e w12 ⟨rfl, hm⟩
  have hs12 := hm.size
  repeat (first | rw [World.size_alloc] at hs12 | rw [World.size_setCell] at hs12 | rw [World.size_drew] at hs12 | rw [World.heap_drewN] at hs12)
  have hb12_0 := hm.cb (b := w.heap.size)
  have hb12_1 := hm.cb (b := w.heap.size + 1)
  have hb12_2 := hm.cb (b := B1)
  have hb12_3 := hm.cb (b := w4.heap.size)
  have hb12_4 := hm.cb (b := w5.heap.size)
  have hb12_5 := hm.cb (b := w7.heap.size)
  have hl12_0 : w.heap.size < w12.heap.size := by omega
  have hl12_1 : w.heap.size + 1 < w12.heap.size := by omega
  have hl12_2 : B1 < w12.heap.size := by omega
  have hl12_3 : w4.heap.size < w12.heap.size := by omega
  have hl12_4 : w5.heap.size < w12.heap.size := by omega
  have hl12_5 : w7.heap.size < w12.heap.size := by omega
  have hX : Chg ([]) w11 w12 := Chg.trans (Chg.d) hm (fun g hg => Or.inl hg)
  replace hX := Lib.hid hX
  clear hm
  replace ha_Procs := Lib.hid (ha_Procs.out.chg0 hX.out)
  replace hb_Frames := Lib.hid (hb_Frames.out.chg0 hX.out)
  replace hi_L := Lib.hid (hi_L.out.chg0 hX.out)
  replace hw_Frames := Lib.hid (hw_Frames.out.chg0 hX.out)
  replace hx_Procs := Lib.hid (hx_Procs.out.chg0 hX.out)
  replace hz_Frames := Lib.hid (hz_Frames.out.chg0 hX.out)
  replace hj_L := Lib.hid (hj_L.out.chg0 hX.out)
  replace hg_Frames := Lib.hid (hg_Frames.out.chg0 hX.out)
  replace hq_L := Lib.hid (hq_L.out.chg0 hX.out)
  replace Ow := Lib.hid (Ow.out.chg0 hX.out)
  replace Ox := Lib.hid (Ox.out.chg0 hX.out)
  replace Oz := Lib.hid (Oz.out.chg0 hX.out)
  replace Oj := Lib.hid (Oj.out.chg0 hX.out)
  replace Og := Lib.hid (Og.out.chg0 hX.out)
  replace Oq := Lib.hid (Oq.out.chg0 hX.out)
  have hK12 := Lib.hid ((hK11.out.trans0 hX.out))
  clear hX hK11
  clear Bq Oq hq_L
  go_wp2_with fail
  refine (markPrgProg_c p (1) _ _ _ (hx_Procs.out.chg0 (by repeat (first | with_reducible exact Chg.refl _ _ | with_reducible refine Chg.alloc ?_ _ | with_reducible refine Chg.drewN ?_ _ | with_reducible refine Chg.drew ?_))) (Ox.out.chg0 (by repeat (first | with_reducible exact Chg.refl _ _ | with_reducible refine Chg.alloc ?_ _ | with_reducible refine Chg.drewN ?_ _ | with_reducible refine Chg.drew ?_))) (by omega) (Int.le_trans hb0 (by omega))).mono ?_
  rintro e w13 ⟨rfl, hm, om, mhx_Procs⟩
  replace hx_Procs := Lib.hid mhx_Procs
  clear mhx_Procs
  replace Ox := Lib.hid om
  clear om
  have hs13 := hm.size
  repeat (first | rw [World.size_alloc] at hs13 | rw [World.size_setCell] at hs13 | rw [World.size_drew] at hs13 | rw [World.heap_drewN] at hs13)
  have hb13_0 := hm.cb (b := w.heap.size) (by (repeat (first | rw [World.size_alloc] | rw [World.size_setCell] | rw [World.size_drew] | rw [World.heap_drewN])); omega) (fun hf => by have := Bx.out _ hf; omega)
  have hb13_1 := hm.cb (b := w.heap.size + 1) (by (repeat (first | rw [World.size_alloc] | rw [World.size_setCell] | rw [World.size_drew] | rw [World.heap_drewN])); omega) (fun hf => by have := Bx.out _ hf; omega)
  have hb13_2 := hm.cb (b := B1) (by (repeat (first | rw [World.size_alloc] | rw [World.size_setCell] | rw [World.size_drew] | rw [World.heap_drewN])); omega) (fun hf => by have := Bx.out _ hf; omega)
  have hb13_3 := hm.cb (b := w4.heap.size) (by (repeat (first | rw [World.size_alloc] | rw [World.size_setCell] | rw [World.size_drew] | rw [World.heap_drewN])); omega) (fun hf => by have := Bx.out _ hf; omega)
  have hb13_4 := hm.cb (b := w5.heap.size) (by (repeat (first | rw [World.size_alloc] | rw [World.size_setCell] | rw [World.size_drew] | rw [World.heap_drewN])); omega) (fun hf => by have := Bx.out _ hf; omega)
  have hb13_5 := hm.cb (b := w7.heap.size) (by (repeat (first | rw [World.size_alloc] | rw [World.size_setCell] | rw [World.size_drew] | rw [World.heap_drewN])); omega) (fun hf => by have := Bx.out _ hf; omega)
  have hl13_0 : w.heap.size < w13.heap.size := by omega
  have hl13_1 : w.heap.size + 1 < w13.heap.size := by omega
  have hl13_2 : B1 < w13.heap.size := by omega
  have hl13_3 : w4.heap.size < w13.heap.size := by omega
  have hl13_4 : w5.heap.size < w13.heap.size := by omega
  have hl13_5 : w7.heap.size < w13.heap.size := by omega
  have hX : Chg (Fx_Procs) w12 w13 := Chg.trans (Chg.d) hm (fun g hg => Or.inl hg)
  replace hX := Lib.hid hX
  clear hm
  replace ha_Procs := Lib.hid (RL.chg ha_Procs.out hX.out (fun g hg h => by have a1 := Ba.out g (hg); have a2 := Bx.out g h; omega))
  replace hb_Frames := Lib.hid (RL.chg hb_Frames.out hX.out (fun g hg h => by have a1 := Bb.out g (hg); have a2 := Bx.out g h; omega))
  replace hi_L := Lib.hid (RL.chg hi_L.out hX.out (fun g hg h => by have a1 := Bi.out g (hg); have a2 := Bx.out g h; omega))
  replace hw_Frames := Lib.hid (RL.chg hw_Frames.out hX.out (fun g hg h => by have a1 := Bw.out g (hg); have a2 := Bx.out g h; omega))
  replace hz_Frames := Lib.hid (RL.chg hz_Frames.out hX.out (fun g hg h => by have a1 := Bz.out g (hg); have a2 := Bx.out g h; omega))
  replace hj_L := Lib.hid (RL.chg hj_L.out hX.out (fun g hg h => by have a1 := Bj.out g (hg); have a2 := Bx.out g h; omega))
  replace hg_Frames := Lib.hid (RL.chg hg_Frames.out hX.out (fun g hg h => by have a1 := Bg.out g (hg); have a2 := Bx.out g h; omega))
  replace Ow := Lib.hid (Own.chg Ow.out hX.out (fun g hg h => by have a1 := Bw.out g hg; have a2 := Bx.out g h; omega))
  replace Oz := Lib.hid (Own.chg Oz.out hX.out (fun g hg h => by have a1 := Bz.out g hg; have a2 := Bx.out g h; omega))
  replace Oj := Lib.hid (Own.chg Oj.out hX.out (fun g hg h => by have a1 := Bj.out g hg; have a2 := Bx.out g h; omega))
  replace Og := Lib.hid (Own.chg Og.out hX.out (fun g hg h => by have a1 := Bg.out g hg; have a2 := Bx.out g h; omega))
  have hK13 := Lib.hid (hK12.out.trans hX.out (fun g hg => Or.inr (by have := Bx.out g hg; omega)))
  clear hX hK12
  clear Bx Ox hx_Procs
  go_wp2_with fail
  refine (markRunRun_c r (1 + (cntL p.Procs : Int)) _ _ _ (hz_Frames.out.chg0 (by repeat (first | with_reducible exact Chg.refl _ _ | with_reducible refine Chg.alloc ?_ _ | with_reducible refine Chg.drewN ?_ _ | with_reducible refine Chg.drew ?_))) (Oz.out.chg0 (by repeat (first | with_reducible exact Chg.refl _ _ | with_reducible refine Chg.alloc ?_ _ | with_reducible refine Chg.drewN ?_ _ | with_reducible refine Chg.drew ?_))) (by omega) (Int.le_trans hb1 (by omega))).mono ?_
  rintro e w14 ⟨rfl, hm, om, mhz_Frames⟩
  replace hz_Frames := Lib.hid mhz_Frames
  clear mhz_Frames
  replace Oz := Lib.hid om
  clear om
  have hs14 := hm.size
  repeat (first | rw [World.size_alloc] at hs14 | rw [World.size_setCell] at hs14 | rw [World.size_drew] at hs14 | rw [World.heap_drewN] at hs14)
  have hb14_0 := hm.cb (b := w.heap.size) (by (repeat (first | rw [World.size_alloc] | rw [World.size_setCell] | rw [World.size_drew] | rw [World.heap_drewN])); omega) (fun hf => by have := Bz.out _ hf; omega)
  have hb14_1 := hm.cb (b := w.heap.size + 1) (by (repeat (first | rw [World.size_alloc] | rw [World.size_setCell] | rw [World.size_drew] | rw [World.heap_drewN])); omega) (fun hf => by have := Bz.out _ hf; omega)
  have hb14_2 := hm.cb (b := B1) (by (repeat (first | rw [World.size_alloc] | rw [World.size_setCell] | rw [World.size_drew] | rw [World.heap_drewN])); omega) (fun hf => by have := Bz.out _ hf; omega)
  have hb14_3 := hm.cb (b := w4.heap.size) (by (repeat (first | rw [World.size_alloc] | rw [World.size_setCell] | rw [World.size_drew] | rw [World.heap_drewN])); omega) (fun hf => by have := Bz.out _ hf; omega)
  have hb14_4 := hm.cb (b := w5.heap.size) (by (repeat (first | rw [World.size_alloc] | rw [World.size_setCell] | rw [World.size_drew] | rw [World.heap_drewN])); omega) (fun hf => by have := Bz.out _ hf; omega)
  have hb14_5 := hm.cb (b := w7.heap.size) (by (repeat (first | rw [World.size_alloc] | rw [World.size_setCell] | rw [World.size_drew] | rw [World.heap_drewN])); omega) (fun hf => by have := Bz.out _ hf; omega)
  have hl14_0 : w.heap.size < w14.heap.size := by omega
  have hl14_1 : w.heap.size + 1 < w14.heap.size := by omega
  have hl14_2 : B1 < w14.heap.size := by omega
  have hl14_3 : w4.heap.size < w14.heap.size := by omega
  have hl14_4 : w5.heap.size < w14.heap.size := by omega
  have hl14_5 : w7.heap.size < w14.heap.size := by omega
  have hX : Chg (Fz_Frames) w13 w14 := Chg.trans (Chg.d) hm (fun g hg => Or.inl hg)
  replace hX := Lib.hid hX
  clear hm
  replace ha_Procs := Lib.hid (RL.chg ha_Procs.out hX.out (fun g hg h => by have a1 := Ba.out g (hg); have a2 := Bz.out g h; omega))
  replace hb_Frames := Lib.hid (RL.chg hb_Frames.out hX.out (fun g hg h => by have a1 := Bb.out g (hg); have a2 := Bz.out g h; omega))
  replace hi_L := Lib.hid (RL.chg hi_L.out hX.out (fun g hg h => by have a1 := Bi.out g (hg); have a2 := Bz.out g h; omega))
  replace hw_Frames := Lib.hid (RL.chg hw_Frames.out hX.out (fun g hg h => by have a1 := Bw.out g (hg); have a2 := Bz.out g h; omega))
  replace hj_L := Lib.hid (RL.chg hj_L.out hX.out (fun g hg h => by have a1 := Bj.out g (hg); have a2 := Bz.out g h; omega))
  replace hg_Frames := Lib.hid (RL.chg hg_Frames.out hX.out (fun g hg h => by have a1 := Bg.out g (hg); have a2 := Bz.out g h; omega))
  replace Ow := Lib.hid (Own.chg Ow.out hX.out (fun g hg h => by have a1 := Bw.out g hg; have a2 := Bz.out g h; omega))
  replace Oj := Lib.hid (Own.chg Oj.out hX.out (fun g hg h => by have a1 := Bj.out g hg; have a2 := Bz.out g h; omega))
  replace Og := Lib.hid (Own.chg Og.out hX.out (fun g hg h => by have a1 := Bg.out g hg; have a2 := Bz.out g h; omega))
  have hK14 := Lib.hid (hK13.out.trans hX.out (fun g hg => Or.inr (by have := Bz.out g hg; omega)))
  clear hX hK13
  clear Bz Oz hz_Frames
  go_wp2_with fail
  refine (markIntS_c ins (1 + (cntL p.Procs : Int) + (cntL r.Frames : Int)) _ _ _ (hj_L.out.chg0 (by repeat (first | with_reducible exact Chg.refl _ _ | with_reducible refine Chg.alloc ?_ _ | with_reducible refine Chg.drewN ?_ _ | with_reducible refine Chg.drew ?_))) (Oj.out.chg0 (by repeat (first | with_reducible exact Chg.refl _ _ | with_reducible refine Chg.alloc ?_ _ | with_reducible refine Chg.drewN ?_ _ | with_reducible refine Chg.drew ?_))) (by omega) (Int.le_trans hb3 (by omega))).mono ?_
  rintro e w15 ⟨rfl, hm, om, mhj_L⟩
  replace hj_L := Lib.hid mhj_L
  clear mhj_L
  replace Oj := Lib.hid om
  clear om
  have hs15 := hm.size
  repeat (first | rw [World.size_alloc] at hs15 | rw [World.size_setCell] at hs15 | rw [World.size_drew] at hs15 | rw [World.heap_drewN] at hs15)
  have hb15_0 := hm.cb (b := w.heap.size) (by (repeat (first | rw [World.size_alloc] | rw [World.size_setCell] | rw [World.size_drew] | rw [World.heap_drewN])); omega) (fun hf => by have := Bj.out _ hf; omega)
  have hb15_1 := hm.cb (b := w.heap.size + 1) (by (repeat (first | rw [World.size_alloc] | rw [World.size_setCell] | rw [World.size_drew] | rw [World.heap_drewN])); omega) (fun hf => by have := Bj.out _ hf; omega)
  have hb15_2 := hm.cb (b := B1) (by (repeat (first | rw [World.size_alloc] | rw [World.size_setCell] | rw [World.size_drew] | rw [World.heap_drewN])); omega) (fun hf => by have := Bj.out _ hf; omega)
  have hb15_3 := hm.cb (b := w4.heap.size) (by (repeat (first | rw [World.size_alloc] | rw [World.size_setCell] | rw [World.size_drew] | rw [World.heap_drewN])); omega) (fun hf => by have := Bj.out _ hf; omega)
  have hb15_4 := hm.cb (b := w5.heap.size) (by (repeat (first | rw [World.size_alloc] | rw [World.size_setCell] | rw [World.size_drew] | rw [World.heap_drewN])); omega) (fun hf => by have := Bj.out _ hf; omega)
  have hb15_5 := hm.cb (b := w7.heap.size) (by (repeat (first | rw [World.size_alloc] | rw [World.size_setCell] | rw [World.size_drew] | rw [World.heap_drewN])); omega) (fun hf => by have := Bj.out _ hf; omega)
  have hl15_0 : w.heap.size < w15.heap.size := by omega
  have hl15_1 : w.heap.size + 1 < w15.heap.size := by omega
  have hl15_2 : B1 < w15.heap.size := by omega
  have hl15_3 : w4.heap.size < w15.heap.size := by omega
  have hl15_4 : w5.heap.size < w15.heap.size := by omega
  have hl15_5 : w7.heap.size < w15.heap.size := by omega
  have hX : Chg (Fj_L) w14 w15 := Chg.trans (Chg.d) hm (fun g hg => Or.inl hg)
  replace hX := Lib.hid hX
  clear hm
  replace ha_Procs := Lib.hid (RL.chg ha_Procs.out hX.out (fun g hg h => by have a1 := Ba.out g (hg); have a2 := Bj.out g h; omega))
  replace hb_Frames := Lib.hid (RL.chg hb_Frames.out hX.out (fun g hg h => by have a1 := Bb.out g (hg); have a2 := Bj.out g h; omega))
  replace hi_L := Lib.hid (RL.chg hi_L.out hX.out (fun g hg h => by have a1 := Bi.out g (hg); have a2 := Bj.out g h; omega))
  replace hw_Frames := Lib.hid (RL.chg hw_Frames.out hX.out (fun g hg h => by have a1 := Bw.out g (hg); have a2 := Bj.out g h; omega))
  replace hg_Frames := Lib.hid (RL.chg hg_Frames.out hX.out (fun g hg h => by have a1 := Bg.out g (hg); have a2 := Bj.out g h; omega))
  replace Ow := Lib.hid (Own.chg Ow.out hX.out (fun g hg h => by have a1 := Bw.out g hg; have a2 := Bj.out g h; omega))
  replace Og := Lib.hid (Own.chg Og.out hX.out (fun g hg h => by have a1 := Bg.out g hg; have a2 := Bj.out g h; omega))
  have hK15 := Lib.hid (hK14.out.trans hX.out (fun g hg => Or.inr (by have := Bj.out g hg; omega)))
  clear hX hK14
  clear Bj Oj hj_L
  go_wp2_with fail
  refine (eqRunRun_c x _ _ _ _ _ (hg_Frames.out.chg0 (by repeat (first | with_reducible exact Chg.refl _ _ | with_reducible refine Chg.alloc ?_ _ | with_reducible refine Chg.drewN ?_ _ | with_reducible refine Chg.drew ?_))) (hw_Frames.out.chg0 (by repeat (first | with_reducible exact Chg.refl _ _ | with_reducible refine Chg.alloc ?_ _ | with_reducible refine Chg.drewN ?_ _ | with_reducible refine Chg.drew ?_)))).mono ?_
  rintro e w16 ⟨rfl, hm⟩
  have hs16 := hm.size
  repeat (first | rw [World.size_alloc] at hs16 | rw [World.size_setCell] at hs16 | rw [World.size_drew] at hs16 | rw [World.heap_drewN] at hs16)
  have hb16_0 := hm.cb (b := w.heap.size)
  have hb16_1 := hm.cb (b := w.heap.size + 1)
  have hb16_2 := hm.cb (b := B1)
  have hb16_3 := hm.cb (b := w4.heap.size)
  have hb16_4 := hm.cb (b := w5.heap.size)
  have hb16_5 := hm.cb (b := w7.heap.size)
  have hl16_0 : w.heap.size < w16.heap.size := by omega
  have hl16_1 : w.heap.size + 1 < w16.heap.size := by omega
  have hl16_2 : B1 < w16.heap.size := by omega
  have hl16_3 : w4.heap.size < w16.heap.size := by omega
  have hl16_4 : w5.heap.size < w16.heap.size := by omega
  have hl16_5 : w7.heap.size < w16.heap.size := by omega
  have hX : Chg ([]) w15 w16 := Chg.trans (Chg.d) hm (fun g hg => Or.inl hg)
  replace hX := Lib.hid hX
  clear hm
  replace ha_Procs := Lib.hid (ha_Procs.out.chg0 hX.out)
  replace hb_Frames := Lib.hid (hb_Frames.out.chg0 hX.out)
  replace hi_L := Lib.hid (hi_L.out.chg0 hX.out)
  replace hw_Frames := Lib.hid (hw_Frames.out.chg0 hX.out)
  replace hg_Frames := Lib.hid (hg_Frames.out.chg0 hX.out)
  replace Ow := Lib.hid (Ow.out.chg0 hX.out)
  replace Og := Lib.hid (Og.out.chg0 hX.out)
  have hK16 := Lib.hid ((hK15.out.trans0 hX.out))
  clear hX hK15
  go_wp2_with fail
  refine (markRunRun_c x (1) _ _ _ (hg_Frames.out.chg0 (by repeat (first | with_reducible exact Chg.refl _ _ | with_reducible refine Chg.alloc ?_ _ | with_reducible refine Chg.drewN ?_ _ | with_reducible refine Chg.drew ?_))) (Og.out.chg0 (by repeat (first | with_reducible exact Chg.refl _ _ | with_reducible refine Chg.alloc ?_ _ | with_reducible refine Chg.drewN ?_ _ | with_reducible refine Chg.drew ?_))) (by omega) (Int.le_trans hb2 (by omega))).mono ?_
  rintro e w17 ⟨rfl, hm, om, mhg_Frames⟩
  replace hg_Frames := Lib.hid mhg_Frames
  clear mhg_Frames
  replace Og := Lib.hid om
  clear om
  have hs17 := hm.size
  repeat (first | rw [World.size_alloc] at hs17 | rw [World.size_setCell] at hs17 | rw [World.size_drew] at hs17 | rw [World.heap_drewN] at hs17)
  have hb17_0 := hm.cb (b := w.heap.size) (by (repeat (first | rw [World.size_alloc] | rw [World.size_setCell] | rw [World.size_drew] | rw [World.heap_drewN])); omega) (fun hf => by have := Bg.out _ hf; omega)
  have hb17_1 := hm.cb (b := w.heap.size + 1) (by (repeat (first | rw [World.size_alloc] | rw [World.size_setCell] | rw [World.size_drew] | rw [World.heap_drewN])); omega) (fun hf => by have := Bg.out _ hf; omega)
  have hb17_2 := hm.cb (b := B1) (by (repeat (first | rw [World.size_alloc] | rw [World.size_setCell] | rw [World.size_drew] | rw [World.heap_drewN])); omega) (fun hf => by have := Bg.out _ hf; omega)
  have hb17_3 := hm.cb (b := w4.heap.size) (by (repeat (first | rw [World.size_alloc] | rw [World.size_setCell] | rw [World.size_drew] | rw [World.heap_drewN])); omega) (fun hf => by have := Bg.out _ hf; omega)
  have hb17_4 := hm.cb (b := w5.heap.size) (by (repeat (first | rw [World.size_alloc] | rw [World.size_setCell] | rw [World.size_drew] | rw [World.heap_drewN])); omega) (fun hf => by have := Bg.out _ hf; omega)
  have hb17_5 := hm.cb (b := w7.heap.size) (by (repeat (first | rw [World.size_alloc] | rw [World.size_setCell] | rw [World.size_drew] | rw [World.heap_drewN])); omega) (fun hf => by have := Bg.out _ hf; omega)
  have hl17_0 : w.heap.size < w17.heap.size := by omega
  have hl17_1 : w.heap.size + 1 < w17.heap.size := by omega
  have hl17_2 : B1 < w17.heap.size := by omega
  have hl17_3 : w4.heap.size < w17.heap.size := by omega
  have hl17_4 : w5.heap.size < w17.heap.size := by omega
  have hl17_5 : w7.heap.size < w17.heap.size := by omega
  have hX : Chg (Fg_Frames) w16 w17 := Chg.trans (Chg.d) hm (fun g hg => Or.inl hg)
  replace hX := Lib.hid hX
  clear hm
  replace ha_Procs := Lib.hid (RL.chg ha_Procs.out hX.out (fun g hg h => by have a1 := Ba.out g (hg); have a2 := Bg.out g h; omega))
  replace hb_Frames := Lib.hid (RL.chg hb_Frames.out hX.out (fun g hg h => by have a1 := Bb.out g (hg); have a2 := Bg.out g h; omega))
  replace hi_L := Lib.hid (RL.chg hi_L.out hX.out (fun g hg h => by have a1 := Bi.out g (hg); have a2 := Bg.out g h; omega))
  replace hw_Frames := Lib.hid (RL.chg hw_Frames.out hX.out (fun g hg h => by have a1 := Bw.out g (hg); have a2 := Bg.out g h; omega))
  replace Ow := Lib.hid (Own.chg Ow.out hX.out (fun g hg h => by have a1 := Bw.out g hg; have a2 := Bg.out g h; omega))
  have hK17 := Lib.hid (hK16.out.trans hX.out (fun g hg => Or.inr (by have := Bg.out g hg; omega)))
  clear hX hK16
  go_wp2_with fail
  refine (heldRunRun_c x (1) _ _ _ (hg_Frames.out.chg0 (by repeat (first | with_reducible exact Chg.refl _ _ | with_reducible refine Chg.alloc ?_ _ | with_reducible refine Chg.drewN ?_ _ | with_reducible refine Chg.drew ?_))) (by omega) (Int.le_trans hb2 (by omega))).mono ?_
  rintro e w18 ⟨rfl, hm⟩
  have hs18 := hm.size
  repeat (first | rw [World.size_alloc] at hs18 | rw [World.size_setCell] at hs18 | rw [World.size_drew] at hs18 | rw [World.heap_drewN] at hs18)
  have hb18_0 := hm.cb (b := w.heap.size)
  have hb18_1 := hm.cb (b := w.heap.size + 1)
  have hb18_2 := hm.cb (b := B1)
  have hb18_3 := hm.cb (b := w4.heap.size)
  have hb18_4 := hm.cb (b := w5.heap.size)
  have hb18_5 := hm.cb (b := w7.heap.size)
  have hl18_0 : w.heap.size < w18.heap.size := by omega
  have hl18_1 : w.heap.size + 1 < w18.heap.size := by omega
  have hl18_2 : B1 < w18.heap.size := by omega
  have hl18_3 : w4.heap.size < w18.heap.size := by omega
  have hl18_4 : w5.heap.size < w18.heap.size := by omega
  have hl18_5 : w7.heap.size < w18.heap.size := by omega
  have hX : Chg ([]) w17 w18 := Chg.trans (Chg.d) hm (fun g hg => Or.inl hg)
  replace hX := Lib.hid hX
  clear hm
  replace ha_Procs := Lib.hid (ha_Procs.out.chg0 hX.out)
  replace hb_Frames := Lib.hid (hb_Frames.out.chg0 hX.out)
  replace hi_L := Lib.hid (hi_L.out.chg0 hX.out)
  replace hw_Frames := Lib.hid (hw_Frames.out.chg0 hX.out)
  replace hg_Frames := Lib.hid (hg_Frames.out.chg0 hX.out)
  replace Ow := Lib.hid (Ow.out.chg0 hX.out)
  replace Og := Lib.hid (Og.out.chg0 hX.out)
  have hK18 := Lib.hid ((hK17.out.trans0 hX.out))
  clear hX hK17
  go_wp2_with fail
  replace pp : w18.cell? ⟨w.heap.size, 0, none⟩ = some (.slice AP p.Procs.length cP) := by go_simp
  replace pr0 : w18.cell? ⟨w.heap.size + 1, 0, none⟩ = some (.int .i64 r.State) := by go_simp
  replace pr1 : w18.cell? ⟨w.heap.size + 1, 1, none⟩ = some (.slice AF r.Frames.length cF) := by go_simp
  replace pr2 : w18.cell? ⟨w.heap.size + 1, 2, none⟩ = some (.int .i64 r.Out) := by go_simp
  replace pr3 : w18.cell? ⟨w.heap.size + 1, 3, none⟩ = some (.int .i64 r.Proc) := by go_simp
  replace pr4 : w18.cell? ⟨w.heap.size + 1, 4, none⟩ = some (.int .i64 r.Pc) := by go_simp
  replace lUP := hl18_0
  replace lUR := hl18_1
  replace nUP : ¬ w.heap.size = w18.heap.size := Nat.ne_of_lt hl18_0
  replace nUR : ¬ w.heap.size + 1 = w18.heap.size := Nat.ne_of_lt hl18_1
  clear hb3_0 hb3_1 hb4_0 hb4_1 hb5_0 hb5_1 hb6_0 hb6_1 hb7_0 hb7_1 hb8_0 hb8_1 hb9_0 hb9_1 hb10_0 hb10_1 hb11_0 hb11_1 hb12_0 hb12_1 hb13_0 hb13_1 hb14_0 hb14_1 hb15_0 hb15_1 hb16_0 hb16_1 hb17_0 hb17_1 hb18_0 hb18_1
  refine (show (∀ Q : Exit → Act → World → Prop, (∀ (B : Nat) (y15 y17 y19 y20 y21 y22 y23 y24 y25 y26 y27 y28 y29 y30 y31 y32 y33 y34 y35 y36 y37 y38 y39 y40 y41 y42 y43 y44 y45 y46 y47 y48 y49 y50 y51 y52 y53 y54 y55 y56 y57 y58 y59 y60 y61 y62 y63 y64 y65 y66 y67 y68 y69 y70 y71 y72 y73 y74 y75 y76 y77 y78 y79 y80 y81 y82 y83 y84 y85 y86 y87 y88 y89 y90 y91 y92 y93 y94 y95 y96 y97 y98 y99 y100 y101 y102 y103 y104 y105 : Value) (v : Value) (G : List Nat) (W : World), CutM w18 x B v G W → Q .normal { tmps := #[.agg #[.slice AP p.Procs.length cP], .agg #[.int .i64 r.State, .slice AF r.Frames.length cF, .int .i64 r.Out, .int .i64 r.Proc, .int .i64 r.Pc], .slice AI ins.length cI, .int .i64 fuel, .pointer (some ⟨w.heap.size, 0, none⟩), .pointer (some ⟨w.heap.size + 1, 0, none⟩), undef, undef, .bool false, .int .i64 r2, .pointer (some ⟨B1, 0, none⟩), .pointer (some ⟨w4.heap.size, 0, none⟩), .pointer (some ⟨w5.heap.size, 0, none⟩), .slice Aj_L ins.length cj_L, .pointer (some ⟨w7.heap.size, 0, none⟩), y15, .int .i64 (1 + (cntL x.Frames : Int)), y17, .pointer (some ⟨B, 0, none⟩), y19, y20, y21, y22, y23, y24, y25, y26, y27, y28, y29, y30, y31, y32, y33, y34, y35, y36, y37, y38, y39, y40, y41, y42, y43, y44, y45, y46, y47, y48, y49, y50, y51, y52, y53, y54, y55, y56, y57, y58, y59, y60, y61, y62, y63, y64, y65, y66, y67, y68, y69, y70, y71, y72, y73, y74, y75, y76, y77, y78, y79, y80, y81, y82, y83, y84, y85, y86, y87, y88, y89, y90, y91, y92, y93, y94, y95, y96, y97, y98, y99, y100, y101, y102, y103, y104, y105, undef, undef, undef, undef, undef, undef, undef, undef, undef, undef, undef, undef], defers := [] } W) → Code.wp _ _ Q _ _) → _ from fun key => Code.wp_mono ?_ (key (fun e a W => e = .normal ∧ ∃ (B : Nat) (y15 y17 y19 y20 y21 y22 y23 y24 y25 y26 y27 y28 y29 y30 y31 y32 y33 y34 y35 y36 y37 y38 y39 y40 y41 y42 y43 y44 y45 y46 y47 y48 y49 y50 y51 y52 y53 y54 y55 y56 y57 y58 y59 y60 y61 y62 y63 y64 y65 y66 y67 y68 y69 y70 y71 y72 y73 y74 y75 y76 y77 y78 y79 y80 y81 y82 y83 y84 y85 y86 y87 y88 y89 y90 y91 y92 y93 y94 y95 y96 y97 y98 y99 y100 y101 y102 y103 y104 y105 : Value) (v : Value) (G : List Nat), a = { tmps := #[.agg #[.slice AP p.Procs.length cP], .agg #[.int .i64 r.State, .slice AF r.Frames.length cF, .int .i64 r.Out, .int .i64 r.Proc, .int .i64 r.Pc], .slice AI ins.length cI, .int .i64 fuel, .pointer (some ⟨w.heap.size, 0, none⟩), .pointer (some ⟨w.heap.size + 1, 0, none⟩), undef, undef, .bool false, .int .i64 r2, .pointer (some ⟨B1, 0, none⟩), .pointer (some ⟨w4.heap.size, 0, none⟩), .pointer (some ⟨w5.heap.size, 0, none⟩), .slice Aj_L ins.length cj_L, .pointer (some ⟨w7.heap.size, 0, none⟩), y15, .int .i64 (1 + (cntL x.Frames : Int)), y17, .pointer (some ⟨B, 0, none⟩), y19, y20, y21, y22, y23, y24, y25, y26, y27, y28, y29, y30, y31, y32, y33, y34, y35, y36, y37, y38, y39, y40, y41, y42, y43, y44, y45, y46, y47, y48, y49, y50, y51, y52, y53, y54, y55, y56, y57, y58, y59, y60, y61, y62, y63, y64, y65, y66, y67, y68, y69, y70, y71, y72, y73, y74, y75, y76, y77, y78, y79, y80, y81, y82, y83, y84, y85, y86, y87, y88, y89, y90, y91, y92, y93, y94, y95, y96, y97, y98, y99, y100, y101, y102, y103, y104, y105, undef, undef, undef, undef, undef, undef, undef, undef, undef, undef, undef, undef], defers := [] } ∧ CutM w18 x B v G W) (fun B y15 y17 y19 y20 y21 y22 y23 y24 y25 y26 y27 y28 y29 y30 y31 y32 y33 y34 y35 y36 y37 y38 y39 y40 y41 y42 y43 y44 y45 y46 y47 y48 y49 y50 y51 y52 y53 y54 y55 y56 y57 y58 y59 y60 y61 y62 y63 y64 y65 y66 y67 y68 y69 y70 y71 y72 y73 y74 y75 y76 y77 y78 y79 y80 y81 y82 y83 y84 y85 y86 y87 y88 y89 y90 y91 y92 y93 y94 y95 y96 y97 y98 y99 y100 y101 y102 y103 y104 y105 v G W h => ⟨rfl, B, y15, y17, y19, y20, y21, y22, y23, y24, y25, y26, y27, y28, y29, y30, y31, y32, y33, y34, y35, y36, y37, y38, y39, y40, y41, y42, y43, y44, y45, y46, y47, y48, y49, y50, y51, y52, y53, y54, y55, y56, y57, y58, y59, y60, y61, y62, y63, y64, y65, y66, y67, y68, y69, y70, y71, y72, y73, y74, y75, y76, y77, y78, y79, y80, y81, y82, y83, y84, y85, y86, y87, y88, y89, y90, y91, y92, y93, y94, y95, y96, y97, y98, y99, y100, y101, y102, y103, y104, y105, v, G, rfl, h⟩))) ?_
  rotate_left
  · intro Q hM
    have hM' := Lib.hid hM
    clear hM
    go_region_held3 (fun w' => w'.cell? ⟨w.heap.size, 0, none⟩ = some (.slice AP p.Procs.length cP) ∧ w'.cell? ⟨w.heap.size + 1, 0, none⟩ = some (.int .i64 r.State) ∧ w'.cell? ⟨w.heap.size + 1, 1, none⟩ = some (.slice AF r.Frames.length cF) ∧ w'.cell? ⟨w.heap.size + 1, 2, none⟩ = some (.int .i64 r.Out) ∧ w'.cell? ⟨w.heap.size + 1, 3, none⟩ = some (.int .i64 r.Proc) ∧ w'.cell? ⟨w.heap.size + 1, 4, none⟩ = some (.int .i64 r.Pc)) (((try dsimp only); (repeat' apply And.intro) <;> (first | with_reducible assumption | (with_reducible refine (cell5M ?_).trans ?_ <;> (first | with_reducible assumption | exact nUP | exact nUR | exact naP | exact naR | exact nbP | exact nbR | exact niP | exact niR | exact ncP | exact ncR)) | (go_keep; done))))
      (first | (go_at_call 26; refine (toPrgProg_c p _ _ _ (ha_Procs.out.chg0 (by repeat (first | with_reducible refine Chg.setCell ?_ (Or.inr (by first | (simp; done) | (simp; omega))) _ | with_reducible refine Chg.alloc ?_ _ | with_reducible refine Chg.drewN ?_ _ | with_reducible refine Chg.drew ?_ | with_reducible exact Chg.refl _ _ | with_reducible assumption))) HZa.out).mono ?_; rintro e wa ⟨ua, Ga, rfl, hqwa, ra, oa, ga⟩; obtain ⟨Aa, ka, rfl, -, -⟩ := ra.form; have hKwa : Chg [] w18 wa := Chg.trans0 (show Chg [] w18 _ from by repeat (first | with_reducible refine Chg.setCell ?_ (Or.inr (by first | (simp; done) | (simp; omega))) _ | with_reducible refine Chg.alloc ?_ _ | with_reducible refine Chg.drewN ?_ _ | with_reducible refine Chg.drew ?_ | with_reducible exact Chg.refl _ _ | with_reducible assumption)) hqwa; have ppwa := hKwa.cell0 pp; have pr0wa := hKwa.cell0 pr0; have pr1wa := hKwa.cell0 pr1; have pr2wa := hKwa.cell0 pr2; have pr3wa := hKwa.cell0 pr3; have pr4wa := hKwa.cell0 pr4; have swa := hKwa.size; have naP : ¬ w.heap.size = wa.heap.size := Nat.ne_of_lt (Nat.lt_of_lt_of_le lUP swa); have naR : ¬ w.heap.size + 1 = wa.heap.size := Nat.ne_of_lt (Nat.lt_of_lt_of_le lUR swa); have zUc0 := hqwa.cells.1 w18.heap.size 0; have zUc1 := hqwa.cells.1 w18.heap.size 1; have zUc2 := hqwa.cells.1 w18.heap.size 2; have zUc3 := hqwa.cells.1 w18.heap.size 3; have zUc4 := hqwa.cells.1 w18.heap.size 4; have zUf0 := hqwa.cells.2 w18.heap.size 0; have zUf1 := hqwa.cells.2 w18.heap.size 1; have zUf2 := hqwa.cells.2 w18.heap.size 2; have zUf3 := hqwa.cells.2 w18.heap.size 3; have zUf4 := hqwa.cells.2 w18.heap.size 4; have szwa := hqwa.size; (try simp only [World.size_alloc, World.size_setCell, World.size_drew] at szwa); (try have lt_U_wa := Nat.lt_of_succ_le szwa); have ra_ := Lib.hid ra; clear ra oa ga) | (go_at_call 27; refine (toRunRun_c r _ _ _ (hb_Frames.out.chg0 (by repeat (first | with_reducible refine Chg.setCell ?_ (Or.inr (by first | (simp; done) | (simp; omega))) _ | with_reducible refine Chg.alloc ?_ _ | with_reducible refine Chg.drewN ?_ _ | with_reducible refine Chg.drew ?_ | with_reducible exact Chg.refl _ _ | with_reducible assumption | with_reducible refine Chg.trans0 ?_ hKwa))) HZb.out).mono ?_; rintro e wb ⟨ub, Gb, rfl, hqwb, rb, ob, gb⟩; obtain ⟨Ab, kb, rfl, -, -⟩ := rb.form; have hKwb : Chg [] w18 wb := Chg.trans0 (show Chg [] w18 _ from by repeat (first | with_reducible refine Chg.setCell ?_ (Or.inr (by first | (simp; done) | (simp; omega))) _ | with_reducible refine Chg.alloc ?_ _ | with_reducible refine Chg.drewN ?_ _ | with_reducible refine Chg.drew ?_ | with_reducible exact Chg.refl _ _ | with_reducible assumption | with_reducible refine Chg.trans0 ?_ hKwa)) hqwb; have ppwb := hKwb.cell0 pp; have pr0wb := hKwb.cell0 pr0; have pr1wb := hKwb.cell0 pr1; have pr2wb := hKwb.cell0 pr2; have pr3wb := hKwb.cell0 pr3; have pr4wb := hKwb.cell0 pr4; have swb := hKwb.size; have nbP : ¬ w.heap.size = wb.heap.size := Nat.ne_of_lt (Nat.lt_of_lt_of_le lUP swb); have nbR : ¬ w.heap.size + 1 = wb.heap.size := Nat.ne_of_lt (Nat.lt_of_lt_of_le lUR swb); have zUc0 := hqwb.cells.1 w18.heap.size 0; have zUc1 := hqwb.cells.1 w18.heap.size 1; have zUc2 := hqwb.cells.1 w18.heap.size 2; have zUc3 := hqwb.cells.1 w18.heap.size 3; have zUc4 := hqwb.cells.1 w18.heap.size 4; have zUf0 := hqwb.cells.2 w18.heap.size 0; have zUf1 := hqwb.cells.2 w18.heap.size 1; have zUf2 := hqwb.cells.2 w18.heap.size 2; have zUf3 := hqwb.cells.2 w18.heap.size 3; have zUf4 := hqwb.cells.2 w18.heap.size 4; have zwac0 := hqwb.cells.1 wa.heap.size 0; have zwac1 := hqwb.cells.1 wa.heap.size 1; have zwac2 := hqwb.cells.1 wa.heap.size 2; have zwac3 := hqwb.cells.1 wa.heap.size 3; have zwac4 := hqwb.cells.1 wa.heap.size 4; have zwaf0 := hqwb.cells.2 wa.heap.size 0; have zwaf1 := hqwb.cells.2 wa.heap.size 1; have zwaf2 := hqwb.cells.2 wa.heap.size 2; have zwaf3 := hqwb.cells.2 wa.heap.size 3; have zwaf4 := hqwb.cells.2 wa.heap.size 4; have szwb := hqwb.size; (try simp only [World.size_alloc, World.size_setCell, World.size_drew] at szwb); (try have lt_wa_wb := Nat.lt_of_succ_le szwb); (try have lt_U_wb := Nat.lt_of_lt_of_le lt_U_wa (Nat.le_of_lt_succ (Nat.lt_succ_of_le szwb))); have rb_ := Lib.hid rb; clear rb ob gb) | (go_at_call 34; refine (toIntS_c ins _ _ _ (hi_L.out.chg0 (by repeat (first | with_reducible refine Chg.setCell ?_ (Or.inr (by first | (simp; done) | (simp; omega))) _ | with_reducible refine Chg.alloc ?_ _ | with_reducible refine Chg.drewN ?_ _ | with_reducible refine Chg.drew ?_ | with_reducible exact Chg.refl _ _ | with_reducible assumption | with_reducible refine Chg.trans0 ?_ hKwb))) HZi.out).mono ?_; rintro e wi ⟨ui, Gi, rfl, hqwi, ri, oi, gi⟩; obtain ⟨Ai, ki, rfl, -, -⟩ := ri.form; have hKwi : Chg [] w18 wi := Chg.trans0 (show Chg [] w18 _ from by repeat (first | with_reducible refine Chg.setCell ?_ (Or.inr (by first | (simp; done) | (simp; omega))) _ | with_reducible refine Chg.alloc ?_ _ | with_reducible refine Chg.drewN ?_ _ | with_reducible refine Chg.drew ?_ | with_reducible exact Chg.refl _ _ | with_reducible assumption | with_reducible refine Chg.trans0 ?_ hKwb)) hqwi; have ppwi := hKwi.cell0 pp; have pr0wi := hKwi.cell0 pr0; have pr1wi := hKwi.cell0 pr1; have pr2wi := hKwi.cell0 pr2; have pr3wi := hKwi.cell0 pr3; have pr4wi := hKwi.cell0 pr4; have swi := hKwi.size; have niP : ¬ w.heap.size = wi.heap.size := Nat.ne_of_lt (Nat.lt_of_lt_of_le lUP swi); have niR : ¬ w.heap.size + 1 = wi.heap.size := Nat.ne_of_lt (Nat.lt_of_lt_of_le lUR swi); have zUc0 := hqwi.cells.1 w18.heap.size 0; have zUc1 := hqwi.cells.1 w18.heap.size 1; have zUc2 := hqwi.cells.1 w18.heap.size 2; have zUc3 := hqwi.cells.1 w18.heap.size 3; have zUc4 := hqwi.cells.1 w18.heap.size 4; have zUf0 := hqwi.cells.2 w18.heap.size 0; have zUf1 := hqwi.cells.2 w18.heap.size 1; have zUf2 := hqwi.cells.2 w18.heap.size 2; have zUf3 := hqwi.cells.2 w18.heap.size 3; have zUf4 := hqwi.cells.2 w18.heap.size 4; have zwac0 := hqwi.cells.1 wa.heap.size 0; have zwac1 := hqwi.cells.1 wa.heap.size 1; have zwac2 := hqwi.cells.1 wa.heap.size 2; have zwac3 := hqwi.cells.1 wa.heap.size 3; have zwac4 := hqwi.cells.1 wa.heap.size 4; have zwaf0 := hqwi.cells.2 wa.heap.size 0; have zwaf1 := hqwi.cells.2 wa.heap.size 1; have zwaf2 := hqwi.cells.2 wa.heap.size 2; have zwaf3 := hqwi.cells.2 wa.heap.size 3; have zwaf4 := hqwi.cells.2 wa.heap.size 4; have zwbc0 := hqwi.cells.1 wb.heap.size 0; have zwbc1 := hqwi.cells.1 wb.heap.size 1; have zwbc2 := hqwi.cells.1 wb.heap.size 2; have zwbc3 := hqwi.cells.1 wb.heap.size 3; have zwbc4 := hqwi.cells.1 wb.heap.size 4; have zwbf0 := hqwi.cells.2 wb.heap.size 0; have zwbf1 := hqwi.cells.2 wb.heap.size 1; have zwbf2 := hqwi.cells.2 wb.heap.size 2; have zwbf3 := hqwi.cells.2 wb.heap.size 3; have zwbf4 := hqwi.cells.2 wb.heap.size 4; have szwi := hqwi.size; (try simp only [World.size_alloc, World.size_setCell, World.size_drew] at szwi); (try have lt_wb_wi := Nat.lt_of_succ_le szwi); (try have lt_U_wi := Nat.lt_of_lt_of_le lt_U_wb (Nat.le_of_lt_succ (Nat.lt_succ_of_le szwi))); (try have lt_wa_wi := Nat.lt_of_lt_of_le lt_wa_wb (Nat.le_of_lt_succ (Nat.lt_succ_of_le szwi))); have hKbi : Chg [] wb wi := Chg.trans0 (show Chg [] wb _ from by repeat (first | with_reducible refine Chg.setCell ?_ (Or.inr (by first | (simp; done) | (simp; omega))) _ | with_reducible refine Chg.alloc ?_ _ | with_reducible refine Chg.drewN ?_ _ | with_reducible refine Chg.drew ?_ | with_reducible exact Chg.refl _ _ | with_reducible assumption)) hqwi; have hKai : Chg [] wa wi := Chg.trans0 (show Chg [] wa _ from by repeat (first | with_reducible refine Chg.setCell ?_ (Or.inr (by first | (simp; done) | (simp; omega))) _ | with_reducible refine Chg.alloc ?_ _ | with_reducible refine Chg.drewN ?_ _ | with_reducible refine Chg.drew ?_ | with_reducible exact Chg.refl _ _ | with_reducible assumption | with_reducible refine Chg.trans0 ?_ (hqwb))) hqwi; have ri_ := Lib.hid ri; clear ri oi gi) | (go_at_call 19; refine (himpl _ _ _ _ _ _ _ (ra_.out.chg0 (by repeat (first | with_reducible refine Chg.setCell ?_ (Or.inr (by first | (simp; done) | (simp; omega))) _ | with_reducible refine Chg.alloc ?_ _ | with_reducible refine Chg.drewN ?_ _ | with_reducible refine Chg.drew ?_ | with_reducible exact Chg.refl _ _ | with_reducible assumption | with_reducible refine Chg.trans0 ?_ hKai))) (rb_.out.chg0 (by repeat (first | with_reducible refine Chg.setCell ?_ (Or.inr (by first | (simp; done) | (simp; omega))) _ | with_reducible refine Chg.alloc ?_ _ | with_reducible refine Chg.drewN ?_ _ | with_reducible refine Chg.drew ?_ | with_reducible exact Chg.refl _ _ | with_reducible assumption | with_reducible refine Chg.trans0 ?_ hKbi))) (ri_.out.chg0 (by repeat (first | with_reducible refine Chg.setCell ?_ (Or.inr (by first | (simp; done) | (simp; omega))) _ | with_reducible refine Chg.alloc ?_ _ | with_reducible refine Chg.drewN ?_ _ | with_reducible refine Chg.drew ?_ | with_reducible exact Chg.refl _ _ | with_reducible assumption)))).mono ?_; rintro e wc ⟨vc, Gc, rfl, hqwc, rc, oc, gc⟩; obtain ⟨Ac, kc, cc, rfl⟩ := form3M rc; have hKwc : Chg [] w18 wc := Chg.trans0 (show Chg [] w18 _ from by repeat (first | with_reducible refine Chg.setCell ?_ (Or.inr (by first | (simp; done) | (simp; omega))) _ | with_reducible refine Chg.alloc ?_ _ | with_reducible refine Chg.drewN ?_ _ | with_reducible refine Chg.drew ?_ | with_reducible exact Chg.refl _ _ | with_reducible assumption | with_reducible refine Chg.trans0 ?_ hKwi)) hqwc; have ppwc := hKwc.cell0 pp; have pr0wc := hKwc.cell0 pr0; have pr1wc := hKwc.cell0 pr1; have pr2wc := hKwc.cell0 pr2; have pr3wc := hKwc.cell0 pr3; have pr4wc := hKwc.cell0 pr4; have swc := hKwc.size; have ncP : ¬ w.heap.size = wc.heap.size := Nat.ne_of_lt (Nat.lt_of_lt_of_le lUP swc); have ncR : ¬ w.heap.size + 1 = wc.heap.size := Nat.ne_of_lt (Nat.lt_of_lt_of_le lUR swc); have zUc0 := hqwc.cells.1 w18.heap.size 0; have zUc1 := hqwc.cells.1 w18.heap.size 1; have zUc2 := hqwc.cells.1 w18.heap.size 2; have zUc3 := hqwc.cells.1 w18.heap.size 3; have zUc4 := hqwc.cells.1 w18.heap.size 4; have zUf0 := hqwc.cells.2 w18.heap.size 0; have zUf1 := hqwc.cells.2 w18.heap.size 1; have zUf2 := hqwc.cells.2 w18.heap.size 2; have zUf3 := hqwc.cells.2 w18.heap.size 3; have zUf4 := hqwc.cells.2 w18.heap.size 4; have zwac0 := hqwc.cells.1 wa.heap.size 0; have zwac1 := hqwc.cells.1 wa.heap.size 1; have zwac2 := hqwc.cells.1 wa.heap.size 2; have zwac3 := hqwc.cells.1 wa.heap.size 3; have zwac4 := hqwc.cells.1 wa.heap.size 4; have zwaf0 := hqwc.cells.2 wa.heap.size 0; have zwaf1 := hqwc.cells.2 wa.heap.size 1; have zwaf2 := hqwc.cells.2 wa.heap.size 2; have zwaf3 := hqwc.cells.2 wa.heap.size 3; have zwaf4 := hqwc.cells.2 wa.heap.size 4; have zwbc0 := hqwc.cells.1 wb.heap.size 0; have zwbc1 := hqwc.cells.1 wb.heap.size 1; have zwbc2 := hqwc.cells.1 wb.heap.size 2; have zwbc3 := hqwc.cells.1 wb.heap.size 3; have zwbc4 := hqwc.cells.1 wb.heap.size 4; have zwbf0 := hqwc.cells.2 wb.heap.size 0; have zwbf1 := hqwc.cells.2 wb.heap.size 1; have zwbf2 := hqwc.cells.2 wb.heap.size 2; have zwbf3 := hqwc.cells.2 wb.heap.size 3; have zwbf4 := hqwc.cells.2 wb.heap.size 4; have zwic0 := hqwc.cells.1 wi.heap.size 0; have zwic1 := hqwc.cells.1 wi.heap.size 1; have zwic2 := hqwc.cells.1 wi.heap.size 2; have zwic3 := hqwc.cells.1 wi.heap.size 3; have zwic4 := hqwc.cells.1 wi.heap.size 4; have zwif0 := hqwc.cells.2 wi.heap.size 0; have zwif1 := hqwc.cells.2 wi.heap.size 1; have zwif2 := hqwc.cells.2 wi.heap.size 2; have zwif3 := hqwc.cells.2 wi.heap.size 3; have zwif4 := hqwc.cells.2 wi.heap.size 4; have szwc := hqwc.size; (try simp only [World.size_alloc, World.size_setCell, World.size_drew] at szwc); (try have lt_wi_wc := Nat.lt_of_succ_le szwc); (try have lt_U_wc := Nat.lt_of_lt_of_le lt_U_wi (Nat.le_of_lt_succ (Nat.lt_succ_of_le szwc))); (try have lt_wa_wc := Nat.lt_of_lt_of_le lt_wa_wi (Nat.le_of_lt_succ (Nat.lt_succ_of_le szwc))); (try have lt_wb_wc := Nat.lt_of_lt_of_le lt_wb_wi (Nat.le_of_lt_succ (Nat.lt_succ_of_le szwc))); have rc_ := Lib.hid rc; have oc_ := Lib.hid oc; (try simp only [World.size_alloc, World.size_setCell, World.size_drew] at gc); have gc_ := Lib.hid gc; clear rc oc gc))
    · refine hM'.out wc.heap.size _ _ _ _ _ _ _ _ _ _ _ _ _ _ _ _ _ _ _ _ _ _ _ _ _ _ _ _ _ _ _ _ _ _ _ _ _ _ _ _ _ _ _ _ _ _ _ _ _ _ _ _ _ _ _ _ _ _ _ _ _ _ _ _ _ _ _ _ _ _ _ _ _ _ _ _ _ _ _ _ _ _ _ _ _ _ _ _ _ (.slice Ac kc cc) Gc _ ?_
      refine ⟨by repeat (first | with_reducible refine Chg.setCell ?_ (Or.inr (by first | (simp; done) | (simp; omega))) _ | with_reducible refine Chg.alloc ?_ _ | with_reducible refine Chg.drewN ?_ _ | with_reducible refine Chg.drew ?_ | with_reducible exact Chg.refl _ _ | with_reducible assumption | with_reducible refine Chg.trans0 ?_ hKwc), rc_.out.chg0 (by repeat (first | with_reducible refine Chg.setCell ?_ (Or.inr (by first | (simp; done) | (simp; omega))) _ | with_reducible refine Chg.alloc ?_ _ | with_reducible refine Chg.drewN ?_ _ | with_reducible refine Chg.drew ?_ | with_reducible exact Chg.refl _ _ | with_reducible assumption)), oc_.out.chg0 (by repeat (first | with_reducible refine Chg.setCell ?_ (Or.inr (by first | (simp; done) | (simp; omega))) _ | with_reducible refine Chg.alloc ?_ _ | with_reducible refine Chg.drewN ?_ _ | with_reducible refine Chg.drew ?_ | with_reducible exact Chg.refl _ _ | with_reducible assumption)), fun g hg => by have h1 := gc_.out g hg; omega, by omega, by (first | (simp; done) | (simp; omega)), fun hg => absurd (oc_.out.lt _ hg) (Nat.lt_irrefl _), ?_⟩
      simp [go_sem]
    · refine hM'.out wi.heap.size _ _ _ _ _ _ _ _ _ _ _ _ _ _ _ _ _ _ _ _ _ _ _ _ _ _ _ _ _ _ _ _ _ _ _ _ _ _ _ _ _ _ _ _ _ _ _ _ _ _ _ _ _ _ _ _ _ _ _ _ _ _ _ _ _ _ _ _ _ _ _ _ _ _ _ _ _ _ _ _ _ _ _ _ _ _ _ _ _ (.slice Ac kc cc) Gc _ ?_
      refine ⟨by repeat (first | with_reducible refine Chg.setCell ?_ (Or.inr (by first | (simp; done) | (simp; omega))) _ | with_reducible refine Chg.alloc ?_ _ | with_reducible refine Chg.drewN ?_ _ | with_reducible refine Chg.drew ?_ | with_reducible exact Chg.refl _ _ | with_reducible assumption | with_reducible refine Chg.trans0 ?_ hKwc), rc_.out.chg (G := [wi.heap.size]) (by repeat (first | with_reducible refine Chg.setCell ?_ (Or.inl (by first | (simp; done) | (simp; omega))) _ | with_reducible refine Chg.alloc ?_ _ | with_reducible refine Chg.drewN ?_ _ | with_reducible refine Chg.drew ?_ | with_reducible exact Chg.refl _ _ | with_reducible assumption)) (fun g hg hg2 => by have h1 := gc_.out g hg; have h2 := List.mem_singleton.1 hg2; omega), oc_.out.chg (G := [wi.heap.size]) (by repeat (first | with_reducible refine Chg.setCell ?_ (Or.inl (by first | (simp; done) | (simp; omega))) _ | with_reducible refine Chg.alloc ?_ _ | with_reducible refine Chg.drewN ?_ _ | with_reducible refine Chg.drew ?_ | with_reducible exact Chg.refl _ _ | with_reducible assumption)) (fun g hg hg2 => by have h1 := gc_.out g hg; have h2 := List.mem_singleton.1 hg2; omega), fun g hg => by have h1 := gc_.out g hg; omega, by omega, by (first | (simp; done) | (simp; omega)), fun hg => by have h1 := gc_.out _ hg; omega, ?_⟩
      go_simp
    · refine hM'.out wb.heap.size _ _ _ _ _ _ _ _ _ _ _ _ _ _ _ _ _ _ _ _ _ _ _ _ _ _ _ _ _ _ _ _ _ _ _ _ _ _ _ _ _ _ _ _ _ _ _ _ _ _ _ _ _ _ _ _ _ _ _ _ _ _ _ _ _ _ _ _ _ _ _ _ _ _ _ _ _ _ _ _ _ _ _ _ _ _ _ _ _ (.slice Ac kc cc) Gc _ ?_
      refine ⟨by repeat (first | with_reducible refine Chg.setCell ?_ (Or.inr (by first | (simp; done) | (simp; omega))) _ | with_reducible refine Chg.alloc ?_ _ | with_reducible refine Chg.drewN ?_ _ | with_reducible refine Chg.drew ?_ | with_reducible exact Chg.refl _ _ | with_reducible assumption | with_reducible refine Chg.trans0 ?_ hKwc), rc_.out.chg (G := [wb.heap.size]) (by repeat (first | with_reducible refine Chg.setCell ?_ (Or.inl (by first | (simp; done) | (simp; omega))) _ | with_reducible refine Chg.alloc ?_ _ | with_reducible refine Chg.drewN ?_ _ | with_reducible refine Chg.drew ?_ | with_reducible exact Chg.refl _ _ | with_reducible assumption)) (fun g hg hg2 => by have h1 := gc_.out g hg; have h2 := List.mem_singleton.1 hg2; omega), oc_.out.chg (G := [wb.heap.size]) (by repeat (first | with_reducible refine Chg.setCell ?_ (Or.inl (by first | (simp; done) | (simp; omega))) _ | with_reducible refine Chg.alloc ?_ _ | with_reducible refine Chg.drewN ?_ _ | with_reducible refine Chg.drew ?_ | with_reducible exact Chg.refl _ _ | with_reducible assumption)) (fun g hg hg2 => by have h1 := gc_.out g hg; have h2 := List.mem_singleton.1 hg2; omega), fun g hg => by have h1 := gc_.out g hg; omega, by omega, by (first | (simp; done) | (simp; omega)), fun hg => by have h1 := gc_.out _ hg; omega, ?_⟩
      go_simp
    · refine hM'.out wa.heap.size _ _ _ _ _ _ _ _ _ _ _ _ _ _ _ _ _ _ _ _ _ _ _ _ _ _ _ _ _ _ _ _ _ _ _ _ _ _ _ _ _ _ _ _ _ _ _ _ _ _ _ _ _ _ _ _ _ _ _ _ _ _ _ _ _ _ _ _ _ _ _ _ _ _ _ _ _ _ _ _ _ _ _ _ _ _ _ _ _ (.slice Ac kc cc) Gc _ ?_
      refine ⟨by repeat (first | with_reducible refine Chg.setCell ?_ (Or.inr (by first | (simp; done) | (simp; omega))) _ | with_reducible refine Chg.alloc ?_ _ | with_reducible refine Chg.drewN ?_ _ | with_reducible refine Chg.drew ?_ | with_reducible exact Chg.refl _ _ | with_reducible assumption | with_reducible refine Chg.trans0 ?_ hKwc), rc_.out.chg (G := [wa.heap.size]) (by repeat (first | with_reducible refine Chg.setCell ?_ (Or.inl (by first | (simp; done) | (simp; omega))) _ | with_reducible refine Chg.alloc ?_ _ | with_reducible refine Chg.drewN ?_ _ | with_reducible refine Chg.drew ?_ | with_reducible exact Chg.refl _ _ | with_reducible assumption)) (fun g hg hg2 => by have h1 := gc_.out g hg; have h2 := List.mem_singleton.1 hg2; omega), oc_.out.chg (G := [wa.heap.size]) (by repeat (first | with_reducible refine Chg.setCell ?_ (Or.inl (by first | (simp; done) | (simp; omega))) _ | with_reducible refine Chg.alloc ?_ _ | with_reducible refine Chg.drewN ?_ _ | with_reducible refine Chg.drew ?_ | with_reducible exact Chg.refl _ _ | with_reducible assumption)) (fun g hg hg2 => by have h1 := gc_.out g hg; have h2 := List.mem_singleton.1 hg2; omega), fun g hg => by have h1 := gc_.out g hg; omega, by omega, by (first | (simp; done) | (simp; omega)), fun hg => by have h1 := gc_.out _ hg; omega, ?_⟩
      go_simp
    · refine hM'.out w18.heap.size _ _ _ _ _ _ _ _ _ _ _ _ _ _ _ _ _ _ _ _ _ _ _ _ _ _ _ _ _ _ _ _ _ _ _ _ _ _ _ _ _ _ _ _ _ _ _ _ _ _ _ _ _ _ _ _ _ _ _ _ _ _ _ _ _ _ _ _ _ _ _ _ _ _ _ _ _ _ _ _ _ _ _ _ _ _ _ _ _ (.slice Ac kc cc) Gc _ ?_
      refine ⟨by repeat (first | with_reducible refine Chg.setCell ?_ (Or.inr (by first | (simp; done) | (simp; omega))) _ | with_reducible refine Chg.alloc ?_ _ | with_reducible refine Chg.drewN ?_ _ | with_reducible refine Chg.drew ?_ | with_reducible exact Chg.refl _ _ | with_reducible assumption | with_reducible refine Chg.trans0 ?_ hKwc), rc_.out.chg (G := [w18.heap.size]) (by repeat (first | with_reducible refine Chg.setCell ?_ (Or.inl (by first | (simp; done) | (simp; omega))) _ | with_reducible refine Chg.alloc ?_ _ | with_reducible refine Chg.drewN ?_ _ | with_reducible refine Chg.drew ?_ | with_reducible exact Chg.refl _ _ | with_reducible assumption)) (fun g hg hg2 => by have h1 := gc_.out g hg; have h2 := List.mem_singleton.1 hg2; omega), oc_.out.chg (G := [w18.heap.size]) (by repeat (first | with_reducible refine Chg.setCell ?_ (Or.inl (by first | (simp; done) | (simp; omega))) _ | with_reducible refine Chg.alloc ?_ _ | with_reducible refine Chg.drewN ?_ _ | with_reducible refine Chg.drew ?_ | with_reducible exact Chg.refl _ _ | with_reducible assumption)) (fun g hg hg2 => by have h1 := gc_.out g hg; have h2 := List.mem_singleton.1 hg2; omega), fun g hg => by have h1 := gc_.out g hg; omega, by omega, by (first | (simp; done) | (simp; omega)), fun hg => by have h1 := gc_.out _ hg; omega, ?_⟩
      go_simp
  rintro e act w19 ⟨rfl, B2, y15, y17, y19, y20, y21, y22, y23, y24, y25, y26, y27, y28, y29, y30, y31, y32, y33, y34, y35, y36, y37, y38, y39, y40, y41, y42, y43, y44, y45, y46, y47, y48, y49, y50, y51, y52, y53, y54, y55, y56, y57, y58, y59, y60, y61, y62, y63, y64, y65, y66, y67, y68, y69, y70, y71, y72, y73, y74, y75, y76, y77, y78, y79, y80, y81, y82, y83, y84, y85, y86, y87, y88, y89, y90, y91, y92, y93, y94, y95, y96, y97, y98, y99, y100, y101, y102, y103, y104, y105, vh, Fh_Frames, rfl, hcut⟩
  obtain ⟨hX0, rh0, oh0, gh0, B2a, B2b, B2n, B2c0, B2c1, B2c2, B2c3, B2c4⟩ := hcut
  obtain ⟨Ah_Frames, ch_Frames, rfl, -, -⟩ := rh0.form
  have hs19 := hX0.size
  have hb19_0 := fun o => hX0.cell (p := ⟨w.heap.size, o, none⟩) hl18_0 (by simp)
  have hb19_1 := fun o => hX0.cell (p := ⟨w.heap.size + 1, o, none⟩) hl18_1 (by simp)
  have hb19_2 := fun o => hX0.cell (p := ⟨B1, o, none⟩) hl18_2 (by simp)
  have hb19_3 := fun o => hX0.cell (p := ⟨w4.heap.size, o, none⟩) hl18_3 (by simp)
  have hb19_4 := fun o => hX0.cell (p := ⟨w5.heap.size, o, none⟩) hl18_4 (by simp)
  have hb19_5 := fun o => hX0.cell (p := ⟨w7.heap.size, o, none⟩) hl18_5 (by simp)
  have hl19_0 : w.heap.size < w19.heap.size := by omega
  have hl19_1 : w.heap.size + 1 < w19.heap.size := by omega
  have hl19_2 : B1 < w19.heap.size := by omega
  have hl19_3 : w4.heap.size < w19.heap.size := by omega
  have hl19_4 : w5.heap.size < w19.heap.size := by omega
  have hl19_5 : w7.heap.size < w19.heap.size := by omega
  replace ha_Procs := Lib.hid (ha_Procs.out.chg0 hX0)
  replace hb_Frames := Lib.hid (hb_Frames.out.chg0 hX0)
  replace hi_L := Lib.hid (hi_L.out.chg0 hX0)
  replace hw_Frames := Lib.hid (hw_Frames.out.chg0 hX0)
  replace hg_Frames := Lib.hid (hg_Frames.out.chg0 hX0)
  replace Ow := Lib.hid (Ow.out.chg0 hX0)
  replace Og := Lib.hid (Og.out.chg0 hX0)
  have hK19 := Lib.hid (hK18.out.trans0 hX0)
  have Bh : ∀ g ∈ Fh_Frames, w7.heap.size < g ∧ g < w19.heap.size := fun g hg => ⟨by have := gh0 g hg; omega, oh0.lt g hg⟩
  replace Bh := Lib.hid Bh
  have Oh := Lib.hid oh0
  have hh_Frames := Lib.hid rh0
  have hl19_6 : B2 < w19.heap.size := B2b
  obtain ⟨M2, hM2⟩ : ∃ M, w19.heap.size = M + 1 := ⟨w19.heap.size - 1, by omega⟩
  clear hX0 rh0 oh0 gh0
  go_wp2_with fail
  refine (eqRunRun_c x _ _ _ _ _ (hh_Frames.out.chg0 (by repeat (first | with_reducible exact Chg.refl _ _ | with_reducible refine Chg.alloc ?_ _ | with_reducible refine Chg.drewN ?_ _ | with_reducible refine Chg.drew ?_))) (hw_Frames.out.chg0 (by repeat (first | with_reducible exact Chg.refl _ _ | with_reducible refine Chg.alloc ?_ _ | with_reducible refine Chg.drewN ?_ _ | with_reducible refine Chg.drew ?_)))).mono ?_
  rintro e w20 ⟨rfl, hm⟩
  have hs20 := hm.size
  repeat (first | rw [World.size_alloc] at hs20 | rw [World.size_setCell] at hs20 | rw [World.size_drew] at hs20 | rw [World.heap_drewN] at hs20)
  have hb20_0 := hm.cb (b := w.heap.size)
  have hb20_1 := hm.cb (b := w.heap.size + 1)
  have hb20_2 := hm.cb (b := B1)
  have hb20_3 := hm.cb (b := w4.heap.size)
  have hb20_4 := hm.cb (b := w5.heap.size)
  have hb20_5 := hm.cb (b := w7.heap.size)
  have hb20_6 := hm.cb (b := B2)
  have hl20_0 : w.heap.size < w20.heap.size := by omega
  have hl20_1 : w.heap.size + 1 < w20.heap.size := by omega
  have hl20_2 : B1 < w20.heap.size := by omega
  have hl20_3 : w4.heap.size < w20.heap.size := by omega
  have hl20_4 : w5.heap.size < w20.heap.size := by omega
  have hl20_5 : w7.heap.size < w20.heap.size := by omega
  have hl20_6 : B2 < w20.heap.size := by omega
  have hX : Chg ([]) w19 w20 := Chg.trans (Chg.d) hm (fun g hg => Or.inl hg)
  replace hX := Lib.hid hX
  clear hm
  replace ha_Procs := Lib.hid (ha_Procs.out.chg0 hX.out)
  replace hb_Frames := Lib.hid (hb_Frames.out.chg0 hX.out)
  replace hi_L := Lib.hid (hi_L.out.chg0 hX.out)
  replace hw_Frames := Lib.hid (hw_Frames.out.chg0 hX.out)
  replace hg_Frames := Lib.hid (hg_Frames.out.chg0 hX.out)
  replace hh_Frames := Lib.hid (hh_Frames.out.chg0 hX.out)
  replace Ow := Lib.hid (Ow.out.chg0 hX.out)
  replace Og := Lib.hid (Og.out.chg0 hX.out)
  replace Oh := Lib.hid (Oh.out.chg0 hX.out)
  have hK20 := Lib.hid ((hK19.out.trans0 hX.out))
  clear hX hK19
  clear Bh Oh hh_Frames
  go_wp2_with fail
  refine (heldRunRun_c x (1) _ _ _ (hg_Frames.out.chg0 (by repeat (first | with_reducible exact Chg.refl _ _ | with_reducible refine Chg.alloc ?_ _ | with_reducible refine Chg.drewN ?_ _ | with_reducible refine Chg.drew ?_))) (by omega) (Int.le_trans hb2 (by omega))).mono ?_
  rintro e w21 ⟨rfl, hm⟩
  have hs21 := hm.size
  repeat (first | rw [World.size_alloc] at hs21 | rw [World.size_setCell] at hs21 | rw [World.size_drew] at hs21 | rw [World.heap_drewN] at hs21)
  have hb21_0 := hm.cb (b := w.heap.size)
  have hb21_1 := hm.cb (b := w.heap.size + 1)
  have hb21_2 := hm.cb (b := B1)
  have hb21_3 := hm.cb (b := w4.heap.size)
  have hb21_4 := hm.cb (b := w5.heap.size)
  have hb21_5 := hm.cb (b := w7.heap.size)
  have hb21_6 := hm.cb (b := B2)
  have hl21_0 : w.heap.size < w21.heap.size := by omega
  have hl21_1 : w.heap.size + 1 < w21.heap.size := by omega
  have hl21_2 : B1 < w21.heap.size := by omega
  have hl21_3 : w4.heap.size < w21.heap.size := by omega
  have hl21_4 : w5.heap.size < w21.heap.size := by omega
  have hl21_5 : w7.heap.size < w21.heap.size := by omega
  have hl21_6 : B2 < w21.heap.size := by omega
  have hX : Chg ([]) w20 w21 := Chg.trans (Chg.d) hm (fun g hg => Or.inl hg)
  replace hX := Lib.hid hX
  clear hm
  replace ha_Procs := Lib.hid (ha_Procs.out.chg0 hX.out)
  replace hb_Frames := Lib.hid (hb_Frames.out.chg0 hX.out)
  replace hi_L := Lib.hid (hi_L.out.chg0 hX.out)
  replace hw_Frames := Lib.hid (hw_Frames.out.chg0 hX.out)
  replace hg_Frames := Lib.hid (hg_Frames.out.chg0 hX.out)
  replace Ow := Lib.hid (Ow.out.chg0 hX.out)
  replace Og := Lib.hid (Og.out.chg0 hX.out)
  have hK21 := Lib.hid ((hK20.out.trans0 hX.out))
  clear hX hK20
  go_wp2
  go_ret
  exact ⟨rfl, hK21.out.trans0 (by repeat (first | with_reducible exact Chg.refl _ _ | with_reducible refine Chg.alloc ?_ _ | with_reducible refine Chg.drewN ?_ _ | with_reducible refine Chg.drew ?_))⟩
end Go.Proofs.YtjakhnhnjhafgaaGreat.Wk
