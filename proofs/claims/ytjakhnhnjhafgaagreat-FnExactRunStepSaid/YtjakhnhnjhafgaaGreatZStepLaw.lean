/- The law FnExactRunStep returns true: written by a program of mine (wip/gen/gen_lawstep.py). -/
import Derived.Test.YtjakhnhnjhafgaaGreatZImpRunStep
import Derived.Test.YtjakhnhnjhafgaaGreatZRefStep7
import Derived.Test.YtjakhnhnjhafgaaGreatZPlain
import Derived.Test.YtjakhnhnjhafgaaGreatZLawEq
import Derived.Test.YtjakhnhnjhafgaaGreatZLawSz
import Derived.Test.YtjakhnhnjhafgaaGreatZLawTo
import Derived.Deep.RegionHeld3
set_option linter.unusedVariables false
set_option linter.unusedSimpArgs false
namespace Go.Proofs.YtjakhnhnjhafgaaGreat.Wk
open Go Go.RowKit Go.Deep Ow
open Rp (R sz)

/-- what hands back a run in new memory, in the laws' form -/
def NewRun (x : RunRun) (w : World) (e : Ending) (w' : World) : Prop := ∃ v F, e = .returned (.agg #[.int .i64 x.State, v, .int .i64 x.Out, .int .i64 x.Proc, .int .i64 x.Pc]) ∧ Chg [] w w' ∧ RL w' x.Frames v F ∧ Own w' F ∧ ∀ g ∈ F, w.heap.size ≤ g
theorem newRun_of {x : RunRun} {w : World} {e : Ending} {w' : World} (h : RetRun [] x w e w') : NewRun x w e w' := by
  obtain ⟨v, F, he, hc, hR, hO, hg⟩ := h
  exact ⟨v, F, he, hc, hR, hO, fun g hh => (hg g hh).elim (fun h1 => absurd h1 (by simp)) id⟩
/-- the world behind the first drawn region -/
def Cut (u : World) (x : RunRun) (B : Nat) (v : Value) (G : List Nat) (W : World) : Prop :=
  Chg [] u W ∧ RL W x.Frames v G ∧ Own W G ∧ (∀ g ∈ G, u.heap.size ≤ g) ∧ u.heap.size ≤ B ∧ B < W.heap.size ∧ B ∉ G ∧
  W.cell? ⟨B, 0, none⟩ = some (.int .i64 x.State) ∧ W.cell? ⟨B, 1, none⟩ = some v ∧ W.cell? ⟨B, 2, none⟩ = some (.int .i64 x.Out) ∧ W.cell? ⟨B, 3, none⟩ = some (.int .i64 x.Proc) ∧ W.cell? ⟨B, 4, none⟩ = some (.int .i64 x.Pc)
set_option maxRecDepth 100000 in
set_option maxHeartbeats 8000000 in
theorem walkRunStep (p : PrgProg) (r : RunRun) (inp : Int) (vP : Value) (Fa_Procs : List Nat) (vF : Value) (Fb_Frames : List Nat) (w : World) (ha_Procs : RL w p.Procs vP Fa_Procs) (hb_Frames : RL w r.Frames vF Fb_Frames) (hin : I64 inp) : Calls Tryz.prog 5 #[.agg #[vP], .agg #[.int .i64 r.State, vF, .int .i64 r.Out, .int .i64 r.Proc, .int .i64 r.Pc], .int .i64 inp] w fun e w' => e = .returned (.bool true) ∧ Chg [] w w' := by
  obtain ⟨AP, cP, rfl, -, -⟩ := ha_Procs.form
  obtain ⟨AF, cF, rfl, -, -⟩ := hb_Frames.form
  have Ba := Lib.hid (show ∀ g ∈ Fa_Procs, g < w.heap.size from ha_Procs.lt)
  have Bb := Lib.hid (show ∀ g ∈ Fb_Frames, g < w.heap.size from hb_Frames.lt)
  replace ha_Procs := Lib.hid ha_Procs
  replace hb_Frames := Lib.hid hb_Frames
  generalize hxx : runStep p r inp = x
  have hspec : ∀ vp Fp vf Ff (u : World), RL u p.Procs vp Fp → RL u r.Frames vf Ff → Calls Tryz.prog 25 #[.agg #[vp], .agg #[.int .i64 r.State, vf, .int .i64 r.Out, .int .i64 r.Proc, .int .i64 r.Pc], .int .i64 inp] u (NewRun x u) := fun vp Fp vf Ff u h1 h2 => (refStep_c p r inp vp vf Fp Ff u h1 h2 hin).mono (fun e w2 hh => newRun_of (hxx ▸ hh))
  have himpl : ∀ vp Fp vf Ff (u : World), RL u p.Procs vp Fp → RL u r.Frames vf Ff → Calls Tryz.prog 14 #[.agg #[vp], .agg #[.int .i64 r.State, vf, .int .i64 r.Out, .int .i64 r.Proc, .int .i64 r.Pc], .int .i64 inp] u (NewRun x u) := fun vp Fp vf Ff u h1 h2 => (implRunStep_c p r inp vp vf Fp Ff u h1 h2 hin).mono (fun e w2 hh => newRun_of (hxx ▸ hh))
  have hcx_ := Lib.hid (show cntL x.Frames ≤ 50 from hxx ▸ step_cnt p r inp)
  clear hxx
  go_enter Tryz.func5, Tryz.ntmps5
  go_wp2_with fail
  refine (szPrgProg_c p _ _ 1048576 _ (ha_Procs.out.chg0 (Chg.d)) (by omega) (by omega)).mono ?_
  rintro e w1 ⟨⟨r1, rfl, hr1⟩, hm⟩
  have hs1 := hm.size
  repeat (first | rw [World.size_alloc] at hs1 | rw [World.size_setCell] at hs1 | rw [World.size_drew] at hs1 | rw [World.heap_drewN] at hs1)
  have hb1_0 := fun o => hm.cell (p := ⟨w.heap.size, o, none⟩) (show w.heap.size < _ from by (repeat (first | rw [World.size_alloc] | rw [World.size_setCell] | rw [World.size_drew] | rw [World.heap_drewN])); omega) (by simp)
  have hb1_1 := fun o => hm.cell (p := ⟨w.heap.size + 1, o, none⟩) (show w.heap.size + 1 < _ from by (repeat (first | rw [World.size_alloc] | rw [World.size_setCell] | rw [World.size_drew] | rw [World.heap_drewN])); omega) (by simp)
  have hl1_0 : w.heap.size < w1.heap.size := by omega
  have hl1_1 : w.heap.size + 1 < w1.heap.size := by omega
  have hX : Chg ([]) w w1 := Chg.trans (Chg.d) hm (fun g hg => Or.inl hg)
  replace hX := Lib.hid hX
  clear hm
  replace ha_Procs := Lib.hid (ha_Procs.out.chg0 hX.out)
  replace hb_Frames := Lib.hid (hb_Frames.out.chg0 hX.out)
  have hK1 := Lib.hid (hX.out)
  clear hX
  rcases hr1 with rfl | ⟨hn1, he1⟩
  · go_wp2
    go_ret
    exact ⟨rfl, hK1.out⟩
  go_wp2_with fail
  refine (szRunRun_c r _ _ r1 _ (hb_Frames.out.chg0 (Chg.d)) hn1 (by omega)).mono ?_
  rintro e w2 ⟨⟨r2, rfl, hr2⟩, hm⟩
  have hs2 := hm.size
  repeat (first | rw [World.size_alloc] at hs2 | rw [World.size_setCell] at hs2 | rw [World.size_drew] at hs2 | rw [World.heap_drewN] at hs2)
  have hb2_0 := fun o => hm.cell (p := ⟨w.heap.size, o, none⟩) (show w.heap.size < _ from by (repeat (first | rw [World.size_alloc] | rw [World.size_setCell] | rw [World.size_drew] | rw [World.heap_drewN])); omega) (by simp)
  have hb2_1 := fun o => hm.cell (p := ⟨w.heap.size + 1, o, none⟩) (show w.heap.size + 1 < _ from by (repeat (first | rw [World.size_alloc] | rw [World.size_setCell] | rw [World.size_drew] | rw [World.heap_drewN])); omega) (by simp)
  have hl2_0 : w.heap.size < w2.heap.size := by omega
  have hl2_1 : w.heap.size + 1 < w2.heap.size := by omega
  have hX : Chg ([]) w1 w2 := Chg.trans (Chg.d) hm (fun g hg => Or.inl hg)
  replace hX := Lib.hid hX
  clear hm
  replace ha_Procs := Lib.hid (ha_Procs.out.chg0 hX.out)
  replace hb_Frames := Lib.hid (hb_Frames.out.chg0 hX.out)
  have hK2 := Lib.hid ((hK1.out.trans0 hX.out))
  clear hX hK1
  rcases hr2 with rfl | ⟨hn2, he2⟩
  · go_wp2
    go_ret
    exact ⟨rfl, hK2.out⟩
  have HZa : Hid (Sz.size p ≤ 1048576) := Lib.hid (by omega)
  have HZb : Hid (Sz.size r ≤ 1048576) := Lib.hid (by omega)
  clear he1 he2
  have pp : w2.cell? ⟨w.heap.size, 0, none⟩ = some (.slice AP p.Procs.length cP) := by simp [go_sem, hb2_0, hb1_0]
  have pr0 : w2.cell? ⟨w.heap.size + 1, 0, none⟩ = some (.int .i64 r.State) := by simp [go_sem, hb2_1, hb1_1]
  have pr1 : w2.cell? ⟨w.heap.size + 1, 1, none⟩ = some (.slice AF r.Frames.length cF) := by simp [go_sem, hb2_1, hb1_1]
  have pr2 : w2.cell? ⟨w.heap.size + 1, 2, none⟩ = some (.int .i64 r.Out) := by simp [go_sem, hb2_1, hb1_1]
  have pr3 : w2.cell? ⟨w.heap.size + 1, 3, none⟩ = some (.int .i64 r.Proc) := by simp [go_sem, hb2_1, hb1_1]
  have pr4 : w2.cell? ⟨w.heap.size + 1, 4, none⟩ = some (.int .i64 r.Pc) := by simp [go_sem, hb2_1, hb1_1]
  have lUP := hl2_0
  have lUR := hl2_1
  have nUP : ¬ w.heap.size = w2.heap.size := Nat.ne_of_lt hl2_0
  have nUR : ¬ w.heap.size + 1 = w2.heap.size := Nat.ne_of_lt hl2_1
  clear hb1_0 hb1_1 hb2_0 hb2_1 hs1 hs2 hl1_0 hl1_1
  go_wp2_with fail
  refine (show (∀ Q : Exit → Act → World → Prop, (∀ (B : Nat) (y16 y17 y18 y19 y20 y21 y22 y23 y24 y25 y26 y27 y28 y29 y30 y31 : Value) (v : Value) (G : List Nat) (W : World), Cut w2 x B v G W → Q .normal { tmps := #[.agg #[.slice AP p.Procs.length cP], .agg #[.int .i64 r.State, .slice AF r.Frames.length cF, .int .i64 r.Out, .int .i64 r.Proc, .int .i64 r.Pc], .int .i64 inp, .pointer (some ⟨w.heap.size, 0, none⟩), .pointer (some ⟨w.heap.size + 1, 0, none⟩), undef, .bool false, .int .i64 r2, .pointer (some ⟨B, 0, none⟩), undef, undef, undef, undef, undef, undef, undef, y16, y17, y18, y19, y20, y21, y22, y23, y24, y25, y26, y27, y28, y29, y30, y31, undef, undef, undef, undef, undef, undef, undef, undef, undef, undef, undef, undef, undef, undef, undef, undef, undef, undef, undef, undef, undef, undef, undef, undef, undef, undef, undef, undef, undef, undef, undef, undef, undef, undef, undef, undef, undef, undef, undef, undef, undef, undef, undef, undef, undef, undef, undef, undef, undef, undef, undef, undef, undef, undef, undef, undef, undef, undef, undef, undef, undef, undef, undef, undef, undef], defers := [] } W) → Code.wp _ _ Q _ _) → _ from fun key => Code.wp_mono ?_ (key (fun e a W => e = .normal ∧ ∃ (B : Nat) (y16 y17 y18 y19 y20 y21 y22 y23 y24 y25 y26 y27 y28 y29 y30 y31 : Value) (v : Value) (G : List Nat), a = { tmps := #[.agg #[.slice AP p.Procs.length cP], .agg #[.int .i64 r.State, .slice AF r.Frames.length cF, .int .i64 r.Out, .int .i64 r.Proc, .int .i64 r.Pc], .int .i64 inp, .pointer (some ⟨w.heap.size, 0, none⟩), .pointer (some ⟨w.heap.size + 1, 0, none⟩), undef, .bool false, .int .i64 r2, .pointer (some ⟨B, 0, none⟩), undef, undef, undef, undef, undef, undef, undef, y16, y17, y18, y19, y20, y21, y22, y23, y24, y25, y26, y27, y28, y29, y30, y31, undef, undef, undef, undef, undef, undef, undef, undef, undef, undef, undef, undef, undef, undef, undef, undef, undef, undef, undef, undef, undef, undef, undef, undef, undef, undef, undef, undef, undef, undef, undef, undef, undef, undef, undef, undef, undef, undef, undef, undef, undef, undef, undef, undef, undef, undef, undef, undef, undef, undef, undef, undef, undef, undef, undef, undef, undef, undef, undef, undef, undef, undef, undef, undef, undef], defers := [] } ∧ Cut w2 x B v G W) (fun B y16 y17 y18 y19 y20 y21 y22 y23 y24 y25 y26 y27 y28 y29 y30 y31 v G W h => ⟨rfl, B, y16, y17, y18, y19, y20, y21, y22, y23, y24, y25, y26, y27, y28, y29, y30, y31, v, G, rfl, h⟩))) ?_
  rotate_left
  · intro Q hM
    have hM' := Lib.hid hM
    clear hM
    go_region_held3 (fun w' => w'.cell? ⟨w.heap.size, 0, none⟩ = some (.slice AP p.Procs.length cP) ∧ w'.cell? ⟨w.heap.size + 1, 0, none⟩ = some (.int .i64 r.State) ∧ w'.cell? ⟨w.heap.size + 1, 1, none⟩ = some (.slice AF r.Frames.length cF) ∧ w'.cell? ⟨w.heap.size + 1, 2, none⟩ = some (.int .i64 r.Out) ∧ w'.cell? ⟨w.heap.size + 1, 3, none⟩ = some (.int .i64 r.Proc) ∧ w'.cell? ⟨w.heap.size + 1, 4, none⟩ = some (.int .i64 r.Pc)) (((try dsimp only); (repeat' apply And.intro) <;> (first | with_reducible assumption | (with_reducible refine (cell5 ?_).trans ?_ <;> (first | with_reducible assumption | exact nUP | exact nUR | exact naP | exact naR | exact nbP | exact nbR | exact ncP | exact ncR)) | (go_keep; done))))
      (first | (go_at_call 26; refine (toPrgProg_c p _ _ _ (ha_Procs.out.chg0 (Chg.c)) HZa.out).mono ?_; rintro e wa ⟨ua, Ga, rfl, hqwa, ra, oa, ga⟩; obtain ⟨Aa, ka, rfl, -, -⟩ := ra.form; have hKwa : Chg [] w2 wa := Chg.trans0 (show Chg [] w2 _ from Chg.c) hqwa; have ppwa := hKwa.cell0 pp; have pr0wa := hKwa.cell0 pr0; have pr1wa := hKwa.cell0 pr1; have pr2wa := hKwa.cell0 pr2; have pr3wa := hKwa.cell0 pr3; have pr4wa := hKwa.cell0 pr4; have swa := hKwa.size; have naP : ¬ w.heap.size = wa.heap.size := Nat.ne_of_lt (Nat.lt_of_lt_of_le lUP swa); have naR : ¬ w.heap.size + 1 = wa.heap.size := Nat.ne_of_lt (Nat.lt_of_lt_of_le lUR swa); have zUc0 := hqwa.cells.1 w2.heap.size 0; have zUc1 := hqwa.cells.1 w2.heap.size 1; have zUc2 := hqwa.cells.1 w2.heap.size 2; have zUc3 := hqwa.cells.1 w2.heap.size 3; have zUc4 := hqwa.cells.1 w2.heap.size 4; have zUf0 := hqwa.cells.2 w2.heap.size 0; have zUf1 := hqwa.cells.2 w2.heap.size 1; have zUf2 := hqwa.cells.2 w2.heap.size 2; have zUf3 := hqwa.cells.2 w2.heap.size 3; have zUf4 := hqwa.cells.2 w2.heap.size 4; have szwa := hqwa.size; (try simp only [World.size_alloc, World.size_setCell, World.size_drew] at szwa); (try have lt_U_wa := Nat.lt_of_succ_le szwa); have ra_ := Lib.hid ra; clear ra oa ga) | (go_at_call 27; refine (toRunRun_c r _ _ _ (hb_Frames.out.chg0 (Chg.k)) HZb.out).mono ?_; rintro e wb ⟨ub, Gb, rfl, hqwb, rb, ob, gb⟩; obtain ⟨Ab, kb, rfl, -, -⟩ := rb.form; have hKwb : Chg [] w2 wb := Chg.trans0 (show Chg [] w2 _ from Chg.k) hqwb; have ppwb := hKwb.cell0 pp; have pr0wb := hKwb.cell0 pr0; have pr1wb := hKwb.cell0 pr1; have pr2wb := hKwb.cell0 pr2; have pr3wb := hKwb.cell0 pr3; have pr4wb := hKwb.cell0 pr4; have swb := hKwb.size; have nbP : ¬ w.heap.size = wb.heap.size := Nat.ne_of_lt (Nat.lt_of_lt_of_le lUP swb); have nbR : ¬ w.heap.size + 1 = wb.heap.size := Nat.ne_of_lt (Nat.lt_of_lt_of_le lUR swb); have zUc0 := hqwb.cells.1 w2.heap.size 0; have zUc1 := hqwb.cells.1 w2.heap.size 1; have zUc2 := hqwb.cells.1 w2.heap.size 2; have zUc3 := hqwb.cells.1 w2.heap.size 3; have zUc4 := hqwb.cells.1 w2.heap.size 4; have zUf0 := hqwb.cells.2 w2.heap.size 0; have zUf1 := hqwb.cells.2 w2.heap.size 1; have zUf2 := hqwb.cells.2 w2.heap.size 2; have zUf3 := hqwb.cells.2 w2.heap.size 3; have zUf4 := hqwb.cells.2 w2.heap.size 4; have zwac0 := hqwb.cells.1 wa.heap.size 0; have zwac1 := hqwb.cells.1 wa.heap.size 1; have zwac2 := hqwb.cells.1 wa.heap.size 2; have zwac3 := hqwb.cells.1 wa.heap.size 3; have zwac4 := hqwb.cells.1 wa.heap.size 4; have zwaf0 := hqwb.cells.2 wa.heap.size 0; have zwaf1 := hqwb.cells.2 wa.heap.size 1; have zwaf2 := hqwb.cells.2 wa.heap.size 2; have zwaf3 := hqwb.cells.2 wa.heap.size 3; have zwaf4 := hqwb.cells.2 wa.heap.size 4; have szwb := hqwb.size; (try simp only [World.size_alloc, World.size_setCell, World.size_drew] at szwb); (try have lt_wa_wb := Nat.lt_of_succ_le szwb); (try have lt_U_wb := Nat.lt_of_lt_of_le lt_U_wa (Nat.le_of_lt_succ (Nat.lt_succ_of_le szwb))); have hKab : Chg [] wa wb := Chg.trans0 (show Chg [] wa _ from Chg.c) hqwb; have rb_ := Lib.hid rb; clear rb ob gb) | (go_at_call 25; refine (hspec _ _ _ _ _ (ra_.out.chg0 (Chg.k)) (rb_.out.chg0 (Chg.c))).mono ?_; rintro e wc ⟨vc, Gc, rfl, hqwc, rc, oc, gc⟩; obtain ⟨Ac, kc, cc, rfl⟩ := form3 rc; have hKwc : Chg [] w2 wc := Chg.trans0 (show Chg [] w2 _ from Chg.k) hqwc; have ppwc := hKwc.cell0 pp; have pr0wc := hKwc.cell0 pr0; have pr1wc := hKwc.cell0 pr1; have pr2wc := hKwc.cell0 pr2; have pr3wc := hKwc.cell0 pr3; have pr4wc := hKwc.cell0 pr4; have swc := hKwc.size; have ncP : ¬ w.heap.size = wc.heap.size := Nat.ne_of_lt (Nat.lt_of_lt_of_le lUP swc); have ncR : ¬ w.heap.size + 1 = wc.heap.size := Nat.ne_of_lt (Nat.lt_of_lt_of_le lUR swc); have zUc0 := hqwc.cells.1 w2.heap.size 0; have zUc1 := hqwc.cells.1 w2.heap.size 1; have zUc2 := hqwc.cells.1 w2.heap.size 2; have zUc3 := hqwc.cells.1 w2.heap.size 3; have zUc4 := hqwc.cells.1 w2.heap.size 4; have zUf0 := hqwc.cells.2 w2.heap.size 0; have zUf1 := hqwc.cells.2 w2.heap.size 1; have zUf2 := hqwc.cells.2 w2.heap.size 2; have zUf3 := hqwc.cells.2 w2.heap.size 3; have zUf4 := hqwc.cells.2 w2.heap.size 4; have zwac0 := hqwc.cells.1 wa.heap.size 0; have zwac1 := hqwc.cells.1 wa.heap.size 1; have zwac2 := hqwc.cells.1 wa.heap.size 2; have zwac3 := hqwc.cells.1 wa.heap.size 3; have zwac4 := hqwc.cells.1 wa.heap.size 4; have zwaf0 := hqwc.cells.2 wa.heap.size 0; have zwaf1 := hqwc.cells.2 wa.heap.size 1; have zwaf2 := hqwc.cells.2 wa.heap.size 2; have zwaf3 := hqwc.cells.2 wa.heap.size 3; have zwaf4 := hqwc.cells.2 wa.heap.size 4; have zwbc0 := hqwc.cells.1 wb.heap.size 0; have zwbc1 := hqwc.cells.1 wb.heap.size 1; have zwbc2 := hqwc.cells.1 wb.heap.size 2; have zwbc3 := hqwc.cells.1 wb.heap.size 3; have zwbc4 := hqwc.cells.1 wb.heap.size 4; have zwbf0 := hqwc.cells.2 wb.heap.size 0; have zwbf1 := hqwc.cells.2 wb.heap.size 1; have zwbf2 := hqwc.cells.2 wb.heap.size 2; have zwbf3 := hqwc.cells.2 wb.heap.size 3; have zwbf4 := hqwc.cells.2 wb.heap.size 4; have szwc := hqwc.size; (try simp only [World.size_alloc, World.size_setCell, World.size_drew] at szwc); (try have lt_wb_wc := Nat.lt_of_succ_le szwc); (try have lt_U_wc := Nat.lt_of_lt_of_le lt_U_wb (Nat.le_of_lt_succ (Nat.lt_succ_of_le szwc))); (try have lt_wa_wc := Nat.lt_of_lt_of_le lt_wa_wb (Nat.le_of_lt_succ (Nat.lt_succ_of_le szwc))); have rc_ := Lib.hid rc; have oc_ := Lib.hid oc; (try simp only [World.size_alloc, World.size_setCell, World.size_drew] at gc); have gc_ := Lib.hid gc; clear rc oc gc))
    · refine hM'.out wc.heap.size _ _ _ _ _ _ _ _ _ _ _ _ _ _ _ _ (.slice Ac kc cc) Gc _ ?_
      refine ⟨Chg.k, rc_.out.chg0 (Chg.c), oc_.out.chg0 (Chg.c), fun g hg => by have h1 := gc_.out g hg; omega, by omega, by (first | (simp; done) | (simp; omega)), fun hg => absurd (oc_.out.lt _ hg) (Nat.lt_irrefl _), ?_⟩
      simp [go_sem]
    · refine hM'.out wb.heap.size _ _ _ _ _ _ _ _ _ _ _ _ _ _ _ _ (.slice Ac kc cc) Gc _ ?_
      refine ⟨Chg.k, rc_.out.chg (G := [wb.heap.size]) (Chg.g) (fun g hg hg2 => by have h1 := gc_.out g hg; have h2 := List.mem_singleton.1 hg2; omega), oc_.out.chg (G := [wb.heap.size]) (Chg.g) (fun g hg hg2 => by have h1 := gc_.out g hg; have h2 := List.mem_singleton.1 hg2; omega), fun g hg => by have h1 := gc_.out g hg; omega, by omega, by (first | (simp; done) | (simp; omega)), fun hg => by have h1 := gc_.out _ hg; omega, ?_⟩
      go_simp
    · refine hM'.out wa.heap.size _ _ _ _ _ _ _ _ _ _ _ _ _ _ _ _ (.slice Ac kc cc) Gc _ ?_
      refine ⟨Chg.k, rc_.out.chg (G := [wa.heap.size]) (Chg.g) (fun g hg hg2 => by have h1 := gc_.out g hg; have h2 := List.mem_singleton.1 hg2; omega), oc_.out.chg (G := [wa.heap.size]) (Chg.g) (fun g hg hg2 => by have h1 := gc_.out g hg; have h2 := List.mem_singleton.1 hg2; omega), fun g hg => by have h1 := gc_.out g hg; omega, by omega, by (first | (simp; done) | (simp; omega)), fun hg => by have h1 := gc_.out _ hg; omega, ?_⟩
      go_simp
    · refine hM'.out w2.heap.size _ _ _ _ _ _ _ _ _ _ _ _ _ _ _ _ (.slice Ac kc cc) Gc _ ?_
      refine ⟨Chg.k, rc_.out.chg (G := [w2.heap.size]) (Chg.g) (fun g hg hg2 => by have h1 := gc_.out g hg; have h2 := List.mem_singleton.1 hg2; omega), oc_.out.chg (G := [w2.heap.size]) (Chg.g) (fun g hg hg2 => by have h1 := gc_.out g hg; have h2 := List.mem_singleton.1 hg2; omega), fun g hg => by have h1 := gc_.out g hg; omega, by omega, by (first | (simp; done) | (simp; omega)), fun hg => by have h1 := gc_.out _ hg; omega, ?_⟩
      go_simp
  rintro e act w3 ⟨rfl, B1, y16, y17, y18, y19, y20, y21, y22, y23, y24, y25, y26, y27, y28, y29, y30, y31, vw, Fw_Frames, rfl, hcut⟩
  obtain ⟨hX0, rw0, ow0, gw0, B1a, B1b, B1n, B1c0, B1c1, B1c2, B1c3, B1c4⟩ := hcut
  obtain ⟨Aw_Frames, cw_Frames, rfl, -, -⟩ := rw0.form
  have hs3 := hX0.size
  have hb3_0 := fun o => hX0.cell (p := ⟨w.heap.size, o, none⟩) hl2_0 (by simp)
  have hb3_1 := fun o => hX0.cell (p := ⟨w.heap.size + 1, o, none⟩) hl2_1 (by simp)
  have hl3_0 : w.heap.size < w3.heap.size := by omega
  have hl3_1 : w.heap.size + 1 < w3.heap.size := by omega
  replace ha_Procs := Lib.hid (ha_Procs.out.chg0 hX0)
  replace hb_Frames := Lib.hid (hb_Frames.out.chg0 hX0)
  have hK3 := Lib.hid (hK2.out.trans0 hX0)
  have Bw : ∀ g ∈ Fw_Frames, w.heap.size + 1 < g ∧ g < w3.heap.size := fun g hg => ⟨by have := gw0 g hg; omega, ow0.lt g hg⟩
  replace Bw := Lib.hid Bw
  have Ow := Lib.hid ow0
  have hw_Frames := Lib.hid rw0
  have hl3_2 : B1 < w3.heap.size := B1b
  obtain ⟨M1, hM1⟩ : ∃ M, w3.heap.size = M + 1 := ⟨w3.heap.size - 1, by omega⟩
  clear hX0 rw0 ow0 gw0
  have hb0 : 1 + (cntL p.Procs : Int) ≤ 4000000000 := by have := prg_cnt p HZa.out; omega
  have hb1 : 1 + (cntL p.Procs : Int) + (cntL r.Frames : Int) ≤ 4000000000 := by have := prg_cnt p HZa.out; have := run_cnt r HZb.out; omega
  have hb2 : 1 + (cntL x.Frames : Int) ≤ 4000000000 := by have := hcx_.out; omega
  go_wp2_with fail
  refine (toPrgProg_c p _ _ _ (ha_Procs.out.chg0 (Chg.d)) HZa.out).mono ?_
  rintro e w4 ⟨vx_Procs, Fx_Procs, rfl, hm, hx_Procs, Ox, Bx⟩
  obtain ⟨Ax_Procs, cx_Procs, rfl, -, -⟩ := hx_Procs.form
  replace Bx : ∀ g ∈ Fx_Procs, M1 < g ∧ g < w4.heap.size := fun g hg => ⟨by have := Bx g hg; (repeat (first | rw [World.size_alloc] at this | rw [World.size_setCell] at this | rw [World.size_drew] at this | rw [World.heap_drewN] at this)); omega, Ox.lt g hg⟩
  replace Bx := Lib.hid Bx
  replace Ox := Lib.hid Ox
  replace hx_Procs := Lib.hid hx_Procs
  have hs4 := hm.size
  repeat (first | rw [World.size_alloc] at hs4 | rw [World.size_setCell] at hs4 | rw [World.size_drew] at hs4 | rw [World.heap_drewN] at hs4)
  have hb4_0 := fun o => hm.cell (p := ⟨w.heap.size, o, none⟩) (show w.heap.size < _ from by (repeat (first | rw [World.size_alloc] | rw [World.size_setCell] | rw [World.size_drew] | rw [World.heap_drewN])); omega) (by simp)
  have hb4_1 := fun o => hm.cell (p := ⟨w.heap.size + 1, o, none⟩) (show w.heap.size + 1 < _ from by (repeat (first | rw [World.size_alloc] | rw [World.size_setCell] | rw [World.size_drew] | rw [World.heap_drewN])); omega) (by simp)
  have hb4_2 := fun o => hm.cell (p := ⟨B1, o, none⟩) (show B1 < _ from by (repeat (first | rw [World.size_alloc] | rw [World.size_setCell] | rw [World.size_drew] | rw [World.heap_drewN])); omega) (by simp)
  have hl4_0 : w.heap.size < w4.heap.size := by omega
  have hl4_1 : w.heap.size + 1 < w4.heap.size := by omega
  have hl4_2 : B1 < w4.heap.size := by omega
  have hX : Chg ([]) w3 w4 := Chg.trans (Chg.d) hm (fun g hg => Or.inl hg)
  replace hX := Lib.hid hX
  clear hm
  replace ha_Procs := Lib.hid (ha_Procs.out.chg0 hX.out)
  replace hb_Frames := Lib.hid (hb_Frames.out.chg0 hX.out)
  replace hw_Frames := Lib.hid (hw_Frames.out.chg0 hX.out)
  replace Ow := Lib.hid (Ow.out.chg0 hX.out)
  have hK4 := Lib.hid ((hK3.out.trans0 hX.out))
  clear hX hK3
  go_wp2_with fail
  refine (toRunRun_c r _ _ _ (hb_Frames.out.chg0 (Chg.d)) HZb.out).mono ?_
  rintro e w5 ⟨vz_Frames, Fz_Frames, rfl, hm, hz_Frames, Oz, Bz⟩
  obtain ⟨Az_Frames, cz_Frames, rfl, -, -⟩ := hz_Frames.form
  replace Bz : ∀ g ∈ Fz_Frames, w4.heap.size < g ∧ g < w5.heap.size := fun g hg => ⟨by have := Bz g hg; (repeat (first | rw [World.size_alloc] at this | rw [World.size_setCell] at this | rw [World.size_drew] at this | rw [World.heap_drewN] at this)); omega, Oz.lt g hg⟩
  replace Bz := Lib.hid Bz
  replace Oz := Lib.hid Oz
  replace hz_Frames := Lib.hid hz_Frames
  have hs5 := hm.size
  repeat (first | rw [World.size_alloc] at hs5 | rw [World.size_setCell] at hs5 | rw [World.size_drew] at hs5 | rw [World.heap_drewN] at hs5)
  have hb5_0 := fun o => hm.cell (p := ⟨w.heap.size, o, none⟩) (show w.heap.size < _ from by (repeat (first | rw [World.size_alloc] | rw [World.size_setCell] | rw [World.size_drew] | rw [World.heap_drewN])); omega) (by simp)
  have hb5_1 := fun o => hm.cell (p := ⟨w.heap.size + 1, o, none⟩) (show w.heap.size + 1 < _ from by (repeat (first | rw [World.size_alloc] | rw [World.size_setCell] | rw [World.size_drew] | rw [World.heap_drewN])); omega) (by simp)
  have hb5_2 := fun o => hm.cell (p := ⟨B1, o, none⟩) (show B1 < _ from by (repeat (first | rw [World.size_alloc] | rw [World.size_setCell] | rw [World.size_drew] | rw [World.heap_drewN])); omega) (by simp)
  have hb5_3 := fun o => hm.cell (p := ⟨w4.heap.size, o, none⟩) (show w4.heap.size < _ from by (repeat (first | rw [World.size_alloc] | rw [World.size_setCell] | rw [World.size_drew] | rw [World.heap_drewN])); omega) (by simp)
  have hl5_0 : w.heap.size < w5.heap.size := by omega
  have hl5_1 : w.heap.size + 1 < w5.heap.size := by omega
  have hl5_2 : B1 < w5.heap.size := by omega
  have hl5_3 : w4.heap.size < w5.heap.size := by omega
  have hX : Chg ([]) w4 w5 := Chg.trans (Chg.d) hm (fun g hg => Or.inl hg)
  replace hX := Lib.hid hX
  clear hm
  replace ha_Procs := Lib.hid (ha_Procs.out.chg0 hX.out)
  replace hb_Frames := Lib.hid (hb_Frames.out.chg0 hX.out)
  replace hw_Frames := Lib.hid (hw_Frames.out.chg0 hX.out)
  replace hx_Procs := Lib.hid (hx_Procs.out.chg0 hX.out)
  replace Ow := Lib.hid (Ow.out.chg0 hX.out)
  replace Ox := Lib.hid (Ox.out.chg0 hX.out)
  have hK5 := Lib.hid ((hK4.out.trans0 hX.out))
  clear hX hK4
  go_wp2_with fail
  refine (himpl _ _ _ _ _ (hx_Procs.out.chg0 (Chg.d)) (hz_Frames.out.chg0 (Chg.d))).mono ?_
  rintro e w6 ⟨vg_Frames, Fg_Frames, rfl, hm, hg_Frames, Og, Bg⟩
  obtain ⟨Ag_Frames, cg_Frames, rfl, -, -⟩ := hg_Frames.form
  replace Bg : ∀ g ∈ Fg_Frames, w5.heap.size < g ∧ g < w6.heap.size := fun g hg => ⟨by have := Bg g hg; (repeat (first | rw [World.size_alloc] at this | rw [World.size_setCell] at this | rw [World.size_drew] at this | rw [World.heap_drewN] at this)); omega, Og.lt g hg⟩
  replace Bg := Lib.hid Bg
  replace Og := Lib.hid Og
  replace hg_Frames := Lib.hid hg_Frames
  have hs6 := hm.size
  repeat (first | rw [World.size_alloc] at hs6 | rw [World.size_setCell] at hs6 | rw [World.size_drew] at hs6 | rw [World.heap_drewN] at hs6)
  have hb6_0 := fun o => hm.cell (p := ⟨w.heap.size, o, none⟩) (show w.heap.size < _ from by (repeat (first | rw [World.size_alloc] | rw [World.size_setCell] | rw [World.size_drew] | rw [World.heap_drewN])); omega) (by simp)
  have hb6_1 := fun o => hm.cell (p := ⟨w.heap.size + 1, o, none⟩) (show w.heap.size + 1 < _ from by (repeat (first | rw [World.size_alloc] | rw [World.size_setCell] | rw [World.size_drew] | rw [World.heap_drewN])); omega) (by simp)
  have hb6_2 := fun o => hm.cell (p := ⟨B1, o, none⟩) (show B1 < _ from by (repeat (first | rw [World.size_alloc] | rw [World.size_setCell] | rw [World.size_drew] | rw [World.heap_drewN])); omega) (by simp)
  have hb6_3 := fun o => hm.cell (p := ⟨w4.heap.size, o, none⟩) (show w4.heap.size < _ from by (repeat (first | rw [World.size_alloc] | rw [World.size_setCell] | rw [World.size_drew] | rw [World.heap_drewN])); omega) (by simp)
  have hb6_4 := fun o => hm.cell (p := ⟨w5.heap.size, o, none⟩) (show w5.heap.size < _ from by (repeat (first | rw [World.size_alloc] | rw [World.size_setCell] | rw [World.size_drew] | rw [World.heap_drewN])); omega) (by simp)
  have hl6_0 : w.heap.size < w6.heap.size := by omega
  have hl6_1 : w.heap.size + 1 < w6.heap.size := by omega
  have hl6_2 : B1 < w6.heap.size := by omega
  have hl6_3 : w4.heap.size < w6.heap.size := by omega
  have hl6_4 : w5.heap.size < w6.heap.size := by omega
  have hX : Chg ([]) w5 w6 := Chg.trans (Chg.d) hm (fun g hg => Or.inl hg)
  replace hX := Lib.hid hX
  clear hm
  replace ha_Procs := Lib.hid (ha_Procs.out.chg0 hX.out)
  replace hb_Frames := Lib.hid (hb_Frames.out.chg0 hX.out)
  replace hw_Frames := Lib.hid (hw_Frames.out.chg0 hX.out)
  replace hx_Procs := Lib.hid (hx_Procs.out.chg0 hX.out)
  replace hz_Frames := Lib.hid (hz_Frames.out.chg0 hX.out)
  replace Ow := Lib.hid (Ow.out.chg0 hX.out)
  replace Ox := Lib.hid (Ox.out.chg0 hX.out)
  replace Oz := Lib.hid (Oz.out.chg0 hX.out)
  have hK6 := Lib.hid ((hK5.out.trans0 hX.out))
  clear hX hK5
  go_wp2_with fail
  refine (eqRunRun_c x _ _ _ _ _ (hg_Frames.out.chg0 (Chg.d)) (hw_Frames.out.chg0 (Chg.d))).mono ?_
  rintro e w7 ⟨rfl, hm⟩
  have hs7 := hm.size
  repeat (first | rw [World.size_alloc] at hs7 | rw [World.size_setCell] at hs7 | rw [World.size_drew] at hs7 | rw [World.heap_drewN] at hs7)
  have hb7_0 := fun o => hm.cell (p := ⟨w.heap.size, o, none⟩) (show w.heap.size < _ from by (repeat (first | rw [World.size_alloc] | rw [World.size_setCell] | rw [World.size_drew] | rw [World.heap_drewN])); omega) (by simp)
  have hb7_1 := fun o => hm.cell (p := ⟨w.heap.size + 1, o, none⟩) (show w.heap.size + 1 < _ from by (repeat (first | rw [World.size_alloc] | rw [World.size_setCell] | rw [World.size_drew] | rw [World.heap_drewN])); omega) (by simp)
  have hb7_2 := fun o => hm.cell (p := ⟨B1, o, none⟩) (show B1 < _ from by (repeat (first | rw [World.size_alloc] | rw [World.size_setCell] | rw [World.size_drew] | rw [World.heap_drewN])); omega) (by simp)
  have hb7_3 := fun o => hm.cell (p := ⟨w4.heap.size, o, none⟩) (show w4.heap.size < _ from by (repeat (first | rw [World.size_alloc] | rw [World.size_setCell] | rw [World.size_drew] | rw [World.heap_drewN])); omega) (by simp)
  have hb7_4 := fun o => hm.cell (p := ⟨w5.heap.size, o, none⟩) (show w5.heap.size < _ from by (repeat (first | rw [World.size_alloc] | rw [World.size_setCell] | rw [World.size_drew] | rw [World.heap_drewN])); omega) (by simp)
  have hb7_5 := fun o => hm.cell (p := ⟨w6.heap.size, o, none⟩) (show w6.heap.size < _ from by (repeat (first | rw [World.size_alloc] | rw [World.size_setCell] | rw [World.size_drew] | rw [World.heap_drewN])); omega) (by simp)
  have hl7_0 : w.heap.size < w7.heap.size := by omega
  have hl7_1 : w.heap.size + 1 < w7.heap.size := by omega
  have hl7_2 : B1 < w7.heap.size := by omega
  have hl7_3 : w4.heap.size < w7.heap.size := by omega
  have hl7_4 : w5.heap.size < w7.heap.size := by omega
  have hl7_5 : w6.heap.size < w7.heap.size := by omega
  have hX : Chg ([]) w6 w7 := Chg.trans (Chg.d) hm (fun g hg => Or.inl hg)
  replace hX := Lib.hid hX
  clear hm
  replace ha_Procs := Lib.hid (ha_Procs.out.chg0 hX.out)
  replace hb_Frames := Lib.hid (hb_Frames.out.chg0 hX.out)
  replace hw_Frames := Lib.hid (hw_Frames.out.chg0 hX.out)
  replace hx_Procs := Lib.hid (hx_Procs.out.chg0 hX.out)
  replace hz_Frames := Lib.hid (hz_Frames.out.chg0 hX.out)
  replace hg_Frames := Lib.hid (hg_Frames.out.chg0 hX.out)
  replace Ow := Lib.hid (Ow.out.chg0 hX.out)
  replace Ox := Lib.hid (Ox.out.chg0 hX.out)
  replace Oz := Lib.hid (Oz.out.chg0 hX.out)
  replace Og := Lib.hid (Og.out.chg0 hX.out)
  have hK7 := Lib.hid ((hK6.out.trans0 hX.out))
  clear hX hK6
  go_wp2_with fail
  refine (show (∀ Q : Exit → Act → World → Prop, (∀ (y16 y17 y18 y19 y20 y21 y22 y23 y24 y25 y26 y27 y28 y29 y30 y31 y32 y33 y34 y35 y36 y37 y38 y39 y40 y41 y42 y43 y44 y45 y46 y47 : Value) (W : World), Chg [] w7 W → Q .normal { tmps := #[.agg #[.slice AP p.Procs.length cP], .agg #[.int .i64 r.State, .slice AF r.Frames.length cF, .int .i64 r.Out, .int .i64 r.Proc, .int .i64 r.Pc], .int .i64 inp, .pointer (some ⟨w.heap.size, 0, none⟩), .pointer (some ⟨w.heap.size + 1, 0, none⟩), undef, .bool false, .int .i64 r2, .pointer (some ⟨B1, 0, none⟩), .pointer (some ⟨w4.heap.size, 0, none⟩), .pointer (some ⟨w5.heap.size, 0, none⟩), .pointer (some ⟨w6.heap.size, 0, none⟩), undef, undef, undef, undef, y16, y17, y18, y19, y20, y21, y22, y23, y24, y25, y26, y27, y28, y29, y30, y31, y32, y33, y34, y35, y36, y37, y38, y39, y40, y41, y42, y43, y44, y45, y46, y47, .bool false, undef, undef, undef, undef, undef, undef, undef, undef, undef, undef, undef, undef, undef, undef, undef, undef, undef, undef, undef, undef, undef, undef, undef, undef, undef, undef, undef, undef, undef, undef, undef, undef, undef, undef, undef, undef, undef, undef, undef, undef, undef, undef, undef, undef, undef, undef, undef, undef], defers := [] } W) → Code.wp _ _ Q _ _) → _ from fun key => Code.wp_mono ?_ (key (fun e a W => e = .normal ∧ ∃ (y16 y17 y18 y19 y20 y21 y22 y23 y24 y25 y26 y27 y28 y29 y30 y31 y32 y33 y34 y35 y36 y37 y38 y39 y40 y41 y42 y43 y44 y45 y46 y47 : Value), a = { tmps := #[.agg #[.slice AP p.Procs.length cP], .agg #[.int .i64 r.State, .slice AF r.Frames.length cF, .int .i64 r.Out, .int .i64 r.Proc, .int .i64 r.Pc], .int .i64 inp, .pointer (some ⟨w.heap.size, 0, none⟩), .pointer (some ⟨w.heap.size + 1, 0, none⟩), undef, .bool false, .int .i64 r2, .pointer (some ⟨B1, 0, none⟩), .pointer (some ⟨w4.heap.size, 0, none⟩), .pointer (some ⟨w5.heap.size, 0, none⟩), .pointer (some ⟨w6.heap.size, 0, none⟩), undef, undef, undef, undef, y16, y17, y18, y19, y20, y21, y22, y23, y24, y25, y26, y27, y28, y29, y30, y31, y32, y33, y34, y35, y36, y37, y38, y39, y40, y41, y42, y43, y44, y45, y46, y47, .bool false, undef, undef, undef, undef, undef, undef, undef, undef, undef, undef, undef, undef, undef, undef, undef, undef, undef, undef, undef, undef, undef, undef, undef, undef, undef, undef, undef, undef, undef, undef, undef, undef, undef, undef, undef, undef, undef, undef, undef, undef, undef, undef, undef, undef, undef, undef, undef, undef], defers := [] } ∧ Chg [] w7 W) (fun y16 y17 y18 y19 y20 y21 y22 y23 y24 y25 y26 y27 y28 y29 y30 y31 y32 y33 y34 y35 y36 y37 y38 y39 y40 y41 y42 y43 y44 y45 y46 y47 W h => ⟨rfl, y16, y17, y18, y19, y20, y21, y22, y23, y24, y25, y26, y27, y28, y29, y30, y31, y32, y33, y34, y35, y36, y37, y38, y39, y40, y41, y42, y43, y44, y45, y46, y47, rfl, h⟩))) ?_
  rotate_left
  · intro Q hM
    have hM' := Lib.hid hM
    clear hM
    refine wp_region_noPanic ?_
    go_region_with
      (first | (go_at_call 26; refine (toPrgProg_c p _ _ _ (ha_Procs.out.chg0 (Chg.c)) HZa.out).mono ?_; rintro e wa ⟨ua, Ga, rfl, hqa, ra, oa, ga⟩; obtain ⟨Aa, ka, rfl, -, -⟩ := ra.form; have hKa : Chg [] w7 wa := Chg.trans0 (show Chg [] w7 _ from Chg.c) hqa; have hba_3 := fun o => hKa.cell (p := ⟨w4.heap.size, o, none⟩) hl7_3 (by simp); have hba_0 := fun o => hKa.cell (p := ⟨w.heap.size, o, none⟩) hl7_0 (by simp)) | (go_at_call 29; refine (eqPrgProg_c p _ _ _ _ _ (hx_Procs.out.chg0 (Chg.k)) (ra.chg0 (Chg.c))).mono ?_; rintro e wb ⟨rfl, hqb⟩; have hKb : Chg [] w7 wb := Chg.trans0 (show Chg [] w7 _ from Chg.k) hqb))
    all_goals
      exact NoPanic.normal (hM'.out _ _ _ _ _ _ _ _ _ _ _ _ _ _ _ _ _ _ _ _ _ _ _ _ _ _ _ _ _ _ _ _ _ (Chg.k))
  rintro e act w8 ⟨rfl, y16, y17, y18, y19, y20, y21, y22, y23, y24, y25, y26, y27, y28, y29, y30, y31, y32, y33, y34, y35, y36, y37, y38, y39, y40, y41, y42, y43, y44, y45, y46, y47, rfl, hm⟩
  have hs8 := hm.size
  repeat (first | rw [World.size_alloc] at hs8 | rw [World.size_setCell] at hs8 | rw [World.size_drew] at hs8 | rw [World.heap_drewN] at hs8)
  have hb8_0 := fun o => hm.cell (p := ⟨w.heap.size, o, none⟩) (show w.heap.size < _ from by (repeat (first | rw [World.size_alloc] | rw [World.size_setCell] | rw [World.size_drew] | rw [World.heap_drewN])); omega) (by simp)
  have hb8_1 := fun o => hm.cell (p := ⟨w.heap.size + 1, o, none⟩) (show w.heap.size + 1 < _ from by (repeat (first | rw [World.size_alloc] | rw [World.size_setCell] | rw [World.size_drew] | rw [World.heap_drewN])); omega) (by simp)
  have hb8_2 := fun o => hm.cell (p := ⟨B1, o, none⟩) (show B1 < _ from by (repeat (first | rw [World.size_alloc] | rw [World.size_setCell] | rw [World.size_drew] | rw [World.heap_drewN])); omega) (by simp)
  have hb8_3 := fun o => hm.cell (p := ⟨w4.heap.size, o, none⟩) (show w4.heap.size < _ from by (repeat (first | rw [World.size_alloc] | rw [World.size_setCell] | rw [World.size_drew] | rw [World.heap_drewN])); omega) (by simp)
  have hb8_4 := fun o => hm.cell (p := ⟨w5.heap.size, o, none⟩) (show w5.heap.size < _ from by (repeat (first | rw [World.size_alloc] | rw [World.size_setCell] | rw [World.size_drew] | rw [World.heap_drewN])); omega) (by simp)
  have hb8_5 := fun o => hm.cell (p := ⟨w6.heap.size, o, none⟩) (show w6.heap.size < _ from by (repeat (first | rw [World.size_alloc] | rw [World.size_setCell] | rw [World.size_drew] | rw [World.heap_drewN])); omega) (by simp)
  have hl8_0 : w.heap.size < w8.heap.size := by omega
  have hl8_1 : w.heap.size + 1 < w8.heap.size := by omega
  have hl8_2 : B1 < w8.heap.size := by omega
  have hl8_3 : w4.heap.size < w8.heap.size := by omega
  have hl8_4 : w5.heap.size < w8.heap.size := by omega
  have hl8_5 : w6.heap.size < w8.heap.size := by omega
  have hX : Chg ([]) w7 w8 := Chg.trans (Chg.d) hm (fun g hg => Or.inl hg)
  replace hX := Lib.hid hX
  clear hm
  replace ha_Procs := Lib.hid (ha_Procs.out.chg0 hX.out)
  replace hb_Frames := Lib.hid (hb_Frames.out.chg0 hX.out)
  replace hw_Frames := Lib.hid (hw_Frames.out.chg0 hX.out)
  replace hx_Procs := Lib.hid (hx_Procs.out.chg0 hX.out)
  replace hz_Frames := Lib.hid (hz_Frames.out.chg0 hX.out)
  replace hg_Frames := Lib.hid (hg_Frames.out.chg0 hX.out)
  replace Ow := Lib.hid (Ow.out.chg0 hX.out)
  replace Ox := Lib.hid (Ox.out.chg0 hX.out)
  replace Oz := Lib.hid (Oz.out.chg0 hX.out)
  replace Og := Lib.hid (Og.out.chg0 hX.out)
  have hK8 := Lib.hid ((hK7.out.trans0 hX.out))
  clear hX hK7
  go_wp2_with fail
  refine (show (∀ Q : Exit → Act → World → Prop, (∀ (y16 y17 y18 y19 y20 y21 y22 y23 y24 y25 y26 y27 y28 y29 y30 y31 y32 y33 y34 y35 y36 y37 y38 y39 y40 y41 y42 y43 y44 y45 y46 y47 y48 y49 y50 y51 y52 : Value) (W : World), Chg [] w8 W → Q .normal { tmps := #[.agg #[.slice AP p.Procs.length cP], .agg #[.int .i64 r.State, .slice AF r.Frames.length cF, .int .i64 r.Out, .int .i64 r.Proc, .int .i64 r.Pc], .int .i64 inp, .pointer (some ⟨w.heap.size, 0, none⟩), .pointer (some ⟨w.heap.size + 1, 0, none⟩), undef, .bool false, .int .i64 r2, .pointer (some ⟨B1, 0, none⟩), .pointer (some ⟨w4.heap.size, 0, none⟩), .pointer (some ⟨w5.heap.size, 0, none⟩), .pointer (some ⟨w6.heap.size, 0, none⟩), undef, undef, undef, undef, y16, y17, y18, y19, y20, y21, y22, y23, y24, y25, y26, y27, y28, y29, y30, y31, y32, y33, y34, y35, y36, y37, y38, y39, y40, y41, y42, y43, y44, y45, y46, y47, y48, y49, y50, y51, y52, .bool false, undef, undef, undef, undef, undef, undef, undef, undef, undef, undef, undef, undef, undef, undef, undef, undef, undef, undef, undef, undef, undef, undef, undef, undef, undef, undef, undef, undef, undef, undef, undef, undef, undef, undef, undef, undef, undef, undef, undef, undef, undef, undef, undef], defers := [] } W) → Code.wp _ _ Q _ _) → _ from fun key => Code.wp_mono ?_ (key (fun e a W => e = .normal ∧ ∃ (y16 y17 y18 y19 y20 y21 y22 y23 y24 y25 y26 y27 y28 y29 y30 y31 y32 y33 y34 y35 y36 y37 y38 y39 y40 y41 y42 y43 y44 y45 y46 y47 y48 y49 y50 y51 y52 : Value), a = { tmps := #[.agg #[.slice AP p.Procs.length cP], .agg #[.int .i64 r.State, .slice AF r.Frames.length cF, .int .i64 r.Out, .int .i64 r.Proc, .int .i64 r.Pc], .int .i64 inp, .pointer (some ⟨w.heap.size, 0, none⟩), .pointer (some ⟨w.heap.size + 1, 0, none⟩), undef, .bool false, .int .i64 r2, .pointer (some ⟨B1, 0, none⟩), .pointer (some ⟨w4.heap.size, 0, none⟩), .pointer (some ⟨w5.heap.size, 0, none⟩), .pointer (some ⟨w6.heap.size, 0, none⟩), undef, undef, undef, undef, y16, y17, y18, y19, y20, y21, y22, y23, y24, y25, y26, y27, y28, y29, y30, y31, y32, y33, y34, y35, y36, y37, y38, y39, y40, y41, y42, y43, y44, y45, y46, y47, y48, y49, y50, y51, y52, .bool false, undef, undef, undef, undef, undef, undef, undef, undef, undef, undef, undef, undef, undef, undef, undef, undef, undef, undef, undef, undef, undef, undef, undef, undef, undef, undef, undef, undef, undef, undef, undef, undef, undef, undef, undef, undef, undef, undef, undef, undef, undef, undef, undef], defers := [] } ∧ Chg [] w8 W) (fun y16 y17 y18 y19 y20 y21 y22 y23 y24 y25 y26 y27 y28 y29 y30 y31 y32 y33 y34 y35 y36 y37 y38 y39 y40 y41 y42 y43 y44 y45 y46 y47 y48 y49 y50 y51 y52 W h => ⟨rfl, y16, y17, y18, y19, y20, y21, y22, y23, y24, y25, y26, y27, y28, y29, y30, y31, y32, y33, y34, y35, y36, y37, y38, y39, y40, y41, y42, y43, y44, y45, y46, y47, y48, y49, y50, y51, y52, rfl, h⟩))) ?_
  rotate_left
  · intro Q hM
    have hM' := Lib.hid hM
    clear hM
    refine wp_region_noPanic ?_
    go_region_with
      (first | (go_at_call 27; refine (toRunRun_c r _ _ _ (hb_Frames.out.chg0 (Chg.c)) HZb.out).mono ?_; rintro e wa ⟨ua, Ga, rfl, hqa, ra, oa, ga⟩; obtain ⟨Aa, ka, rfl, -, -⟩ := ra.form; have hKa : Chg [] w8 wa := Chg.trans0 (show Chg [] w8 _ from Chg.c) hqa; have hba_4 := fun o => hKa.cell (p := ⟨w5.heap.size, o, none⟩) hl8_4 (by simp); have hba_1 := fun o => hKa.cell (p := ⟨w.heap.size + 1, o, none⟩) hl8_1 (by simp)) | (go_at_call 28; refine (eqRunRun_c r _ _ _ _ _ (hz_Frames.out.chg0 (Chg.k)) (ra.chg0 (Chg.c))).mono ?_; rintro e wb ⟨rfl, hqb⟩; have hKb : Chg [] w8 wb := Chg.trans0 (show Chg [] w8 _ from Chg.k) hqb))
    all_goals
      exact NoPanic.normal (hM'.out _ _ _ _ _ _ _ _ _ _ _ _ _ _ _ _ _ _ _ _ _ _ _ _ _ _ _ _ _ _ _ _ _ _ _ _ _ _ (Chg.k))
  rintro e act w9 ⟨rfl, y16, y17, y18, y19, y20, y21, y22, y23, y24, y25, y26, y27, y28, y29, y30, y31, y32, y33, y34, y35, y36, y37, y38, y39, y40, y41, y42, y43, y44, y45, y46, y47, y48, y49, y50, y51, y52, rfl, hm⟩
  have hs9 := hm.size
  repeat (first | rw [World.size_alloc] at hs9 | rw [World.size_setCell] at hs9 | rw [World.size_drew] at hs9 | rw [World.heap_drewN] at hs9)
  have hb9_0 := fun o => hm.cell (p := ⟨w.heap.size, o, none⟩) (show w.heap.size < _ from by (repeat (first | rw [World.size_alloc] | rw [World.size_setCell] | rw [World.size_drew] | rw [World.heap_drewN])); omega) (by simp)
  have hb9_1 := fun o => hm.cell (p := ⟨w.heap.size + 1, o, none⟩) (show w.heap.size + 1 < _ from by (repeat (first | rw [World.size_alloc] | rw [World.size_setCell] | rw [World.size_drew] | rw [World.heap_drewN])); omega) (by simp)
  have hb9_2 := fun o => hm.cell (p := ⟨B1, o, none⟩) (show B1 < _ from by (repeat (first | rw [World.size_alloc] | rw [World.size_setCell] | rw [World.size_drew] | rw [World.heap_drewN])); omega) (by simp)
  have hb9_3 := fun o => hm.cell (p := ⟨w4.heap.size, o, none⟩) (show w4.heap.size < _ from by (repeat (first | rw [World.size_alloc] | rw [World.size_setCell] | rw [World.size_drew] | rw [World.heap_drewN])); omega) (by simp)
  have hb9_4 := fun o => hm.cell (p := ⟨w5.heap.size, o, none⟩) (show w5.heap.size < _ from by (repeat (first | rw [World.size_alloc] | rw [World.size_setCell] | rw [World.size_drew] | rw [World.heap_drewN])); omega) (by simp)
  have hb9_5 := fun o => hm.cell (p := ⟨w6.heap.size, o, none⟩) (show w6.heap.size < _ from by (repeat (first | rw [World.size_alloc] | rw [World.size_setCell] | rw [World.size_drew] | rw [World.heap_drewN])); omega) (by simp)
  have hl9_0 : w.heap.size < w9.heap.size := by omega
  have hl9_1 : w.heap.size + 1 < w9.heap.size := by omega
  have hl9_2 : B1 < w9.heap.size := by omega
  have hl9_3 : w4.heap.size < w9.heap.size := by omega
  have hl9_4 : w5.heap.size < w9.heap.size := by omega
  have hl9_5 : w6.heap.size < w9.heap.size := by omega
  have hX : Chg ([]) w8 w9 := Chg.trans (Chg.d) hm (fun g hg => Or.inl hg)
  replace hX := Lib.hid hX
  clear hm
  replace ha_Procs := Lib.hid (ha_Procs.out.chg0 hX.out)
  replace hb_Frames := Lib.hid (hb_Frames.out.chg0 hX.out)
  replace hw_Frames := Lib.hid (hw_Frames.out.chg0 hX.out)
  replace hx_Procs := Lib.hid (hx_Procs.out.chg0 hX.out)
  replace hz_Frames := Lib.hid (hz_Frames.out.chg0 hX.out)
  replace hg_Frames := Lib.hid (hg_Frames.out.chg0 hX.out)
  replace Ow := Lib.hid (Ow.out.chg0 hX.out)
  replace Ox := Lib.hid (Ox.out.chg0 hX.out)
  replace Oz := Lib.hid (Oz.out.chg0 hX.out)
  replace Og := Lib.hid (Og.out.chg0 hX.out)
  have hK9 := Lib.hid ((hK8.out.trans0 hX.out))
  clear hX hK8
  go_wp2_with fail
  refine (markPrgProg_c p (1) _ _ _ (hx_Procs.out.chg0 (Chg.d)) (Ox.out.chg0 (Chg.d)) (by omega) (Int.le_trans hb0 (by omega))).mono ?_
  rintro e w10 ⟨rfl, hm, om, mhx_Procs⟩
  replace hx_Procs := Lib.hid mhx_Procs
  clear mhx_Procs
  replace Ox := Lib.hid om
  clear om
  have hs10 := hm.size
  repeat (first | rw [World.size_alloc] at hs10 | rw [World.size_setCell] at hs10 | rw [World.size_drew] at hs10 | rw [World.heap_drewN] at hs10)
  have hb10_0 := fun o => hm.cell (p := ⟨w.heap.size, o, none⟩) (show w.heap.size < _ from by (repeat (first | rw [World.size_alloc] | rw [World.size_setCell] | rw [World.size_drew] | rw [World.heap_drewN])); omega) (fun (hf : w.heap.size ∈ Fx_Procs) => by have := Bx.out _ hf; omega)
  have hb10_1 := fun o => hm.cell (p := ⟨w.heap.size + 1, o, none⟩) (show w.heap.size + 1 < _ from by (repeat (first | rw [World.size_alloc] | rw [World.size_setCell] | rw [World.size_drew] | rw [World.heap_drewN])); omega) (fun (hf : w.heap.size + 1 ∈ Fx_Procs) => by have := Bx.out _ hf; omega)
  have hb10_2 := fun o => hm.cell (p := ⟨B1, o, none⟩) (show B1 < _ from by (repeat (first | rw [World.size_alloc] | rw [World.size_setCell] | rw [World.size_drew] | rw [World.heap_drewN])); omega) (fun (hf : B1 ∈ Fx_Procs) => by have := Bx.out _ hf; omega)
  have hb10_3 := fun o => hm.cell (p := ⟨w4.heap.size, o, none⟩) (show w4.heap.size < _ from by (repeat (first | rw [World.size_alloc] | rw [World.size_setCell] | rw [World.size_drew] | rw [World.heap_drewN])); omega) (fun (hf : w4.heap.size ∈ Fx_Procs) => by have := Bx.out _ hf; omega)
  have hb10_4 := fun o => hm.cell (p := ⟨w5.heap.size, o, none⟩) (show w5.heap.size < _ from by (repeat (first | rw [World.size_alloc] | rw [World.size_setCell] | rw [World.size_drew] | rw [World.heap_drewN])); omega) (fun (hf : w5.heap.size ∈ Fx_Procs) => by have := Bx.out _ hf; omega)
  have hb10_5 := fun o => hm.cell (p := ⟨w6.heap.size, o, none⟩) (show w6.heap.size < _ from by (repeat (first | rw [World.size_alloc] | rw [World.size_setCell] | rw [World.size_drew] | rw [World.heap_drewN])); omega) (fun (hf : w6.heap.size ∈ Fx_Procs) => by have := Bx.out _ hf; omega)
  have hl10_0 : w.heap.size < w10.heap.size := by omega
  have hl10_1 : w.heap.size + 1 < w10.heap.size := by omega
  have hl10_2 : B1 < w10.heap.size := by omega
  have hl10_3 : w4.heap.size < w10.heap.size := by omega
  have hl10_4 : w5.heap.size < w10.heap.size := by omega
  have hl10_5 : w6.heap.size < w10.heap.size := by omega
  have hX : Chg (Fx_Procs) w9 w10 := Chg.trans (Chg.d) hm (fun g hg => Or.inl hg)
  replace hX := Lib.hid hX
  clear hm
  replace ha_Procs := Lib.hid (RL.chg ha_Procs.out hX.out (fun g hg h => by have a1 := Ba.out g (hg); have a2 := Bx.out g h; omega))
  replace hb_Frames := Lib.hid (RL.chg hb_Frames.out hX.out (fun g hg h => by have a1 := Bb.out g (hg); have a2 := Bx.out g h; omega))
  replace hw_Frames := Lib.hid (RL.chg hw_Frames.out hX.out (fun g hg h => by have a1 := Bw.out g (hg); have a2 := Bx.out g h; omega))
  replace hz_Frames := Lib.hid (RL.chg hz_Frames.out hX.out (fun g hg h => by have a1 := Bz.out g (hg); have a2 := Bx.out g h; omega))
  replace hg_Frames := Lib.hid (RL.chg hg_Frames.out hX.out (fun g hg h => by have a1 := Bg.out g (hg); have a2 := Bx.out g h; omega))
  replace Ow := Lib.hid (Own.chg Ow.out hX.out (fun g hg h => by have a1 := Bw.out g hg; have a2 := Bx.out g h; omega))
  replace Oz := Lib.hid (Own.chg Oz.out hX.out (fun g hg h => by have a1 := Bz.out g hg; have a2 := Bx.out g h; omega))
  replace Og := Lib.hid (Own.chg Og.out hX.out (fun g hg h => by have a1 := Bg.out g hg; have a2 := Bx.out g h; omega))
  have hK10 := Lib.hid (hK9.out.trans hX.out (fun g hg => Or.inr (by have := Bx.out g hg; omega)))
  clear hX hK9
  clear Bx Ox hx_Procs
  go_wp2_with fail
  refine (markRunRun_c r (1 + (cntL p.Procs : Int)) _ _ _ (hz_Frames.out.chg0 (Chg.d)) (Oz.out.chg0 (Chg.d)) (by omega) (Int.le_trans hb1 (by omega))).mono ?_
  rintro e w11 ⟨rfl, hm, om, mhz_Frames⟩
  replace hz_Frames := Lib.hid mhz_Frames
  clear mhz_Frames
  replace Oz := Lib.hid om
  clear om
  have hs11 := hm.size
  repeat (first | rw [World.size_alloc] at hs11 | rw [World.size_setCell] at hs11 | rw [World.size_drew] at hs11 | rw [World.heap_drewN] at hs11)
  have hb11_0 := fun o => hm.cell (p := ⟨w.heap.size, o, none⟩) (show w.heap.size < _ from by (repeat (first | rw [World.size_alloc] | rw [World.size_setCell] | rw [World.size_drew] | rw [World.heap_drewN])); omega) (fun (hf : w.heap.size ∈ Fz_Frames) => by have := Bz.out _ hf; omega)
  have hb11_1 := fun o => hm.cell (p := ⟨w.heap.size + 1, o, none⟩) (show w.heap.size + 1 < _ from by (repeat (first | rw [World.size_alloc] | rw [World.size_setCell] | rw [World.size_drew] | rw [World.heap_drewN])); omega) (fun (hf : w.heap.size + 1 ∈ Fz_Frames) => by have := Bz.out _ hf; omega)
  have hb11_2 := fun o => hm.cell (p := ⟨B1, o, none⟩) (show B1 < _ from by (repeat (first | rw [World.size_alloc] | rw [World.size_setCell] | rw [World.size_drew] | rw [World.heap_drewN])); omega) (fun (hf : B1 ∈ Fz_Frames) => by have := Bz.out _ hf; omega)
  have hb11_3 := fun o => hm.cell (p := ⟨w4.heap.size, o, none⟩) (show w4.heap.size < _ from by (repeat (first | rw [World.size_alloc] | rw [World.size_setCell] | rw [World.size_drew] | rw [World.heap_drewN])); omega) (fun (hf : w4.heap.size ∈ Fz_Frames) => by have := Bz.out _ hf; omega)
  have hb11_4 := fun o => hm.cell (p := ⟨w5.heap.size, o, none⟩) (show w5.heap.size < _ from by (repeat (first | rw [World.size_alloc] | rw [World.size_setCell] | rw [World.size_drew] | rw [World.heap_drewN])); omega) (fun (hf : w5.heap.size ∈ Fz_Frames) => by have := Bz.out _ hf; omega)
  have hb11_5 := fun o => hm.cell (p := ⟨w6.heap.size, o, none⟩) (show w6.heap.size < _ from by (repeat (first | rw [World.size_alloc] | rw [World.size_setCell] | rw [World.size_drew] | rw [World.heap_drewN])); omega) (fun (hf : w6.heap.size ∈ Fz_Frames) => by have := Bz.out _ hf; omega)
  have hl11_0 : w.heap.size < w11.heap.size := by omega
  have hl11_1 : w.heap.size + 1 < w11.heap.size := by omega
  have hl11_2 : B1 < w11.heap.size := by omega
  have hl11_3 : w4.heap.size < w11.heap.size := by omega
  have hl11_4 : w5.heap.size < w11.heap.size := by omega
  have hl11_5 : w6.heap.size < w11.heap.size := by omega
  have hX : Chg (Fz_Frames) w10 w11 := Chg.trans (Chg.d) hm (fun g hg => Or.inl hg)
  replace hX := Lib.hid hX
  clear hm
  replace ha_Procs := Lib.hid (RL.chg ha_Procs.out hX.out (fun g hg h => by have a1 := Ba.out g (hg); have a2 := Bz.out g h; omega))
  replace hb_Frames := Lib.hid (RL.chg hb_Frames.out hX.out (fun g hg h => by have a1 := Bb.out g (hg); have a2 := Bz.out g h; omega))
  replace hw_Frames := Lib.hid (RL.chg hw_Frames.out hX.out (fun g hg h => by have a1 := Bw.out g (hg); have a2 := Bz.out g h; omega))
  replace hg_Frames := Lib.hid (RL.chg hg_Frames.out hX.out (fun g hg h => by have a1 := Bg.out g (hg); have a2 := Bz.out g h; omega))
  replace Ow := Lib.hid (Own.chg Ow.out hX.out (fun g hg h => by have a1 := Bw.out g hg; have a2 := Bz.out g h; omega))
  replace Og := Lib.hid (Own.chg Og.out hX.out (fun g hg h => by have a1 := Bg.out g hg; have a2 := Bz.out g h; omega))
  have hK11 := Lib.hid (hK10.out.trans hX.out (fun g hg => Or.inr (by have := Bz.out g hg; omega)))
  clear hX hK10
  clear Bz Oz hz_Frames
  go_wp2_with fail
  refine (eqRunRun_c x _ _ _ _ _ (hg_Frames.out.chg0 (Chg.d)) (hw_Frames.out.chg0 (Chg.d))).mono ?_
  rintro e w12 ⟨rfl, hm⟩
  have hs12 := hm.size
  repeat (first | rw [World.size_alloc] at hs12 | rw [World.size_setCell] at hs12 | rw [World.size_drew] at hs12 | rw [World.heap_drewN] at hs12)
  have hb12_0 := fun o => hm.cell (p := ⟨w.heap.size, o, none⟩) (show w.heap.size < _ from by (repeat (first | rw [World.size_alloc] | rw [World.size_setCell] | rw [World.size_drew] | rw [World.heap_drewN])); omega) (by simp)
  have hb12_1 := fun o => hm.cell (p := ⟨w.heap.size + 1, o, none⟩) (show w.heap.size + 1 < _ from by (repeat (first | rw [World.size_alloc] | rw [World.size_setCell] | rw [World.size_drew] | rw [World.heap_drewN])); omega) (by simp)
  have hb12_2 := fun o => hm.cell (p := ⟨B1, o, none⟩) (show B1 < _ from by (repeat (first | rw [World.size_alloc] | rw [World.size_setCell] | rw [World.size_drew] | rw [World.heap_drewN])); omega) (by simp)
  have hb12_3 := fun o => hm.cell (p := ⟨w4.heap.size, o, none⟩) (show w4.heap.size < _ from by (repeat (first | rw [World.size_alloc] | rw [World.size_setCell] | rw [World.size_drew] | rw [World.heap_drewN])); omega) (by simp)
  have hb12_4 := fun o => hm.cell (p := ⟨w5.heap.size, o, none⟩) (show w5.heap.size < _ from by (repeat (first | rw [World.size_alloc] | rw [World.size_setCell] | rw [World.size_drew] | rw [World.heap_drewN])); omega) (by simp)
  have hb12_5 := fun o => hm.cell (p := ⟨w6.heap.size, o, none⟩) (show w6.heap.size < _ from by (repeat (first | rw [World.size_alloc] | rw [World.size_setCell] | rw [World.size_drew] | rw [World.heap_drewN])); omega) (by simp)
  have hl12_0 : w.heap.size < w12.heap.size := by omega
  have hl12_1 : w.heap.size + 1 < w12.heap.size := by omega
  have hl12_2 : B1 < w12.heap.size := by omega
  have hl12_3 : w4.heap.size < w12.heap.size := by omega
  have hl12_4 : w5.heap.size < w12.heap.size := by omega
  have hl12_5 : w6.heap.size < w12.heap.size := by omega
  have hX : Chg ([]) w11 w12 := Chg.trans (Chg.d) hm (fun g hg => Or.inl hg)
  replace hX := Lib.hid hX
  clear hm
  replace ha_Procs := Lib.hid (ha_Procs.out.chg0 hX.out)
  replace hb_Frames := Lib.hid (hb_Frames.out.chg0 hX.out)
  replace hw_Frames := Lib.hid (hw_Frames.out.chg0 hX.out)
  replace hg_Frames := Lib.hid (hg_Frames.out.chg0 hX.out)
  replace Ow := Lib.hid (Ow.out.chg0 hX.out)
  replace Og := Lib.hid (Og.out.chg0 hX.out)
  have hK12 := Lib.hid ((hK11.out.trans0 hX.out))
  clear hX hK11
  go_wp2_with fail
  refine (markRunRun_c x (1) _ _ _ (hg_Frames.out.chg0 (Chg.d)) (Og.out.chg0 (Chg.d)) (by omega) (Int.le_trans hb2 (by omega))).mono ?_
  rintro e w13 ⟨rfl, hm, om, mhg_Frames⟩
  replace hg_Frames := Lib.hid mhg_Frames
  clear mhg_Frames
  replace Og := Lib.hid om
  clear om
  have hs13 := hm.size
  repeat (first | rw [World.size_alloc] at hs13 | rw [World.size_setCell] at hs13 | rw [World.size_drew] at hs13 | rw [World.heap_drewN] at hs13)
  have hb13_0 := fun o => hm.cell (p := ⟨w.heap.size, o, none⟩) (show w.heap.size < _ from by (repeat (first | rw [World.size_alloc] | rw [World.size_setCell] | rw [World.size_drew] | rw [World.heap_drewN])); omega) (fun (hf : w.heap.size ∈ Fg_Frames) => by have := Bg.out _ hf; omega)
  have hb13_1 := fun o => hm.cell (p := ⟨w.heap.size + 1, o, none⟩) (show w.heap.size + 1 < _ from by (repeat (first | rw [World.size_alloc] | rw [World.size_setCell] | rw [World.size_drew] | rw [World.heap_drewN])); omega) (fun (hf : w.heap.size + 1 ∈ Fg_Frames) => by have := Bg.out _ hf; omega)
  have hb13_2 := fun o => hm.cell (p := ⟨B1, o, none⟩) (show B1 < _ from by (repeat (first | rw [World.size_alloc] | rw [World.size_setCell] | rw [World.size_drew] | rw [World.heap_drewN])); omega) (fun (hf : B1 ∈ Fg_Frames) => by have := Bg.out _ hf; omega)
  have hb13_3 := fun o => hm.cell (p := ⟨w4.heap.size, o, none⟩) (show w4.heap.size < _ from by (repeat (first | rw [World.size_alloc] | rw [World.size_setCell] | rw [World.size_drew] | rw [World.heap_drewN])); omega) (fun (hf : w4.heap.size ∈ Fg_Frames) => by have := Bg.out _ hf; omega)
  have hb13_4 := fun o => hm.cell (p := ⟨w5.heap.size, o, none⟩) (show w5.heap.size < _ from by (repeat (first | rw [World.size_alloc] | rw [World.size_setCell] | rw [World.size_drew] | rw [World.heap_drewN])); omega) (fun (hf : w5.heap.size ∈ Fg_Frames) => by have := Bg.out _ hf; omega)
  have hb13_5 := fun o => hm.cell (p := ⟨w6.heap.size, o, none⟩) (show w6.heap.size < _ from by (repeat (first | rw [World.size_alloc] | rw [World.size_setCell] | rw [World.size_drew] | rw [World.heap_drewN])); omega) (fun (hf : w6.heap.size ∈ Fg_Frames) => by have := Bg.out _ hf; omega)
  have hl13_0 : w.heap.size < w13.heap.size := by omega
  have hl13_1 : w.heap.size + 1 < w13.heap.size := by omega
  have hl13_2 : B1 < w13.heap.size := by omega
  have hl13_3 : w4.heap.size < w13.heap.size := by omega
  have hl13_4 : w5.heap.size < w13.heap.size := by omega
  have hl13_5 : w6.heap.size < w13.heap.size := by omega
  have hX : Chg (Fg_Frames) w12 w13 := Chg.trans (Chg.d) hm (fun g hg => Or.inl hg)
  replace hX := Lib.hid hX
  clear hm
  replace ha_Procs := Lib.hid (RL.chg ha_Procs.out hX.out (fun g hg h => by have a1 := Ba.out g (hg); have a2 := Bg.out g h; omega))
  replace hb_Frames := Lib.hid (RL.chg hb_Frames.out hX.out (fun g hg h => by have a1 := Bb.out g (hg); have a2 := Bg.out g h; omega))
  replace hw_Frames := Lib.hid (RL.chg hw_Frames.out hX.out (fun g hg h => by have a1 := Bw.out g (hg); have a2 := Bg.out g h; omega))
  replace Ow := Lib.hid (Own.chg Ow.out hX.out (fun g hg h => by have a1 := Bw.out g hg; have a2 := Bg.out g h; omega))
  have hK13 := Lib.hid (hK12.out.trans hX.out (fun g hg => Or.inr (by have := Bg.out g hg; omega)))
  clear hX hK12
  go_wp2_with fail
  refine (heldRunRun_c x (1) _ _ _ (hg_Frames.out.chg0 (Chg.d)) (by omega) (Int.le_trans hb2 (by omega))).mono ?_
  rintro e w14 ⟨rfl, hm⟩
  have hs14 := hm.size
  repeat (first | rw [World.size_alloc] at hs14 | rw [World.size_setCell] at hs14 | rw [World.size_drew] at hs14 | rw [World.heap_drewN] at hs14)
  have hb14_0 := fun o => hm.cell (p := ⟨w.heap.size, o, none⟩) (show w.heap.size < _ from by (repeat (first | rw [World.size_alloc] | rw [World.size_setCell] | rw [World.size_drew] | rw [World.heap_drewN])); omega) (by simp)
  have hb14_1 := fun o => hm.cell (p := ⟨w.heap.size + 1, o, none⟩) (show w.heap.size + 1 < _ from by (repeat (first | rw [World.size_alloc] | rw [World.size_setCell] | rw [World.size_drew] | rw [World.heap_drewN])); omega) (by simp)
  have hb14_2 := fun o => hm.cell (p := ⟨B1, o, none⟩) (show B1 < _ from by (repeat (first | rw [World.size_alloc] | rw [World.size_setCell] | rw [World.size_drew] | rw [World.heap_drewN])); omega) (by simp)
  have hb14_3 := fun o => hm.cell (p := ⟨w4.heap.size, o, none⟩) (show w4.heap.size < _ from by (repeat (first | rw [World.size_alloc] | rw [World.size_setCell] | rw [World.size_drew] | rw [World.heap_drewN])); omega) (by simp)
  have hb14_4 := fun o => hm.cell (p := ⟨w5.heap.size, o, none⟩) (show w5.heap.size < _ from by (repeat (first | rw [World.size_alloc] | rw [World.size_setCell] | rw [World.size_drew] | rw [World.heap_drewN])); omega) (by simp)
  have hb14_5 := fun o => hm.cell (p := ⟨w6.heap.size, o, none⟩) (show w6.heap.size < _ from by (repeat (first | rw [World.size_alloc] | rw [World.size_setCell] | rw [World.size_drew] | rw [World.heap_drewN])); omega) (by simp)
  have hl14_0 : w.heap.size < w14.heap.size := by omega
  have hl14_1 : w.heap.size + 1 < w14.heap.size := by omega
  have hl14_2 : B1 < w14.heap.size := by omega
  have hl14_3 : w4.heap.size < w14.heap.size := by omega
  have hl14_4 : w5.heap.size < w14.heap.size := by omega
  have hl14_5 : w6.heap.size < w14.heap.size := by omega
  have hX : Chg ([]) w13 w14 := Chg.trans (Chg.d) hm (fun g hg => Or.inl hg)
  replace hX := Lib.hid hX
  clear hm
  replace ha_Procs := Lib.hid (ha_Procs.out.chg0 hX.out)
  replace hb_Frames := Lib.hid (hb_Frames.out.chg0 hX.out)
  replace hw_Frames := Lib.hid (hw_Frames.out.chg0 hX.out)
  replace hg_Frames := Lib.hid (hg_Frames.out.chg0 hX.out)
  replace Ow := Lib.hid (Ow.out.chg0 hX.out)
  replace Og := Lib.hid (Og.out.chg0 hX.out)
  have hK14 := Lib.hid ((hK13.out.trans0 hX.out))
  clear hX hK13
  go_wp2_with fail
  replace pp : w14.cell? ⟨w.heap.size, 0, none⟩ = some (.slice AP p.Procs.length cP) := by go_simp
  replace pr0 : w14.cell? ⟨w.heap.size + 1, 0, none⟩ = some (.int .i64 r.State) := by go_simp
  replace pr1 : w14.cell? ⟨w.heap.size + 1, 1, none⟩ = some (.slice AF r.Frames.length cF) := by go_simp
  replace pr2 : w14.cell? ⟨w.heap.size + 1, 2, none⟩ = some (.int .i64 r.Out) := by go_simp
  replace pr3 : w14.cell? ⟨w.heap.size + 1, 3, none⟩ = some (.int .i64 r.Proc) := by go_simp
  replace pr4 : w14.cell? ⟨w.heap.size + 1, 4, none⟩ = some (.int .i64 r.Pc) := by go_simp
  replace lUP := hl14_0
  replace lUR := hl14_1
  replace nUP : ¬ w.heap.size = w14.heap.size := Nat.ne_of_lt hl14_0
  replace nUR : ¬ w.heap.size + 1 = w14.heap.size := Nat.ne_of_lt hl14_1
  clear hb3_0 hb3_1 hb4_0 hb4_1 hb5_0 hb5_1 hb6_0 hb6_1 hb7_0 hb7_1 hb8_0 hb8_1 hb9_0 hb9_1 hb10_0 hb10_1 hb11_0 hb11_1 hb12_0 hb12_1 hb13_0 hb13_1 hb14_0 hb14_1
  refine (show (∀ Q : Exit → Act → World → Prop, (∀ (B : Nat) (y12 y14 y16 y17 y18 y19 y20 y21 y22 y23 y24 y25 y26 y27 y28 y29 y30 y31 y32 y33 y34 y35 y36 y37 y38 y39 y40 y41 y42 y43 y44 y45 y46 y47 y48 y49 y50 y51 y52 y53 y54 y55 y56 y57 y58 y59 y60 y61 y62 y63 y64 y65 y66 y67 y68 y69 y70 y71 y72 y73 y74 y75 y76 y77 y78 y79 y80 y81 y82 y83 y84 : Value) (v : Value) (G : List Nat) (W : World), Cut w14 x B v G W → Q .normal { tmps := #[.agg #[.slice AP p.Procs.length cP], .agg #[.int .i64 r.State, .slice AF r.Frames.length cF, .int .i64 r.Out, .int .i64 r.Proc, .int .i64 r.Pc], .int .i64 inp, .pointer (some ⟨w.heap.size, 0, none⟩), .pointer (some ⟨w.heap.size + 1, 0, none⟩), undef, .bool false, .int .i64 r2, .pointer (some ⟨B1, 0, none⟩), .pointer (some ⟨w4.heap.size, 0, none⟩), .pointer (some ⟨w5.heap.size, 0, none⟩), .pointer (some ⟨w6.heap.size, 0, none⟩), y12, .int .i64 (1 + (cntL x.Frames : Int)), y14, .pointer (some ⟨B, 0, none⟩), y16, y17, y18, y19, y20, y21, y22, y23, y24, y25, y26, y27, y28, y29, y30, y31, y32, y33, y34, y35, y36, y37, y38, y39, y40, y41, y42, y43, y44, y45, y46, y47, y48, y49, y50, y51, y52, y53, y54, y55, y56, y57, y58, y59, y60, y61, y62, y63, y64, y65, y66, y67, y68, y69, y70, y71, y72, y73, y74, y75, y76, y77, y78, y79, y80, y81, y82, y83, y84, undef, undef, undef, undef, undef, undef, undef, undef, undef, undef, undef, undef], defers := [] } W) → Code.wp _ _ Q _ _) → _ from fun key => Code.wp_mono ?_ (key (fun e a W => e = .normal ∧ ∃ (B : Nat) (y12 y14 y16 y17 y18 y19 y20 y21 y22 y23 y24 y25 y26 y27 y28 y29 y30 y31 y32 y33 y34 y35 y36 y37 y38 y39 y40 y41 y42 y43 y44 y45 y46 y47 y48 y49 y50 y51 y52 y53 y54 y55 y56 y57 y58 y59 y60 y61 y62 y63 y64 y65 y66 y67 y68 y69 y70 y71 y72 y73 y74 y75 y76 y77 y78 y79 y80 y81 y82 y83 y84 : Value) (v : Value) (G : List Nat), a = { tmps := #[.agg #[.slice AP p.Procs.length cP], .agg #[.int .i64 r.State, .slice AF r.Frames.length cF, .int .i64 r.Out, .int .i64 r.Proc, .int .i64 r.Pc], .int .i64 inp, .pointer (some ⟨w.heap.size, 0, none⟩), .pointer (some ⟨w.heap.size + 1, 0, none⟩), undef, .bool false, .int .i64 r2, .pointer (some ⟨B1, 0, none⟩), .pointer (some ⟨w4.heap.size, 0, none⟩), .pointer (some ⟨w5.heap.size, 0, none⟩), .pointer (some ⟨w6.heap.size, 0, none⟩), y12, .int .i64 (1 + (cntL x.Frames : Int)), y14, .pointer (some ⟨B, 0, none⟩), y16, y17, y18, y19, y20, y21, y22, y23, y24, y25, y26, y27, y28, y29, y30, y31, y32, y33, y34, y35, y36, y37, y38, y39, y40, y41, y42, y43, y44, y45, y46, y47, y48, y49, y50, y51, y52, y53, y54, y55, y56, y57, y58, y59, y60, y61, y62, y63, y64, y65, y66, y67, y68, y69, y70, y71, y72, y73, y74, y75, y76, y77, y78, y79, y80, y81, y82, y83, y84, undef, undef, undef, undef, undef, undef, undef, undef, undef, undef, undef, undef], defers := [] } ∧ Cut w14 x B v G W) (fun B y12 y14 y16 y17 y18 y19 y20 y21 y22 y23 y24 y25 y26 y27 y28 y29 y30 y31 y32 y33 y34 y35 y36 y37 y38 y39 y40 y41 y42 y43 y44 y45 y46 y47 y48 y49 y50 y51 y52 y53 y54 y55 y56 y57 y58 y59 y60 y61 y62 y63 y64 y65 y66 y67 y68 y69 y70 y71 y72 y73 y74 y75 y76 y77 y78 y79 y80 y81 y82 y83 y84 v G W h => ⟨rfl, B, y12, y14, y16, y17, y18, y19, y20, y21, y22, y23, y24, y25, y26, y27, y28, y29, y30, y31, y32, y33, y34, y35, y36, y37, y38, y39, y40, y41, y42, y43, y44, y45, y46, y47, y48, y49, y50, y51, y52, y53, y54, y55, y56, y57, y58, y59, y60, y61, y62, y63, y64, y65, y66, y67, y68, y69, y70, y71, y72, y73, y74, y75, y76, y77, y78, y79, y80, y81, y82, y83, y84, v, G, rfl, h⟩))) ?_
  rotate_left
  · intro Q hM
    have hM' := Lib.hid hM
    clear hM
    go_region_held3 (fun w' => w'.cell? ⟨w.heap.size, 0, none⟩ = some (.slice AP p.Procs.length cP) ∧ w'.cell? ⟨w.heap.size + 1, 0, none⟩ = some (.int .i64 r.State) ∧ w'.cell? ⟨w.heap.size + 1, 1, none⟩ = some (.slice AF r.Frames.length cF) ∧ w'.cell? ⟨w.heap.size + 1, 2, none⟩ = some (.int .i64 r.Out) ∧ w'.cell? ⟨w.heap.size + 1, 3, none⟩ = some (.int .i64 r.Proc) ∧ w'.cell? ⟨w.heap.size + 1, 4, none⟩ = some (.int .i64 r.Pc)) (((try dsimp only); (repeat' apply And.intro) <;> (first | with_reducible assumption | (with_reducible refine (cell5 ?_).trans ?_ <;> (first | with_reducible assumption | exact nUP | exact nUR | exact naP | exact naR | exact nbP | exact nbR | exact ncP | exact ncR)) | (go_keep; done))))
      (first | (go_at_call 26; refine (toPrgProg_c p _ _ _ (ha_Procs.out.chg0 (Chg.c)) HZa.out).mono ?_; rintro e wa ⟨ua, Ga, rfl, hqwa, ra, oa, ga⟩; obtain ⟨Aa, ka, rfl, -, -⟩ := ra.form; have hKwa : Chg [] w14 wa := Chg.trans0 (show Chg [] w14 _ from Chg.c) hqwa; have ppwa := hKwa.cell0 pp; have pr0wa := hKwa.cell0 pr0; have pr1wa := hKwa.cell0 pr1; have pr2wa := hKwa.cell0 pr2; have pr3wa := hKwa.cell0 pr3; have pr4wa := hKwa.cell0 pr4; have swa := hKwa.size; have naP : ¬ w.heap.size = wa.heap.size := Nat.ne_of_lt (Nat.lt_of_lt_of_le lUP swa); have naR : ¬ w.heap.size + 1 = wa.heap.size := Nat.ne_of_lt (Nat.lt_of_lt_of_le lUR swa); have zUc0 := hqwa.cells.1 w14.heap.size 0; have zUc1 := hqwa.cells.1 w14.heap.size 1; have zUc2 := hqwa.cells.1 w14.heap.size 2; have zUc3 := hqwa.cells.1 w14.heap.size 3; have zUc4 := hqwa.cells.1 w14.heap.size 4; have zUf0 := hqwa.cells.2 w14.heap.size 0; have zUf1 := hqwa.cells.2 w14.heap.size 1; have zUf2 := hqwa.cells.2 w14.heap.size 2; have zUf3 := hqwa.cells.2 w14.heap.size 3; have zUf4 := hqwa.cells.2 w14.heap.size 4; have szwa := hqwa.size; (try simp only [World.size_alloc, World.size_setCell, World.size_drew] at szwa); (try have lt_U_wa := Nat.lt_of_succ_le szwa); have ra_ := Lib.hid ra; clear ra oa ga) | (go_at_call 27; refine (toRunRun_c r _ _ _ (hb_Frames.out.chg0 (Chg.k)) HZb.out).mono ?_; rintro e wb ⟨ub, Gb, rfl, hqwb, rb, ob, gb⟩; obtain ⟨Ab, kb, rfl, -, -⟩ := rb.form; have hKwb : Chg [] w14 wb := Chg.trans0 (show Chg [] w14 _ from Chg.k) hqwb; have ppwb := hKwb.cell0 pp; have pr0wb := hKwb.cell0 pr0; have pr1wb := hKwb.cell0 pr1; have pr2wb := hKwb.cell0 pr2; have pr3wb := hKwb.cell0 pr3; have pr4wb := hKwb.cell0 pr4; have swb := hKwb.size; have nbP : ¬ w.heap.size = wb.heap.size := Nat.ne_of_lt (Nat.lt_of_lt_of_le lUP swb); have nbR : ¬ w.heap.size + 1 = wb.heap.size := Nat.ne_of_lt (Nat.lt_of_lt_of_le lUR swb); have zUc0 := hqwb.cells.1 w14.heap.size 0; have zUc1 := hqwb.cells.1 w14.heap.size 1; have zUc2 := hqwb.cells.1 w14.heap.size 2; have zUc3 := hqwb.cells.1 w14.heap.size 3; have zUc4 := hqwb.cells.1 w14.heap.size 4; have zUf0 := hqwb.cells.2 w14.heap.size 0; have zUf1 := hqwb.cells.2 w14.heap.size 1; have zUf2 := hqwb.cells.2 w14.heap.size 2; have zUf3 := hqwb.cells.2 w14.heap.size 3; have zUf4 := hqwb.cells.2 w14.heap.size 4; have zwac0 := hqwb.cells.1 wa.heap.size 0; have zwac1 := hqwb.cells.1 wa.heap.size 1; have zwac2 := hqwb.cells.1 wa.heap.size 2; have zwac3 := hqwb.cells.1 wa.heap.size 3; have zwac4 := hqwb.cells.1 wa.heap.size 4; have zwaf0 := hqwb.cells.2 wa.heap.size 0; have zwaf1 := hqwb.cells.2 wa.heap.size 1; have zwaf2 := hqwb.cells.2 wa.heap.size 2; have zwaf3 := hqwb.cells.2 wa.heap.size 3; have zwaf4 := hqwb.cells.2 wa.heap.size 4; have szwb := hqwb.size; (try simp only [World.size_alloc, World.size_setCell, World.size_drew] at szwb); (try have lt_wa_wb := Nat.lt_of_succ_le szwb); (try have lt_U_wb := Nat.lt_of_lt_of_le lt_U_wa (Nat.le_of_lt_succ (Nat.lt_succ_of_le szwb))); have hKab : Chg [] wa wb := Chg.trans0 (show Chg [] wa _ from Chg.c) hqwb; have rb_ := Lib.hid rb; clear rb ob gb) | (go_at_call 14; refine (himpl _ _ _ _ _ (ra_.out.chg0 (Chg.k)) (rb_.out.chg0 (Chg.c))).mono ?_; rintro e wc ⟨vc, Gc, rfl, hqwc, rc, oc, gc⟩; obtain ⟨Ac, kc, cc, rfl⟩ := form3 rc; have hKwc : Chg [] w14 wc := Chg.trans0 (show Chg [] w14 _ from Chg.k) hqwc; have ppwc := hKwc.cell0 pp; have pr0wc := hKwc.cell0 pr0; have pr1wc := hKwc.cell0 pr1; have pr2wc := hKwc.cell0 pr2; have pr3wc := hKwc.cell0 pr3; have pr4wc := hKwc.cell0 pr4; have swc := hKwc.size; have ncP : ¬ w.heap.size = wc.heap.size := Nat.ne_of_lt (Nat.lt_of_lt_of_le lUP swc); have ncR : ¬ w.heap.size + 1 = wc.heap.size := Nat.ne_of_lt (Nat.lt_of_lt_of_le lUR swc); have zUc0 := hqwc.cells.1 w14.heap.size 0; have zUc1 := hqwc.cells.1 w14.heap.size 1; have zUc2 := hqwc.cells.1 w14.heap.size 2; have zUc3 := hqwc.cells.1 w14.heap.size 3; have zUc4 := hqwc.cells.1 w14.heap.size 4; have zUf0 := hqwc.cells.2 w14.heap.size 0; have zUf1 := hqwc.cells.2 w14.heap.size 1; have zUf2 := hqwc.cells.2 w14.heap.size 2; have zUf3 := hqwc.cells.2 w14.heap.size 3; have zUf4 := hqwc.cells.2 w14.heap.size 4; have zwac0 := hqwc.cells.1 wa.heap.size 0; have zwac1 := hqwc.cells.1 wa.heap.size 1; have zwac2 := hqwc.cells.1 wa.heap.size 2; have zwac3 := hqwc.cells.1 wa.heap.size 3; have zwac4 := hqwc.cells.1 wa.heap.size 4; have zwaf0 := hqwc.cells.2 wa.heap.size 0; have zwaf1 := hqwc.cells.2 wa.heap.size 1; have zwaf2 := hqwc.cells.2 wa.heap.size 2; have zwaf3 := hqwc.cells.2 wa.heap.size 3; have zwaf4 := hqwc.cells.2 wa.heap.size 4; have zwbc0 := hqwc.cells.1 wb.heap.size 0; have zwbc1 := hqwc.cells.1 wb.heap.size 1; have zwbc2 := hqwc.cells.1 wb.heap.size 2; have zwbc3 := hqwc.cells.1 wb.heap.size 3; have zwbc4 := hqwc.cells.1 wb.heap.size 4; have zwbf0 := hqwc.cells.2 wb.heap.size 0; have zwbf1 := hqwc.cells.2 wb.heap.size 1; have zwbf2 := hqwc.cells.2 wb.heap.size 2; have zwbf3 := hqwc.cells.2 wb.heap.size 3; have zwbf4 := hqwc.cells.2 wb.heap.size 4; have szwc := hqwc.size; (try simp only [World.size_alloc, World.size_setCell, World.size_drew] at szwc); (try have lt_wb_wc := Nat.lt_of_succ_le szwc); (try have lt_U_wc := Nat.lt_of_lt_of_le lt_U_wb (Nat.le_of_lt_succ (Nat.lt_succ_of_le szwc))); (try have lt_wa_wc := Nat.lt_of_lt_of_le lt_wa_wb (Nat.le_of_lt_succ (Nat.lt_succ_of_le szwc))); have rc_ := Lib.hid rc; have oc_ := Lib.hid oc; (try simp only [World.size_alloc, World.size_setCell, World.size_drew] at gc); have gc_ := Lib.hid gc; clear rc oc gc))
    · refine hM'.out wc.heap.size _ _ _ _ _ _ _ _ _ _ _ _ _ _ _ _ _ _ _ _ _ _ _ _ _ _ _ _ _ _ _ _ _ _ _ _ _ _ _ _ _ _ _ _ _ _ _ _ _ _ _ _ _ _ _ _ _ _ _ _ _ _ _ _ _ _ _ _ _ _ _ (.slice Ac kc cc) Gc _ ?_
      refine ⟨Chg.k, rc_.out.chg0 (Chg.c), oc_.out.chg0 (Chg.c), fun g hg => by have h1 := gc_.out g hg; omega, by omega, by (first | (simp; done) | (simp; omega)), fun hg => absurd (oc_.out.lt _ hg) (Nat.lt_irrefl _), ?_⟩
      simp [go_sem]
    · refine hM'.out wb.heap.size _ _ _ _ _ _ _ _ _ _ _ _ _ _ _ _ _ _ _ _ _ _ _ _ _ _ _ _ _ _ _ _ _ _ _ _ _ _ _ _ _ _ _ _ _ _ _ _ _ _ _ _ _ _ _ _ _ _ _ _ _ _ _ _ _ _ _ _ _ _ _ (.slice Ac kc cc) Gc _ ?_
      refine ⟨Chg.k, rc_.out.chg (G := [wb.heap.size]) (Chg.g) (fun g hg hg2 => by have h1 := gc_.out g hg; have h2 := List.mem_singleton.1 hg2; omega), oc_.out.chg (G := [wb.heap.size]) (Chg.g) (fun g hg hg2 => by have h1 := gc_.out g hg; have h2 := List.mem_singleton.1 hg2; omega), fun g hg => by have h1 := gc_.out g hg; omega, by omega, by (first | (simp; done) | (simp; omega)), fun hg => by have h1 := gc_.out _ hg; omega, ?_⟩
      go_simp
    · refine hM'.out wa.heap.size _ _ _ _ _ _ _ _ _ _ _ _ _ _ _ _ _ _ _ _ _ _ _ _ _ _ _ _ _ _ _ _ _ _ _ _ _ _ _ _ _ _ _ _ _ _ _ _ _ _ _ _ _ _ _ _ _ _ _ _ _ _ _ _ _ _ _ _ _ _ _ (.slice Ac kc cc) Gc _ ?_
      refine ⟨Chg.k, rc_.out.chg (G := [wa.heap.size]) (Chg.g) (fun g hg hg2 => by have h1 := gc_.out g hg; have h2 := List.mem_singleton.1 hg2; omega), oc_.out.chg (G := [wa.heap.size]) (Chg.g) (fun g hg hg2 => by have h1 := gc_.out g hg; have h2 := List.mem_singleton.1 hg2; omega), fun g hg => by have h1 := gc_.out g hg; omega, by omega, by (first | (simp; done) | (simp; omega)), fun hg => by have h1 := gc_.out _ hg; omega, ?_⟩
      go_simp
    · refine hM'.out w14.heap.size _ _ _ _ _ _ _ _ _ _ _ _ _ _ _ _ _ _ _ _ _ _ _ _ _ _ _ _ _ _ _ _ _ _ _ _ _ _ _ _ _ _ _ _ _ _ _ _ _ _ _ _ _ _ _ _ _ _ _ _ _ _ _ _ _ _ _ _ _ _ _ (.slice Ac kc cc) Gc _ ?_
      refine ⟨Chg.k, rc_.out.chg (G := [w14.heap.size]) (Chg.g) (fun g hg hg2 => by have h1 := gc_.out g hg; have h2 := List.mem_singleton.1 hg2; omega), oc_.out.chg (G := [w14.heap.size]) (Chg.g) (fun g hg hg2 => by have h1 := gc_.out g hg; have h2 := List.mem_singleton.1 hg2; omega), fun g hg => by have h1 := gc_.out g hg; omega, by omega, by (first | (simp; done) | (simp; omega)), fun hg => by have h1 := gc_.out _ hg; omega, ?_⟩
      go_simp
  rintro e act w15 ⟨rfl, B2, y12, y14, y16, y17, y18, y19, y20, y21, y22, y23, y24, y25, y26, y27, y28, y29, y30, y31, y32, y33, y34, y35, y36, y37, y38, y39, y40, y41, y42, y43, y44, y45, y46, y47, y48, y49, y50, y51, y52, y53, y54, y55, y56, y57, y58, y59, y60, y61, y62, y63, y64, y65, y66, y67, y68, y69, y70, y71, y72, y73, y74, y75, y76, y77, y78, y79, y80, y81, y82, y83, y84, vh, Fh_Frames, rfl, hcut⟩
  obtain ⟨hX0, rh0, oh0, gh0, B2a, B2b, B2n, B2c0, B2c1, B2c2, B2c3, B2c4⟩ := hcut
  obtain ⟨Ah_Frames, ch_Frames, rfl, -, -⟩ := rh0.form
  have hs15 := hX0.size
  have hb15_0 := fun o => hX0.cell (p := ⟨w.heap.size, o, none⟩) hl14_0 (by simp)
  have hb15_1 := fun o => hX0.cell (p := ⟨w.heap.size + 1, o, none⟩) hl14_1 (by simp)
  have hb15_2 := fun o => hX0.cell (p := ⟨B1, o, none⟩) hl14_2 (by simp)
  have hb15_3 := fun o => hX0.cell (p := ⟨w4.heap.size, o, none⟩) hl14_3 (by simp)
  have hb15_4 := fun o => hX0.cell (p := ⟨w5.heap.size, o, none⟩) hl14_4 (by simp)
  have hb15_5 := fun o => hX0.cell (p := ⟨w6.heap.size, o, none⟩) hl14_5 (by simp)
  have hl15_0 : w.heap.size < w15.heap.size := by omega
  have hl15_1 : w.heap.size + 1 < w15.heap.size := by omega
  have hl15_2 : B1 < w15.heap.size := by omega
  have hl15_3 : w4.heap.size < w15.heap.size := by omega
  have hl15_4 : w5.heap.size < w15.heap.size := by omega
  have hl15_5 : w6.heap.size < w15.heap.size := by omega
  replace ha_Procs := Lib.hid (ha_Procs.out.chg0 hX0)
  replace hb_Frames := Lib.hid (hb_Frames.out.chg0 hX0)
  replace hw_Frames := Lib.hid (hw_Frames.out.chg0 hX0)
  replace hg_Frames := Lib.hid (hg_Frames.out.chg0 hX0)
  replace Ow := Lib.hid (Ow.out.chg0 hX0)
  replace Og := Lib.hid (Og.out.chg0 hX0)
  have hK15 := Lib.hid (hK14.out.trans0 hX0)
  have Bh : ∀ g ∈ Fh_Frames, w6.heap.size < g ∧ g < w15.heap.size := fun g hg => ⟨by have := gh0 g hg; omega, oh0.lt g hg⟩
  replace Bh := Lib.hid Bh
  have Oh := Lib.hid oh0
  have hh_Frames := Lib.hid rh0
  have hl15_6 : B2 < w15.heap.size := B2b
  obtain ⟨M2, hM2⟩ : ∃ M, w15.heap.size = M + 1 := ⟨w15.heap.size - 1, by omega⟩
  clear hX0 rh0 oh0 gh0
  go_wp2_with fail
  refine (eqRunRun_c x _ _ _ _ _ (hh_Frames.out.chg0 (Chg.d)) (hw_Frames.out.chg0 (Chg.d))).mono ?_
  rintro e w16 ⟨rfl, hm⟩
  have hs16 := hm.size
  repeat (first | rw [World.size_alloc] at hs16 | rw [World.size_setCell] at hs16 | rw [World.size_drew] at hs16 | rw [World.heap_drewN] at hs16)
  have hb16_0 := fun o => hm.cell (p := ⟨w.heap.size, o, none⟩) (show w.heap.size < _ from by (repeat (first | rw [World.size_alloc] | rw [World.size_setCell] | rw [World.size_drew] | rw [World.heap_drewN])); omega) (by simp)
  have hb16_1 := fun o => hm.cell (p := ⟨w.heap.size + 1, o, none⟩) (show w.heap.size + 1 < _ from by (repeat (first | rw [World.size_alloc] | rw [World.size_setCell] | rw [World.size_drew] | rw [World.heap_drewN])); omega) (by simp)
  have hb16_2 := fun o => hm.cell (p := ⟨B1, o, none⟩) (show B1 < _ from by (repeat (first | rw [World.size_alloc] | rw [World.size_setCell] | rw [World.size_drew] | rw [World.heap_drewN])); omega) (by simp)
  have hb16_3 := fun o => hm.cell (p := ⟨w4.heap.size, o, none⟩) (show w4.heap.size < _ from by (repeat (first | rw [World.size_alloc] | rw [World.size_setCell] | rw [World.size_drew] | rw [World.heap_drewN])); omega) (by simp)
  have hb16_4 := fun o => hm.cell (p := ⟨w5.heap.size, o, none⟩) (show w5.heap.size < _ from by (repeat (first | rw [World.size_alloc] | rw [World.size_setCell] | rw [World.size_drew] | rw [World.heap_drewN])); omega) (by simp)
  have hb16_5 := fun o => hm.cell (p := ⟨w6.heap.size, o, none⟩) (show w6.heap.size < _ from by (repeat (first | rw [World.size_alloc] | rw [World.size_setCell] | rw [World.size_drew] | rw [World.heap_drewN])); omega) (by simp)
  have hb16_6 := fun o => hm.cell (p := ⟨B2, o, none⟩) (show B2 < _ from by (repeat (first | rw [World.size_alloc] | rw [World.size_setCell] | rw [World.size_drew] | rw [World.heap_drewN])); omega) (by simp)
  have hl16_0 : w.heap.size < w16.heap.size := by omega
  have hl16_1 : w.heap.size + 1 < w16.heap.size := by omega
  have hl16_2 : B1 < w16.heap.size := by omega
  have hl16_3 : w4.heap.size < w16.heap.size := by omega
  have hl16_4 : w5.heap.size < w16.heap.size := by omega
  have hl16_5 : w6.heap.size < w16.heap.size := by omega
  have hl16_6 : B2 < w16.heap.size := by omega
  have hX : Chg ([]) w15 w16 := Chg.trans (Chg.d) hm (fun g hg => Or.inl hg)
  replace hX := Lib.hid hX
  clear hm
  replace ha_Procs := Lib.hid (ha_Procs.out.chg0 hX.out)
  replace hb_Frames := Lib.hid (hb_Frames.out.chg0 hX.out)
  replace hw_Frames := Lib.hid (hw_Frames.out.chg0 hX.out)
  replace hg_Frames := Lib.hid (hg_Frames.out.chg0 hX.out)
  replace hh_Frames := Lib.hid (hh_Frames.out.chg0 hX.out)
  replace Ow := Lib.hid (Ow.out.chg0 hX.out)
  replace Og := Lib.hid (Og.out.chg0 hX.out)
  replace Oh := Lib.hid (Oh.out.chg0 hX.out)
  have hK16 := Lib.hid ((hK15.out.trans0 hX.out))
  clear hX hK15
  clear Bh Oh hh_Frames
  go_wp2_with fail
  refine (heldRunRun_c x (1) _ _ _ (hg_Frames.out.chg0 (Chg.d)) (by omega) (Int.le_trans hb2 (by omega))).mono ?_
  rintro e w17 ⟨rfl, hm⟩
  have hs17 := hm.size
  repeat (first | rw [World.size_alloc] at hs17 | rw [World.size_setCell] at hs17 | rw [World.size_drew] at hs17 | rw [World.heap_drewN] at hs17)
  have hb17_0 := fun o => hm.cell (p := ⟨w.heap.size, o, none⟩) (show w.heap.size < _ from by (repeat (first | rw [World.size_alloc] | rw [World.size_setCell] | rw [World.size_drew] | rw [World.heap_drewN])); omega) (by simp)
  have hb17_1 := fun o => hm.cell (p := ⟨w.heap.size + 1, o, none⟩) (show w.heap.size + 1 < _ from by (repeat (first | rw [World.size_alloc] | rw [World.size_setCell] | rw [World.size_drew] | rw [World.heap_drewN])); omega) (by simp)
  have hb17_2 := fun o => hm.cell (p := ⟨B1, o, none⟩) (show B1 < _ from by (repeat (first | rw [World.size_alloc] | rw [World.size_setCell] | rw [World.size_drew] | rw [World.heap_drewN])); omega) (by simp)
  have hb17_3 := fun o => hm.cell (p := ⟨w4.heap.size, o, none⟩) (show w4.heap.size < _ from by (repeat (first | rw [World.size_alloc] | rw [World.size_setCell] | rw [World.size_drew] | rw [World.heap_drewN])); omega) (by simp)
  have hb17_4 := fun o => hm.cell (p := ⟨w5.heap.size, o, none⟩) (show w5.heap.size < _ from by (repeat (first | rw [World.size_alloc] | rw [World.size_setCell] | rw [World.size_drew] | rw [World.heap_drewN])); omega) (by simp)
  have hb17_5 := fun o => hm.cell (p := ⟨w6.heap.size, o, none⟩) (show w6.heap.size < _ from by (repeat (first | rw [World.size_alloc] | rw [World.size_setCell] | rw [World.size_drew] | rw [World.heap_drewN])); omega) (by simp)
  have hb17_6 := fun o => hm.cell (p := ⟨B2, o, none⟩) (show B2 < _ from by (repeat (first | rw [World.size_alloc] | rw [World.size_setCell] | rw [World.size_drew] | rw [World.heap_drewN])); omega) (by simp)
  have hl17_0 : w.heap.size < w17.heap.size := by omega
  have hl17_1 : w.heap.size + 1 < w17.heap.size := by omega
  have hl17_2 : B1 < w17.heap.size := by omega
  have hl17_3 : w4.heap.size < w17.heap.size := by omega
  have hl17_4 : w5.heap.size < w17.heap.size := by omega
  have hl17_5 : w6.heap.size < w17.heap.size := by omega
  have hl17_6 : B2 < w17.heap.size := by omega
  have hX : Chg ([]) w16 w17 := Chg.trans (Chg.d) hm (fun g hg => Or.inl hg)
  replace hX := Lib.hid hX
  clear hm
  replace ha_Procs := Lib.hid (ha_Procs.out.chg0 hX.out)
  replace hb_Frames := Lib.hid (hb_Frames.out.chg0 hX.out)
  replace hw_Frames := Lib.hid (hw_Frames.out.chg0 hX.out)
  replace hg_Frames := Lib.hid (hg_Frames.out.chg0 hX.out)
  replace Ow := Lib.hid (Ow.out.chg0 hX.out)
  replace Og := Lib.hid (Og.out.chg0 hX.out)
  have hK17 := Lib.hid ((hK16.out.trans0 hX.out))
  clear hX hK16
  go_wp2
  go_ret
  exact ⟨rfl, hK17.out.trans0 (Chg.d)⟩
end Go.Proofs.YtjakhnhnjhafgaaGreat.Wk
