/-
  Contracts of WrkNew and CrdFall, the program's and the reference's.
-/
import Derived.Test.YtaiinlhobcclcaaBase
namespace Go.Proofs.Ytaiinlhobcclcaa.Wk
open Go Go.RowKit Go.Deep Ow
open Rp (R sz)
open Zr (zero zcells zr)

abbrev wnew : Value := .agg #[.bool true, .bool false, .int .i64 0, .int .i64 0, .int .i64 0, .slice none 0 0, .int .i64 0, .int .i64 0, .slice none 0 0, .slice none 0 0]

theorem specWrkNew_c (w : World) : Calls Try.prog 5 #[] w fun e w' => e = .returned wnew ∧ Chg [] w w' := by
  go_enter Try.func5, Try.ntmps5
  go_wp2
  exact bodyPost_ret (v := wnew) (by simp [results, Try.results5, go_sem]) rfl ⟨rfl, by repeat (first | with_reducible exact Chg.refl _ _ | with_reducible refine Chg.alloc ?_ _ | with_reducible refine Chg.setCell ?_ (Or.inr (by simp)) _)⟩

theorem implWrkNew_c (w : World) : Calls Try.prog 6 #[] w fun e w' => e = .returned wnew ∧ Chg [] w w' := by
  go_enter Try.func6, Try.ntmps6
  go_wp2
  exact bodyPost_ret (v := wnew) (by simp [results, Try.results6, go_sem]) rfl ⟨rfl, by repeat (first | with_reducible exact Chg.refl _ _ | with_reducible refine Chg.alloc ?_ _ | with_reducible refine Chg.setCell ?_ (Or.inr (by simp)) _)⟩

set_option maxRecDepth 100000 in
set_option maxHeartbeats 1000000 in
theorem copyBytes_c (xs : List UInt8) (a : Value) (F : List Nat) (w : World) (ha : RL w xs a F) (hl : (xs.length : Int) ≤ 1073741824) :
    Calls Try.prog 33 #[a] w (Fresh xs w) := by
  obtain ⟨i0, hi, hz0, hz1, hz2⟩ := info_parts (show (Try.prog.info? 5).map (fun i => (i.zero, i.size, i.bytes)) = some (some (.int .u8 0), 1, 1) by kernel_rfl)
  go_enter Try.func33, Try.ntmps33
  go_wp2_with (at_builtin; refine wpList_append_RL rfl _ _ 40 rfl w.heap.size 5 i0 (.int .u8 0) 1 1 Try.underlying40 hi hz0 hz1 hz2 rfl (by decide) (.slice none 0 0) 0 [] rfl (ownsRow_nil _ _ _ _) xs a F rfl ha rfl ?_ ?_ ?_ ?_; (unfold maxLen; omega); omega; omega; intro v' w1 news C Fs hown hcs hg hnil)
  go_ret
  rw [List.nil_append, Nat.zero_add] at hown
  obtain ⟨G, g1, g2, g3⟩ := RL.of_cells (ys := xs) hown rfl ⟨hcs.len, hcs.at_, hcs.elem, fun i hi g hg => by have := (R_u8.1 (hcs.elem i hi)).2; rw [this] at hg; exact hg, hcs.one⟩ rfl
  exact Fresh.mk_ ((Chg.refl [] w).grown hg (by simp [Value.ownBlock])) g1 g2 g3

/-- what CrdFall hands back -/
def fellV (v : Value) : Value := .agg #[.bool false, .int .i64 0, .int .i64 0, .int .i64 0, .slice none 0 0, .slice none 0 0, .slice none 0 0, .int .i64 0, .int .i64 0, .slice none 0 0, v]
def Fell (xs : List UInt8) (w : World) (e : Ending) (w' : World) : Prop := ∃ v G, e = .returned (fellV v) ∧ Chg [] w w' ∧ RL w' xs v G ∧ Own w' G ∧ ∀ g ∈ G, w.heap.size ≤ g

set_option maxRecDepth 100000 in
set_option maxHeartbeats 1000000 in
theorem implCrdFall_c (x : CrdCoord) (vDone vCerts vLeases vSites vLog : Value) (F : List Nat) (w : World) (ha : RL w x.Log vLog F) (hl : (x.Log.length : Int) ≤ 1073741824) :
    Calls Try.prog 13 #[.agg #[.bool x.Up, .int .i64 x.Epoch, .int .i64 x.Seq, .int .i64 x.Clock, vDone, vCerts, vLeases, .int .i64 x.Verdict.Kind, .int .i64 x.Verdict.Line, vSites, vLog]] w (Fell x.Log w) := by
  go_enter Try.func13, Try.ntmps13
  go_wp2_with fail
  refine (copyBytes_c x.Log _ _ _ (ha.chg0 (by repeat (first | with_reducible exact Chg.refl _ _ | with_reducible refine Chg.alloc ?_ _))) hl).mono ?_
  rintro e w1 ⟨v, G, rfl, hc, hr, ho, hg⟩
  obtain ⟨A, c, rfl, -, -⟩ := hr.form
  obtain ⟨hcl, hfz⟩ := hc.cells
  have hz := hc.size
  try simp only [World.size_alloc] at hz
  have hza : w.heap.size < w1.heap.size := by omega
  have hzb : w.heap.size + 1 < w1.heap.size := by omega
  go_wp2
  refine bodyPost_ret (v := fellV (.slice A x.Log.length c)) (by simp [results, Try.results13, go_sem, hcl, hza, hzb, fellV]) rfl ⟨_, G, rfl, by repeat (first | with_reducible exact Chg.refl _ _ | with_reducible refine Chg.alloc ?_ _ | with_reducible refine Chg.setCell ?_ (Or.inr (by first | (simp; done) | (simp; omega))) _ | with_reducible refine Chg.trans0 ?_ hc), RL.chg (G := [w.heap.size + 1]) hr (by repeat (first | with_reducible exact Chg.refl _ _ | with_reducible refine Chg.alloc ?_ _ | with_reducible refine Chg.setCell ?_ (Or.inl (by first | (simp; done) | (simp; omega))) _)) (fun g h1 h2 => by have := hg g h1; simp at this h2; omega), Own.chg (G := [w.heap.size + 1]) ho (by repeat (first | with_reducible exact Chg.refl _ _ | with_reducible refine Chg.alloc ?_ _ | with_reducible refine Chg.setCell ?_ (Or.inl (by first | (simp; done) | (simp; omega))) _)) (fun g h1 h2 => by have := hg g h1; simp at this h2; omega), fun g h1 => by have := hg g h1; simp at this; omega⟩

set_option maxRecDepth 100000 in
set_option maxHeartbeats 1000000 in
theorem specCrdFall_c (x : CrdCoord) (vDone vCerts vLeases vSites vLog : Value) (F : List Nat) (w : World) (ha : RL w x.Log vLog F) (hl : (x.Log.length : Int) ≤ 1073741824) :
    Calls Try.prog 11 #[.agg #[.bool x.Up, .int .i64 x.Epoch, .int .i64 x.Seq, .int .i64 x.Clock, vDone, vCerts, vLeases, .int .i64 x.Verdict.Kind, .int .i64 x.Verdict.Line, vSites, vLog]] w (Fell x.Log w) := by
  obtain ⟨i0, hi, hz0, hz1, hz2⟩ := info_parts (show (Try.prog.info? 5).map (fun i => (i.zero, i.size, i.bytes)) = some (some (.int .u8 0), 1, 1) by kernel_rfl)
  go_enter Try.func11, Try.ntmps11
  go_wp2_with (at_builtin; go_must (refine wpList_append_RL rfl _ _ 40 rfl (w.heap.size + 2) 5 i0 (.int .u8 0) 1 1 Try.underlying40 hi hz0 hz1 hz2 rfl (by decide) (.slice (some ⟨w.heap.size + 1 + 1, 0, none⟩) 0 0) 0 [] rfl ?_ x.Log vLog F rfl (ha.chg0 (by repeat (first | with_reducible exact Chg.refl _ _ | with_reducible refine Chg.alloc ?_ _))) rfl ?_ ?_ ?_ ?_; (have := ownsRow_empty ((w.alloc (.cells #[.bool x.Up, .int .i64 x.Epoch, .int .i64 x.Seq, .int .i64 x.Clock, vDone, vCerts, vLeases, .int .i64 x.Verdict.Kind, .int .i64 x.Verdict.Line, vSites, vLog] 50)).alloc (.cells #[.bool false, .int .i64 0, .int .i64 0, .int .i64 0, .slice none 0 0, .slice none 0 0, .slice none 0 0, .int .i64 0, .int .i64 0, .slice none 0 0, .slice none 0 0] 50)) (w.heap.size + 2) 5 1 (by simp only [World.size_alloc]; omega); simpa only [World.size_alloc] using this); (unfold maxLen; omega); omega; (simp only [World.size_alloc]; omega); intro v' w1 news C Fs hown hcs hg hnil; rw [List.nil_append, Nat.zero_add] at hown; have hG := RL.of_cells (ys := x.Log) hown rfl ⟨hcs.len, hcs.at_, hcs.elem, fun i hi g hg => by have := (R_u8.1 (hcs.elem i hi)).2; rw [this] at hg; exact hg, hcs.one⟩ rfl; obtain ⟨G, g1, g2, g3⟩ := hG; have hform := g1.form; obtain ⟨A, c, rfl, -, -⟩ := hform; have hcl := fun o => World.cell?_of_block (a := ⟨w.heap.size + 1, o, none⟩) (hg.block (w.heap.size + 1) (by first | (simp; done) | (simp; omega)) (by simp [Value.ownBlock])); have hfz := fun o => World.frozen?_of_block (a := ⟨w.heap.size + 1, o, none⟩) (hg.block (w.heap.size + 1) (by first | (simp; done) | (simp; omega)) (by simp [Value.ownBlock])); have hgl := g2.lt; have hgs := hg.size; (simp only [World.size_alloc] at hgs); have HG := Lib.hid hg; have H1 := Lib.hid g1; have H2 := Lib.hid g2; have H3 := Lib.hid g3; clear hg g1 g2 g3 hcs hown hnil hgl ha))
  have hgG : ∀ g ∈ G, w.heap.size ≤ g ∧ g ≠ w.heap.size + 1 := by
    intro g h1
    have := H3.out g h1
    omega
  refine bodyPost_ret (v := fellV (.slice A x.Log.length c)) (by simp [results, Try.results11, go_sem, hcl, fellV]) rfl ⟨_, G, rfl, by repeat (first | with_reducible exact Chg.refl _ _ | with_reducible refine Chg.alloc ?_ _ | with_reducible refine Chg.setCell ?_ (Or.inr (by first | (simp; done) | (simp; omega))) _ | with_reducible refine Chg.grown ?_ HG.out (fun k hk => by simp [Value.ownBlock] at hk; omega)), RL.chg (G := [w.heap.size + 1]) H1.out (by repeat (first | with_reducible exact Chg.refl _ _ | with_reducible refine Chg.setCell ?_ (Or.inl (by first | (simp; done) | (simp; omega))) _)) (fun g h1 h2 => by have := hgG g h1; simp at h2; omega), Own.chg (G := [w.heap.size + 1]) H2.out (by repeat (first | with_reducible exact Chg.refl _ _ | with_reducible refine Chg.setCell ?_ (Or.inl (by first | (simp; done) | (simp; omega))) _)) (fun g h1 h2 => by have := hgG g h1; simp at h2; omega), fun g h1 => (hgG g h1).1⟩
end Go.Proofs.Ytaiinlhobcclcaa.Wk
