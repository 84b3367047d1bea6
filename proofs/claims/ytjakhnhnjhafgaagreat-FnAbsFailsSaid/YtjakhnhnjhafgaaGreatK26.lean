/- A part of the proof. -/
import Derived.Test.YtjakhnhnjhafgaaGreatK25
import Derived.Test.YtjakhnhnjhafgaaGreatK01
import Derived.Test.YtjakhnhnjhafgaaGreatK24
import Derived.Test.YtjakhnhnjhafgaaGreatK05
import Derived.MapKept
import Derived.WideMake
set_option linter.unusedVariables false
set_option linter.unusedSimpArgs false
namespace Ow
open Go Go.RowKit Go.Deep
inductive All2 {α β : Type} (r : α → β → Prop) : List α → List β → Prop
 | nil : All2 r [] []
 | cons {a b l m} : r a b → All2 r l m → All2 r (a :: l) (b :: m)
theorem All2.len {α β : Type} {r : α → β → Prop} {l : List α} {m : List β} (h : All2 r l m) : l.length = m.length := by
 induction h with | nil => rfl | cons _ _ ih => simp [ih]
theorem All2.at {α β : Type} {r : α → β → Prop} {l : List α} {m : List β} (h : All2 r l m) : ∀ (k : Nat) (a : α) (b : β), l[k]? = some a → m[k]? = some b → r a b := by
 induction h with
 | nil => intro k a b h; simp at h
 | cons h0 _ ih =>
   intro k a b ha hb
   cases k with
   | zero => cases ha; cases hb; exact h0
   | succ k => exact ih k a b ha hb
theorem at2_flat {α : Type} {sz : Nat} : ∀ {els : List (List α)} (_ : ∀ r ∈ els, r.length = sz) {i j : Nat} {x : α}, at2 els i j = some x → els.flatten[i * sz + j]? = some x := by
 intro els
 induction els with
 | nil => intro _ i j x h; simp [at2] at h
 | cons r els ih =>
   intro hr i j x h
   have hl := hr r (by simp)
   cases i with
   | zero =>
     simp only [at2, List.getElem?_cons_zero, Option.bind_some] at h
     have hj := (List.getElem?_eq_some_iff.1 h).1
     rw [List.flatten_cons, Nat.zero_mul, Nat.zero_add, List.getElem?_append_left hj]; exact h
   | succ i =>
     have := ih (fun r hr' => hr r (by simp [hr'])) (i := i) (j := j) (x := x) (by simpa [at2] using h)
     rw [List.flatten_cons, List.getElem?_append_right (by rw [hl, Nat.add_mul]; omega), hl]
     rw [show (i + 1) * sz + j - sz = i * sz + j by rw [Nat.add_mul]; omega]
     exact this
theorem RelD.ofCells {RO : Nat → Prop} {w : World} {b sz : Nat} {els : List (List D)} {cs : List Value} (hRO : RO b) (hcell : ∀ k v, cs[k]? = some v → w.cell? ⟨b, k, none⟩ = some v) (hr : ∀ r ∈ els, r.length = sz) (hn : els.length ≤ maxLen)
 (one : ∀ v ∈ cs, v.oneCell' = true) (h : All2 (RelD RO w) els.flatten cs) : RelD RO w (.sl sz els) (.slice (some ⟨b, 0, none⟩) els.length els.length) := by
 have key : ∀ i j x, at2 els i j = some x → cs[i * sz + j]? = some (cs.getD (i * sz + j) undef) := fun i j x hx => by
  have h1 := at2_flat hr hx
  have h2 := (List.getElem?_eq_some_iff.1 h1).1
  rw [h.len] at h2
  rw [List.getD_eq_getElem?_getD, List.getElem?_eq_getElem h2]; rfl
 exact .sl sz els b 0 els.length (fun i j => cs.getD (i * sz + j) undef) hRO (Nat.le_refl _) hn hr
  (fun i j x hx => by rw [Nat.zero_add]; exact hcell _ _ (key i j x hx)) (fun i j x hx => one _ (List.mem_of_getElem? (key i j x hx))) (fun i j x hx => h.at _ _ _ (at2_flat hr hx) (key i j x hx))
end Ow
namespace Go.Proofs.YtjakhnhnjhafgaaGreat.Wk
open Go Go.RowKit Go.Deep Ow
def PL (i : InsIns) (t : Int) : List (List D) := [[.lit (.int .i64 (-32768)), .lit (.int .i64 32767), .sl 8 [dInsIns ⟨i.Op, i.D, i.A, i.B, i.Rel, i.Lo, i.Hi, t⟩, dInsIns ⟨12, 0, 0, 0, 0, 0, 0, 0⟩]]]
def RetLone (i : InsIns) (t : Int) (w : World) (e : Ending) (w' : World) : Prop :=
 ∃ (v : Value) (G : List Nat), e = .returned (.agg #[v]) ∧ Chg [] w w' ∧ (∀ g ∈ G, w.heap.size ≤ g) ∧ (∀ g ∈ G, g < w'.heap.size) ∧ RelD (· ∈ G) w' (.sl 3 (PL i t)) v
set_option maxRecDepth 100000 in
set_option maxHeartbeats 4000000 in
theorem owLone10_c (o d a b rel lo hi to : Int) (w : World) (h : o = 10) : Calls Tryz.prog 13 #[insV ⟨o, d, a, b, rel, lo, hi, to⟩] w (RetLone ⟨o, d, a, b, rel, lo, hi, to⟩ 0 w) := by
 subst h
 go_enter Tryz.func13, Tryz.ntmps13
 go_wp2
 refine bodyPost_ret (v := .agg #[.slice (some ⟨w.heap.size + 1 + 1 + 1 + 1, 0, none⟩) 1 1]) (by simp [results, Tryz.results13, go_sem]) rfl ⟨_, [w.heap.size + 1 + 1 + 1, w.heap.size + 1 + 1 + 1 + 1], rfl, Chg.q, by simp; omega, by simp, ?_⟩
 refine RelD.ofCells (cs := [.int .i64 (-32768), .int .i64 32767, .slice (some ⟨w.heap.size + 1 + 1 + 1, 0, none⟩) 2 2]) (by simp) (fun k v hk => by simp [go_sem, hk]) (by simp [PL]) (by simp [PL, maxLen]) (by simp [Value.oneCell']) (.cons (.lit _) (.cons (.lit _) (.cons ?_ .nil)))
 exact RelD.ofCells (els := [dInsIns ⟨10, d, a, b, rel, lo, hi, 0⟩, dInsIns ⟨12, 0, 0, 0, 0, 0, 0, 0⟩]) (cs := [.int .i64 10, .int .i64 d, .int .i64 a, .int .i64 b, .int .i64 rel, .int .i64 lo, .int .i64 hi, .int .i64 0, .int .i64 12, .int .i64 0, .int .i64 0, .int .i64 0, .int .i64 0, .int .i64 0, .int .i64 0, .int .i64 0]) (by simp) (fun k v hk => by simp [go_sem, hk]) (by simp [dInsIns]) (by simp [maxLen]) (by simp [Value.oneCell']) (by repeat' (first | exact .lit _ | constructor))
set_option maxRecDepth 100000 in
set_option maxHeartbeats 4000000 in
theorem owLone8_c (o d a b rel lo hi to : Int) (w : World) (h : o = 8) : Calls Tryz.prog 13 #[insV ⟨o, d, a, b, rel, lo, hi, to⟩] w (RetLone ⟨o, d, a, b, rel, lo, hi, to⟩ 1 w) := by
 subst h
 go_enter Tryz.func13, Tryz.ntmps13
 go_wp2
 refine bodyPost_ret (v := .agg #[.slice (some ⟨w.heap.size + 1 + 1 + 1 + 1, 0, none⟩) 1 1]) (by simp [results, Tryz.results13, go_sem]) rfl ⟨_, [w.heap.size + 1 + 1 + 1, w.heap.size + 1 + 1 + 1 + 1], rfl, Chg.q, by simp; omega, by simp, ?_⟩
 refine RelD.ofCells (cs := [.int .i64 (-32768), .int .i64 32767, .slice (some ⟨w.heap.size + 1 + 1 + 1, 0, none⟩) 2 2]) (by simp) (fun k v hk => by simp [go_sem, hk]) (by simp [PL]) (by simp [PL, maxLen]) (by simp [Value.oneCell']) (.cons (.lit _) (.cons (.lit _) (.cons ?_ .nil)))
 exact RelD.ofCells (els := [dInsIns ⟨8, d, a, b, rel, lo, hi, 1⟩, dInsIns ⟨12, 0, 0, 0, 0, 0, 0, 0⟩]) (cs := [.int .i64 8, .int .i64 d, .int .i64 a, .int .i64 b, .int .i64 rel, .int .i64 lo, .int .i64 hi, .int .i64 1, .int .i64 12, .int .i64 0, .int .i64 0, .int .i64 0, .int .i64 0, .int .i64 0, .int .i64 0, .int .i64 0]) (by simp) (fun k v hk => by simp [go_sem, hk]) (by simp [dInsIns]) (by simp [maxLen]) (by simp [Value.oneCell']) (by repeat' (first | exact .lit _ | constructor))
set_option maxRecDepth 100000 in
set_option maxHeartbeats 4000000 in
theorem owLone9_c (o d a b rel lo hi to : Int) (w : World) (h : o = 9) : Calls Tryz.prog 13 #[insV ⟨o, d, a, b, rel, lo, hi, to⟩] w (RetLone ⟨o, d, a, b, rel, lo, hi, to⟩ 1 w) := by
 subst h
 go_enter Tryz.func13, Tryz.ntmps13
 go_wp2
 refine bodyPost_ret (v := .agg #[.slice (some ⟨w.heap.size + 1 + 1 + 1 + 1, 0, none⟩) 1 1]) (by simp [results, Tryz.results13, go_sem]) rfl ⟨_, [w.heap.size + 1 + 1 + 1, w.heap.size + 1 + 1 + 1 + 1], rfl, Chg.q, by simp; omega, by simp, ?_⟩
 refine RelD.ofCells (cs := [.int .i64 (-32768), .int .i64 32767, .slice (some ⟨w.heap.size + 1 + 1 + 1, 0, none⟩) 2 2]) (by simp) (fun k v hk => by simp [go_sem, hk]) (by simp [PL]) (by simp [PL, maxLen]) (by simp [Value.oneCell']) (.cons (.lit _) (.cons (.lit _) (.cons ?_ .nil)))
 exact RelD.ofCells (els := [dInsIns ⟨9, d, a, b, rel, lo, hi, 1⟩, dInsIns ⟨12, 0, 0, 0, 0, 0, 0, 0⟩]) (cs := [.int .i64 9, .int .i64 d, .int .i64 a, .int .i64 b, .int .i64 rel, .int .i64 lo, .int .i64 hi, .int .i64 1, .int .i64 12, .int .i64 0, .int .i64 0, .int .i64 0, .int .i64 0, .int .i64 0, .int .i64 0, .int .i64 0]) (by simp) (fun k v hk => by simp [go_sem, hk]) (by simp [dInsIns]) (by simp [maxLen]) (by simp [Value.oneCell']) (by repeat' (first | exact .lit _ | constructor))
set_option maxRecDepth 100000 in
set_option maxHeartbeats 4000000 in
theorem owLone0_c (o d a b rel lo hi to : Int) (w : World) (h1 : (o == 8) = false) (h2 : (o == 9) = false) (h3 : (o == 10) = false) : Calls Tryz.prog 13 #[insV ⟨o, d, a, b, rel, lo, hi, to⟩] w (RetLone ⟨o, d, a, b, rel, lo, hi, to⟩ to w) := by
 skip
 go_enter Tryz.func13, Tryz.ntmps13
 go_wp2
 refine bodyPost_ret (v := .agg #[.slice (some ⟨w.heap.size + 1 + 1 + 1 + 1, 0, none⟩) 1 1]) (by simp [results, Tryz.results13, go_sem]) rfl ⟨_, [w.heap.size + 1 + 1 + 1, w.heap.size + 1 + 1 + 1 + 1], rfl, Chg.q, by simp; omega, by simp, ?_⟩
 refine RelD.ofCells (cs := [.int .i64 (-32768), .int .i64 32767, .slice (some ⟨w.heap.size + 1 + 1 + 1, 0, none⟩) 2 2]) (by simp) (fun k v hk => by simp [go_sem, hk]) (by simp [PL]) (by simp [PL, maxLen]) (by simp [Value.oneCell']) (.cons (.lit _) (.cons (.lit _) (.cons ?_ .nil)))
 exact RelD.ofCells (els := [dInsIns ⟨o, d, a, b, rel, lo, hi, to⟩, dInsIns ⟨12, 0, 0, 0, 0, 0, 0, 0⟩]) (cs := [.int .i64 o, .int .i64 d, .int .i64 a, .int .i64 b, .int .i64 rel, .int .i64 lo, .int .i64 hi, .int .i64 to, .int .i64 12, .int .i64 0, .int .i64 0, .int .i64 0, .int .i64 0, .int .i64 0, .int .i64 0, .int .i64 0]) (by simp) (fun k v hk => by simp [go_sem, hk]) (by simp [dInsIns]) (by simp [maxLen]) (by simp [Value.oneCell']) (by repeat' (first | exact .lit _ | constructor))
theorem owLone_e {i0 i1 i2 i3 i4 i5 i6 i7 : Int} {r : PrgProg} (h : owLone ⟨i0, i1, i2, i3, i4, i5, i6, i7⟩ = r) : EC Tryz.prog 13 0 [.agg [CI i0, CI i1, CI i2, CI i3, CI i4, CI i5, CI i6, CI i7]] [] (.agg [.d (.sl 3 (r.Procs.map dPrcProc))]) [] 0 := by
 subst h
 refine EC.ofMem (FnIs.ok (fn := Tryz.f13) ⟨by kernel_rfl, by kernel_rfl, rfl⟩) (fun ρ RO w vs hro hr => ?_)
 rw [hr.vals (us := [insV ⟨i0, i1, i2, i3, i4, i5, i6, i7⟩]) rfl]
 have key : ∃ t, (owLone ⟨i0, i1, i2, i3, i4, i5, i6, i7⟩).Procs.map dPrcProc = PL ⟨i0, i1, i2, i3, i4, i5, i6, i7⟩ t ∧ Calls Tryz.prog 13 #[insV ⟨i0, i1, i2, i3, i4, i5, i6, i7⟩] w (RetLone ⟨i0, i1, i2, i3, i4, i5, i6, i7⟩ t w) := by
  by_cases h10 : i0 = 10
  · exact ⟨0, by simp [owLone, loneIns, PL, dPrcProc, h10], owLone10_c _ _ _ _ _ _ _ _ w h10⟩
  by_cases h8 : i0 = 8
  · exact ⟨1, by simp [owLone, loneIns, PL, dPrcProc, h8], owLone8_c _ _ _ _ _ _ _ _ w h8⟩
  by_cases h9 : i0 = 9
  · exact ⟨1, by simp [owLone, loneIns, PL, dPrcProc, h9], owLone9_c _ _ _ _ _ _ _ _ w h9⟩
  · exact ⟨i7, by simp [owLone, loneIns, PL, dPrcProc, h8, h9, h10], owLone0_c _ _ _ _ _ _ _ _ w (by simp [h8]) (by simp [h9]) (by simp [h10])⟩
 obtain ⟨t, he, hc⟩ := key
 rw [he]
 refine hc.mono ?_
 rintro e w' ⟨v, G, rfl, hch, hge, hlt, hd⟩
 refine ⟨_, G, rfl, hch, fun g hg => .inr (hge g hg), hlt, .agg _ [v] rfl ?_ ?_⟩
 · cases hd with
   | sl => simp [Value.oneCell']
 · intro i c u hc hu
   match i, hc, hu with
   | 0, hc, hu => cases hc; cases hu; exact .d _ _ (hd.mono (fun b hb => .inr hb) (fun _ _ => rfl))
end Go.Proofs.YtjakhnhnjhafgaaGreat.Wk
namespace Go.Proofs.YtjakhnhnjhafgaaGreat.Wk
open Go Go.RowKit Go.Deep Ow
set_option maxRecDepth 100000 in
set_option maxHeartbeats 4000000 in
theorem owFrameOf_c (a b : Int) (A1 A2 : Option Addr) (n1 c1 n2 c2 : Nat) (w : World) : Calls Tryz.prog 15 #[.int .i64 a, .int .i64 b, .slice A1 n1 c1, .slice A2 n2 c2] w fun e w' =>
 e = .returned (.agg #[.int .i64 1, .slice (some ⟨w.heap.size + 1, 0, none⟩) 1 1, .int .i64 0, .int .i64 0, .int .i64 0]) ∧ Chg [] w w' ∧ w.heap.size + 1 < w'.heap.size ∧ ∀ k v, [.int .i64 a, .int .i64 b, .slice A1 n1 c1, .slice A2 n2 c2][k]? = some v → w'.cell? ⟨w.heap.size + 1, k, none⟩ = some v := by
 go_enter Tryz.func15, Tryz.ntmps15
 go_wp2
 refine bodyPost_ret (v := .agg #[.int .i64 1, .slice (some ⟨w.heap.size + 1, 0, none⟩) 1 1, .int .i64 0, .int .i64 0, .int .i64 0]) (by simp [results, Tryz.results15, go_sem]) rfl ⟨rfl, by (repeat (first | with_reducible exact Chg.refl _ _ | with_reducible refine Chg.setCell ?_ (Or.inr (by first | (simp; done) | (simp; omega))) _ | with_reducible refine Chg.drewN ?_ _ | with_reducible refine Chg.drew ?_ | with_reducible refine Chg.alloc ?_ _)), by simp, fun k v hk => by simp [go_sem, hk]⟩
theorem own_data {ρ : Pl} {RO : Nat → Prop} {w : World} {p : Ow.Place} {ns : List Int} {G : List Nat} {cap : Nat} (h : RelB ρ RO w p (.c 1 (ns.map fun n => [CI n])) G) (hn : ns ≠ []) (hc : ns.length ≤ cap) (hm : cap ≤ maxLen) :
 p.blk ∈ G ∧ RelD (· = p.blk) w (.sl 1 (ns.map dInt)) (.slice (some ⟨p.blk, 0, none⟩) ns.length cap) := by
 have hat : ∀ (i j : Nat) (x : D), at2 (ns.map dInt) i j = some x → at2 (ns.map fun n => [CI n]) i j = some (C.d x) := fun i j x hx => by
  simp only [at2, List.getElem?_map] at hx ⊢
  cases hi : ns[i]? with
  | none => rw [hi] at hx; simp at hx
  | some n =>
    rw [hi] at hx
    simp only [Option.map_some, Option.bind_some, dInt] at hx ⊢
    cases j with
    | zero => cases hx; rfl
    | succ j => simp at hx
 generalize hr : (ns.map fun n => [CI n]) = rows at h hat
 cases h with
 | c sz rows cs t hb hs hr2 U cell one rel =>
   refine ⟨by simp, ?_⟩
   have := RelD.sl (RO := (· = p.blk)) (w := w) 1 (ns.map dInt) p.blk 0 cap U rfl (by simpa using hc) hm (by simp [dInt]) (fun i j x hx => by
    have := cell i j _ (hat i j x hx)
    simp only [World.cell?, hb, Nat.zero_add]
    exact this) (fun i j x hx => one i j _ (hat i j x hx)) (fun i j x hx => by
    have h1 := rel i j _ (hat i j x hx)
    obtain ⟨n, hn⟩ : ∃ n : Int, x = .lit (.int .i64 n) := by
     simp only [at2, List.getElem?_map] at hx
     cases hi : ns[i]? with
     | none => rw [hi] at hx; simp at hx
     | some n =>
       rw [hi] at hx
       cases j with
       | zero => cases hx; exact ⟨n, rfl⟩
       | succ j => simp [dInt] at hx
    subst hn
    rw [h1.lit]
    exact .lit _)
   simpa using this
 | v sz hs => exact absurd (List.map_eq_nil_iff.1 hr) hn
theorem RelT.vs4 {ρ : Pl} {RO : Nat → Prop} {w : World} {a b c d : C} {vs : Array Value} (h : RelT ρ RO w [a, b, c, d] vs) : ∃ x y z t, vs = #[x, y, z, t] ∧ RelC ρ RO w a x ∧ RelC ρ RO w b y ∧ RelC ρ RO w c z ∧ RelC ρ RO w d t := by
 obtain ⟨hl, hr⟩ := h
 obtain ⟨vs⟩ := vs
 match vs, hl, hr with | [x, y, z, t], _, hr => exact ⟨x, y, z, t, rfl, hr 0 a x rfl rfl, hr 1 b y rfl rfl, hr 2 c z rfl rfl, hr 3 d t rfl rfl⟩
theorem RelD.form {RO : Nat → Prop} {w : World} {sz : Nat} {els : List (List D)} {v : Value} (h : RelD RO w (.sl sz els) v) : ∃ A cap, v = .slice A els.length cap := by
 cases h with
 | nil sz A cap h => exact ⟨A, cap, rfl⟩
 | sl => exact ⟨_, _, rfl⟩
theorem owFrameOf_h {a b : Int} {vs ns : List Int} (hn : ns ≠ []) : EC Tryz.prog 15 1 [CI a, CI b, .d (.sl 1 (vs.map dInt)), .osl 0 1 0 ns.length] [(0, .c 1 (ns.map fun n => [CI n]))]
 (.agg [CI 1, .d (.sl 4 ([(⟨a, b, vs, ns⟩ : RunFrame)].map dRunFrame)), CI 0, CI 0, CI 0]) [] 1 := by
 refine ⟨FnIs.ok (fn := Tryz.f15) ⟨by kernel_rfl, by kernel_rfl, rfl⟩, Nat.le_refl _, fun ρ F RO w xs hs hρ hr => ?_⟩
 obtain ⟨p, hp, hB⟩ := hs.blk 0 _ rfl
 obtain ⟨x0, x1, x2, x3, rfl, h0, h1, h2, h3⟩ := RelT.vs4 hr
 obtain rfl := h0.lit
 obtain rfl := h1.lit
 have h2 := h2.dd
 obtain ⟨A1, c1, rfl⟩ := RelD.form h2
 have h3' : ∃ cap, x3 = .slice (some ⟨p.blk, 0, none⟩) ns.length cap ∧ ns.length ≤ cap ∧ cap ≤ maxLen := by
  generalize hm : ns.length = m at h3
  cases h3 with
  | osl _ _ _ _ cap p' hp' hn' hc' hm' =>
    rw [hp] at hp'
    cases hp'
    exact ⟨cap, rfl, hn', hc'⟩
  | osln _ _ _ A => exact absurd (List.eq_nil_of_length_eq_zero hm) hn
 obtain ⟨cap, rfl, hc1, hc2⟩ := h3'
 obtain ⟨hmem, hD⟩ := own_data hB hn hc1 hc2
 have hlt : p.blk < w.heap.size := hB.lt _ hmem
 refine (owFrameOf_c a b A1 _ (vs.map dInt).length c1 ns.length cap w).mono ?_
 rintro e w' ⟨rfl, hch, hsz, hcell⟩
 refine ⟨ρ, F, fun g => RO g ∨ g = p.blk ∨ g = w.heap.size + 1, _, rfl, ⟨(ChgP.of hch).mono (fun b hb => by cases hb), fun _ _ => rfl, fun _ h => .inl h, fun g hg => ?_,
  ⟨fun l B h => (by cases h), fun l l' B B' _ h => (by cases h), fun l B h => (by cases h), fun g hg => ?_⟩, fun g ⟨l, B, h, _⟩ => (by cases h)⟩, .agg _ [_, _, _, _, _] rfl (by simp [Value.oneCell']) ?_, hρ⟩
 · rcases hg with h | rfl | rfl
   · exact .inl h
   · exact .inr (.inl ⟨0, _, rfl, hmem⟩)
   · exact .inr (.inr (Nat.le_succ _))
 · rcases hg with h | rfl | rfl
   · exact Nat.lt_of_lt_of_le (hs.ro g h) hch.size
   · exact Nat.lt_of_lt_of_le hlt hch.size
   · exact hsz
 · have hF : RelD (fun g => RO g ∨ g = p.blk ∨ g = w.heap.size + 1) w' (.sl 4 [dRunFrame ⟨a, b, vs, ns⟩]) (.slice (some ⟨w.heap.size + 1, 0, none⟩) 1 1) := by
    refine RelD.ofCells (els := [dRunFrame ⟨a, b, vs, ns⟩]) (.inr (.inr rfl)) hcell (by simp [dRunFrame]) (by simp [maxLen]) (by simp [Value.oneCell']) (.cons (.lit _) (.cons (.lit _) (.cons ?_ (.cons ?_ .nil))))
    · exact h2.mono (fun g hg => .inl hg) (fun g hg => hch.block g (hs.ro g hg) (by simp))
    · exact hD.mono (fun g hg => .inr (.inl hg)) (fun g hg => hch.block g (hg ▸ hlt) (by simp))
   intro i c u hc hu
   match i, hc, hu with
   | 0, hc, hu => cases hc; cases hu; exact .d _ _ (.lit _)
   | 1, hc, hu => cases hc; cases hu; exact .d _ _ hF
   | 2, hc, hu => cases hc; cases hu; exact .d _ _ (.lit _)
   | 3, hc, hu => cases hc; cases hu; exact .d _ _ (.lit _)
   | 4, hc, hu => cases hc; cases hu; exact .d _ _ (.lit _)
end Go.Proofs.YtjakhnhnjhafgaaGreat.Wk
namespace Oq
open Go Go.RowKit Go.Deep
open Ow (Chg InsIns PrcProc PrgProg ItvItv AbsState RunFrame D RelD at2 at2_of at2_lt)
def I64 (_ : Int) : Prop := True
class Rp (α : Type) where
 sz : Nat
 R : World → α → List Value → List Nat → Prop
 len : ∀ {w x cs F}, R w x cs F → cs.length = sz
 keep : ∀ {w w' x cs F}, R w x cs F → (∀ b ∈ F, w'.heap[b]? = w.heap[b]?) → R w' x cs F
 lt : ∀ {w x cs F}, R w x cs F → ∀ b ∈ F, b < w.heap.size
 one : ∀ {w x cs F}, R w x cs F → ∀ u ∈ cs, u.oneCell' = true
open Rp (R sz)
theorem Rp.chg {α : Type} [Rp α] {w w' : World} {x : α} {cs : List Value} {F G : List Nat} (h : R w x cs F) (hc : Chg G w w') (hd : ∀ b ∈ F, b ∉ G) : R w' x cs F :=
 Rp.keep h (fun b hb => hc.block b (Rp.lt h b hb) (hd b hb))
theorem Rp.chg0 {α : Type} [Rp α] {w w' : World} {x : α} {cs : List Value} {F : List Nat} (h : R w x cs F) (hc : Chg [] w w') : R w' x cs F := Rp.chg h hc (by simp)
instance : Rp Int where
 sz := 1
 R := fun _ x cs F => cs = [.int .i64 x] ∧ F = [] ∧ I64 x
 len := fun h => by rw [h.1]; rfl
 keep := fun h _ => h
 lt := fun h b hb => by rw [h.2.1] at hb; cases hb
 one := fun h u hu => by rw [h.1] at hu; simp at hu; subst hu; rfl
instance {α β : Type} [Rp α] [Rp β] : Rp (α × β) where
 sz := sz α + sz β
 R := fun w x cs F => ∃ c1 c2 F1 F2, cs = c1 ++ c2 ∧ F = F1 ++ F2 ∧ R w x.1 c1 F1 ∧ R w x.2 c2 F2
 len := fun ⟨c1, c2, F1, F2, h1, h2, h3, h4⟩ => by rw [h1, List.length_append, Rp.len h3, Rp.len h4]
 keep := fun ⟨c1, c2, F1, F2, h1, h2, h3, h4⟩ hk => ⟨c1, c2, F1, F2, h1, h2, Rp.keep h3 (fun b hb => hk b (by rw [h2]; simp [hb])), Rp.keep h4 (fun b hb => hk b (by rw [h2]; simp [hb]))⟩
 lt := fun ⟨c1, c2, F1, F2, h1, h2, h3, h4⟩ b hb => by rw [h2, List.mem_append] at hb; exact hb.elim (Rp.lt h3 b) (Rp.lt h4 b)
 one := fun ⟨c1, c2, F1, F2, h1, h2, h3, h4⟩ u hu => by rw [h1, List.mem_append] at hu; exact hu.elim (Rp.one h3 u) (Rp.one h4 u)
@[reducible] def Rp.by_ {α β : Type} [Rp β] (f : α → β) : Rp α where
 sz := sz β
 R := fun w x cs F => R w (f x) cs F
 len := fun h => Rp.len h
 keep := fun h hk => Rp.keep h hk
 lt := fun h => Rp.lt h
 one := fun h => Rp.one h
structure Row {α : Type} [Rp α] (w : World) (xs : List α) (b off : Nat) (C : Nat → List Value) (Fs : Nat → List Nat) : Prop where
 lt : b < w.heap.size
 cell : ∀ i (h : i < xs.length), ∀ j, j < sz α → w.cell? ⟨b, off + i * sz α + j, none⟩ = (C i)[j]?
 elem : ∀ i (h : i < xs.length), R w xs[i] (C i) (Fs i)
def footOf (b n : Nat) (Fs : Nat → List Nat) : List Nat := b :: (List.range n).flatMap Fs
def RL {α : Type} [Rp α] (w : World) (xs : List α) (v : Value) (F : List Nat) : Prop :=
 ∃ (A : Option Addr) (cap : Nat), v = .slice A xs.length cap ∧ xs.length ≤ cap ∧ cap ≤ maxLen ∧
  ((xs = [] ∧ F = [] ∧ True) ∨ ∃ b off C Fs, A = some ⟨b, off, none⟩ ∧ F = footOf b xs.length Fs ∧ xs ≠ [] ∧ Row w xs b off C Fs)
theorem Row.keep {α : Type} [Rp α] {w w' : World} {xs : List α} {b off : Nat} {C : Nat → List Value} {Fs : Nat → List Nat} (h : Row w xs b off C Fs)
 (hk : ∀ g ∈ footOf b xs.length Fs, w'.heap[g]? = w.heap[g]?) : Row w' xs b off C Fs := by
 have hb := hk b (by simp [footOf])
 refine ⟨?_, fun i hi j hj => (World.cell?_of_block (w := w) hb).trans (h.cell i hi j hj), fun i hi => Rp.keep (h.elem i hi) (fun g hg => hk g ?_)⟩
 · rcases Nat.lt_or_ge b w'.heap.size with h1 | h1
   · exact h1
   · rw [Array.getElem?_eq_none h1, Array.getElem?_eq_getElem h.lt] at hb; cases hb
 · simp only [footOf, List.mem_cons, List.mem_flatMap, List.mem_range]
   exact Or.inr ⟨i, hi, hg⟩
instance {α : Type} [Rp α] : Rp (List α) where
 sz := 1
 R := fun w xs cs F => ∃ v, cs = [v] ∧ RL w xs v F
 len := fun ⟨v, h, _⟩ => by rw [h]; rfl
 keep := fun ⟨v, h, A, cap, h1, h2, h3, h4⟩ hk => by
  refine ⟨v, h, A, cap, h1, h2, h3, ?_⟩
  rcases h4 with h4 | ⟨b, off, C, Fs, e1, e2, e3, e4⟩
  · exact Or.inl h4
  · exact Or.inr ⟨b, off, C, Fs, e1, e2, e3, e4.keep (by rw [← e2]; exact hk)⟩
 lt := fun ⟨v, h, A, cap, h1, h2, h3, h4⟩ b hb => by
  rcases h4 with ⟨_, h4, _⟩ | ⟨b', off, C, Fs, e1, e2, e3, e4⟩
  · rw [h4] at hb; cases hb
  · rw [e2] at hb
    simp only [footOf, List.mem_cons, List.mem_flatMap, List.mem_range] at hb
    rcases hb with rfl | ⟨i, hi, hg⟩
    · exact e4.lt
    · exact Rp.lt (e4.elem i hi) b hg
 one := fun ⟨v, h, A, cap, h1, _⟩ u hu => by rw [h] at hu; simp at hu; subst hu; rw [h1]; rfl
theorem sz_int : sz Int = 1 := rfl
section
variable {α : Type} [Rp α] {w w' : World} {xs : List α} {v : Value} {F G : List Nat}
theorem RL.rp (h : RL w xs v F) : R w xs [v] F := ⟨v, rfl, h⟩
theorem RL.of (h : R w xs [v] F) : RL w xs v F := by obtain ⟨v', h1, h2⟩ := h; simp at h1; subst h1; exact h2
theorem RL.chg0 (h : RL w xs v F) (hc : Chg [] w w') : RL w' xs v F := RL.of (Rp.chg0 h.rp hc)
theorem RL.form (h : RL w xs v F) : ∃ A cap, v = .slice A xs.length cap ∧ xs.length ≤ cap ∧ cap ≤ maxLen := by
 obtain ⟨A, cap, h1, h2, h3, _⟩ := h
 exact ⟨A, cap, h1, h2, h3⟩
theorem RL.elem (h : RL w xs v F) {i : Nat} (hi : i < xs.length) : ∃ b off cap cs Fi, v = .slice (some ⟨b, off, none⟩) xs.length cap ∧ R w xs[i] cs Fi ∧ (∀ j, j < sz α → w.cell? ⟨b, off + i * sz α + j, none⟩ = cs[j]?) ∧ (∀ g ∈ Fi, g ∈ F) := by
 obtain ⟨A, cap, h1, h2, h3, h4⟩ := h
 rcases h4 with ⟨rfl, _⟩ | ⟨b, off, C, Fs, rfl, rfl, e3, e4⟩
 · simp at hi
 · refine ⟨b, off, cap, C i, Fs i, h1, e4.elem i hi, e4.cell i hi, fun g hg => ?_⟩
   simp only [footOf, List.mem_cons, List.mem_flatMap, List.mem_range]
   exact Or.inr ⟨i, hi, hg⟩
end
instance : Rp InsIns := Rp.by_ (fun x => (x.Op, x.D, x.A, x.B, x.Rel, x.Lo, x.Hi, x.To))
theorem R_InsIns {w : World} {x : InsIns} {cs : List Value} {F : List Nat} : R w x cs F ↔ (cs = [.int .i64 x.Op, .int .i64 x.D, .int .i64 x.A, .int .i64 x.B, .int .i64 x.Rel, .int .i64 x.Lo, .int .i64 x.Hi, .int .i64 x.To] ∧ F = [] ∧ I64 x.Op ∧ I64 x.D ∧ I64 x.A ∧ I64 x.B ∧ I64 x.Rel ∧ I64 x.Lo ∧ I64 x.Hi ∧ I64 x.To) := by
 constructor
 · intro h
   obtain ⟨_, _, _, _, rfl, rfl, h0, h0'⟩ := h
   obtain ⟨rfl, rfl, g0⟩ := h0
   obtain ⟨_, _, _, _, rfl, rfl, h1, h1'⟩ := h0'
   obtain ⟨rfl, rfl, g1⟩ := h1
   obtain ⟨_, _, _, _, rfl, rfl, h2, h2'⟩ := h1'
   obtain ⟨rfl, rfl, g2⟩ := h2
   obtain ⟨_, _, _, _, rfl, rfl, h3, h3'⟩ := h2'
   obtain ⟨rfl, rfl, g3⟩ := h3
   obtain ⟨_, _, _, _, rfl, rfl, h4, h4'⟩ := h3'
   obtain ⟨rfl, rfl, g4⟩ := h4
   obtain ⟨_, _, _, _, rfl, rfl, h5, h5'⟩ := h4'
   obtain ⟨rfl, rfl, g5⟩ := h5
   obtain ⟨_, _, _, _, rfl, rfl, h6, h6'⟩ := h5'
   obtain ⟨rfl, rfl, g6⟩ := h6
   obtain ⟨rfl, rfl, g7⟩ := h6'
   exact ⟨by simp, by simp, g0, g1, g2, g3, g4, g5, g6, g7⟩
 · rintro ⟨rfl, rfl, g0, g1, g2, g3, g4, g5, g6, g7⟩
   exact ⟨_, _, [], [], by first | rfl | simp, by first | rfl | simp, ⟨rfl, rfl, g0⟩, ⟨_, _, [], [], by first | rfl | simp, by first | rfl | simp, ⟨rfl, rfl, g1⟩, ⟨_, _, [], [], by first | rfl | simp, by first | rfl | simp, ⟨rfl, rfl, g2⟩, ⟨_, _, [], [], by first | rfl | simp, by first | rfl | simp, ⟨rfl, rfl, g3⟩, ⟨_, _, [], [], by first | rfl | simp, by first | rfl | simp, ⟨rfl, rfl, g4⟩, ⟨_, _, [], [], by first | rfl | simp, by first | rfl | simp, ⟨rfl, rfl, g5⟩, ⟨_, _, [], [], by first | rfl | simp, by first | rfl | simp, ⟨rfl, rfl, g6⟩, ⟨rfl, rfl, g7⟩⟩⟩⟩⟩⟩⟩⟩
theorem sz_InsIns : sz InsIns = 8 := rfl
instance : Rp PrcProc := Rp.by_ (fun x => (x.Lo, x.Hi, x.Code))
theorem R_PrcProc {w : World} {x : PrcProc} {cs : List Value} {F : List Nat} : R w x cs F ↔ ∃ vCode FCode, (cs = [.int .i64 x.Lo, .int .i64 x.Hi, vCode] ∧ F = FCode ∧ I64 x.Lo ∧ I64 x.Hi ∧ RL w x.Code vCode FCode) := by
 constructor
 · intro h
   obtain ⟨_, _, _, _, rfl, rfl, h0, h0'⟩ := h
   obtain ⟨rfl, rfl, g0⟩ := h0
   obtain ⟨_, _, _, _, rfl, rfl, h1, h1'⟩ := h0'
   obtain ⟨rfl, rfl, g1⟩ := h1
   obtain ⟨_, rfl, g2⟩ := h1'
   exact ⟨_, _, by simp, by simp, g0, g1, g2⟩
 · rintro ⟨vCode, FCode, rfl, rfl, g0, g1, g2⟩
   exact ⟨_, _, [], F, by first | rfl | simp, by first | rfl | simp, ⟨rfl, rfl, g0⟩, ⟨_, _, [], F, by first | rfl | simp, by first | rfl | simp, ⟨rfl, rfl, g1⟩, ⟨_, rfl, g2⟩⟩⟩
theorem sz_PrcProc : sz PrcProc = 3 := rfl
instance : Rp ItvItv := Rp.by_ (fun x => (x.Lo, x.Hi))
theorem R_ItvItv {w : World} {x : ItvItv} {cs : List Value} {F : List Nat} : R w x cs F ↔ (cs = [.int .i64 x.Lo, .int .i64 x.Hi] ∧ F = [] ∧ I64 x.Lo ∧ I64 x.Hi) := by
 constructor
 · intro h
   obtain ⟨_, _, _, _, rfl, rfl, h0, h0'⟩ := h
   obtain ⟨rfl, rfl, g0⟩ := h0
   obtain ⟨rfl, rfl, g1⟩ := h0'
   exact ⟨by simp, by simp, g0, g1⟩
 · rintro ⟨rfl, rfl, g0, g1⟩
   exact ⟨_, _, [], [], by first | rfl | simp, by first | rfl | simp, ⟨rfl, rfl, g0⟩, ⟨rfl, rfl, g1⟩⟩
theorem sz_ItvItv : sz ItvItv = 2 := rfl
class Bd (α : Type) [Rp α] where
 d : α → List D
 len : ∀ x, (d x).length = Rp.sz α
 to : ∀ {RO : Nat → Prop} {w : World} {x : α} {vs : List Value}, (∀ b, RO b → b < w.heap.size) → vs.length = (d x).length → (∀ (j : Nat) (c : D) (u : Value), (d x)[j]? = some c → vs[j]? = some u → RelD RO w c u) → ∃ F, (∀ b ∈ F, RO b) ∧ R w x vs F
theorem one_of {vs : List Value} (h : vs.length = 1) : ∃ v, vs = [v] := by
 match vs, h with | [v], _ => exact ⟨v, rfl⟩
instance : Bd Int where
 d x := [.lit (.int .i64 x)]
 len _ := rfl
 to := fun _ hl h => by
  obtain ⟨v, rfl⟩ := one_of hl
  have := h 0 _ v rfl rfl
  cases this
  exact ⟨[], by simp, rfl, rfl, trivial⟩
instance {α β : Type} [Rp α] [Rp β] [Bd α] [Bd β] : Bd (α × β) where
 d x := Bd.d x.1 ++ Bd.d x.2
 len x := by rw [List.length_append, Bd.len, Bd.len]; rfl
 to := fun {RO w x vs} hro hl h => by
  rw [List.length_append] at hl
  obtain ⟨F1, h1, r1⟩ := Bd.to (x := x.1) (vs := vs.take (Bd.d x.1).length) hro (by rw [List.length_take]; omega) (fun j c u hc hu => by
   have hj := (List.getElem?_eq_some_iff.1 hc).1
   exact h j c u (by rw [List.getElem?_append_left hj]; exact hc) (by rw [List.getElem?_take, if_pos hj] at hu; exact hu))
  obtain ⟨F2, h2, r2⟩ := Bd.to (x := x.2) (vs := vs.drop (Bd.d x.1).length) hro (by rw [List.length_drop]; omega) (fun j c u hc hu =>
   h ((Bd.d x.1).length + j) c u (by rw [List.getElem?_append_right (by omega), Nat.add_sub_cancel_left]; exact hc) (by rw [List.getElem?_drop] at hu; exact hu))
  exact ⟨F1 ++ F2, fun b hb => (List.mem_append.1 hb).elim (h1 b) (h2 b), _, _, F1, F2, (List.take_append_drop _ vs).symm, rfl, r1, r2⟩
@[reducible] def Bd.by_ {α β : Type} [Rp β] [Bd β] (f : α → β) : @Bd α (Rp.by_ f) :=
 letI := Rp.by_ f
 { d := fun x => Bd.d (f x), len := fun x => Bd.len (f x), to := fun {_ _ x _} hro hl h => Bd.to (α := β) (x := f x) hro hl h }
theorem RL.ofD {α : Type} [Rp α] [Bd α] {RO : Nat → Prop} {w : World} {xs : List α} {v : Value} (hro : ∀ b, RO b → b < w.heap.size) (h : RelD RO w (.sl (Rp.sz α) (xs.map Bd.d)) v) :
 ∃ F, (∀ b ∈ F, RO b) ∧ RL w xs v F := by
 generalize he : xs.map Bd.d = els at h
 cases h with
 | nil sz A cap hc =>
   obtain rfl : xs = [] := List.map_eq_nil_iff.1 he
   exact ⟨[], by simp, A, cap, rfl, Nat.zero_le _, hc, .inl ⟨rfl, rfl, trivial⟩⟩
 | sl sz els b off cap U hb hn hc hr cell one rel =>
   subst he
   rw [List.length_map] at hn ⊢
   have hat : ∀ (i : Nat) (hi : i < xs.length) (j : Nat) (c : D), (Bd.d xs[i])[j]? = some c → at2 (xs.map Bd.d) i j = some c := fun i hi j c hc => by
    simp [at2, List.getElem?_eq_getElem hi, hc]
   have key : ∀ i, ∃ F : List Nat, (∀ b ∈ F, RO b) ∧ ∀ hi : i < xs.length, R w xs[i] ((List.range (Rp.sz α)).map (U i)) F := fun i => by
    by_cases hi : i < xs.length
    · obtain ⟨F, h1, h2⟩ := Bd.to (x := xs[i]) (vs := (List.range (Rp.sz α)).map (U i)) hro (by simp [Bd.len]) (fun j c u hc hu => by
       have hj := (List.getElem?_eq_some_iff.1 hc).1
       rw [Bd.len] at hj
       rw [List.getElem?_map, List.getElem?_range hj] at hu
       cases hu
       exact rel i j c (hat i hi j c hc))
      exact ⟨F, h1, fun _ => h2⟩
    · exact ⟨[], by simp, fun h => absurd h hi⟩
   by_cases hx : xs = []
   · subst hx
     exact ⟨[], by simp, some ⟨b, off, none⟩, cap, rfl, hn, hc, .inl ⟨rfl, rfl, trivial⟩⟩
   refine ⟨footOf b xs.length (fun i => (key i).choose), fun g hg => ?_, some ⟨b, off, none⟩, cap, rfl, hn, hc, ?_⟩
   · simp only [footOf, List.mem_cons, List.mem_flatMap, List.mem_range] at hg
     rcases hg with rfl | ⟨i, -, hi⟩
     · exact hb
     · exact (key i).choose_spec.1 g hi
   · refine .inr ⟨b, off, fun i => (List.range (Rp.sz α)).map (U i), fun i => (key i).choose, rfl, rfl, hx, hro b hb, fun i hi j hj => ?_, fun i hi => (key i).choose_spec.2 hi⟩
     have hj' : j < (Bd.d xs[i]).length := by rw [Bd.len]; exact hj
     rw [cell i j _ (hat i hi j _ (List.getElem?_eq_getElem hj'))]
     simp [hj]
instance {α : Type} [Rp α] [Bd α] : Bd (List α) where
 d xs := [.sl (Rp.sz α) (xs.map Bd.d)]
 len _ := rfl
 to := fun hro hl h => by
  obtain ⟨v, rfl⟩ := one_of hl
  obtain ⟨F, h1, h2⟩ := RL.ofD hro (h 0 _ v rfl rfl)
  exact ⟨F, h1, v, rfl, h2⟩
instance : Bd InsIns := Bd.by_ (fun (x : InsIns) => (x.Op, x.D, x.A, x.B, x.Rel, x.Lo, x.Hi, x.To))
instance : Bd PrcProc := Bd.by_ (fun (x : PrcProc) => (x.Lo, x.Hi, x.Code))
instance : Bd ItvItv := Bd.by_ (fun (x : ItvItv) => (x.Lo, x.Hi))
end Oq
namespace Go.Proofs.YtjakhnhnjhafgaaGreat.Wq
open Go Go.RowKit Go.Deep
open Ow hiding Rp RL I64 R_int sz_int footOf Row R_InsIns sz_InsIns R_PrcProc sz_PrcProc
open Oq
open Go.Proofs.YtjakhnhnjhafgaaGreat.Wk
open Oq.Rp (R sz)
def Idx (b : Bool) (e : Ending) : Prop := ∃ r : Int, e = .returned (.int .i64 r) ∧ -1 ≤ r ∧ r ≤ 9223372036854775807 ∧ decide (0 ≤ r) = b
set_option maxRecDepth 100000 in
set_option maxHeartbeats 2000000 in
theorem indexIns_c (q : InsIns → Bool) (xs : List InsIns) (v : Value) (F : List Nat) (w : World) (a1 a2 : Addr) (h : RL w xs v F)
 (hq : ∀ (x : InsIns) (wx : World), Chg [] w wx → Calls Tryz.prog 119 #[insV x, .pointer (some a1), .pointer (some a2)] wx fun e w' => e = .returned (.bool (q x)) ∧ Chg [] wx w') :
 Calls Tryz.prog 169 #[v, .func (.func 119) #[] #[.pointer (some a1), .pointer (some a2)]] w fun e w' => Idx (xs.any q) e ∧ Chg [] w w' := by
 obtain ⟨A, ca, rfl, hl, hm⟩ := h.form
 have hn : xs.length ≤ maxLen := by omega
 unfold maxLen at hn
 go_enter Tryz.func169, Tryz.ntmps169
 go_wp2
 go_loopw [8] (fun i wr => ∃ k : Nat, k ≤ xs.length ∧ i = .int .i64 k ∧ Chg [] w wr ∧ (xs.take k).any q = false) (fun i _ => xs.length - (intOf i).toNat)
 case atStart => exact ⟨0, Nat.zero_le _, rfl, Chg.refl _ _, by simp⟩
 case round =>
  obtain ⟨k, hk, rfl, hc, hall⟩ := hrel
  by_cases hlt : k < xs.length
  · obtain ⟨b1, o1, p1, c1, f1, e1, r1, m1, -⟩ := (h.chg0 hc).elem hlt
    obtain ⟨rfl, rfl, -⟩ := R_InsIns.1 r1
    injection e1 with e1 _ e1c
    subst e1 e1c
    have ya0 := m1 0 (by decide)
    have ya1 := m1 1 (by decide)
    have ya2 := m1 2 (by decide)
    have ya3 := m1 3 (by decide)
    have ya4 := m1 4 (by decide)
    have ya5 := m1 5 (by decide)
    have ya6 := m1 6 (by decide)
    have ya7 := m1 7 (by decide)
    simp only [sz_InsIns, Nat.mul_one, Nat.add_zero, List.getElem?_cons_zero, List.getElem?_cons_succ] at ya0 ya1 ya2 ya3 ya4 ya5 ya6 ya7
    have hall' := Lib.hid hall
    clear hall m1 r1 h
    have hq' := hq xs[k]
    clear hq
    by_cases hi : q xs[k] = true
    · rw [hi] at hq'
      go_wp2_with (go_at_call 119; refine (hq' _ hc).mono ?_; rintro e w1 ⟨rfl, hc1⟩)
      go_ret
      exact ⟨⟨_, rfl, by omega, by omega, by
       rw [decide_eq_true (by omega)]
       exact (List.any_eq_true.2 ⟨xs[k], List.getElem_mem hlt, hi⟩).symm⟩, hc.trans0 hc1⟩
    · rw [Bool.not_eq_true] at hi
      rw [hi] at hq'
      go_wp2_with (go_at_call 119; refine (hq' _ hc).mono ?_; rintro e w1 ⟨rfl, hc1⟩)
      go_roundw
      case rel => exact ⟨k + 1, by omega, by go_num, hc.trans0 hc1, by rw [List.take_succ_eq_append_getElem hlt, List.any_append, hall'.out]; simp [hi]⟩
      case measure => simp [RowKit.intOf]; omega
  · obtain rfl : k = xs.length := by omega
    rw [List.take_length] at hall
    have hall' := Lib.hid hall
    clear h hq hall
    go_wp2
    go_ret
    exact ⟨⟨-1, rfl, by omega, by omega, by rw [hall'.out]; rfl⟩, hc⟩
theorem containsIns_c (q : InsIns → Bool) (xs : List InsIns) (v : Value) (F : List Nat) (w : World) (a1 a2 : Addr) (h : RL w xs v F)
 (hq : ∀ (x : InsIns) (wx : World), Chg [] w wx → Calls Tryz.prog 119 #[insV x, .pointer (some a1), .pointer (some a2)] wx fun e w' => e = .returned (.bool (q x)) ∧ Chg [] wx w') :
 Calls Tryz.prog 118 #[v, .func (.func 119) #[] #[.pointer (some a1), .pointer (some a2)]] w fun e w' => e = .returned (.bool (xs.any q)) ∧ Chg [] w w' := by
 obtain ⟨A, ca, rfl, hl, hm⟩ := h.form
 go_enter Tryz.func118, Tryz.ntmps118
 go_wp2_with fail
 refine (indexIns_c q xs _ F w a1 a2 h hq).mono ?_
 rintro e w1 ⟨⟨r, rfl, hr1, hr2, hr⟩, hc1⟩
 have hr' := Lib.hid hr
 clear hr h hq
 by_cases h0 : 0 ≤ r
 all_goals
  go_wp2
  go_ret
  exact ⟨by rw [← hr'.out]; simp [h0], hc1⟩
theorem itv_c (lo hi : Int) (v : Value) (w : World) : Calls Tryz.prog 116 #[.agg #[.int .i64 lo, .int .i64 hi, v]] w fun e w' => e = .returned (.agg #[.int .i64 lo, .int .i64 hi]) ∧ Chg [] w w' := by
 go_enter Tryz.func116, Tryz.ntmps116
 go_wp2
 exact bodyPost_ret (v := .agg #[.int .i64 lo, .int .i64 hi]) (by simp [results, Tryz.results116, go_sem]) rfl ⟨rfl, Chg.c⟩
set_option maxHeartbeats 1000000 in
theorem prg1_c (i : InsIns) (n : Nat) (size : Int) (A : Option Addr) (ca : Nat) (b1 b2 : Nat) (w : World) (h1 : w.cell? ⟨b1, 0, none⟩ = some (.slice A n ca)) (h2 : w.cell? ⟨b2, 0, none⟩ = some (.int .i64 size)) :
 Calls Tryz.prog 119 #[insV i, .pointer (some ⟨b1, 0, none⟩), .pointer (some ⟨b2, 0, none⟩)] w fun e w' => e = .returned (.bool (!insOk i n size)) ∧ Chg [] w w' := by
 have hb1 : b1 < w.heap.size := World.block_lt_of_cell? _ _ h1
 have hb2 : b2 < w.heap.size := World.block_lt_of_cell? _ _ h2
 go_enter Tryz.func119, Tryz.ntmps119
 go_wp2_with (go_at_call 55; refine (implInsOk_c i _ _ _).mono ?_; rintro e w3 ⟨rfl, hc3⟩)
 go_ret
 exact ⟨rfl, Chg.k⟩
theorem prgOk_no {p : PrgProg} {k : Nat} (hlt : k < p.Procs.length) (h : procOk p.Procs[k] p.Procs.length = false) : prgOk p = false := by
 have : p.Procs.all (fun c => procOk c p.Procs.length) = false := by
  rw [List.all_eq_false]
  exact ⟨p.Procs[k], List.getElem_mem hlt, by simp [h]⟩
 unfold prgOk
 rw [this, Bool.and_false]
set_option maxRecDepth 100000 in
set_option maxHeartbeats 4000000 in
theorem implPrgOk_c (p : PrgProg) (v : Value) (F : List Nat) (w : World) (h : RL w p.Procs v F) : Calls Tryz.prog 54 #[.agg #[v]] w fun e w' => e = .returned (.bool (prgOk p)) ∧ Chg [] w w' := by
 obtain ⟨A, ca, rfl, hl, hm⟩ := h.form
 have hn : p.Procs.length ≤ maxLen := by omega
 unfold maxLen at hn
 by_cases h1 : p.Procs.length < 1
 case pos =>
  have h6 : prgOk p = false := by simp [prgOk]; omega
  rw [h6]
  clear h h6
  go_enter Tryz.func54, Tryz.ntmps54
  go_wp2
  go_ret
  exact ⟨rfl, Chg.c⟩
 by_cases h2 : 4 < p.Procs.length
 case pos =>
  have h6 : prgOk p = false := by
   have h7 : decide (p.Procs.length ≤ 4) = false := decide_eq_false (by omega)
   simp [prgOk, h7]
  rw [h6]
  clear h h6
  go_enter Tryz.func54, Tryz.ntmps54
  go_wp2
  go_ret
  exact ⟨rfl, Chg.c⟩
 have hall1 : p.Procs.all (fun c => procOk c p.Procs.length) = true → prgOk p = true := by
  intro hh
  simp only [prgOk, hh, Bool.and_true, Bool.and_eq_true, decide_eq_true_eq]
  omega
 have hlen := Lib.hid hall1
 clear hall1
 have hI2 : (p.Procs.length : Int) ≤ 4 := by omega
 have hI1 : (1 : Int) ≤ p.Procs.length := by omega
 go_enter Tryz.func54, Tryz.ntmps54
 go_wp2
 clear h1 h2
 go_loopw [19] (fun i wr => ∃ k : Nat, k ≤ p.Procs.length ∧ i = .int .i64 k ∧ Chg [] w wr ∧ wr.cell? ⟨w.heap.size, 0, none⟩ = some (.slice A p.Procs.length ca) ∧ w.heap.size < wr.heap.size ∧ (p.Procs.take k).all (fun c => procOk c p.Procs.length) = true) (fun i _ => p.Procs.length - (intOf i).toNat)
 case atStart => exact ⟨0, Nat.zero_le _, rfl, Chg.c, by simp, by simp, by simp⟩
 case round =>
  obtain ⟨k, hk, rfl, hc, hcell, hsz, hall⟩ := hrel
  by_cases hlt : k < p.Procs.length
  · obtain ⟨b1, o1, p1, c1, f1, e1, r1, m1, -⟩ := (h.chg0 hc).elem hlt
    obtain ⟨vC, FC, rfl, rfl, -, -, g1⟩ := R_PrcProc.1 r1
    injection e1 with e1 _ e1c
    subst e1 e1c
    have ya0 := m1 0 (by decide)
    have ya1 := m1 1 (by decide)
    have ya2 := m1 2 (by decide)
    simp only [sz_PrcProc, Nat.add_zero, List.getElem?_cons_zero, List.getElem?_cons_succ] at ya0 ya1 ya2
    have hall' := Lib.hid hall
    clear hall m1 r1 h
    obtain ⟨B, cb, rfl, hlb, hmb⟩ := g1.form
    have hnb : p.Procs[k].Code.length ≤ maxLen := by omega
    unfold maxLen at hnb
    have hpo : procOk p.Procs[k] p.Procs.length = (itvOk ⟨p.Procs[k].Lo, p.Procs[k].Hi⟩ && decide (1 ≤ p.Procs[k].Code.length) && decide (p.Procs[k].Code.length ≤ 10) && !(p.Procs[k].Code.any fun i => !insOk i p.Procs.length p.Procs[k].Code.length) && (p.Procs[k].Code.getLast?.elim false insEnds)) := by
     unfold procOk
     congr 2
     rw [List.not_any_eq_all_not]
     simp
    by_cases hitv : itvOk ⟨p.Procs[k].Lo, p.Procs[k].Hi⟩ = true
    case neg =>
     rw [Bool.not_eq_true] at hitv
     have hno := Lib.hid (prgOk_no hlt (by rw [hpo, hitv]; rfl))
     clear hpo g1
     go_wp2_with (first | (go_at_call 116; refine (itv_c _ _ _ _).mono ?_; rintro e w1 ⟨rfl, hc1⟩; have x2 : w1.cell? ⟨wr.heap.size, 2, none⟩ = some (.slice B p.Procs[k].Code.length cb) := hc1.cell0 (by simp); have x0 : w1.cell? ⟨wr.heap.size + 1, 0, none⟩ = some (.int .i64 p.Procs[k].Code.length) := hc1.cell0 (by simp); have x9 : w1.cell? ⟨w.heap.size, 0, none⟩ = some (.slice (some ⟨b1, o1, none⟩) p.Procs.length ca) := (Chg.trans0 (show Chg [] wr _ from Chg.c) hc1).cell0 hcell) | (go_at_call 113; refine (implItvOk_c _ _ _).mono ?_; rintro e w2 ⟨rfl, hc2⟩; rw [hitv]; have y2 := hc2.cell0 x2; have y0 := hc2.cell0 x0; have y9 := hc2.cell0 x9; have hcA : Chg [] wr w2 := Chg.trans0 (Chg.trans0 (show Chg [] wr _ from Chg.c) hc1) hc2; have hzA := hc2.size; have hzB := hc1.size; rw [World.size_alloc, World.size_alloc] at hzB; clear hc2 hc1 x2 x0 x9))
     go_ret
     exact ⟨by rw [hno.out]; rfl, Chg.k⟩
    by_cases hs1 : p.Procs[k].Code.length < 1
    case pos =>
     have hno := Lib.hid (prgOk_no hlt (by rw [hpo, decide_eq_false (show ¬ 1 ≤ p.Procs[k].Code.length by omega)]; simp))
     clear hpo g1
     go_wp2_with (first | (go_at_call 116; refine (itv_c _ _ _ _).mono ?_; rintro e w1 ⟨rfl, hc1⟩; have x2 : w1.cell? ⟨wr.heap.size, 2, none⟩ = some (.slice B p.Procs[k].Code.length cb) := hc1.cell0 (by simp); have x0 : w1.cell? ⟨wr.heap.size + 1, 0, none⟩ = some (.int .i64 p.Procs[k].Code.length) := hc1.cell0 (by simp); have x9 : w1.cell? ⟨w.heap.size, 0, none⟩ = some (.slice (some ⟨b1, o1, none⟩) p.Procs.length ca) := (Chg.trans0 (show Chg [] wr _ from Chg.c) hc1).cell0 hcell) | (go_at_call 113; refine (implItvOk_c _ _ _).mono ?_; rintro e w2 ⟨rfl, hc2⟩; rw [hitv]; have y2 := hc2.cell0 x2; have y0 := hc2.cell0 x0; have y9 := hc2.cell0 x9; have hcA : Chg [] wr w2 := Chg.trans0 (Chg.trans0 (show Chg [] wr _ from Chg.c) hc1) hc2; have hzA := hc2.size; have hzB := hc1.size; rw [World.size_alloc, World.size_alloc] at hzB; clear hc2 hc1 x2 x0 x9))
     go_ret
     exact ⟨by rw [hno.out]; rfl, Chg.k⟩
    by_cases hs2 : 10 < p.Procs[k].Code.length
    case pos =>
     have hno := Lib.hid (prgOk_no hlt (by rw [hpo, decide_eq_false (show ¬ p.Procs[k].Code.length ≤ 10 by omega)]; simp))
     clear hpo g1
     go_wp2_with (first | (go_at_call 116; refine (itv_c _ _ _ _).mono ?_; rintro e w1 ⟨rfl, hc1⟩; have x2 : w1.cell? ⟨wr.heap.size, 2, none⟩ = some (.slice B p.Procs[k].Code.length cb) := hc1.cell0 (by simp); have x0 : w1.cell? ⟨wr.heap.size + 1, 0, none⟩ = some (.int .i64 p.Procs[k].Code.length) := hc1.cell0 (by simp); have x9 : w1.cell? ⟨w.heap.size, 0, none⟩ = some (.slice (some ⟨b1, o1, none⟩) p.Procs.length ca) := (Chg.trans0 (show Chg [] wr _ from Chg.c) hc1).cell0 hcell) | (go_at_call 113; refine (implItvOk_c _ _ _).mono ?_; rintro e w2 ⟨rfl, hc2⟩; rw [hitv]; have y2 := hc2.cell0 x2; have y0 := hc2.cell0 x0; have y9 := hc2.cell0 x9; have hcA : Chg [] wr w2 := Chg.trans0 (Chg.trans0 (show Chg [] wr _ from Chg.c) hc1) hc2; have hzA := hc2.size; have hzB := hc1.size; rw [World.size_alloc, World.size_alloc] at hzB; clear hc2 hc1 x2 x0 x9))
     go_ret
     exact ⟨by rw [hno.out]; rfl, Chg.k⟩
    obtain ⟨m, hm1⟩ : ∃ m, p.Procs[k].Code.length = m + 1 := ⟨p.Procs[k].Code.length - 1, by omega⟩
    have hmlt : m < p.Procs[k].Code.length := by omega
    obtain ⟨b2, o2, p2, c2, f2, e2, r2, m2, -⟩ := g1.elem hmlt
    obtain ⟨rfl, rfl, -⟩ := R_InsIns.1 r2
    injection e2 with e2 _ e2c
    subst e2 e2c
    have za0 := m2 0 (by decide)
    have za1 := m2 1 (by decide)
    have za2 := m2 2 (by decide)
    have za3 := m2 3 (by decide)
    have za4 := m2 4 (by decide)
    have za5 := m2 5 (by decide)
    have za6 := m2 6 (by decide)
    have za7 := m2 7 (by decide)
    simp only [sz_InsIns, Nat.mul_one, Nat.add_zero, List.getElem?_cons_zero, List.getElem?_cons_succ] at za0 za1 za2 za3 za4 za5 za6 za7
    have hlast : p.Procs[k].Code.getLast? = some p.Procs[k].Code[m] := by
     rw [List.getLast?_eq_getElem?, List.getElem?_eq_getElem (by omega)]
     congr 2
     omega
    have hsub : ((p.Procs[k].Code.length : Int) - 1) = (m : Int) := by omega
    have hsub2 : ((p.Procs[k].Code.length : Int) - 1).toNat = m := by omega
    rw [hlast] at hpo
    have hpo' : procOk p.Procs[k] p.Procs.length = (!(p.Procs[k].Code.any fun i => !insOk i p.Procs.length p.Procs[k].Code.length) && insEnds p.Procs[k].Code[m]) := by
     rw [hpo, hitv, decide_eq_true (show 1 ≤ p.Procs[k].Code.length by omega), decide_eq_true (show p.Procs[k].Code.length ≤ 10 by omega)]
     rfl
    have hmI : (m : Int) < p.Procs[k].Code.length := by omega
    clear hpo hlast m2 r2 hm1
    by_cases hend : insEnds p.Procs[k].Code[m] = true
    case neg =>
     rw [Bool.not_eq_true] at hend
     have hno := Lib.hid (prgOk_no hlt (by rw [hpo', hend]; simp))
     clear hpo' g1 hlen
     go_wp2_with (first | (go_at_call 116; refine (itv_c _ _ _ _).mono ?_; rintro e w1 ⟨rfl, hc1⟩; have x2 : w1.cell? ⟨wr.heap.size, 2, none⟩ = some (.slice (some ⟨b2, o2, none⟩) p.Procs[k].Code.length cb) := hc1.cell0 (by simp); have x0 : w1.cell? ⟨wr.heap.size + 1, 0, none⟩ = some (.int .i64 p.Procs[k].Code.length) := hc1.cell0 (by simp); have x9 : w1.cell? ⟨w.heap.size, 0, none⟩ = some (.slice (some ⟨b1, o1, none⟩) p.Procs.length ca) := (Chg.trans0 (show Chg [] wr _ from Chg.c) hc1).cell0 hcell) | (go_at_call 113; refine (implItvOk_c _ _ _).mono ?_; rintro e w2 ⟨rfl, hc2⟩; rw [hitv]; have y2 := hc2.cell0 x2; have y0 := hc2.cell0 x0; have y9 := hc2.cell0 x9; have hcA : Chg [] wr w2 := Chg.trans0 (Chg.trans0 (show Chg [] wr _ from Chg.c) hc1) hc2; have hzA := hc2.size; have hzB := hc1.size; rw [World.size_alloc, World.size_alloc] at hzB; clear hc2 hc1 x2 x0 x9; have zb0 := hcA.cell0 za0; have zb1 := hcA.cell0 za1; have zb2 := hcA.cell0 za2; have zb3 := hcA.cell0 za3; have zb4 := hcA.cell0 za4; have zb5 := hcA.cell0 za5; have zb6 := hcA.cell0 za6; have zb7 := hcA.cell0 za7; clear za0 za1 za2 za3 za4 za5 za6 za7) | (go_at_call 117; refine (implEnds_c p.Procs[k].Code[m] _).mono ?_; rintro e w4 ⟨rfl, hc4⟩; rw [hend]; have v2 := hc4.cell0 y2; have v0 := hc4.cell0 y0; have v9 := hc4.cell0 y9; have hcE : Chg [] wr w4 := Chg.trans0 hcA hc4; have hzE := hc4.size; clear hc4 y2 y0 y9))
     go_ret
     exact ⟨by rw [hno.out]; rfl, Chg.k⟩
    have hcon : ∀ (wx : World) (hrx : Chg [] wr wx) (z1 : wx.cell? ⟨w.heap.size, 0, none⟩ = some (.slice (some ⟨b1, o1, none⟩) p.Procs.length ca)) (z2 : wx.cell? ⟨wr.heap.size + 1, 0, none⟩ = some (.int .i64 p.Procs[k].Code.length)), Calls Tryz.prog 118 #[.slice (some ⟨b2, o2, none⟩) p.Procs[k].Code.length cb, .func (.func 119) #[] #[.pointer (some ⟨w.heap.size, 0, none⟩), .pointer (some ⟨wr.heap.size + 1, 0, none⟩)]] wx fun e w' => e = .returned (.bool (p.Procs[k].Code.any fun i => !insOk i p.Procs.length p.Procs[k].Code.length)) ∧ Chg [] wx w' := by
     intro wx hrx z1 z2
     exact containsIns_c (fun i => !insOk i p.Procs.length p.Procs[k].Code.length) p.Procs[k].Code _ _ wx _ _ (g1.chg0 hrx) (fun x wy hy => prg1_c x p.Procs.length p.Procs[k].Code.length (some ⟨b1, o1, none⟩) ca _ _ wy (hy.cell0 z1) (hy.cell0 z2))
    clear g1
    by_cases hany : (p.Procs[k].Code.any fun i => !insOk i p.Procs.length p.Procs[k].Code.length) = true
    case pos =>
     have hno := Lib.hid (prgOk_no hlt (by rw [hpo', hany]; simp))
     rw [hany] at hcon
     clear hpo' hlen hany
     go_wp2_with (first | (go_at_call 116; refine (itv_c _ _ _ _).mono ?_; rintro e w1 ⟨rfl, hc1⟩; have x2 : w1.cell? ⟨wr.heap.size, 2, none⟩ = some (.slice (some ⟨b2, o2, none⟩) p.Procs[k].Code.length cb) := hc1.cell0 (by simp); have x0 : w1.cell? ⟨wr.heap.size + 1, 0, none⟩ = some (.int .i64 p.Procs[k].Code.length) := hc1.cell0 (by simp); have x9 : w1.cell? ⟨w.heap.size, 0, none⟩ = some (.slice (some ⟨b1, o1, none⟩) p.Procs.length ca) := (Chg.trans0 (show Chg [] wr _ from Chg.c) hc1).cell0 hcell) | (go_at_call 113; refine (implItvOk_c _ _ _).mono ?_; rintro e w2 ⟨rfl, hc2⟩; rw [hitv]; have y2 := hc2.cell0 x2; have y0 := hc2.cell0 x0; have y9 := hc2.cell0 x9; have hcA : Chg [] wr w2 := Chg.trans0 (Chg.trans0 (show Chg [] wr _ from Chg.c) hc1) hc2; have hzA := hc2.size; have hzB := hc1.size; rw [World.size_alloc, World.size_alloc] at hzB; clear hc2 hc1 x2 x0 x9; have zb0 := hcA.cell0 za0; have zb1 := hcA.cell0 za1; have zb2 := hcA.cell0 za2; have zb3 := hcA.cell0 za3; have zb4 := hcA.cell0 za4; have zb5 := hcA.cell0 za5; have zb6 := hcA.cell0 za6; have zb7 := hcA.cell0 za7; clear za0 za1 za2 za3 za4 za5 za6 za7) | (go_at_call 117; refine (implEnds_c p.Procs[k].Code[m] _).mono ?_; rintro e w4 ⟨rfl, hc4⟩; rw [hend]; have v2 := hc4.cell0 y2; have v0 := hc4.cell0 y0; have v9 := hc4.cell0 y9; have hcE : Chg [] wr w4 := Chg.trans0 hcA hc4; have hzE := hc4.size; clear hc4 y2 y0 y9) | (go_at_call 118; refine (hcon _ hcE v9 v0).mono ?_; rintro e w5 ⟨rfl, hc5⟩))
     go_ret
     exact ⟨by rw [hno.out]; rfl, Chg.k⟩
    rw [Bool.not_eq_true] at hany
    rw [hany, hend] at hpo'
    rw [hany] at hcon
    clear hany
    have hpo2 := Lib.hid hpo'
    clear hpo'
    go_wp2_with (first | (go_at_call 116; refine (itv_c _ _ _ _).mono ?_; rintro e w1 ⟨rfl, hc1⟩; have x2 : w1.cell? ⟨wr.heap.size, 2, none⟩ = some (.slice (some ⟨b2, o2, none⟩) p.Procs[k].Code.length cb) := hc1.cell0 (by simp); have x0 : w1.cell? ⟨wr.heap.size + 1, 0, none⟩ = some (.int .i64 p.Procs[k].Code.length) := hc1.cell0 (by simp); have x9 : w1.cell? ⟨w.heap.size, 0, none⟩ = some (.slice (some ⟨b1, o1, none⟩) p.Procs.length ca) := (Chg.trans0 (show Chg [] wr _ from Chg.c) hc1).cell0 hcell) | (go_at_call 113; refine (implItvOk_c _ _ _).mono ?_; rintro e w2 ⟨rfl, hc2⟩; rw [hitv]; have y2 := hc2.cell0 x2; have y0 := hc2.cell0 x0; have y9 := hc2.cell0 x9; have hcA : Chg [] wr w2 := Chg.trans0 (Chg.trans0 (show Chg [] wr _ from Chg.c) hc1) hc2; have hzA := hc2.size; have hzB := hc1.size; rw [World.size_alloc, World.size_alloc] at hzB; clear hc2 hc1 x2 x0 x9; have zb0 := hcA.cell0 za0; have zb1 := hcA.cell0 za1; have zb2 := hcA.cell0 za2; have zb3 := hcA.cell0 za3; have zb4 := hcA.cell0 za4; have zb5 := hcA.cell0 za5; have zb6 := hcA.cell0 za6; have zb7 := hcA.cell0 za7; clear za0 za1 za2 za3 za4 za5 za6 za7) | (go_at_call 117; refine (implEnds_c p.Procs[k].Code[m] _).mono ?_; rintro e w4 ⟨rfl, hc4⟩; rw [hend]; have v2 := hc4.cell0 y2; have v0 := hc4.cell0 y0; have v9 := hc4.cell0 y9; have hcE : Chg [] wr w4 := Chg.trans0 hcA hc4; have hzE := hc4.size; clear hc4 y2 y0 y9) | (go_at_call 118; refine (hcon _ hcE v9 v0).mono ?_; rintro e w5 ⟨rfl, hc5⟩))
    have hw5 := hc5.size
    go_roundw
    case rel => exact ⟨k + 1, by omega, by go_num, Chg.k, hc5.cell0 v9, by omega, by rw [List.take_succ_eq_append_getElem hlt, List.all_append, hall'.out]; simp [hpo2.out]⟩
    case measure => simp [RowKit.intOf]; omega
  · obtain rfl : k = p.Procs.length := by omega
    rw [List.take_length] at hall
    have hno := Lib.hid (hlen.out hall)
    clear h hlen hall
    go_wp2
    go_ret
    exact ⟨by rw [hno.out]; rfl, hc⟩
end Go.Proofs.YtjakhnhnjhafgaaGreat.Wq
namespace Go.Proofs.YtjakhnhnjhafgaaGreat.Wk
open Go Go.RowKit Go.Deep Ow
def entK : Nat → List (Int × Value) → List MapEntry
 | _, [] => []
 | i, (k, v) :: r => { key := .int .i64 k, val := v, born := i } :: entK (i + 1) r
def lookK (s : Int) : List (Int × Value) → Option Value
 | [] => none
 | (k, v) :: r => if k = s then some v else lookK s r
theorem findNow_entK (s : Int) : ∀ (l : List (Int × Value)) (i j : Nat), ∃ k, Instr.findNow (.int .i64) (.int .i64 s) (entK i l) j = some ((lookK s l).map fun v => (k, v))
 | [], i, j => ⟨0, rfl⟩
 | (k, v) :: r, i, j => by
   obtain ⟨k2, h2⟩ := findNow_entK s r (i + 1) (j + 1)
   by_cases h : k = s
   · refine ⟨j, ?_⟩
     subst h
     simp [entK, Instr.findNow, Instr.sameNow, lookK]
   · refine ⟨k2, ?_⟩
     have hs : ¬ s = k := fun e => h e.symm
     have hb : (s == k) = false := by simp [hs]
     simp only [entK, Instr.findNow, Instr.sameNow, lookK, h, hb, if_true, if_false]
     exact h2
theorem run_insert_newK {P : Program} (w : World) (mty kt et : TypeId) (r clock : Nat) (es : Array MapEntry) (s : Int) (val : Value) (hm : P.underlying mty = some (.map kt et)) (hk : P.underlying kt = some (.int .i64)) (hb : w.heap[r]? = some (.map es clock))
 (hn : Instr.findNow (.int .i64) (.int .i64 s) es.toList 0 = some none) :
 (Instr.mapUpdate mty (.map (some r)) (.int .i64 s) val).run P w = .ok () { w with heap := w.heap.setIfInBounds r (.map (es.push { key := .int .i64 s, val := val, born := clock }) (clock + 1)) } := by
 have hc : (Instr.checkKey false 10000 kt (.int .i64 s)).run P w = .ok () w := MapKept.run_checkKey (k := .int .i64 s) hk (by simp [MapKept.IsKey]) false 9999
 simp [Instr.mapUpdate, run_underlying hm, MapKept.run_getObj_map hb, hc, MapKept.run_findKey hk hn, MapKept.run_setObj_map _ hb, Result.andThen]
structure MapAt (w W : World) (es : List (Int × Value)) : Prop where
 chg : Chg [] w W
 size : w.heap.size < W.heap.size
 map : W.heap[w.heap.size]? = some (.map (entK 0 es).toArray es.length)
theorem MapAt.nil_ (w : World) : MapAt w (w.alloc (.map #[] 0)) [] :=
 ⟨(Chg.refl [] w).alloc _, by simp, heap_alloc_new w _⟩
theorem entK_app (i : Nat) (a : List (Int × Value)) (k : Int) (v : Value) : entK i (a ++ [(k, v)]) = entK i a ++ [{ key := .int .i64 k, val := v, born := i + a.length }] := by
 induction a generalizing i with
 | nil => rfl
 | cons x r ih =>
   obtain ⟨k', v'⟩ := x
   simp only [List.cons_append, entK, ih, List.length_cons]
   congr 4; omega
theorem MapAt.ins {w W : World} {es : List (Int × Value)} (h : MapAt w W es) (k : Int) (v : Value) (hk : lookK k es = none) :
 ∃ W', (Instr.mapUpdate 239 (.map (some w.heap.size)) (.int .i64 k) v).run Tryz.prog W = .ok () W' ∧ MapAt w W' (es ++ [(k, v)]) := by
 obtain ⟨j, hj⟩ := findNow_entK k es 0 0
 rw [hk] at hj
 refine ⟨_, run_insert_newK W 239 3 237 w.heap.size es.length _ _ v Tryz.underlying239 Tryz.underlying3 h.map (by simpa using hj), ?_, ?_, ?_⟩
 · exact ⟨h.chg.os, h.chg.tape, h.chg.output, by simpa using h.chg.size, fun b hb hn => by
    show (W.heap.setIfInBounds _ _)[b]? = _
    rw [Array.getElem?_setIfInBounds_ne (by omega)]; exact h.chg.block b hb hn⟩
 · simpa using h.size
 · show (W.heap.setIfInBounds _ _)[_]? = _
   rw [Array.getElem?_setIfInBounds_self_of_lt h.size, entK_app]
   simp
def relE : List (Int × Value) := [(1, .iface 262 (.agg #[])), (2, .iface 263 (.agg #[])), (3, .iface 242 (.agg #[])), (4, .iface 264 (.agg #[]))]
set_option maxRecDepth 100000 in
set_option maxHeartbeats 4000000 in
theorem relations_c (w : World) : Calls Tryz.prog 189 #[] w (fun e w' => e = .returned (.map (some w.heap.size)) ∧ MapAt w w' relE) := by
 have hmk := fun t => run_makeMap_plain (P := Tryz.prog) w t
 have h0 := Lib.hid (MapAt.nil_ w)
 go_enter Tryz.func189, Tryz.ntmps189
 go_wp2
 obtain ⟨W1, r1, g1⟩ := h0.out.ins 1 (.iface 262 (.agg #[])) rfl
 have h1 := Lib.hid g1
 clear g1
 rw [r1]
 clear r1
 go_wp2
 obtain ⟨W2, r2, g2⟩ := h1.out.ins 2 (.iface 263 (.agg #[])) rfl
 have h2 := Lib.hid g2
 clear g2
 rw [r2]
 clear r2
 go_wp2
 obtain ⟨W3, r3, g3⟩ := h2.out.ins 3 (.iface 242 (.agg #[])) rfl
 have h3 := Lib.hid g3
 clear g3
 rw [r3]
 clear r3
 go_wp2
 obtain ⟨W4, r4, g4⟩ := h3.out.ins 4 (.iface 264 (.agg #[])) rfl
 have h4 := Lib.hid g4
 clear g4
 rw [r4]
 clear r4
 go_wp2
 go_ret
 exact ⟨rfl, h4.out⟩
theorem zeroRel (w : World) : (zeroValue 237).run Tryz.prog w = .ok .nilIface w := by kernel_rfl
theorem run_lookK (W : World) (n clock : Nat) (es : List (Int × Value)) (s : Int) (hb : W.heap[n]? = some (.map (entK 0 es).toArray clock)) :
 (Instr.lookup 239 (.map (some n)) (.int .i64 s) true).run Tryz.prog W = .ok (.tuple #[(lookK s es).getD .nilIface, .bool (lookK s es).isSome]) W := by
 have hm := Tryz.underlying239
 have hk := Tryz.underlying3
 have hc : ∀ b, (Instr.checkKey b 10000 3 (.int .i64 s)).run Tryz.prog W = .ok () W := fun b => MapKept.run_checkKey (k := .int .i64 s) hk (by simp [MapKept.IsKey]) b 9999
 obtain ⟨j, hj⟩ := findNow_entK s es 0 0
 have hf : (Instr.findKey 3 (.int .i64 s) (entK 0 es)).run Tryz.prog W = _ := MapKept.run_findKey hk hj
 rcases hl : lookK s es with _ | v
 · rw [hl] at hf
   simp [Instr.lookup, run_underlying hm, MapKept.run_getObj_map hb, hc, hf, zeroRel, Result.andThen]
 · rw [hl] at hf
   simp [Instr.lookup, run_underlying hm, MapKept.run_getObj_map hb, hc, hf, Result.andThen]
end Go.Proofs.YtjakhnhnjhafgaaGreat.Wk
