/- Contracts of the draws: the reader's opening; some bytes out of it. -/
import Derived.Test.YtaiinlhobcclcaaDoorDrawW
import Derived.Test.YtaiinlhobcclcaaDoorHexW
namespace Go.Proofs.YtaiinlhobcclcaaDoor.Wk
set_option linter.unusedVariables false
set_option linter.unusedSimpArgs false
open Go Go.RowKit Go.Deep Ow
open Rp (R sz)

theorem RL.take {w : World} {xs : Bs} {A : Option Addr} {c : Nat} {F : List Nat} (k : Nat) (h : RL w xs (.slice A xs.length c) F) (hk0 : 0 < k) (hk : k ≤ xs.length) : ∃ G, RL w (xs.take k) (.slice A k c) G := by
  obtain ⟨A', cap, h1, h2, h3, h4⟩ := h
  rcases h4 with ⟨rfl, _⟩ | ⟨b, off, C, Fs, rfl, rfl, e3, e4⟩
  · simp at hk; omega
  · injection h1 with h1 _ h1c
    subst h1 h1c
    have hl : (xs.take k).length = k := by simp; omega
    refine ⟨footOf b (xs.take k).length Fs, some ⟨b, off, none⟩, c, by rw [hl], by omega, h3, Or.inr ⟨b, off, C, Fs, rfl, rfl, ?_, ?_⟩⟩
    · intro e; rw [e] at hl; simp at hl; omega
    · exact ⟨e4.lt, fun i hi => e4.cell i (by omega), fun i hi => by rw [List.getElem_take]; exact e4.elem i (by omega)⟩

set_option maxRecDepth 100000 in
theorem l20Open_c (xs : Bs) (v : Value) (F : List Nat) (w : World) (h : RL w xs v F) : Calls Tryd.prog 27 #[v] w fun e w' =>
    ∃ b ys A c G, e = .returned (.pointer (some ⟨b, 0, none⟩)) ∧ Chg [] w w' ∧ RdAt w' b ys A c G 0 ∧ w.heap.size ≤ b := by
  obtain ⟨A, c, rfl, h1, h2⟩ := h.form
  by_cases hl : (2000 : Int) < (xs.length : Int)
  · obtain ⟨G, hG⟩ := RL.take 2000 h (by decide) (by omega)
    have hlen : (xs.take 2000).length = 2000 := by simp; omega
    have HG := Lib.hid hG
    clear hG h
    have hc2 : 2000 ≤ c := by omega
    go_enter Tryd.func27, Tryd.ntmps27
    go_wp2
    go_ret
    have hg := HG.out
    refine ⟨w.heap.size, xs.take 2000, A, c, G, rfl, (Chg.refl [] w).alloc _, ⟨by rw [hlen]; simp, by simp, fun o => by simp [go_sem], by rw [hlen]; exact hg.chg0 ((Chg.refl [] w).alloc _), fun hx => by have := hg.lt _ hx; omega, by omega⟩, Nat.le_refl _⟩
  · have HG := Lib.hid h
    clear h
    go_enter Tryd.func27, Tryd.ntmps27
    go_wp2
    go_ret
    have hg := HG.out
    exact ⟨w.heap.size, rfl, (Chg.refl [] w).alloc _, ⟨xs, A, c, F, ⟨by simp, by simp, fun o => by simp [go_sem], hg.chg0 ((Chg.refl [] w).alloc _), fun hx => by have := hg.lt _ hx; omega, by omega⟩⟩, Nat.le_refl _⟩

/-- an element more, where a reader's box changes too -/
theorem wpList_oneF {α : Type} {F0 : List Nat} {T e : TypeId} {f : α → Value} (hR : OneRow T e f) {ops : Array Oper} {rest : List Oper} {o : Oper} {a : Act} {Q : Exit → Act → World → Prop} (hgd : o.guard = none) (s x : Operand)
    (ho : o.op = .call { callee := .builtin .append, args := #[s, x], argTypes := #[T, T] })
    (B : Nat) (w wr : World) (v : Value) (out : List α) (y : α) (u : Value) (hu : f y = u) (hown : wr.ownsRow B e 1 v out.length (out.map f)) (hs : a.eval s = v)
    (hx : a.eval x = .slice (some ⟨wr.heap.size, 0, none⟩) 1 1) (hol : (out.length : Int) ≤ 1100000) (hB : w.heap.size ≤ B) (hB2 : B ≤ wr.heap.size) (hc : Chg F0 w wr)
    (h : ∀ v' w', w'.ownsRow B e 1 v' (out ++ [y]).length ((out ++ [y]).map f) → Chg F0 w w' → w'.heap.size ≥ wr.heap.size → (∀ k, k < wr.heap.size → v.ownBlock ≠ some k → w'.heap[k]? = wr.heap[k]?) → wpList Tryd.prog ops Q rest (a.put o.dst v') w') :
    wpList Tryd.prog ops Q (o :: rest) a (wr.alloc (.cells #[u] e)) := by
  subst hu
  obtain ⟨i0, z, bytes, hi, hz0, hz1, hz2, hz3, hb8⟩ := hR.info
  have hbb : (out.length + 1) * bytes ≤ (out.length + 1) * 8 := Nat.mul_le_mul_left _ hb8
  refine wpList_append_own _ hgd s x T ho B e i0 z 1 bytes hR.ht hi hz0 hz1 hz2 hz3 (by decide) v out.length (out.map f) hs (hown.alloc _) ⟨wr.heap.size, 0, none⟩ 1 1 [f y] hx rfl ?_ ?_ ?_ ?_ ?_ ?_
  · intro j u hj
    match j, hj with
    | 0, hj => simp only [List.getElem?_cons_zero, Option.some.injEq] at hj; subst hj; simp [Addr.add]
  · intro u hu; simp only [List.mem_singleton] at hu; subst hu; exact hR.one y
  · unfold maxLen; omega
  · omega
  · simp only [World.size_alloc]; omega
  · intro v' w' h2 h3 h4
    have hsz := h3.size
    simp only [World.size_alloc] at hsz
    refine h v' w' (by simpa using h2) ((hc.alloc _).grown h3 (fun k hk => Or.inr (by have := ownsRow_lt hown k hk; omega))) (by omega) (fun k hk hn => ?_)
    rw [h3.block k (by simp only [World.size_alloc]; omega) (fun e => hn e.symm), Below.heap_alloc _ _ _ hk]
theorem own_chgF {w w' : World} {B : Nat} {F0 : List Nat} {e : TypeId} {z n : Nat} {v : Value} {cs : List Value} (h : w.ownsRow B e z v n cs) (hc : Chg F0 w w') (hF : ∀ g ∈ F0, g < B) : w'.ownsRow B e z v n cs := by
  obtain ⟨h1, h2⟩ := h
  refine ⟨h1, ?_⟩
  rcases h2 with h2 | ⟨g, cap, cur, hv, hb, hg, hx⟩
  · exact Or.inl h2
  · refine Or.inr ⟨g, cap, cur, hv, hb, ?_, hx⟩
    have hlt : g < w.heap.size := by
      rcases Nat.lt_or_ge g w.heap.size with h' | h'
      · exact h'
      · rw [Array.getElem?_eq_none h'] at hg; cases hg
    rw [hc.block g hlt (fun h' => by have := hF g h'; omega)]; exact hg

theorem RdAt.keep {W W' : World} {b : Nat} {xs : Bs} {A : Option Addr} {c : Nat} {F : List Nat} {n B : Nat} (h : RdAt W b xs A c F n) (hk : ∀ g, g < B → W'.heap[g]? = W.heap[g]?) (hb : b < B) (hF : ∀ g ∈ F, g < B) : RdAt W' b xs A c F n :=
  ⟨(World.cell?_of_block (w := W) (a := ⟨b, 0, none⟩) (hk b hb)).trans h.c0, (World.cell?_of_block (w := W) (a := ⟨b, 1, none⟩) (hk b hb)).trans h.c1, fun o => (World.frozen?_of_block (w := W) (a := ⟨b, o, none⟩) (hk b hb)).trans (h.fr o), RL.of (Rp.keep h.rl.rp (fun g hg => hk g (hF g hg))), h.ap, h.le⟩

set_option maxRecDepth 100000 in
set_option maxHeartbeats 1000000 in
theorem l21Bytes_c (b : Nat) (xs : Bs) (A : Option Addr) (c : Nat) (F : List Nat) (n : Nat) (hn : n ≤ 900000) (w : World) (h : RdAt w b xs A c F n) :
    Calls Tryd.prog 29 #[.pointer (some ⟨b, 0, none⟩)] w fun e w' => ∃ v ys G k, e = .returned v ∧ ys.length ≤ 20 ∧ k ≤ 41 ∧ Chg [b] w w' ∧ RdAt w' b xs A c F (n + k) ∧ RL w' (ys : Bs) v G ∧ (∀ g ∈ G, w.heap.size ≤ g) := by
  have hb := h.lt
  have HH := Lib.hid h
  have HF : Hid (∀ g ∈ F, g < w.heap.size) := Lib.hid h.rl.lt
  clear h
  go_enter Tryd.func29, Tryd.ntmps29
  go_wp2_with fail
  refine (pick_c b xs A c F n 7 (by decide) (by decide) (by omega) _ (HH.out.on (by repeat (first | with_reducible exact Chg.refl _ _ | with_reducible refine Chg.alloc ?_ _)))).mono ?_
  rintro e w1 ⟨r, hr, rfl, hc1, hr1⟩
  have hct : ∃ d : Nat, d ≤ 20 ∧ w1.cell? ⟨w.heap.size + 1, r, none⟩ = some (.int .i64 d) := by
    rw [hc1.cell (p := ⟨w.heap.size + 1, r, none⟩) (by simp) (by simp; omega)]
    match r, hr with
    | 0, _ => exact ⟨0, by omega, by simp⟩
    | 1, _ => exact ⟨1, by omega, by simp⟩
    | 2, _ => exact ⟨2, by omega, by simp⟩
    | 3, _ => exact ⟨3, by omega, by simp⟩
    | 4, _ => exact ⟨5, by omega, by simp⟩
    | 5, _ => exact ⟨9, by omega, by simp⟩
    | 6, _ => exact ⟨20, by omega, by simp⟩
    | r + 7, h => omega
  obtain ⟨d, hd, hcell⟩ := hct
  have hown1 := own_chgF ((ownsRow_empty w w.heap.size 5 1 (Nat.le_refl _)).alloc (.cells #[.int .i64 0, .int .i64 1, .int .i64 2, .int .i64 3, .int .i64 5, .int .i64 9, .int .i64 20] 3)) hc1 (fun g hg => by simp at hg; omega)
  have hcw : Chg [b] w w1 := (((Chg.refl [b] w).alloc _).alloc _).trans hc1 (fun g hg => Or.inl hg)
  have HO := Lib.hid hown1
  have HC := Lib.hid hcw
  have HR := Lib.hid hr1
  clear hown1 hcw hc1 hr1
  go_wp2
  go_loopw [3, 4] (fun v i wr => ∃ (j m : Nat) (ys : Bs), i = .int .i64 j ∧ Hid (j + ys.length ≤ 20 ∧ m + 2 * j ≤ 41) ∧ wr.ownsRow w.heap.size 5 1 v ys.length (ys.map fun x => .int .u8 x.toNat) ∧ Chg [b] w wr ∧ RdAt wr b xs A c F (n + m)) (fun _ i _ => (intOf i).toNat)
  case atStart => exact ⟨d, 1, [], rfl, Lib.hid ⟨by simp; omega, by omega⟩, HO.out, HC.out, HR.out⟩
  case round =>
    obtain ⟨j, m, ys, rfl, HB, hown, hc, hrd⟩ := hrel
    have hcs := hc.size
    by_cases hj : 0 < j
    · have HO' := Lib.hid hown
      have HC' := Lib.hid hc
      have HR' := Lib.hid hrd
      have hbr : b < wr.heap.size := by omega
      clear hown hc hrd
      go_wp2_with fail
      refine (pick_c b xs A c F (n + m) 256 (by decide) (by decide) (by have := HB.out.2; omega) _ HR'.out).mono ?_
      rintro e w2 ⟨r1, hr1, rfl, hc2, hrd2⟩
      have HC2 := Lib.hid hc2
      have HR2 := Lib.hid hrd2
      clear hc2 hrd2
      go_wp2_with fail
      refine (pick_c b xs A c F (n + m + 1) 5 (by decide) (by decide) (by have := HB.out.2; omega) _ (HR2.out.on ((Chg.refl [] w2).alloc _))).mono ?_
      rintro e w3 ⟨r2, hr2, rfl, hc3, hrd3⟩
      have hb2 : b < w2.heap.size := Nat.lt_of_lt_of_le hbr HC2.out.size
      have hct : ∃ y : UInt8, w3.cell? ⟨w2.heap.size, r2, none⟩ = some (.int .i64 y.toNat) := by
        rw [hc3.cell (p := ⟨w2.heap.size, r2, none⟩) (by simp) (by simp; omega)]
        match r2, hr2 with
        | 0, _ => exact ⟨0, by simp⟩
        | 1, _ => exact ⟨1, by simp⟩
        | 2, _ => exact ⟨2, by simp⟩
        | 3, _ => exact ⟨255, by simp⟩
        | 4, _ => exact ⟨UInt8.ofNat r1, by simp; omega⟩
        | r + 5, h => omega
      obtain ⟨y, hcy⟩ := hct
      have hy : (y.toNat : Int) % 256 = y.toNat := by have := y.toNat_lt; omega
      have hcw : Chg [b] w w3 := ((HC'.out.trans HC2.out (fun g hg => Or.inl hg)).alloc _).trans hc3 (fun g hg => Or.inl hg)
      have hsz3 : w.heap.size ≤ w3.heap.size := hcw.size
      have hown3 := own_chgF ((own_chgF HO'.out HC2.out (fun g hg => by simp at hg; omega)).alloc (.cells #[.int .i64 0, .int .i64 1, .int .i64 2, .int .i64 255, .int .i64 r1] 3)) hc3 (fun g hg => by simp at hg; omega)
      have HC3 := Lib.hid hcw
      have HR3 := Lib.hid hrd3
      have HO3 := Lib.hid hown3
      have hyl : (ys.length : Int) ≤ 1100000 := by have := HB.out.1; omega
      clear hc3 hrd3 hcw hown3
      go_wp2_with (at_builtin; go_must (refine wpList_oneF (F0 := [b]) row_u8 rfl _ _ rfl w.heap.size w w3 _ ys y _ rfl HO3.out rfl rfl hyl (Nat.le_refl _) hsz3 HC3.out ?_; intro v' w4 hown4 hc4 hz4 hk4))
      have hrd4 := RdAt.keep HR3.out (B := w.heap.size) (W' := w4) (fun g hg => hk4 g (by omega) (fun e => by have := ownsRow_lt HO3.out g e; omega)) hb HF.out
      have e64 : wrap64 ((j : Int) - 1) = ((j - 1 : Nat) : Int) := by rw [IntWalk.wrap64_in _ (by have := HB.out.1; omega)]; omega
      rw [e64]
      refine ⟨⟨j - 1, m + 2, ys ++ [y], rfl, Lib.hid ⟨by have := HB.out.1; simp; omega, by have := HB.out.2; omega⟩, hown4, hc4, hrd4⟩, by simp [intOf]; omega⟩
    · obtain ⟨G, g1, _, g3⟩ := row_bytes hown rfl
      have HG := Lib.hid (And.intro g1 g3)
      have HC' := Lib.hid hc
      have HR' := Lib.hid hrd
      clear hown hc hrd g1 g3
      go_wp2
      go_ret
      exact ⟨u3, ys, G, m, rfl, by have := HB.out.1; omega, by have := HB.out.2; omega, HC'.out, HR'.out, HG.out.1, HG.out.2⟩
end Go.Proofs.YtaiinlhobcclcaaDoor.Wk
