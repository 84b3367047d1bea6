/- Contracts: bytes of two digits each, the reference's reading and the program's. -/
import Derived.Test.YtaiinlhobcclcaaDoorSplitW
import Derived.Deep.RegionLaw
namespace Go.Proofs.YtaiinlhobcclcaaDoor.Wk
open Go Go.RowKit Go.Deep Ow
open Rp (R sz)

/-- a type of rows of one cell an element -/
structure OneRow {α : Type} (T e : TypeId) (f : α → Value) : Prop where
  ht : Tryd.prog.underlying T = some (.slice e)
  info : ∃ i z bytes, Tryd.prog.info? e = some i ∧ i.zero = some z ∧ i.size = 1 ∧ i.bytes = bytes ∧ z.cells.size = 1 ∧ bytes ≤ 8
  one : ∀ x, (f x).oneCell' = true
theorem row_u8 : OneRow (α := UInt8) 22 5 (fun x => .int .u8 x.toNat) :=
  ⟨Tryd.underlying22, by
    obtain ⟨i0, hi, hz0, hz1, hz2⟩ := info_parts (show (Tryd.prog.info? 5).map (fun i => (i.zero, i.size, i.bytes)) = some (some (.int .u8 0), 1, 1) by kernel_rfl)
    exact ⟨i0, _, _, hi, hz0, hz1, hz2, rfl, by decide⟩, fun _ => rfl⟩
theorem row_int : OneRow (α := Int) 66 3 (fun x => .int .i64 x) :=
  ⟨Tryd.underlying66, by
    obtain ⟨i0, hi, hz0, hz1, hz2⟩ := info_parts (show (Tryd.prog.info? 3).map (fun i => (i.zero, i.size, i.bytes)) = some (some (.int .i64 0), 1, 8) by kernel_rfl)
    exact ⟨i0, _, _, hi, hz0, hz1, hz2, rfl, by decide⟩, fun _ => rfl⟩

/-- an element more -/
theorem wpList_one {α : Type} {T e : TypeId} {f : α → Value} (hR : OneRow T e f) {ops : Array Oper} {rest : List Oper} {o : Oper} {a : Act} {Q : Exit → Act → World → Prop} (hgd : o.guard = none) (s x : Operand)
    (ho : o.op = .call { callee := .builtin .append, args := #[s, x], argTypes := #[T, T] })
    (B : Nat) (w wr : World) (v : Value) (out : List α) (y : α) (u : Value) (hu : f y = u) (hown : wr.ownsRow B e 1 v out.length (out.map f)) (hs : a.eval s = v)
    (hx : a.eval x = .slice (some ⟨wr.heap.size, 0, none⟩) 1 1) (hol : (out.length : Int) ≤ 1100000) (hB : w.heap.size ≤ B) (hB2 : B ≤ wr.heap.size) (hc : Chg [] w wr)
    (h : ∀ v' w', w'.ownsRow B e 1 v' (out ++ [y]).length ((out ++ [y]).map f) → Chg [] w w' → w'.heap.size ≥ wr.heap.size → (∀ k, k < wr.heap.size → v.ownBlock ≠ some k → w'.heap[k]? = wr.heap[k]?) → wpList Tryd.prog ops Q rest (a.put o.dst v') w') :
    wpList Tryd.prog ops Q (o :: rest) a (wr.alloc (.cells #[u] e)) := by
  subst hu
  obtain ⟨i0, z, bytes, hi, hz0, hz1, hz2, hz3, hb8⟩ := hR.info
  have hbb : (out.length + 1) * bytes ≤ (out.length + 1) * 8 := Nat.mul_le_mul_left _ hb8
  refine wpList_append_own _ hgd s x T ho B e i0 z 1 bytes hR.ht hi hz0 hz1 hz2 hz3 (by decide) v out.length (out.map f) hs (hown.alloc _) ⟨wr.heap.size, 0, none⟩ 1 1 [f y] hx rfl ?_ ?_ ?_ ?_ ?_ ?_
  · intro j u hj
    match j, hj with
    | 0, hj => simp only [List.getElem?_cons_zero, Option.some.injEq] at hj; subst hj; simp [Addr.add]
  · intro u hu; simp only [List.mem_singleton] at hu; subst hu; exact hR.one y
  · unfold maxLen; omega
  · omega
  · simp only [World.size_alloc]; omega
  · intro v' w' h2 h3 h4
    have hsz := h3.size
    simp only [World.size_alloc] at hsz
    refine h v' w' (by simpa using h2) ((hc.alloc _).grown h3 (fun k hk => Or.inr (by have := ownsRow_lt hown k hk; omega))) (by omega) (fun k hk hn => ?_)
    rw [h3.block k (by simp only [World.size_alloc]; omega) (fun e => hn e.symm), Below.heap_alloc _ _ _ hk]
/-- .. as one step of a region that draws -/
theorem step_one {α : Type} {T e : TypeId} {f : α → Value} (hR : OneRow T e f) {ops : Array Oper} {o : Oper} {a : Act} {K : Act → World → Prop} {Q : Exit → Act → World → Prop} {E : Prop} (hgd : o.guard = none) (s x : Operand)
    (ho : o.op = .call { callee := .builtin .append, args := #[s, x], argTypes := #[T, T] })
    (B : Nat) (w W : World) (v : Value) (out : List α) (y : α) (u : Value) (hu : f y = u) (hown : W.ownsRow B e 1 v out.length (out.map f)) (hs : a.eval s = v) (N : Nat)
    (hx : a.eval x = .slice (some ⟨N, 0, none⟩) 1 1) (hN : W.cell? ⟨N, 0, none⟩ = some u) (hol : (out.length : Int) ≤ 1100000) (hB : w.heap.size ≤ B) (hB2 : B ≤ W.heap.size) (hc : Chg [] w W)
    (h : ∀ v' w', w'.ownsRow B e 1 v' (out ++ [y]).length ((out ++ [y]).map f) → Chg [] w w' → w'.heap.size ≥ W.heap.size → (∀ k, k < W.heap.size → v.ownBlock ≠ some k → w'.heap[k]? = W.heap[k]?) → K (a.put o.dst v') w') :
    if Region.wanted o (yielded ops a.tmps) = true then Oper.wp Tryd.prog o a W K Q else E := by
  subst hu
  have hw : Region.wanted o (yielded ops a.tmps) = true := by simp [Region.wanted, hgd]
  rw [if_pos hw]
  obtain ⟨i0, z, bytes, hi, hz0, hz1, hz2, hz3, hb8⟩ := hR.info
  have hbb : (out.length + 1) * bytes ≤ (out.length + 1) * 8 := Nat.mul_le_mul_left _ hb8
  refine wp_append_own _ s x T ho B e i0 z 1 bytes hR.ht hi hz0 hz1 hz2 hz3 (by decide) v out.length (out.map f) hs hown ⟨N, 0, none⟩ 1 1 [f y] hx rfl ?_ ?_ ?_ ?_ hB2 ?_
  · intro j u hj
    match j, hj with
    | 0, hj => simp only [List.getElem?_cons_zero, Option.some.injEq] at hj; subst hj; simpa [Addr.add] using hN
  · intro u hu; simp only [List.mem_singleton] at hu; subst hu; exact hR.one y
  · unfold maxLen; omega
  · omega
  · intro v' w' h2 h3 h4
    refine h v' w' (by simpa using h2) (hc.grown h3 (fun k hk => Or.inr (by have := ownsRow_lt hown k hk; omega))) h3.size (fun k hk hn => ?_)
    exact h3.block k hk (fun e => hn e.symm)
theorem own_chg {w w' : World} {B : Nat} {e : TypeId} {z n : Nat} {v : Value} {cs : List Value} (h : w.ownsRow B e z v n cs) (hc : Chg [] w w') : w'.ownsRow B e z v n cs := by
  obtain ⟨h1, h2⟩ := h
  refine ⟨h1, ?_⟩
  rcases h2 with h2 | ⟨g, cap, cur, hv, hb, hg, hx⟩
  · exact Or.inl h2
  · refine Or.inr ⟨g, cap, cur, hv, hb, ?_, hx⟩
    have hlt : g < w.heap.size := by
      rcases Nat.lt_or_ge g w.heap.size with h' | h'
      · exact h'
      · rw [Array.getElem?_eq_none h'] at hg; cases hg
    rw [hc.block g hlt (by simp)]; exact hg
/-- an element of a row of the call's own -/
theorem own_cell {α : Type} {w : World} {B : Nat} {e : TypeId} {f : α → Value} {v : Value} {out : List α} (h : w.ownsRow B e 1 v out.length (out.map f)) (k : Nat) (hk : k < out.length) :
    ∃ g cap, v = .slice (some ⟨g, 0, none⟩) out.length cap ∧ out.length ≤ cap ∧ w.cell? ⟨g, k, none⟩ = some (f out[k]) := by
  obtain ⟨h1, h2⟩ := h
  rcases h2 with ⟨_, h2⟩ | ⟨g, cap, cur, hv, hb, hg, hle, hcap, hsz, htk⟩
  · omega
  · refine ⟨g, cap, hv, hle, ?_⟩
    have e1 : (out.map f)[k]? = some (f out[k]) := by simp [hk]
    rw [← htk, List.getElem?_take_of_lt (by omega), Array.getElem?_toList] at e1
    simp [World.cell?, hg, e1]
theorem own_form {α : Type} {w : World} {B : Nat} {e : TypeId} {f : α → Value} {v : Value} {out : List α} (h : w.ownsRow B e 1 v out.length (out.map f)) : ∃ A cap, v = .slice A out.length cap ∧ out.length ≤ cap := by
  rcases h.2 with ⟨rfl, h2⟩ | ⟨g, cap, cur, hv, hb, hg, hle, _⟩
  · exact ⟨none, 0, by rw [h2], by omega⟩
  · exact ⟨_, _, hv, hle⟩
theorem row_bytes {w : World} {base : Nat} {v : Value} {n : Nat} {xs : Bs} (h : w.ownsRow base 5 1 v n (xs.map fun x => .int .u8 x.toNat)) (hn : n = xs.length) : ∃ F, RL w xs v F ∧ Own w F ∧ ∀ g ∈ F, base ≤ g :=
  RL.of_own1 (xs := xs) (fun x => .int .u8 x.toNat) rfl h hn rfl (fun _ _ => ⟨rfl, rfl⟩)

/-- what a reading of bytes hands back -/
def RetHex (o : Option Bs) (w : World) (e : Ending) (w' : World) : Prop := ∃ v G, e = .returned (.tuple #[v, .bool o.isSome]) ∧ Chg [] w w' ∧ RL w' (o.getD []) v G ∧ Own w' G ∧ ∀ g ∈ G, w.heap.size ≤ g

/-! ### plain facts -/
theorem pairs_app : ∀ (a b : List Int), a.length % 2 = 0 → pairs (a ++ b) = pairs a ++ pairs b
  | [], b, _ => by simp [pairs]
  | [x], b, h => by simp at h
  | x :: y :: r, b, h => by
    have ih := pairs_app r b (by simp only [List.length_cons] at h; omega)
    simp only [List.cons_append, pairs, ih]
theorem pairs_length : ∀ (a : List Int), (pairs a).length = a.length / 2
  | [] => rfl
  | [x] => by simp [pairs]
  | x :: y :: r => by
    have ih := pairs_length r
    simp only [pairs, List.length_cons, ih]; omega
theorem digs_take_succ (l : Bs) (k : Nat) (h : k < l.length) : digs (l.take (k + 1)) = digs (l.take k) ++ [hexD (l.getD k 0).toNat] := by
  have e0 : l.getD k 0 = l[k] := by rw [List.getD_eq_getElem?_getD, List.getElem?_eq_getElem h]; rfl
  rw [e0]
  unfold digs
  rw [List.take_add_one, List.getElem?_eq_getElem h, List.map_append]
  rfl
theorem digs_take_two (l : Bs) (k : Nat) (h : k + 1 < l.length) : digs (l.take (k + 2)) = digs (l.take k) ++ [hexD (l.getD k 0).toNat, hexD (l.getD (k + 1) 0).toNat] := by
  rw [show k + 2 = (k + 1) + 1 by omega, digs_take_succ l (k + 1) h, digs_take_succ l k (by omega)]
  simp
theorem digs_bad (l : Bs) (k : Nat) (h : k < l.length) (hd : hexD (l.getD k 0).toNat < 0) : hexB l = none := by
  unfold hexB
  rw [if_neg]
  intro hx
  have e0 : l.getD k 0 = l[k] := by rw [List.getD_eq_getElem?_getD, List.getElem?_eq_getElem h]; rfl
  have := hx.1 (hexD (l.getD k 0).toNat) (by unfold digs; rw [e0]; exact List.mem_map.2 ⟨l[k], List.getElem_mem h, rfl⟩)
  omega
theorem digs_length (l : Bs) : (digs l).length = l.length := List.length_map _

theorem ret_empty (w : World) : RL (w.alloc (.cells #[] 5)) ([] : Bs) (.slice (some ⟨w.heap.size, 0, none⟩) 0 0) [] := ⟨_, 0, rfl, Nat.le_refl _, by unfold maxLen; omega, Or.inl ⟨rfl, rfl, fun h => by cases h⟩⟩
theorem hexD_byte (a b : Int) (ha : 0 ≤ a) (ha2 : a ≤ 15) (hb : 0 ≤ b) (hb2 : b ≤ 15) : (((UInt8.ofNat (16 * a + b).toNat).toNat : Nat) : Int) = 16 * a + b := by
  rw [UInt8.toNat_ofNat', Nat.mod_eq_of_lt (by omega)]; omega
theorem byte_getD (l : Bs) (k : Nat) (h : k < l.length) : ∀ hq, (ByteArray.mk l.toArray)[k]'hq = l.getD k 0 := fun hq => by
  rw [List.getD_eq_getElem?_getD, List.getElem?_eq_getElem h]
  simp [ByteArray.getElem_eq_getElem_data]
theorem hexB_done (l : Bs) (h1 : ¬ l.length % 2 = 1) (h2 : l.length ≤ 4008) (h3 : ∀ d ∈ digs l, 0 ≤ d) : hexB l = some (pairs (digs l)) := by
  unfold hexB; rw [if_pos ⟨h3, by omega, h2⟩]

set_option maxRecDepth 100000 in
theorem l17Hex_c (l : Bs) (hl : (l.length : Int) ≤ 1100000) (w : World) : Calls Tryd.prog 15 #[str l] w (RetHex (hexB l) w) := by
  by_cases hodd : l.length % 2 = 1
  · have e : hexB l = none := by unfold hexB; rw [if_neg]; intro h; omega
    rw [e]
    have hb2 : (((l.length : Nat) : Int) % 2 == 1) = true := by rw [beq_iff_eq]; omega
    clear hodd e
    go_enter Tryd.func15, Tryd.ntmps15
    go_wp2
    go_ret2
    exact ⟨_, [], rfl, (Chg.refl [] w).alloc _, ret_empty w, Own.nil_ _, by simp⟩
  have hb2 : (((l.length : Nat) : Int) % 2 == 1) = false := by rw [beq_eq_false_iff_ne]; omega
  by_cases hbig : (4008 : Int) < ((l.length : Nat) : Int)
  · have e : hexB l = none := by unfold hexB; rw [if_neg]; intro h; omega
    rw [e]
    clear hodd e
    go_enter Tryd.func15, Tryd.ntmps15
    go_wp2
    go_ret2
    exact ⟨_, [], rfl, (Chg.refl [] w).alloc _, ret_empty w, Own.nil_ _, by simp⟩
  have HO := Lib.hid hodd
  clear hodd
  go_enter Tryd.func15, Tryd.ntmps15
  go_wp2
  go_loopw [4, 5] (fun v i wr => ∃ (k : Nat) (out : Bs), k ≤ l.length ∧ i = .int .i64 k ∧ out.length ≤ k ∧ Hid (k % 2 = 0 ∧ out = pairs (digs (l.take k)) ∧ ∀ d ∈ digs (l.take k), 0 ≤ d) ∧ wr.ownsRow w.heap.size 5 1 v out.length (out.map fun x => .int .u8 x.toNat) ∧ Chg [] w wr) (fun _ i _ => l.length - (intOf i).toNat)
  case atStart => exact ⟨0, [], Nat.zero_le _, rfl, Nat.le_refl _, Lib.hid ⟨rfl, rfl, by simp [digs]⟩, ownsRow_empty w w.heap.size _ 1 (Nat.le_refl _), (Chg.refl [] w).alloc _⟩
  case round =>
    obtain ⟨k, out, hk, rfl, hol, H, hown, hc⟩ := hrel
    have hcs := hc.size
    by_cases hlt : k < l.length
    · have hlt1 : k + 1 < l.length := by have := H.out.1; have := HO.out; omega
      have hce0 := byte_getD l k hlt
      have hce1 := byte_getD l (k + 1) hlt1
      have B0 := Lib.hid (digs_bad l k hlt)
      have B1 := Lib.hid (digs_bad l (k + 1) hlt1)
      have D2 := Lib.hid (digs_take_two l k hlt1)
      generalize l.getD k 0 = c0 at *
      generalize l.getD (k + 1) 0 = c1 at *
      have r0 := hexD_lt c0.toNat
      have r1 := hexD_lt c1.toNat
      obtain ⟨r0a, r0b⟩ := r0
      obtain ⟨r1a, r1b⟩ := r1
      have C0 := Lib.hid (fun v => l17Digit_c c0 v)
      have C1 := Lib.hid (fun v => l17Digit_c c1 v)
      generalize hexD c0.toNat = d0 at *
      generalize hexD c1.toNat = d1 at *
      by_cases h0 : d0 < 0
      · have E := Lib.hid (B0.out h0)
        clear B0 B1 D2
        go_wp2_with (first | (go_at_call_of 34 c0; refine (C0.out _).mono ?_; rintro e w1 ⟨rfl, hc1⟩) | (go_at_call_of 34 c1; refine (C1.out _).mono ?_; rintro e w2 ⟨rfl, hc2⟩))
        go_ret2
        rw [E.out]
        have hcz := (hc.trans0 hc1).trans0 hc2
        have hzz := hcz.size
        exact ⟨_, [], rfl, hcz.alloc _, ret_empty w2, Own.nil_ _, by simp⟩
      by_cases h1 : d1 < 0
      · have E := Lib.hid (B1.out h1)
        clear B0 B1 D2
        go_wp2_with (first | (go_at_call_of 34 c0; refine (C0.out _).mono ?_; rintro e w1 ⟨rfl, hc1⟩) | (go_at_call_of 34 c1; refine (C1.out _).mono ?_; rintro e w2 ⟨rfl, hc2⟩))
        go_ret2
        rw [E.out]
        have hcz := (hc.trans0 hc1).trans0 hc2
        exact ⟨_, [], rfl, hcz.alloc _, ret_empty w2, Own.nil_ _, by simp⟩
      · have hby := hexD_byte d0 d1 (by omega) r0b (by omega) r1b
        obtain ⟨y, hy⟩ : ∃ y, UInt8.ofNat (16 * d0 + d1).toNat = y := ⟨_, rfl⟩
        have HY := Lib.hid hy
        rw [hy] at hby
        have HBY : Hid (Value.int .u8 (y.toNat : Int) = Value.int .u8 (d0 * 16 + d1)) := Lib.hid (by rw [hby, Int.mul_comm])
        clear B0 B1 hy hby
        have hown1 : ∀ v, Chg [] wr v → v.ownsRow w.heap.size 5 1 u4 out.length (out.map fun x => .int .u8 x.toNat) := fun v hv => own_chg hown hv
        go_wp2_with (first | (go_at_call_of 34 c0; refine (C0.out _).mono ?_; rintro e w1 ⟨rfl, hc1⟩) | (go_at_call_of 34 c1; refine (C1.out _).mono ?_; rintro e w2 ⟨rfl, hc2⟩) | (at_builtin; go_must (refine wpList_one row_u8 rfl _ _ rfl w.heap.size w w2 _ out y _ HBY.out (hown1 w2 (hc1.trans0 hc2)) rfl rfl (by omega) (Nat.le_refl _) (by have := hc1.size; have := hc2.size; omega) ((hc.trans0 hc1).trans0 hc2) ?_; intro v' w3 hown3 hc3 hz3 hk3; clear hown hown1)))
        go_roundw
        case rel =>
          refine ⟨k + 2, out ++ [y], by omega, by go_num, by simp; omega, Lib.hid ⟨by have := H.out.1; omega, ?_, ?_⟩, hown3, hc3⟩
          · rw [D2.out, pairs_app _ _ (by rw [digs_length, List.length_take]; have := H.out.1; omega), ← H.out.2.1]
            simp only [pairs, HY.out]
          · rw [D2.out]
            intro d hd
            simp only [List.mem_append, List.mem_cons, List.not_mem_nil, or_false] at hd
            rcases hd with hd | rfl | rfl
            · exact H.out.2.2 d hd
            · omega
            · omega
        case measure => simp [intOf]; omega
    · have hkl : k = l.length := by omega
      have hx := H.out.2
      rw [hkl, List.take_length] at hx
      have E := Lib.hid (hexB_done l HO.out (by omega) hx.2)
      have HX := Lib.hid hx.1
      clear hx hkl H
      go_wp2
      go_ret2
      rw [E.out]
      have hown2 := hown
      obtain ⟨F, g1, g2, g3⟩ := row_bytes hown2 rfl
      exact ⟨_, F, rfl, hc, by rw [Option.getD_some, ← HX.out]; exact g1, g2, g3⟩

/-! ### the program's reading -/
theorem take_two {α : Type} (xs : List α) (k : Nat) (h : k < xs.length) (h1 : k + 1 < xs.length) : xs.take (k + 2) = xs.take k ++ [xs[k], xs[k + 1]] := by
  rw [show k + 2 = (k + 1) + 1 by omega, List.take_add_one, List.take_add_one, List.getElem?_eq_getElem h, List.getElem?_eq_getElem h1]
  simp only [Option.toList_some, List.append_assoc, List.singleton_append]
theorem digs_le (l : Bs) : ∀ d ∈ digs l, d ≤ 15 := by
  intro d hd
  unfold digs at hd
  obtain ⟨c, _, rfl⟩ := List.mem_map.1 hd
  exact (hexD_lt _).2
theorem wrapI (n : Int) (h0 : -1000000000 ≤ n) (h1 : n ≤ 1000000000) : IntKind.i64.wrap n = n := by
  rw [IntKind.wrap_i64]; omega
theorem wrapB (n : Int) (h0 : 0 ≤ n) (h1 : n ≤ 255) : IntKind.u8.wrap n = n := by
  rw [IntKind.wrap_u8]; omega

/-- the digits, a rune further -/
theorem digs_rune (l : Bs) (pos c wd : Nat) (h : pos < l.length) (hc : (wd = 1 ∧ c < 128 ∧ (l.getD pos 0).toNat = c) ∨ (1 ≤ wd ∧ 128 ≤ c ∧ pos + wd ≤ l.length ∧ ∀ j, j < wd → 128 ≤ (l.getD (pos + j) 0).toNat)) :
    (hexD c < 0 ∧ hexB l = none) ∨ (0 ≤ hexD c ∧ wd = 1 ∧ digs (l.take (pos + 1)) = digs (l.take pos) ++ [hexD c]) := by
  rcases hc with ⟨rfl, _, h3⟩ | ⟨h1, h2, _, h4⟩
  · rw [← h3]
    by_cases hd : hexD (l.getD pos 0).toNat < 0
    · exact Or.inl ⟨hd, digs_bad l pos h hd⟩
    · exact Or.inr ⟨by omega, rfl, digs_take_succ l pos h⟩
  · have e1 := hexD_big c h2
    have e2 := hexD_big _ (h4 0 (by omega))
    rw [Nat.add_zero] at e2
    exact Or.inl ⟨by omega, digs_bad l pos h (by omega)⟩
theorem hexB_odd (l : Bs) (h : ¬ (l.length % 2 = 0 ∧ l.length ≤ 4008)) : hexB l = none := by
  unfold hexB; rw [if_neg]; intro hx; exact h hx.2

set_option maxRecDepth 100000 in
theorem hexBytes_c (l : Bs) (hl : (l.length : Int) ≤ 1100000) (w : World) : Calls Tryd.prog 38 #[str l] w (RetHex (hexB l) w) := by
  have hs : (ByteArray.mk l.toArray).size = l.length := by simp [ByteArray.size]
  go_enter Tryd.func38, Tryd.ntmps38
  go_wp2
  go_loopw [4] (fun v wr => ∃ (pos : Nat), pos ≤ l.length ∧ Hid (∀ d ∈ digs (l.take pos), 0 ≤ d) ∧ wr.ownsRow w.heap.size 3 1 v (digs (l.take pos)).length ((digs (l.take pos)).map fun x => .int .i64 x) ∧ wr.heap[w.heap.size]? = some (.stringIter ⟨l.toArray⟩ pos) ∧ Chg [] w wr) (fun _ wr => l.length - wr.iterPos w.heap.size)
  case atStart => exact ⟨0, Nat.zero_le _, Lib.hid (by simp [digs]), ownsRow_nil _ _ _ _, World.iter_heap w _ 0, (Chg.refl [] w).alloc _⟩
  case round =>
    obtain ⟨pos, hpl, H, hown, hit, hc⟩ := hrel
    have hcs := hc.size
    by_cases hlt : pos < l.length
    · obtain ⟨c, wd, hd, hcl, hcs2⟩ := decode_cases l pos hlt
      have hnx := fun ty => run_next_go (P := Tryd.prog) wr w.heap.size ⟨l.toArray⟩ pos c wd ty hit (by rw [hs]; exact hlt) hd
      have HD := Lib.hid (digs_rune l pos c wd hlt hcs2)
      have hown2 := iterTo_own ⟨l.toArray⟩ (pos + wd) hown hit
      have hr1 : w.heap.size < wr.heap.size := by
        rcases Nat.lt_or_ge w.heap.size wr.heap.size with h' | h'
        · exact h'
        · rw [Array.getElem?_eq_none h'] at hit; cases hit
      have hit2 := iterTo_same wr w.heap.size ⟨l.toArray⟩ (pos + wd) hr1
      have hc2 := iterTo_chg ⟨l.toArray⟩ (pos + wd) hc (Nat.le_refl w.heap.size)
      have HSZ := Lib.hid (iterTo_size wr w.heap.size ⟨l.toArray⟩ (pos + wd))
      have HIP : Hid (wr.iterPos w.heap.size = pos) := Lib.hid (by simp [World.iterPos, hit])
      clear hcs2 hd hown hit hc
      generalize hwq : iterTo wr w.heap.size ⟨l.toArray⟩ (pos + wd) = wq at *
      have hcz := hc2.size
      clear hwq
      have C0 := Lib.hid (fun v => hexDigit_c c (by omega) v)
      have rr := hexD_lt c
      obtain ⟨ra, rb⟩ := rr
      generalize hexD c = d0 at *
      have hdl : (digs (l.take pos)).length = pos := by rw [digs_length, List.length_take]; omega
      have HDL := Lib.hid hdl
      clear hdl
      by_cases h0 : d0 < 0
      · have E : Hid (hexB l = none) := Lib.hid (by rcases HD.out with ⟨_, h⟩ | ⟨h, _⟩; exact h; omega)
        go_wp2_with (go_at_call 48; refine (C0.out _).mono ?_; rintro e w1 ⟨rfl, hc1⟩)
        go_ret2
        rw [E.out]
        exact ⟨_, [], rfl, hc2.trans0 hc1, RL.nil_, Own.nil_ _, by simp⟩
      · go_wp2_with (first | (go_at_call 48; refine (C0.out _).mono ?_; rintro e w1 ⟨rfl, hc1⟩) | (at_builtin; go_must (refine wpList_one row_int rfl _ _ rfl w.heap.size w w1 _ (digs (l.take pos)) d0 _ rfl (own_chg hown2 hc1) rfl rfl (by rw [HDL.out]; omega) (Nat.le_refl _) (by have := hc1.size; omega) (hc2.trans0 hc1) ?_; intro v' w3 hown3 hc3 hz3 hk3)))
        have hx := HD.out
        have hw1 : wd = 1 := by rcases hx with ⟨h, _⟩ | ⟨_, h, _⟩; omega; exact h
        have hdg : digs (l.take (pos + 1)) = digs (l.take pos) ++ [d0] := by rcases hx with ⟨h, _⟩ | ⟨_, _, h⟩; omega; exact h
        subst hw1
        have hit3 : w3.heap[w.heap.size]? = some (.stringIter ⟨l.toArray⟩ (pos + 1)) := by
          have hz1 := hc1.size
          have := HSZ.out
          rw [hk3 _ (by omega) (own_not_iter hown2 hit2), hc1.block _ (by omega) (by simp)]; exact hit2
        have HIP3 : Hid (w3.iterPos w.heap.size = pos + 1) := Lib.hid (by simp [World.iterPos, hit3])
        clear hk3 hown2 hit2 hc2 hnx hx
        go_roundw
        case rel =>
          refine ⟨pos + 1, by omega, Lib.hid ?_, by rw [hdg]; exact hown3, hit3, hc3⟩
          rw [hdg]
          intro d hd
          simp only [List.mem_append, List.mem_cons, List.not_mem_nil, or_false] at hd
          rcases hd with hd | rfl
          · exact H.out d hd
          · omega
        case measure => rw [HIP3.out, HIP.out]; omega
    · have hpe : pos = l.length := by omega
      subst hpe
      have hnx := fun ty => run_next_over (P := Tryd.prog) wr w.heap.size ⟨l.toArray⟩ l.length ty hit (by rw [hs]; exact hlt)
      rw [List.take_length] at hown H
      have hdl := digs_length l
      rw [hdl] at hown
      have HDL := Lib.hid hdl
      obtain ⟨A, cap, hv, hcap⟩ : ∃ A cap, u4 = .slice A l.length cap ∧ l.length ≤ cap := by
        obtain ⟨A, cap, h1, h2⟩ := own_form (f := fun x : Int => Value.int .i64 x) (out := digs l) (by rw [hdl]; exact hown)
        rw [hdl] at h1 h2
        exact ⟨A, cap, h1, h2⟩
      subst hv
      clear hdl hit
      by_cases hev : l.length % 2 = 0 ∧ l.length ≤ 4008
      · obtain ⟨he1, he2⟩ := hev
        have hb0 : (((l.length : Nat) : Int) % 2 != 0) = false := by simp; omega
        have hb1 : ¬ ((4008 : Int) < ((l.length : Nat) : Int)) := by omega
        have E := Lib.hid (hexB_done l (by omega) he2 H.out)
        have HE := Lib.hid he1
        have hc0 := Lib.hid hc
        obtain ⟨wz, hwz⟩ : ∃ z, z = wr := ⟨_, rfl⟩
        subst hwz
        clear he1 he2
        go_wp2
        go_loopw [8, 9] (fun v i wq => ∃ (k : Nat) (out : Bs), k ≤ l.length ∧ i = .int .i64 k ∧ out.length ≤ k ∧ Hid (k % 2 = 0 ∧ out = pairs ((digs l).take k)) ∧ wq.ownsRow wz.heap.size 5 1 v out.length (out.map fun x => .int .u8 x.toNat) ∧ Chg [] wz wq) (fun _ i _ => l.length - (intOf i).toNat)
        case atStart => exact ⟨0, [], Nat.zero_le _, rfl, Nat.le_refl _, Lib.hid ⟨rfl, rfl⟩, ownsRow_nil _ _ _ _, Chg.refl _ _⟩
        case round =>
          obtain ⟨k, out, hk, rfl, hol, H2, hown2, hcq⟩ := hrel
          have hcz := hcq.size
          by_cases hlk : k < l.length
          · have hlk1 : k + 1 < l.length := by have := H2.out.1; have := HE.out; omega
            obtain ⟨g, cap2, e1, hle, m0⟩ := own_cell (f := fun x : Int => Value.int .i64 x) (out := digs l) (by rw [HDL.out]; exact own_chg hown hcq) k (by rw [HDL.out]; exact hlk)
            obtain ⟨g2, cap3, e2, hle2, m1⟩ := own_cell (f := fun x : Int => Value.int .i64 x) (out := digs l) (by rw [HDL.out]; exact own_chg hown hcq) (k + 1) (by rw [HDL.out]; exact hlk1)
            rw [HDL.out] at e1 e2
            injection e1 with e1 _ e1c
            injection e2 with e2 _ e2c
            subst e1
            injection e2 with e2
            injection e2 with e2
            subst e2
            have hxk : k < (digs l).length := by rw [HDL.out]; exact hlk
            have hxk1 : k + 1 < (digs l).length := by rw [HDL.out]; exact hlk1
            have hd0 := H.out (digs l)[k] (List.getElem_mem _)
            have hd1 := H.out (digs l)[k + 1] (List.getElem_mem _)
            have D2 := Lib.hid (take_two (digs l) k hxk hxk1)
            have hu0 := digs_le l (digs l)[k] (List.getElem_mem _)
            have hu1 := digs_le l (digs l)[k + 1] (List.getElem_mem _)
            clear hle hle2 e1c e2c hnx
            generalize (digs l)[k]'hxk = d0 at *
            generalize (digs l)[k + 1]'hxk1 = d1 at *
            clear hxk hxk1
            have hby := hexD_byte d0 d1 hd0 hu0 hd1 hu1
            obtain ⟨y, hy⟩ : ∃ y, UInt8.ofNat (16 * d0 + d1).toNat = y := ⟨_, rfl⟩
            have HY := Lib.hid hy
            rw [hy] at hby
            have HBY : Hid (Value.int .u8 (y.toNat : Int) = Value.int .u8 (16 * d0 + d1)) := Lib.hid (by rw [hby])
            clear hy hby
            have hi0 : (0 : Int) ≤ (k : Int) ∧ (k : Int) < (l.length : Int) := by omega
            have hi1 : (0 : Int) ≤ (k : Int) + 1 ∧ (k : Int) + 1 < (l.length : Int) := by omega
            have Wa := wrapI ((k : Int) + 1) (by omega) (by omega)
            have Wb := wrapI (16 * d0) (by omega) (by omega)
            have Wc := wrapI (16 * d0 + d1) (by omega) (by omega)
            have Wd := wrapB (16 * d0 + d1) (by omega) (by omega)
            go_wp2_with fail
            have HO2 := Lib.hid hown2
            have HCQ := Lib.hid hcq
            clear hown2 hcq hown hc
            go_region_law (refine step_one row_u8 rfl (.tmp 38) (.tmp 51) rfl wz.heap.size wz _ _ out y _ HBY.out ?_ rfl _ rfl ?_ ?_ ?_ ?_ ?_ ?_
                           · exact own_chg HO2.out (by repeat (first | with_reducible exact Chg.refl _ _ | with_reducible refine Chg.alloc ?_ _ | with_reducible refine Chg.drewN ?_ _ | with_reducible refine Chg.drew ?_))
                           · simp
                           · omega
                           · exact Nat.le_refl _
                           · simp; omega
                           · repeat (first | with_reducible exact HCQ.out | with_reducible refine Chg.alloc ?_ _ | with_reducible refine Chg.drewN ?_ _ | with_reducible refine Chg.drew ?_)
                           intro v' w3 hown3 hc3 hz3 hk3)
            all_goals
              clear Wa Wb Wc Wd hk3 hz3 m0 m1
              try go_simp
              try go_wp2
              go_roundw
              case rel =>
                refine ⟨k + 2, out ++ [y], by omega, by go_num, by simp; omega, Lib.hid ⟨by have := H2.out.1; omega, ?_⟩, hown3, hc3⟩
                rw [D2.out, pairs_app _ _ (by rw [List.length_take, HDL.out]; have := H2.out.1; omega), ← H2.out.2]
                simp only [pairs, HY.out]
              case measure => simp [intOf]; omega
          · have hkl : k = l.length := by omega
            have hx := H2.out.2
            rw [hkl, ← HDL.out, List.take_length] at hx
            have HX := Lib.hid hx
            have HC9 := Lib.hid hcq
            have HO9 := Lib.hid hown2
            clear hx hkl H2 hown hown2 hcq
            go_wp2
            go_ret2
            rw [E.out]
            have hz := hc0.out.size
            obtain ⟨F, g1, g2, g3⟩ := row_bytes HO9.out rfl
            exact ⟨_, F, rfl, hc0.out.trans0 HC9.out, by rw [Option.getD_some, ← HX.out]; exact g1, g2, fun g hg => Nat.le_trans hz (g3 g hg)⟩
      · have E := Lib.hid (hexB_odd l hev)
        by_cases hod : l.length % 2 = 0
        · have hb0 : (((l.length : Nat) : Int) % 2 != 0) = false := by simp; omega
          have hb1 : ((4008 : Int) < ((l.length : Nat) : Int)) := by omega
          clear hev hod
          go_wp2
          go_ret2
          rw [E.out]
          exact ⟨_, [], rfl, hc, RL.nil_, Own.nil_ _, by simp⟩
        · have hb0 : (((l.length : Nat) : Int) % 2 != 0) = true := by simp; omega
          clear hev hod
          go_wp2
          go_ret2
          rw [E.out]
          exact ⟨_, [], rfl, hc, RL.nil_, Own.nil_ _, by simp⟩
end Go.Proofs.YtaiinlhobcclcaaDoor.Wk
