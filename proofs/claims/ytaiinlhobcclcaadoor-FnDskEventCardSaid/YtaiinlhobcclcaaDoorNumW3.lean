/- Contracts: the reference's NumRead, l4Num, l4At. -/
import Derived.Test.YtaiinlhobcclcaaDoorNumW2
namespace Go.Proofs.YtaiinlhobcclcaaDoor.Wk
open Go Go.RowKit Go.Deep Ow
open Rp (R sz)

theorem numValue_bound {t : Bs} {m : Nat} (h : numValue t = some m) : (m : Int) < 1000000 := by
  unfold numValue at h
  split at h
  · cases h
  · rename_i h0
    rw [not_or] at h0
    have := Lib.decFrom_lt t 0 m h
    have h2 : 10 ^ t.length ≤ 10 ^ 6 := Nat.pow_le_pow_right (by decide) (by omega)
    simp only [Nat.zero_add, Nat.one_mul] at this
    omega
/-- what is asked at the end: is the number's text the word -/
theorem numReadS_of {l : Bs} {m : Nat} {n : Int} (h : numValue (unsigned l) = some m) (hn : (if (unsigned l).length < l.length then -(m : Int) else (m : Int)) = n) :
    numReadS l = if numText n = l then some n else none := by
  unfold numReadS
  rw [h]
  simp only [hn]
theorem numReadS_none {l : Bs} (h : numValue (unsigned l) = none) : numReadS l = none := by
  unfold numReadS
  rw [h]

theorem l1Value_none {l : Bs} (hl : (l.length : Int) ≤ 9223372036854775807) (h : numValue l = none) (w : World) : Calls Tryd.prog 35 #[str l] w fun e w' => e = .returned (.tuple #[.int .i64 0, .bool false]) ∧ Chg [] w w' := by
  have := l1Value_c l hl w
  rw [h] at this
  exact this
theorem l1Value_some {l : Bs} {m : Nat} (hl : (l.length : Int) ≤ 9223372036854775807) (h : numValue l = some m) (w : World) : Calls Tryd.prog 35 #[str l] w fun e w' => e = .returned (.tuple #[.int .i64 m, .bool true]) ∧ Chg [] w w' := by
  have := l1Value_c l hl w
  rw [h] at this
  exact this

set_option maxRecDepth 100000 in
theorem specNumRead_c (l : Bs) (hl : (l.length : Int) ≤ 9223372036854775807) (w : World) : Calls Tryd.prog 17 #[str l] w fun e w' => e = .returned (.tuple #[.int .i64 ((numReadS l).getD 0), .bool (numReadS l).isSome]) ∧ Chg [] w w' := by
  rcases l with _ | ⟨c, r⟩
  · have e : numReadS ([] : Bs) = none := rfl
    rw [e]
    go_enter Tryd.func17, Tryd.ntmps17
    go_wp2_with (go_at_call 35; refine (l1Value_none (l := []) (by simp) rfl _).mono ?_; rintro e w1 ⟨rfl, hc1⟩)
    go_ret2
    exact ⟨rfl, hc1⟩
  · obtain ⟨c0, hck, hce⟩ := byte_at (c :: r) 0 (by simp)
    simp only [List.getElem?_cons_zero, Option.some.injEq] at hck
    subst hck
    have HL := Lib.hid hl
    have hr0 : (0 : Int) < (r.length : Int) + 1 := by omega
    by_cases hc : c.toNat = 45
    · have hce2 : c = 45 := by rw [← UInt8.toNat_inj, hc]; rfl
      subst hce2
      have hu : unsigned (45 :: r) = r := rfl
      clear hc hl
      have hlr := HL.out
      simp only [List.length_cons] at hlr
      have HR : Hid ((r.length : Int) ≤ 9223372036854775807) := Lib.hid (by omega)
      clear hlr
      have hx : ∀ n, (ByteArray.mk (45 :: r).toArray).extract 1 (r.length + 1 + n) = ByteArray.mk r.toArray := fun n => by
        rw [ByteArray.extract_mk]
        simp only [List.drop_succ_cons, List.drop_zero]
        rw [List.take_of_length_le (by omega)]
      have hx0 := hx 0
      clear hx
      rcases hv : numValue r with _ | m
      · have E := Lib.hid (numReadS_none (l := 45 :: r) hv)
        go_enter Tryd.func17, Tryd.ntmps17
        go_wp2_with (go_at_call 35; refine (l1Value_none (l := r) HR.out hv _).mono ?_; rintro e w1 ⟨rfl, hc1⟩)
        go_ret2
        exact ⟨by rw [E.out]; rfl, hc1⟩
      · have hmb := numValue_bound hv
        obtain ⟨n, hn⟩ : ∃ n : Int, -(m : Int) = n := ⟨_, rfl⟩
        have hn0 : -1000000 < n := by omega
        have hn1 : n ≤ 0 := by omega
        have E := Lib.hid (numReadS_of (l := 45 :: r) (n := n) hv (by rw [hu]; rw [if_pos (by simp)]; exact hn))
        have hnt := Lib.hid hv
        have hlt1 : (r.length : Int) < (r.length : Int) + 1 := by omega
        have hw : wrap64 (-(m : Int)) = n := by rw [hn]; unfold wrap64; omega
        clear hv hu hmb hn
        by_cases ht : numText n = 45 :: r
        · have ht2 := Lib.hid ht
          have htb : (numText n == 45 :: r) = true := by rw [ht, beq_self_eq_true]
          clear ht
          go_enter Tryd.func17, Tryd.ntmps17
          go_wp2_with (first | (go_at_call 35; refine (l1Value_some (l := r) HR.out hnt.out _).mono ?_; rintro e w1 ⟨rfl, hc1⟩) | (go_at_call 36; refine (specNumText_c n _).mono ?_; rintro e w2 ⟨rfl, hc2⟩))
          go_ret2
          exact ⟨by rw [E.out, if_pos ht2.out]; rfl, hc1.trans0 hc2⟩
        · have ht2 := Lib.hid ht
          have htb : (numText n == 45 :: r) = false := beq_eq_false_iff_ne.2 ht
          clear ht
          go_enter Tryd.func17, Tryd.ntmps17
          go_wp2_with (first | (go_at_call 35; refine (l1Value_some (l := r) HR.out hnt.out _).mono ?_; rintro e w1 ⟨rfl, hc1⟩) | (go_at_call 36; refine (specNumText_c n _).mono ?_; rintro e w2 ⟨rfl, hc2⟩))
          go_ret2
          exact ⟨by rw [E.out, if_neg ht2.out]; rfl, hc1.trans0 hc2⟩
    · have hcb : ((c.toNat : Int) == 45) = false := by rw [beq_eq_false_iff_ne]; omega
      have hu : unsigned (c :: r) = c :: r := by
        unfold unsigned
        rw [List.head?_cons, if_neg]
        intro h; injection h with h; subst h; exact hc rfl
      have hlx : ¬ ((r.length : Int) + 1 < (r.length : Int) + 1) := by omega
      clear hl hc
      rcases hv : numValue (c :: r) with _ | m
      · have E := Lib.hid (numReadS_none (l := c :: r) (by rw [hu]; exact hv))
        have hnt := Lib.hid hv
        clear hv hu
        go_enter Tryd.func17, Tryd.ntmps17
        go_wp2_with (go_at_call 35; refine (l1Value_none (l := c :: r) HL.out hnt.out _).mono ?_; rintro e w1 ⟨rfl, hc1⟩)
        go_ret2
        exact ⟨by rw [E.out]; rfl, hc1⟩
      · have hmb := numValue_bound hv
        have E := Lib.hid (numReadS_of (l := c :: r) (n := (m : Int)) (by rw [hu]; exact hv) (by rw [hu]; rw [if_neg (by omega)]))
        have hnt := Lib.hid hv
        clear hv hu
        by_cases ht : numText (m : Int) = c :: r
        · have ht2 := Lib.hid ht
          have htb : (numText (m : Int) == c :: r) = true := by rw [ht, beq_self_eq_true]
          clear ht
          go_enter Tryd.func17, Tryd.ntmps17
          go_wp2_with (first | (go_at_call 35; refine (l1Value_some (l := c :: r) HL.out hnt.out _).mono ?_; rintro e w1 ⟨rfl, hc1⟩) | (go_at_call 36; refine (specNumText_c (m : Int) _).mono ?_; rintro e w2 ⟨rfl, hc2⟩))
          go_ret2
          exact ⟨by rw [E.out, if_pos ht2.out]; rfl, hc1.trans0 hc2⟩
        · have ht2 := Lib.hid ht
          have htb : (numText (m : Int) == c :: r) = false := beq_eq_false_iff_ne.2 ht
          clear ht
          go_enter Tryd.func17, Tryd.ntmps17
          go_wp2_with (first | (go_at_call 35; refine (l1Value_some (l := c :: r) HL.out hnt.out _).mono ?_; rintro e w1 ⟨rfl, hc1⟩) | (go_at_call 36; refine (specNumText_c (m : Int) _).mono ?_; rintro e w2 ⟨rfl, hc2⟩))
          go_ret2
          exact ⟨by rw [E.out, if_neg ht2.out]; rfl, hc1.trans0 hc2⟩

theorem l4Num_c (l : Bs) (hl : (l.length : Int) ≤ 9223372036854775807) (w : World) : Calls Tryd.prog 18 #[str l] w fun e w' => e = .returned (.int .i64 (numS l)) ∧ Chg [] w w' := by
  have HL := Lib.hid hl
  clear hl
  unfold numS
  rcases hv : numReadS l with _ | n
  · have hv2 := Lib.hid hv
    clear hv
    go_enter Tryd.func18, Tryd.ntmps18
    go_wp2_with (go_at_call 17; refine (specNumRead_c l HL.out _).mono ?_; rw [hv2.out]; rintro e w1 ⟨rfl, hc1⟩)
    go_ret
    exact ⟨rfl, hc1⟩
  · have hv2 := Lib.hid hv
    clear hv
    go_enter Tryd.func18, Tryd.ntmps18
    go_wp2_with (go_at_call 17; refine (specNumRead_c l HL.out _).mono ?_; rw [hv2.out]; rintro e w1 ⟨rfl, hc1⟩)
    go_ret
    exact ⟨rfl, hc1⟩

/-- words as they lie in memory -/
def bws (ws : List Bs) : List ByteArray := ws.map fun x => ⟨x.toArray⟩
theorem bws_length (ws : List Bs) : (bws ws).length = ws.length := List.length_map _
theorem bws_at (ws : List Bs) (i : Nat) (h : i < ws.length) : (bws ws)[i]'(by rw [bws_length]; exact h) = ⟨(ws.getD i []).toArray⟩ := by
  simp [bws, h]
/-- the word at a place -/
theorem word_cell {w : World} {ws : List Bs} {v : Value} {F : List Nat} (h : RL w (bws ws) v F) {i : Nat} (hi : i < ws.length) :
    ∃ b off cap, v = .slice (some ⟨b, off, none⟩) ws.length cap ∧ w.cell? ⟨b, off + i, none⟩ = some (str (ws.getD i [])) ∧ b < w.heap.size ∧ ((ws.getD i []).length : Int) ≤ 9223372036854775807 := by
  obtain ⟨b, off, cap, cs, Fi, e1, r1, m1, -⟩ := h.elem (i := i) (by rw [bws_length]; exact hi)
  rw [bws_at ws i hi] at r1
  obtain ⟨rfl, -, hs⟩ := R_str.1 r1
  rw [bws_length] at e1
  have m2 := m1 0 (by decide)
  simp only [sz_str, Nat.mul_one, Nat.add_zero, List.getElem?_cons_zero] at m2
  refine ⟨b, off, cap, e1, m2, World.block_lt_of_cell? _ _ m2, ?_⟩
  simp only [ByteArray.size, List.size_toArray, maxLen] at hs
  omega

set_option maxRecDepth 100000 in
theorem l4At_c (ws : List Bs) (k : Nat) (hk : (k : Int) ≤ 100) (v : Value) (F : List Nat) (w : World) (h : RL w (bws ws) v F) : Calls Tryd.prog 16 #[v, .int .i64 k] w fun e w' => e = .returned (str (ws.getD k [])) ∧ Chg [] w w' := by
  obtain ⟨A, ca, rfl, hla, hma⟩ := h.form
  rw [bws_length] at *
  by_cases hlt : k < ws.length
  · obtain ⟨b, off, cap, e1, m1, hb, -⟩ := word_cell h hlt
    injection e1 with e1 _ e1c
    subst e1 e1c
    generalize ws.getD k [] = x at *
    clear h hla hma
    go_enter Tryd.func16, Tryd.ntmps16
    go_wp2
    go_ret
    exact ⟨rfl, Chg.refl _ _⟩
  · have e : ws.getD k [] = [] := by simp [hlt]
    rw [e]
    clear h hla hma e
    go_enter Tryd.func16, Tryd.ntmps16
    go_wp2
    go_ret
    exact ⟨rfl, Chg.refl _ _⟩
end Go.Proofs.YtaiinlhobcclcaaDoor.Wk
