/- Contracts: the reference's words, names and kinds. -/
import Derived.Test.YtaiinlhobcclcaaDoorNumW3
namespace Go.Proofs.YtaiinlhobcclcaaDoor.Wk
open Go Go.RowKit Go.Deep Ow
open Rp (R sz)

/-- a row of words of the call's own reads as them -/
theorem row_words {w : World} {base : Nat} {v : Value} {n : Nat} {cells : List Value} {ws : List Bs} (h : w.ownsRow base 9 1 v n cells) (hn : n = ws.length) (hc : cells = ws.map str) (hl : ∀ x ∈ ws, (x.length : Int) ≤ 1000000000) :
    ∃ F, RL w (bws ws) v F ∧ Own w F ∧ ∀ g ∈ F, base ≤ g := by
  refine RL.of_own1 (xs := bws ws) Value.string rfl h (by rw [bws_length]; exact hn) (by rw [hc, bws, List.map_map]; rfl) ?_
  intro x hx
  simp only [bws, List.mem_map] at hx
  obtain ⟨y, hy, rfl⟩ := hx
  have := hl y hy
  exact ⟨rfl, rfl, by simp only [ByteArray.size, List.size_toArray, maxLen]; omega⟩

set_option maxRecDepth 100000 in
theorem l17Names_c (w : World) : Calls Tryd.prog 33 #[] w (Fresh (bws evNames) w) := by
  go_enter Tryd.func33, Tryd.ntmps33
  go_wp2
  go_ret
  have hown : (w.alloc (.cells (evNames.map str).toArray 9)).ownsRow w.heap.size 9 1 (.slice (some ⟨w.heap.size, 0, none⟩) 14 14) 14 (evNames.map str) :=
    ⟨rfl, Or.inr ⟨w.heap.size, 14, (evNames.map str).toArray, rfl, Nat.le_refl _, heap_alloc_new w _, Nat.le_refl _, by unfold maxLen; omega, rfl, rfl⟩⟩
  obtain ⟨F, h1, h2, h3⟩ := row_words (ws := evNames) hown rfl rfl (by decide)
  exact Fresh.mk_ ((Chg.refl [] w).alloc _) h1 h2 h3

theorem kindFrom_at (s : Bs) (k : Nat) (h : k < 14) : kindFrom s k (evNames.drop k) = if evNames.getD k [] = s then k else kindFrom s (k + 1) (evNames.drop (k + 1)) := by
  have hl : evNames.length = 14 := rfl
  rw [List.drop_eq_getElem_cons (by omega), kindFrom, List.getD_eq_getElem?_getD, List.getElem?_eq_getElem (by omega)]
  rfl

set_option maxRecDepth 100000 in
theorem l17Kind_c (s : Bs) (w : World) : Calls Tryd.prog 14 #[str s] w fun e w' => e = .returned (.int .i64 (kindOf s)) ∧ Chg [] w w' := by
  go_enter Tryd.func14, Tryd.ntmps14
  go_wp2_with fail
  refine (l17Names_c _).mono ?_
  rintro e w1 ⟨v, G, rfl, hc1, hr1, -, -⟩
  obtain ⟨A, ca, rfl, -, -⟩ := hr1.form
  have h14 : (bws evNames).length = 14 := rfl
  rw [h14] at *
  clear h14
  go_wp2
  go_loopw [4] (fun i wr => ∃ k : Nat, 1 ≤ k ∧ k ≤ 14 ∧ i = .int .i64 k ∧ Hid (kindFrom s k (evNames.drop k) = kindOf s) ∧ Chg [] w1 wr) (fun i _ => 14 - (intOf i).toNat)
  case atStart => exact ⟨1, Nat.le_refl _, by decide, rfl, Lib.hid rfl, Chg.refl _ _⟩
  case round =>
    obtain ⟨k, hk0, hk, rfl, H, hc⟩ := hrel
    by_cases hlt : k < 14
    · obtain ⟨b, off, cap, e1, m1, hb, -⟩ := word_cell (ws := evNames) (hr1.chg0 hc) (i := k) hlt
      injection e1 with e1 _ e1c
      subst e1 e1c
      have e := H.out
      rw [kindFrom_at s k hlt] at e
      have H2 := Lib.hid e
      clear e H hr1
      generalize evNames.getD k [] = x at *
      by_cases hx : x = s
      · have hb : (x == s) = true := by rw [hx, beq_self_eq_true]
        have HX := Lib.hid hx
        clear hx
        go_wp2
        go_ret
        have e := H2.out
        rw [if_pos HX.out] at e
        exact ⟨by rw [← e]; rfl, hc1.trans0 hc⟩
      · have hb : (x == s) = false := beq_eq_false_iff_ne.2 hx
        have HX := Lib.hid hx
        clear hx
        go_wp2
        go_roundw
        case rel =>
          have e := H2.out
          rw [if_neg HX.out] at e
          exact ⟨k + 1, by omega, by omega, by go_num, Lib.hid e, hc⟩
        case measure => simp [intOf]; omega
    · have e : k = 14 := by omega
      subst e
      have e := H.out
      go_wp2
      go_ret
      exact ⟨by rw [← H.out]; rfl, hc1.trans0 hc⟩

/-- one byte of a string -/
theorem byte_cut (l : Bs) (k : Nat) (h : k < l.length) : ∃ c, l[k]? = some c ∧ l.drop k = c :: l.drop (k + 1) ∧ (∀ hq, (ByteArray.mk l.toArray)[k]'hq = c) ∧ (ByteArray.mk l.toArray).extract k (k + 1) = ByteArray.mk [c].toArray := by
  refine ⟨l[k], List.getElem?_eq_getElem h, List.drop_eq_getElem_cons h, fun h' => by simp [ByteArray.getElem_eq_getElem_data], ?_⟩
  rw [ByteArray.extract_mk, List.drop_eq_getElem_cons h, Nat.add_sub_cancel_left]
  rfl

/-- a word more -/
theorem wpList_word {ops : Array Oper} {rest : List Oper} {o : Oper} {a : Act} {Q : Exit → Act → World → Prop} (hgd : o.guard = none) (s x : Operand)
    (ho : o.op = .call { callee := .builtin .append, args := #[s, x], argTypes := #[34, 34] })
    (B : Nat) (w wr : World) (v : Value) (out : List Bs) (acc : Bs) (hown : wr.ownsRow B 9 1 v out.length (out.map str)) (hs : a.eval s = v)
    (hx : a.eval x = .slice (some ⟨wr.heap.size, 0, none⟩) 1 1) (hol : (out.length : Int) ≤ 1100000) (hB : w.heap.size ≤ B) (hB2 : B ≤ wr.heap.size) (hc : Chg [] w wr)
    (h : ∀ v' w', w'.ownsRow B 9 1 v' (out ++ [acc]).length ((out ++ [acc]).map str) → Chg [] w w' → w'.heap.size ≥ wr.heap.size → (∀ k, k < wr.heap.size → v.ownBlock ≠ some k → w'.heap[k]? = wr.heap[k]?) → wpList Tryd.prog ops Q rest (a.put o.dst v') w') :
    wpList Tryd.prog ops Q (o :: rest) a (wr.alloc (.cells #[str acc] 9)) := by
  obtain ⟨i0, hi, hz0, hz1, hz2⟩ := info_parts (show (Tryd.prog.info? 9).map (fun i => (i.zero, i.size, i.bytes)) = some (some (.string ByteArray.empty), 1, 16) by kernel_rfl)
  refine wpList_append_own _ hgd s x 34 ho B 9 i0 (.string ByteArray.empty) 1 16 Tryd.underlying34 hi hz0 hz1 hz2 rfl (by decide) v out.length (out.map str) hs (hown.alloc _) ⟨wr.heap.size, 0, none⟩ 1 1 [str acc] hx rfl ?_ ?_ ?_ ?_ ?_ ?_
  · intro j u hj
    match j, hj with
    | 0, hj => simp only [List.getElem?_cons_zero, Option.some.injEq] at hj; subst hj; simp [Addr.add]
  · intro u hu; simp only [List.mem_singleton] at hu; subst hu; rfl
  · unfold maxLen; omega
  · omega
  · simp only [World.size_alloc]; omega
  · intro v' w' h2 h3 h4
    have hsz := h3.size
    simp only [World.size_alloc] at hsz
    refine h v' w' (by simpa using h2) ((hc.alloc _).grown h3 (fun k hk => Or.inr (by have := ownsRow_lt hown k hk; omega))) (by omega) (fun k hk hn => ?_)
    rw [h3.block k (by simp only [World.size_alloc]; omega) (fun e => hn e.symm), Below.heap_alloc _ _ _ hk]

set_option maxRecDepth 100000 in
theorem l4Words_c (l : Bs) (hl : (l.length : Int) ≤ 1100000) (w : World) : Calls Tryd.prog 13 #[str l] w (Fresh (bws (words l)) w) := by
  have HWL : Hid (∀ x ∈ words l, (x.length : Int) ≤ 1000000000) := Lib.hid (fun x hx => by have := words_len l x hx; omega)
  go_enter Tryd.func13, Tryd.ntmps13
  go_wp2
  go_loopw [3, 4, 5] (fun v x i wr => ∃ (k : Nat) (out : List Bs) (acc : Bs), k ≤ l.length ∧ i = .int .i64 k ∧ x = str acc ∧ out.length ≤ k ∧ acc.length ≤ k ∧ Hid (out ++ wordsFrom acc (l.drop k) = words l) ∧ wr.ownsRow w.heap.size 9 1 v out.length (out.map str) ∧ Chg [] w wr) (fun _ _ i _ => l.length - (intOf i).toNat)
  case atStart => exact ⟨0, [], [], Nat.zero_le _, rfl, rfl, by simp, by simp, Lib.hid rfl, ownsRow_empty w w.heap.size _ 1 (Nat.le_refl _), (Chg.refl [] w).alloc _⟩
  case round =>
    obtain ⟨k, out, acc, hk, rfl, rfl, hol, hal, H, hown, hc⟩ := hrel
    have hcs := hc.size
    by_cases hlt : k < l.length
    · obtain ⟨c, -, hdr, hce, hcx⟩ := byte_cut l k hlt
      have e := H.out
      rw [hdr, wordsFrom] at e
      have HE := Lib.hid e
      clear e hdr H
      by_cases h32 : c = 32
      · subst h32
        go_wp2_with (at_builtin; go_must (refine wpList_word rfl _ _ rfl w.heap.size w wr _ out acc hown rfl rfl (by omega) (Nat.le_refl _) hcs hc ?_; intro v' w1 hown1 hc1 _ _; clear hown hc))
        go_roundw
        case rel =>
          have e := HE.out
          rw [if_pos rfl] at e
          exact ⟨k + 1, out ++ [acc], [], by omega, by go_num, rfl, by simp; omega, by simp, Lib.hid (by rw [← e]; simp), hown1, hc1⟩
        case measure => simp [intOf]; omega
      · have hadd := add_str acc [c] (by simp only [List.length_cons, List.length_nil]; omega)
        have hcb : ((c.toNat : Int) == 32) = false := by
          rw [beq_eq_false_iff_ne]; intro h; apply h32; rw [← UInt8.toNat_inj]; simp; omega
        have HN := Lib.hid h32
        clear h32
        go_wp2
        go_roundw
        case rel =>
          have e := HE.out
          rw [if_neg HN.out] at e
          exact ⟨k + 1, out, acc ++ [c], by omega, by go_num, rfl, by omega, by simp; omega, Lib.hid e, hown, hc⟩
        case measure => simp [intOf]; omega
    · have hd : l.drop k = [] := List.drop_eq_nil_of_le (by omega)
      have e := H.out
      rw [hd, wordsFrom] at e
      have HE := Lib.hid e
      clear e hd H
      go_wp2_with (at_builtin; refine wpList_word rfl _ _ rfl w.heap.size w wr _ out acc hown rfl rfl (by omega) (Nat.le_refl _) hcs hc ?_; intro v' w1 hown1 hc1 _ _; clear hown hc)
      go_ret
      rw [HE.out] at hown1
      obtain ⟨F, h1, h2, h3⟩ := row_words hown1 rfl rfl HWL.out
      exact Fresh.mk_ hc1 h1 h2 h3
end Go.Proofs.YtaiinlhobcclcaaDoor.Wk
