/- Contracts: how the program cuts a line at its spaces. -/
import Derived.Test.YtaiinlhobcclcaaDoorWordsW
import Derived.Laws.RangeString
import Derived.WalkMore
namespace Go.Proofs.YtaiinlhobcclcaaDoor.Wk
open Go Go.RowKit Go.Deep Ow
open Rp (R sz)

/-! ### a string's runes -/
theorem get!_at (l : Bs) (k : Nat) : (ByteArray.mk l.toArray).get! k = l.getD k 0 := by
  simp only [ByteArray.get!, List.getElem!_toArray, List.getD_eq_getElem?_getD]
  rw [getElem!_def]
  split <;> simp_all <;> rfl
/-- a rune: a byte below 128, or all its bytes are not -/
theorem decode_cases (l : Bs) (pos : Nat) (h : pos < l.length) : ∃ c wd, Utf8.decode (ByteArray.mk l.toArray) pos = (c, wd) ∧ c < 1114112 ∧
    ((wd = 1 ∧ c < 128 ∧ (l.getD pos 0).toNat = c) ∨ (1 ≤ wd ∧ 128 ≤ c ∧ pos + wd ≤ l.length ∧ ∀ j, j < wd → 128 ≤ (l.getD (pos + j) 0).toNat)) := by
  have e := Lib.decode_at (ByteArray.mk l.toArray) pos
  rw [get!_at, get!_at, get!_at, get!_at] at e
  have hs : (ByteArray.mk l.toArray).size = l.length := by simp [ByteArray.size]
  rw [hs] at e
  refine ⟨(Utf8.decode (ByteArray.mk l.toArray) pos).1, (Utf8.decode (ByteArray.mk l.toArray) pos).2, (Prod.eta _).symm, ?_⟩
  rw [e]
  have b0 := (l.getD pos 0).toNat_lt
  have b1 := (l.getD (pos + 1) 0).toNat_lt
  have b2 := (l.getD (pos + 2) 0).toNat_lt
  have b3 := (l.getD (pos + 3) 0).toNat_lt
  have key : ∀ (wd : Nat), 1 ≤ wd → wd ≤ 4 → 128 ≤ (l.getD pos 0).toNat → (2 ≤ wd → 128 ≤ (l.getD (pos + 1) 0).toNat) → (3 ≤ wd → 128 ≤ (l.getD (pos + 2) 0).toNat) → (4 ≤ wd → 128 ≤ (l.getD (pos + 3) 0).toNat) → ∀ j, j < wd → 128 ≤ (l.getD (pos + j) 0).toNat := by
    intro wd h1 h4 g0 g1 g2 g3 j hj
    match j, hj with
    | 0, _ => exact g0
    | 1, _ => exact g1 (by omega)
    | 2, _ => exact g2 (by omega)
    | 3, _ => exact g3 (by omega)
    | j + 4, hj => omega
  generalize (l.getD pos 0).toNat = c0 at *
  generalize (l.getD (pos + 1) 0).toNat = c1 at *
  generalize (l.getD (pos + 2) 0).toNat = c2 at *
  generalize (l.getD (pos + 3) 0).toNat = c3 at *
  clear e
  unfold Lib.decodeN
  repeat' split
  all_goals first
    | exact ⟨by omega, Or.inl ⟨rfl, by omega, rfl⟩⟩
    | exact ⟨by omega, Or.inr ⟨by omega, by omega, by omega, key _ (by omega) (by omega) (by omega) (by omega) (by omega) (by omega)⟩⟩

/-- the world with the iterator in block r put on -/
def iterTo (w : World) (r : Nat) (s : ByteArray) (pos : Nat) : World := { w with heap := w.heap.setIfInBounds r (.stringIter s pos) }
theorem iterTo_size (w : World) (r : Nat) (s : ByteArray) (pos : Nat) : (iterTo w r s pos).heap.size = w.heap.size := by simp [iterTo]
theorem iterTo_other (w : World) (r : Nat) (s : ByteArray) (pos k : Nat) (h : k ≠ r) : (iterTo w r s pos).heap[k]? = w.heap[k]? := by
  simp only [iterTo]
  rw [Array.getElem?_setIfInBounds_ne (Ne.symm h)]
theorem iterTo_same (w : World) (r : Nat) (s : ByteArray) (pos : Nat) (h : r < w.heap.size) : (iterTo w r s pos).heap[r]? = some (.stringIter s pos) := by
  simp only [iterTo]
  rw [Array.getElem?_setIfInBounds_self_of_lt h]
theorem iterTo_chg {w w1 : World} {r : Nat} (s : ByteArray) (pos : Nat) (hc : Chg [] w w1) (h : w.heap.size ≤ r) : Chg [] w (iterTo w1 r s pos) :=
  ⟨hc.os, hc.tape, hc.output, by rw [iterTo_size]; exact hc.size, fun k hk _ => by rw [iterTo_other _ _ _ _ _ (by omega)]; exact hc.block k hk (by simp)⟩
theorem iterTo_own {w : World} {B : Nat} {e : TypeId} {z n : Nat} {v : Value} {cs : List Value} {r : Nat} {s0 : ByteArray} {p0 : Nat} (s : ByteArray) (pos : Nat) (h : w.ownsRow B e z v n cs) (hr : w.heap[r]? = some (.stringIter s0 p0)) :
    (iterTo w r s pos).ownsRow B e z v n cs := by
  obtain ⟨h1, h2⟩ := h
  refine ⟨h1, ?_⟩
  rcases h2 with h2 | ⟨g, cap, cur, hv, hb, hg, hx⟩
  · exact Or.inl h2
  · refine Or.inr ⟨g, cap, cur, hv, hb, ?_, hx⟩
    rw [iterTo_other]
    · exact hg
    · rintro rfl; rw [hr] at hg; cases hg
theorem own_not_iter {w : World} {B : Nat} {e : TypeId} {z n : Nat} {v : Value} {cs : List Value} {r : Nat} {s0 : ByteArray} {p0 : Nat} (h : w.ownsRow B e z v n cs) (hr : w.heap[r]? = some (.stringIter s0 p0)) : v.ownBlock ≠ some r := by
  intro he
  rcases h.2 with ⟨rfl, _⟩ | ⟨g, cap, cur, rfl, _, hg, _⟩
  · simp [Value.ownBlock] at he
  · simp only [Value.ownBlock, Option.some.injEq] at he
    subst he; rw [hr] at hg; cases hg
theorem run_next_go {P : Program} (w : World) (r : Nat) (s : ByteArray) (pos c wd : Nat) (ty : TypeId) (hr : w.heap[r]? = some (.stringIter s pos)) (h : pos < s.size) (hd : Utf8.decode s pos = (c, wd)) :
    (Instr.next (.pointer (some ⟨r, 0, none⟩)) true ty).run P w = .ok (.tuple #[.bool true, .int .i64 pos, .int .i32 c]) (iterTo w r s (pos + wd)) := by
  have hlt : r < w.heap.size := by
    rcases Nat.lt_or_ge r w.heap.size with h' | h'
    · exact h'
    · rw [Array.getElem?_eq_none h'] at hr; cases hr
  simp only [Instr.next, getObj, setObj, Sem.run_bind, Sem.run, hr, Result.andThen, h, if_true, hd]
  simp [goInt, Sem.run, iterTo, hlt]
theorem run_next_over {P : Program} (w : World) (r : Nat) (s : ByteArray) (pos : Nat) (ty : TypeId) (hr : w.heap[r]? = some (.stringIter s pos)) (h : ¬ pos < s.size) :
    (Instr.next (.pointer (some ⟨r, 0, none⟩)) true ty).run P w = .ok (.tuple #[.bool false]) w := by
  simp [Instr.next, getObj, Sem.run, hr, h]

/-- the words, a rune further -/
theorem words_rune (l : Bs) (frm pos c wd : Nat) (h : pos < l.length) (hf : frm ≤ pos) (hc : (wd = 1 ∧ c < 128 ∧ (l.getD pos 0).toNat = c) ∨ (1 ≤ wd ∧ 128 ≤ c ∧ pos + wd ≤ l.length ∧ ∀ j, j < wd → 128 ≤ (l.getD (pos + j) 0).toNat)) :
    wordsFrom ((l.drop frm).take (pos - frm)) (l.drop pos) = if c = 32 then (l.drop frm).take (pos - frm) :: wordsFrom [] (l.drop (pos + wd)) else wordsFrom ((l.drop frm).take (pos + wd - frm)) (l.drop (pos + wd)) := by
  have hd := List.drop_eq_getElem_cons h
  have hg : l.getD pos 0 = l[pos] := by rw [List.getD_eq_getElem?_getD, List.getElem?_eq_getElem h]; rfl
  by_cases h32 : c = 32
  · subst h32
    rcases hc with ⟨rfl, _, h3⟩ | ⟨_, h3, _⟩
    · rw [if_pos rfl, hd, wordsFrom, if_pos]
      rw [← hg, ← UInt8.toNat_inj, h3]; rfl
    · omega
  · rw [if_neg h32]
    have hle : pos + wd ≤ l.length := by
      rcases hc with ⟨rfl, _, _⟩ | ⟨_, _, h3, _⟩ <;> omega
    have hno : (32 : UInt8) ∉ (l.drop pos).take wd := by
      intro hm
      obtain ⟨j, hj, he⟩ := List.getElem_of_mem hm
      have hj2 : j < wd := by simp only [List.length_take] at hj; omega
      rw [List.getElem_take, List.getElem_drop] at he
      have hgj : l.getD (pos + j) 0 = 32 := by
        rw [List.getD_eq_getElem?_getD, List.getElem?_eq_getElem (by omega), he]; rfl
      rcases hc with ⟨rfl, _, h3⟩ | ⟨_, _, _, h3⟩
      · obtain rfl : j = 0 := by omega
        rw [Nat.add_zero] at hgj
        rw [hgj] at h3; exact h32 h3.symm
      · have := h3 j hj2
        rw [hgj] at this; simp at this
    have hsp : l.drop pos = (l.drop pos).take wd ++ l.drop (pos + wd) := by
      rw [← List.drop_drop, List.take_append_drop]
    have hap := wordsFrom_app _ ((l.drop frm).take (pos - frm)) (l.drop (pos + wd)) hno
    rw [← hsp] at hap
    rw [hap]
    congr 1
    have e1 : pos + wd - frm = (pos - frm) + wd := by omega
    rw [e1, List.take_add, List.drop_drop]
    congr 3
    omega

set_option maxRecDepth 100000 in
theorem splitLine_c (l : Bs) (hl : (l.length : Int) ≤ 1100000) (w : World) : Calls Tryd.prog 20 #[str l] w (Fresh (bws (words l)) w) := by
  have HWL : Hid (∀ x ∈ words l, (x.length : Int) ≤ 1000000000) := Lib.hid (fun x hx => by have := words_len l x hx; omega)
  have hs : (ByteArray.mk l.toArray).size = l.length := by simp [ByteArray.size]
  go_enter Tryd.func20, Tryd.ntmps20
  go_wp2
  go_step3
  go_wp2
  go_step3
  go_wp2
  go_loopw [3, 4] (fun v x wr => ∃ (pos frm : Nat) (out : List Bs), frm ≤ pos ∧ pos ≤ l.length ∧ x = .int .i64 frm ∧ out.length ≤ pos ∧ Hid (out ++ wordsFrom ((l.drop frm).take (pos - frm)) (l.drop pos) = words l) ∧ wr.ownsRow w.heap.size 9 1 v out.length (out.map str) ∧ wr.heap[w.heap.size + 1]? = some (.stringIter ⟨l.toArray⟩ pos) ∧ Chg [] w wr) (fun _ _ wr => l.length - wr.iterPos (w.heap.size + 1))
  case atStart =>
    refine ⟨0, 0, [], Nat.le_refl _, Nat.zero_le _, rfl, Nat.le_refl _, Lib.hid (by simp [words]), (ownsRow_empty w w.heap.size _ 1 (Nat.le_refl _)).alloc _, ?_, ((Chg.refl [] w).alloc _).alloc _⟩
    have := World.iter_heap (w.alloc (.cells #[] 9)) ⟨l.toArray⟩ 0
    simpa only [World.size_alloc] using this
  case round =>
    obtain ⟨pos, frm, out, hfp, hpl, rfl, hol, H, hown, hit, hc⟩ := hrel
    have hcs := hc.size
    by_cases hlt : pos < l.length
    · obtain ⟨c, wd, hd, hcl, hcs2⟩ := decode_cases l pos hlt
      have hnx := fun ty => run_next_go (P := Tryd.prog) wr (w.heap.size + 1) ⟨l.toArray⟩ pos c wd ty hit (by rw [hs]; exact hlt) hd
      have HW := Lib.hid (words_rune l frm pos c wd hlt hfp hcs2)
      have HC2 := Lib.hid hcs2
      have hown2 := iterTo_own ⟨l.toArray⟩ (pos + wd) hown hit
      have hr1 : w.heap.size + 1 < wr.heap.size := by
        rcases Nat.lt_or_ge (w.heap.size + 1) wr.heap.size with h' | h'
        · exact h'
        · rw [Array.getElem?_eq_none h'] at hit; cases hit
      have hit2 := iterTo_same wr (w.heap.size + 1) ⟨l.toArray⟩ (pos + wd) hr1
      have hc2 := iterTo_chg ⟨l.toArray⟩ (pos + wd) hc (Nat.le_succ w.heap.size)
      have hsz2 := iterTo_size wr (w.heap.size + 1) ⟨l.toArray⟩ (pos + wd)
      have hpw : pos + wd ≤ l.length ∧ 1 ≤ wd := by
        rcases hcs2 with ⟨rfl, _, _⟩ | ⟨h1, _, h3, _⟩ <;> omega
      obtain ⟨hpw, hwd⟩ := hpw
      have hip : wr.iterPos (w.heap.size + 1) = pos := by simp [World.iterPos, hit]
      have hip2 : (iterTo wr (w.heap.size + 1) ⟨l.toArray⟩ (pos + wd)).iterPos (w.heap.size + 1) = pos + wd := by simp [World.iterPos, hit2]
      have HIP := Lib.hid hip
      clear hip hcs2 hd hown hit hc
      generalize hwq : iterTo wr (w.heap.size + 1) ⟨l.toArray⟩ (pos + wd) = wq at *
      have HIP2 := Lib.hid hip2
      have HSZ := Lib.hid hsz2
      clear hip2 hsz2 hwq
      by_cases h32 : c = 32
      · subst h32
        have hx : (ByteArray.mk l.toArray).extract frm pos = ⟨((l.drop frm).take (pos - frm)).toArray⟩ := ByteArray.extract_mk l frm pos
        have hcz := hc2.size
        go_wp2_with (at_builtin; go_must (refine wpList_word rfl _ _ rfl w.heap.size w wq _ out ((l.drop frm).take (pos - frm)) hown2 rfl rfl (by omega) (Nat.le_refl _) hcz hc2 ?_; intro v' w1 hown1 hc1 hz1 hk1))
        have hit3 : w1.heap[w.heap.size + 1]? = some (.stringIter ⟨l.toArray⟩ (pos + wd)) := by
          rw [hk1 _ (by rw [HSZ.out]; exact hr1) (own_not_iter hown2 hit2)]; exact hit2
        have hip3 : w1.iterPos (w.heap.size + 1) = pos + wd := by simp [World.iterPos, hit3]
        have HIP3 := Lib.hid hip3
        clear hip3 hk1 hown2 hit2 hc2 hnx
        go_roundw
        case rel =>
          have e := H.out
          rw [HW.out, if_pos rfl] at e
          have hw1 : wd = 1 := by
            rcases HC2.out with ⟨h, _⟩ | ⟨_, h, _⟩
            · exact h
            · omega
          subst hw1
          exact ⟨pos + 1, pos + 1, out ++ [(l.drop frm).take (pos - frm)], Nat.le_refl _, hpw, by go_num, by simp; omega, Lib.hid (by rw [← e]; simp), hown1, hit3, hc1⟩
        case measure => rw [HIP3.out, HIP.out]; omega
      · have hcb : ((c : Int) != 32) = true := by simp; omega
        have HN := Lib.hid h32
        clear h32
        go_wp2
        have e := H.out
        rw [HW.out, if_neg HN.out] at e
        refine ⟨⟨pos + wd, frm, out, by omega, hpw, rfl, by omega, Lib.hid e, hown2, hit2, hc2⟩, ?_⟩
        rw [HIP2.out, HIP.out]; omega
    · have hpe : pos = l.length := by omega
      have hnx := fun ty => run_next_over (P := Tryd.prog) wr (w.heap.size + 1) ⟨l.toArray⟩ pos ty hit (by rw [hs]; exact hlt)
      have e := H.out
      have hd : l.drop pos = [] := List.drop_eq_nil_of_le (by omega)
      rw [hd, wordsFrom] at e
      have E := Lib.hid e
      have hx : (ByteArray.mk l.toArray).extract frm l.length = ⟨((l.drop frm).take (pos - frm)).toArray⟩ := by rw [← hpe]; exact ByteArray.extract_mk l frm pos
      have hfl : (frm : Int) ≤ (l.length : Int) := by omega
      clear hd e H hpe
      go_wp2_with (at_builtin; go_must (refine wpList_word rfl _ _ rfl w.heap.size w wr _ out ((l.drop frm).take (pos - frm)) hown rfl rfl (by omega) (Nat.le_refl _) hcs hc ?_; intro v' w1 hown1 hc1 hz1 hk1))
      try rw [Exit.noGoto_ret]
      go_ret
      rw [E.out] at hown1
      obtain ⟨F, h1, h2, h3⟩ := row_words hown1 rfl rfl HWL.out
      exact Fresh.mk_ hc1 h1 h2 h3
end Go.Proofs.YtaiinlhobcclcaaDoor.Wk
