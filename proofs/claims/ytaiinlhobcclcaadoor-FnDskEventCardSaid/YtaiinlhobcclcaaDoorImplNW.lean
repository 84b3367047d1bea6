/- Contracts: how the program reads and writes a number. -/
import Derived.Test.YtaiinlhobcclcaaDoorNumW
import Derived.Test.YtaiinlhobcclcaaDoorShelf
import Derived.Lib.AtoiErrMem
namespace Go.Proofs.YtaiinlhobcclcaaDoor.Wk
open Go Go.RowKit Go.Deep Ow
open Rp (R sz)

/-- what the walks need of the program's variables -/
structure Lay (w : World) : Prop where
  e0 : ∃ ev, w.cell? ⟨0, 0, none⟩ = some ev ∧ (ev = .nilIface ∨ ∃ te pe, ev = .iface te pe)
  e1 : ∃ ev, w.cell? ⟨1, 0, none⟩ = some ev ∧ (ev = .nilIface ∨ ∃ te pe, ev = .iface te pe)
  tab : Lib.TabIs Tryd.prog w Tryd.powName .u64 Lib.pow10Tab
theorem tabIs_chg {P : Program} {w w' : World} {name : String} {k : IntKind} {zs : List Int} (h : Lib.TabIs P w name k zs) (hc : Chg [] w w') : Lib.TabIs P w' name k zs := by
  unfold Lib.TabIs World.var? at *
  cases hg : P.globalNamed name with
  | none => simp [hg] at h
  | some g =>
    simp only [hg, Option.bind_some] at h ⊢
    have hlt : g < w.heap.size := by
      rcases Nat.lt_or_ge g w.heap.size with h' | h'
      · exact h'
      · rw [Array.getElem?_eq_none h'] at h; simp at h
    rw [hc.block g hlt (by simp)]
    exact h
theorem Lay.chg {w w' : World} (h : Lay w) (hc : Chg [] w w') : Lay w' := by
  obtain ⟨⟨v0, h0, k0⟩, ⟨v1, h1, k1⟩, h2⟩ := h
  exact ⟨⟨v0, hc.cell0 h0, k0⟩, ⟨v1, hc.cell0 h1, k1⟩, tabIs_chg h2 hc⟩
theorem chg_grow (w : World) (os : Array Obj) : Chg [] w (Go.Sort.grow w os) :=
  ⟨rfl, rfl, rfl, by simp [Go.Sort.grow], fun k hk _ => by simp only [Go.Sort.grow]; rw [Array.getElem?_append_left hk]⟩

theorem itoa_c (n : Int) (h0 : -9223372036854775808 ≤ n) (h1 : n ≤ 9223372036854775807) (w : World) (hL : Lay w) : Calls Tryd.prog 53 #[.int .i64 n] w fun e w' => e = .returned (str (Lib.itoa n)) ∧ Chg [] w w' := by
  refine (Tryd.strconv_Itoa n h0 h1 w hL.tab).mono ?_
  rintro e w' ⟨rfl, k, os, rfl⟩
  exact ⟨rfl, ((Chg.refl [] w).drewN k).trans0 (chg_grow _ os)⟩
/-- a number out of text, or an error that is not nil -/
theorem atoi_c (l : Bs) (hl : (l.length : Int) ≤ 1100000) (w : World) (hL : Lay w) : Calls Tryd.prog 49 #[str l] w fun e w' =>
    ((∃ v, Lib.atoiAll l = .ok v ∧ e = .returned (.tuple #[.int .i64 v, .nilIface])) ∨ ((∀ v, Lib.atoiAll l ≠ .ok v) ∧ ∃ n t p, e = .returned (.tuple #[.int .i64 n, .iface t (.pointer (some p))]))) ∧ Chg [] w w' := by
  have hs : (ByteArray.mk l.toArray).size = l.length := by simp [ByteArray.size]
  rcases h : Lib.atoiAll l with v | _ | _
  · refine (Tryd.strconv_Atoi_ok ⟨l.toArray⟩ (by omega) v h w).mono ?_
    rintro e w' ⟨rfl, hw⟩
    refine ⟨Or.inl ⟨v, rfl, rfl⟩, ?_⟩
    rcases hw with rfl | ⟨t, rfl⟩
    · exact Chg.refl _ _
    · exact Chg.of_below (Lib.bytesWorld_below w _ t)
  · obtain ⟨ev, hv, hev⟩ := hL.e0
    refine (Tryd.strconv_Atoi_bad ⟨l.toArray⟩ (by omega) (by rw [h]; intro v e; cases e) (by rw [h]; intro e; cases e) ev w hv hev).mono ?_
    rintro e w' ⟨N, rfl, _, _, hb⟩
    exact ⟨Or.inr ⟨fun v hv => (by cases hv), _, _, _, rfl⟩, Chg.of_below hb⟩
  · obtain ⟨ev, hv, hev⟩ := hL.e1
    refine (Tryd.strconv_Atoi_range ⟨l.toArray⟩ (by omega) h ev w hv hev).mono ?_
    rintro e w' ⟨N, rfl, _, _, hb⟩
    exact ⟨Or.inr ⟨fun v hv => (by cases hv), _, _, _, rfl⟩, Chg.of_below hb⟩

theorem implNumText_c (n : Int) (w : World) (hL : Lay w) : Calls Tryd.prog 50 #[.int .i64 n] w fun e w' => e = .returned (str (numText n)) ∧ Chg [] w w' := by
  have HL := Lib.hid hL
  clear hL
  by_cases hn : -32768 ≤ n ∧ n ≤ 32767
  · have e : numText n = Lib.itoa n := if_pos hn
    have e2 : decide (-32768 ≤ n ∧ n ≤ 32767) = true := decide_eq_true hn
    rw [e]
    obtain ⟨hn0, hn1⟩ := hn
    go_enter Tryd.func50, Tryd.ntmps50
    go_wp2_with (first | (go_at_call 32; refine (implNumOk_c n _).mono ?_; rw [e2]; rintro e w1 ⟨rfl, hc1⟩) | (go_at_call 53; refine (itoa_c n (by omega) (by omega) _ (HL.out.chg hc1)).mono ?_; rintro e w2 ⟨rfl, hc2⟩))
    go_ret
    exact ⟨rfl, hc1.trans0 hc2⟩
  · have e : numText n = [] := if_neg hn
    have e2 : decide (-32768 ≤ n ∧ n ≤ 32767) = false := decide_eq_false hn
    rw [e]
    clear hn
    go_enter Tryd.func50, Tryd.ntmps50
    go_wp2_with (first | (go_at_call 32; refine (implNumOk_c n _).mono ?_; rw [e2]; rintro e w1 ⟨rfl, hc1⟩))
    go_ret
    exact ⟨rfl, hc1⟩

set_option maxRecDepth 100000 in
theorem implNumRead_c (l : Bs) (hl : (l.length : Int) ≤ 1100000) (w : World) (hL : Lay w) : Calls Tryd.prog 43 #[str l] w fun e w' => e = .returned (.tuple #[.int .i64 ((numRead l).getD 0), .bool (numRead l).isSome]) ∧ Chg [] w w' := by
  have HL := Lib.hid hL
  clear hL
  go_enter Tryd.func43, Tryd.ntmps43
  go_wp2_with fail
  refine (atoi_c l hl _ HL.out).mono ?_
  rintro e w1 ⟨⟨v, hv, rfl⟩ | ⟨hv, n, t, p, rfl⟩, hc1⟩
  · have e : numRead l = if numText v = l then some v else none := by unfold numRead; rw [hv]
    have E := Lib.hid e
    clear hv e
    by_cases ht : numText v = l
    · have htb : (numText v == l) = true := by rw [ht, beq_self_eq_true]
      have HT := Lib.hid ht
      clear ht
      go_wp2_with (go_at_call 50; refine (implNumText_c v _ (HL.out.chg hc1)).mono ?_; rintro e w2 ⟨rfl, hc2⟩)
      go_ret2
      exact ⟨by rw [E.out, if_pos HT.out]; rfl, hc1.trans0 hc2⟩
    · have htb : (numText v == l) = false := beq_eq_false_iff_ne.2 ht
      have HT := Lib.hid ht
      clear ht
      go_wp2_with (go_at_call 50; refine (implNumText_c v _ (HL.out.chg hc1)).mono ?_; rintro e w2 ⟨rfl, hc2⟩)
      go_ret2
      exact ⟨by rw [E.out, if_neg HT.out]; rfl, hc1.trans0 hc2⟩
  · have e : numRead l = none := by
      unfold numRead
      split
      · rename_i v h; exact absurd h (hv v)
      · rfl
    have E := Lib.hid e
    clear hv e
    go_wp2
    go_ret2
    exact ⟨by rw [E.out]; rfl, hc1⟩

theorem natural_c (l : Bs) (hl : (l.length : Int) ≤ 1100000) (w : World) (hL : Lay w) : Calls Tryd.prog 23 #[str l] w fun e w' => e = .returned (.tuple #[.int .i64 ((numRead l).getD 0), .bool (nat? l).isSome]) ∧ Chg [] w w' := by
  have HL := Lib.hid hL
  clear hL
  unfold nat?
  rcases hv : numRead l with _ | n
  · have HV := Lib.hid hv
    clear hv
    go_enter Tryd.func23, Tryd.ntmps23
    go_wp2_with (go_at_call 43; refine (implNumRead_c l hl _ HL.out).mono ?_; rw [HV.out]; rintro e w1 ⟨rfl, hc1⟩)
    go_ret2
    exact ⟨rfl, hc1⟩
  · have HV := Lib.hid hv
    clear hv
    have e : ((some n).filter (fun n => decide (0 ≤ n))).isSome = decide (0 ≤ n) := by
      simp only [Option.filter]
      split
      · rename_i h; simp only [decide_eq_true_eq] at h; simp [h]
      · rename_i h; simp only [decide_eq_true_eq] at h; simp [h]
    have E := Lib.hid e
    clear e
    go_enter Tryd.func23, Tryd.ntmps23
    go_wp2_with (go_at_call 43; refine (implNumRead_c l hl _ HL.out).mono ?_; rw [HV.out]; rintro e w1 ⟨rfl, hc1⟩)
    go_ret2
    exact ⟨by rw [E.out]; rfl, hc1⟩
end Go.Proofs.YtaiinlhobcclcaaDoor.Wk
