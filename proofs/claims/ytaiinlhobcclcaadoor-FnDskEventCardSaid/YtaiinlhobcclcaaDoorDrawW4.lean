/- Contracts of the draws: a line bent, a line drawn. -/
import Derived.Test.YtaiinlhobcclcaaDoorDrawW3
namespace Go.Proofs.YtaiinlhobcclcaaDoor.Wk
set_option linter.unusedVariables false
set_option linter.unusedSimpArgs false
open Go Go.RowKit Go.Deep Ow
open Rp (R sz)

theorem RdAt.chgF {W W' : World} {b : Nat} {xs : Bs} {A : Option Addr} {c : Nat} {F F0 : List Nat} {n : Nat} (h : RdAt W b xs A c F n) (hc : Chg F0 W W') (hb : b ∉ F0) (hF : ∀ g ∈ F, g ∉ F0) : RdAt W' b xs A c F n :=
  ⟨(hc.cell (p := ⟨b, 0, none⟩) h.lt hb).trans h.c0, (hc.cell (p := ⟨b, 1, none⟩) h.lt hb).trans h.c1, fun o => (World.frozen?_of_block (w := W) (a := ⟨b, o, none⟩) (hc.block b h.lt hb)).trans (h.fr o), h.rl.chg hc hF, h.ap, h.le⟩

set_option maxRecDepth 100000 in
set_option maxHeartbeats 2000000 in
theorem l20Bent_c (b : Nat) (xs : Bs) (A : Option Addr) (c : Nat) (F : List Nat) (n : Nat) (hn : n ≤ 900000) (l : Bs) (hl : l.length ≤ 500) (w : World) (h : RdAt w b xs A c F n) :
    Calls Tryd.prog 31 #[.pointer (some ⟨b, 0, none⟩), str l] w fun e w' => ∃ s : Bs, e = .returned (str s) ∧ s.length ≤ 1010 ∧ Chg [b] w w' := by
  have hs : (ByteArray.mk l.toArray).size = l.length := by simp [ByteArray.size]
  have hb := h.lt
  have HH := Lib.hid h
  clear h
  go_enter Tryd.func31, Tryd.ntmps31
  go_wp2_with fail
  refine (pick_c b xs A c F n (l.length + 1) (by omega) (by omega) (by omega) _ HH.out).mono ?_
  rintro e w1 ⟨p, hp, rfl, hc1, hr1⟩
  have HC1 := Lib.hid hc1
  have HR1 := Lib.hid hr1
  clear hc1 hr1
  go_wp2_with fail
  refine (pick_c b xs A c F (n + 1) 256 (by decide) (by decide) (by omega) _ HR1.out).mono ?_
  rintro e w2 ⟨r2, hr2, rfl, hc2, hr2'⟩
  have HC2 := Lib.hid hc2
  have HR2 := Lib.hid hr2'
  clear hc2 hr2'
  go_wp2_with fail
  refine (pick_c b xs A c F (n + 1 + 1) 8 (by decide) (by decide) (by omega) _ (HR2.out.on ((Chg.refl [] w2).alloc _))).mono ?_
  rintro e w3 ⟨r3, hr3, rfl, hc3, hr3'⟩
  have hb2 : b < w2.heap.size := Nat.lt_of_lt_of_le (Nat.lt_of_lt_of_le hb HC1.out.size) HC2.out.size
  have hct : ∃ y : UInt8, w3.cell? ⟨w2.heap.size, r3, none⟩ = some (.int .i64 y.toNat) := by
    rw [hc3.cell (p := ⟨w2.heap.size, r3, none⟩) (by simp) (by simp; omega)]
    match r3, hr3 with
    | 0, _ => exact ⟨32, by simp⟩
    | 1, _ => exact ⟨48, by simp⟩
    | 2, _ => exact ⟨49, by simp⟩
    | 3, _ => exact ⟨57, by simp⟩
    | 4, _ => exact ⟨45, by simp⟩
    | 5, _ => exact ⟨97, by simp⟩
    | 6, _ => exact ⟨46, by simp⟩
    | 7, _ => exact ⟨UInt8.ofNat r2, by simp; omega⟩
    | r + 8, h => omega
  obtain ⟨y, hcy⟩ := hct
  have hy : (y.toNat : Int) % 256 = y.toNat := by have := y.toNat_lt; omega
  have hcv := conv1 w3 (y.toNat : Int) (by omega) (by have := y.toNat_lt; omega)
  obtain ⟨z, hz⟩ : ∃ z, UInt8.ofNat ((y.toNat : Int)).toNat = z := ⟨_, rfl⟩
  rw [hz] at hcv
  clear hz
  have HC3 : Hid (Chg [b] w w3) := Lib.hid (((HC1.out.trans HC2.out (fun g hg => Or.inl hg)).alloc _).trans hc3 (fun g hg => Or.inl hg))
  have HR3 := Lib.hid hr3'
  clear hc3 hr3'
  go_wp2_with fail
  refine (pick_c b xs A c F (n + 1 + 1 + 1) 3 (by decide) (by decide) (by omega) _ (HR3.out.on ((Chg.refl [] w3).alloc _))).mono ?_
  rintro e w4 ⟨r4, hr4, rfl, hc4, -⟩
  have HC4 : Hid (Chg [b] w w4) := Lib.hid ((HC3.out.alloc _).trans hc4 (fun g hg => Or.inl hg))
  clear hc4
  obtain ⟨u, hu, eu⟩ : ∃ u : Bs, u.length ≤ 500 ∧ (ByteArray.mk l.toArray).extract 0 p = ⟨u.toArray⟩ := ⟨_, by rw [List.length_take, List.length_drop]; omega, ByteArray.extract_mk l 0 p⟩
  obtain ⟨v, hv, ev⟩ : ∃ u : Bs, u.length ≤ 500 ∧ (ByteArray.mk l.toArray).extract p l.length = ⟨u.toArray⟩ := ⟨_, by rw [List.length_take, List.length_drop]; omega, ByteArray.extract_mk l p l.length⟩
  obtain ⟨t, ht, et⟩ : ∃ u : Bs, u.length ≤ 500 ∧ (ByteArray.mk l.toArray).extract (p + 1) l.length = ⟨u.toArray⟩ := ⟨_, by rw [List.length_take, List.length_drop]; omega, ByteArray.extract_mk l (p + 1) l.length⟩
  have hx1 := add_str u [z] (by simp only [List.length_cons, List.length_nil]; omega)
  obtain ⟨uz, huz⟩ : ∃ x, u ++ [z] = x := ⟨_, rfl⟩
  have luz : uz.length ≤ 501 := by rw [← huz]; simp; omega
  rw [huz] at hx1
  clear huz
  have hx2 := add_str uz v (by omega)
  have hx3 := add_str u t (by omega)
  have hx4 := add_str uz t (by omega)
  by_cases hpl : p < l.length
  · have q1 : decide ((p : Int) < (l.length : Int)) = true := by simp; omega
    match r4, hr4 with
    | 0, _ =>
      go_wp2
      go_quiet (fail)
      go_wp2
      go_ret
      exact ⟨uz ++ v, rfl, by rw [List.length_append]; omega, HC4.out.drewN _⟩
    | 1, _ =>
      go_wp2
      go_quiet (fail)
      go_wp2
      go_ret
      exact ⟨u ++ t, rfl, by rw [List.length_append]; omega, HC4.out.drewN _⟩
    | 2, _ =>
      go_wp2
      go_quiet (fail)
      go_wp2
      go_ret
      exact ⟨uz ++ t, rfl, by rw [List.length_append]; omega, HC4.out.drewN _⟩
    | r + 3, h => exact absurd h (by omega)
  · have q1 : decide ((p : Int) < (l.length : Int)) = false := by simp; omega
    match r4, hr4 with
    | 0, _ =>
      go_wp2
      go_quiet (fail)
      go_wp2
      go_ret
      exact ⟨uz ++ v, rfl, by rw [List.length_append]; omega, HC4.out.drewN _⟩
    | 1, _ =>
      go_wp2
      go_ret
      exact ⟨l, rfl, by omega, HC4.out⟩
    | 2, _ =>
      go_wp2
      go_ret
      exact ⟨l, rfl, by omega, HC4.out⟩
    | r + 3, h => exact absurd h (by omega)

set_option maxRecDepth 100000 in
set_option maxHeartbeats 2000000 in
theorem drawDsk_c (xs : Bs) (va : Value) (F : List Nat) (w : World) (h : RL w xs va F) :
    Calls Tryd.prog 10 #[va] w fun e w' => ∃ s : Bs, e = .returned (str s) ∧ s.length ≤ 1010 ∧ Chg [] w w' := by
  have HH := Lib.hid h
  clear h
  go_enter Tryd.func10, Tryd.ntmps10
  go_wp2_with fail
  refine (l20Open_c xs va F _ HH.out).mono ?_
  rintro e w1 ⟨b, ys, A, c, G, rfl, hc1, hr1, hb1⟩
  have HC1 := Lib.hid hc1
  have HR1 := Lib.hid hr1
  clear hc1 hr1
  go_wp2_with fail
  refine (pick_c b ys A c G 0 13 (by decide) (by decide) (by decide) _ HR1.out).mono ?_
  rintro e w2 ⟨k, hk, rfl, hc2, hr2⟩
  have HC2 : Hid (Chg [] w w2) := Lib.hid (HC1.out.trans hc2 (fun g hg => Or.inr (by simp at hg; omega)))
  have HR2 := Lib.hid hr2
  clear hc2 hr2
  go_wp2_with fail
  refine (pick_c b ys A c G (0 + 1) 5 (by decide) (by decide) (by decide) _ HR2.out).mono ?_
  rintro e w3 ⟨a, ha, rfl, hc3, hr3⟩
  have HC3 : Hid (Chg [] w w3) := Lib.hid (HC2.out.trans hc3 (fun g hg => Or.inr (by simp at hg; omega)))
  have HR3 := Lib.hid hr3
  clear hc3 hr3
  go_wp2_with fail
  refine (pick_c b ys A c G (0 + 1 + 1) 300 (by decide) (by decide) (by decide) _ HR3.out).mono ?_
  rintro e w4 ⟨p, hp, rfl, hc4, hr4⟩
  have HC4 : Hid (Chg [] w w4) := Lib.hid (HC3.out.trans hc4 (fun g hg => Or.inr (by simp at hg; omega)))
  have HR4 := Lib.hid hr4
  clear hc4 hr4
  go_wp2_with fail
  refine (pick_c b ys A c G (0 + 1 + 1 + 1) 300 (by decide) (by decide) (by decide) _ HR4.out).mono ?_
  rintro e w5 ⟨v, hv, rfl, hc5, hr5⟩
  have HC5 : Hid (Chg [] w w5) := Lib.hid (HC4.out.trans hc5 (fun g hg => Or.inr (by simp at hg; omega)))
  have HR5 := Lib.hid hr5
  clear hc5 hr5
  have hb5 : b < w5.heap.size := HR5.out.lt
  have hG5 : ∀ g ∈ G, g < w5.heap.size := HR5.out.rl.lt
  by_cases h7 : k = 6
  · subst h7
    go_wp2_with fail
    refine (l21Bytes_c b ys A c G (0 + 1 + 1 + 1 + 1) (by decide) _ (HR5.out.on ((Chg.refl [] w5).alloc _))).mono ?_
    rintro e w6 ⟨vz, zs, Gz, kk, rfl, hzl, hkk, hc6, hr6, hrz, hgz⟩
    have k0 := hc6.cell (p := ⟨w5.heap.size, 0, none⟩) (by simp) (by simp; omega)
    have k1 := hc6.cell (p := ⟨w5.heap.size, 1, none⟩) (by simp) (by simp; omega)
    have k2 := hc6.cell (p := ⟨w5.heap.size, 2, none⟩) (by simp) (by simp; omega)
    have k3 := hc6.cell (p := ⟨w5.heap.size, 3, none⟩) (by simp) (by simp; omega)
    have k4 := hc6.cell (p := ⟨w5.heap.size, 4, none⟩) (by simp) (by simp; omega)
    have kf : ∀ o, w6.frozen? ⟨w5.heap.size, o, none⟩ = false := fun o => by
      rw [World.frozen?_of_block (a := ⟨w5.heap.size, o, none⟩) (hc6.block w5.heap.size (by simp) (by simp; omega))]; simp
    have hc6s := hc6.size
    simp at k0 k1 k2 k3 k4 hc6s hgz
    obtain ⟨Az, cz, rfl, -, -⟩ := hrz.form
    have HC6 : Hid (Chg [] w w6) := Lib.hid ((HC5.out.alloc _).trans hc6 (fun g hg => Or.inr (by simp at hg; omega)))
    have hz5 : w.heap.size ≤ w5.heap.size := HC5.out.size
    have hst : Chg [w5.heap.size] w6 (w6.setCell ⟨w5.heap.size, 4, none⟩ (.slice Az zs.length cz)) := (Chg.refl _ w6).setCell (Or.inl (by simp)) _
    have HRZ : Hid (RL (w6.setCell ⟨w5.heap.size, 4, none⟩ (.slice Az zs.length cz)) zs (.slice Az zs.length cz) Gz) := Lib.hid (hrz.chg hst (fun g hg => by have := hgz g hg; simp; omega))
    have HR6 : Hid (RdAt (w6.setCell ⟨w5.heap.size, 4, none⟩ (.slice Az zs.length cz)) b ys A c G (0 + 1 + 1 + 1 + 1 + kk)) := Lib.hid (hr6.chgF hst (by simp; omega) (fun g hg => by have := hG5 g hg; simp; omega))
    have HCS : Hid (Chg [] w (w6.setCell ⟨w5.heap.size, 4, none⟩ (.slice Az zs.length cz))) := Lib.hid (HC6.out.setCell (Or.inr hz5) _)
    clear hc6 hr6 hrz hgz hst
    go_wp2_with fail
    refine (l22Line_c 7 (by decide) a p v (by omega) hp hv zs _ Gz hzl _ HRZ.out).mono ?_
    rintro e w7 ⟨lx, rfl, hlx, hc7⟩
    obtain ⟨M, hM, hM2⟩ : ∃ M, M = 0 + 1 + 1 + 1 + 1 + kk ∧ M ≤ 100 := ⟨_, rfl, by omega⟩
    have HR7 : Hid (RdAt w7 b ys A c G M) := Lib.hid (by rw [hM]; exact HR6.out.on hc7)
    have HC7 : Hid (Chg [] w w7) := Lib.hid (HCS.out.trans0 hc7)
    clear hc7 hM
    go_wp2_with fail
    refine (pick_c b ys A c G M 4 (by decide) (by decide) (by omega) _ HR7.out).mono ?_
    rintro e w8 ⟨r, hr, rfl, hc8, hr8⟩
    have hz8 : w.heap.size ≤ w8.heap.size := Nat.le_trans HC7.out.size hc8.size
    have hb8 : b < w8.heap.size := hr8.lt
    have HC8 : Hid (Chg [] w w8) := Lib.hid (HC7.out.trans hc8 (fun g hg => Or.inr (by simp at hg; omega)))
    have HR8 := Lib.hid hr8
    clear hc8 hr8
    match r, hr with
    | 0, _ =>
      go_wp2_with fail
      refine (l20Bent_c b ys A c G (M + 1) (by omega) lx (by omega) _ HR8.out).mono ?_
      rintro e w9 ⟨s, rfl, hsl, hc9⟩
      have HC9 : Hid (Chg [] w w9) := Lib.hid (HC8.out.trans hc9 (fun g hg => Or.inr (by simp at hg; omega)))
      clear hc9
      go_wp2
      go_ret
      exact ⟨s, rfl, hsl, HC9.out⟩
    | 1, _ =>
      go_wp2_with fail
      refine (pick_c b ys A c G (M + 1) 14 (by decide) (by decide) (by omega) _ (HR8.out.on ((Chg.refl [] w8).alloc _))).mono ?_
      rintro e w9 ⟨q, hq, rfl, hc9, -⟩
      have hct : ∃ s : Bs, s.length ≤ 20 ∧ w9.cell? ⟨w8.heap.size, q, none⟩ = some (str s) := by
        rw [hc9.cell (p := ⟨w8.heap.size, q, none⟩) (by simp) (by simp; omega)]
        match q, hq with
        | 0, _ => exact ⟨[], by decide, by simp⟩
        | 1, _ => exact ⟨[116, 105, 99, 107, 32], by decide, by simp⟩
        | 2, _ => exact ⟨[116, 105, 99, 107, 32, 49], by decide, by simp⟩
        | 3, _ => exact ⟨[103, 105, 118, 101], by decide, by simp⟩
        | 4, _ => exact ⟨[103, 105, 118, 101, 32, 48, 49], by decide, by simp⟩
        | 5, _ => exact ⟨[109, 97, 100, 101, 32, 49], by decide, by simp⟩
        | 6, _ => exact ⟨[109, 97, 100, 101, 32, 49, 32, 48], by decide, by simp⟩
        | 7, _ => exact ⟨[109, 97, 100, 101, 32, 49, 32, 48, 103], by decide, by simp⟩
        | 8, _ => exact ⟨[109, 97, 100, 101, 32, 49, 32, 65, 66], by decide, by simp⟩
        | 9, _ => exact ⟨[109, 97, 100, 101, 32, 49, 32], by decide, by simp⟩
        | 10, _ => exact ⟨[98, 101, 110, 100, 32, 49, 32, 50], by decide, by simp⟩
        | 11, _ => exact ⟨[102, 97, 108, 108, 32, 120], by decide, by simp⟩
        | 12, _ => exact ⟨[109, 97, 100, 101, 32, 45, 49, 32, 48, 48], by decide, by simp⟩
        | 13, _ => exact ⟨[104, 101, 97, 114, 32, 51, 50, 55, 54, 56], by decide, by simp⟩
        | q + 14, h => exact absurd h (by omega)
      obtain ⟨s, hsl, hcs⟩ := hct
      have HC9 : Hid (Chg [] w w9) := Lib.hid ((HC8.out.alloc _).trans hc9 (fun g hg => Or.inr (by simp at hg; omega)))
      clear hc9
      go_wp2
      go_ret
      exact ⟨s, rfl, by omega, HC9.out⟩
    | 2, _ =>
      go_wp2
      go_ret
      exact ⟨lx, rfl, by omega, HC8.out⟩
    | 3, _ =>
      go_wp2
      go_ret
      exact ⟨lx, rfl, by omega, HC8.out⟩
    | r + 4, h => exact absurd h (by omega)
  · have hk7 : ((1 : Int) + (k : Int) == 7) = false := by rw [beq_eq_false_iff_ne]; omega
    go_wp2_with fail
    refine (l22Line_c (1 + k) (by omega) a p v (by omega) hp hv [] _ [] (by simp) _ RL.nil_).mono ?_
    rintro e w7 ⟨lx, rfl, hlx, hc7⟩
    obtain ⟨M, hM, hM2⟩ : ∃ M, M = 0 + 1 + 1 + 1 + 1 ∧ M ≤ 100 := ⟨_, rfl, by omega⟩
    have HR7 : Hid (RdAt w7 b ys A c G M) := Lib.hid (by rw [hM]; exact (HR5.out.on ((Chg.refl [] w5).alloc _)).on hc7)
    have HC7 : Hid (Chg [] w w7) := Lib.hid ((HC5.out.alloc _).trans0 hc7)
    clear hc7 hM
    go_wp2_with fail
    refine (pick_c b ys A c G M 4 (by decide) (by decide) (by omega) _ HR7.out).mono ?_
    rintro e w8 ⟨r, hr, rfl, hc8, hr8⟩
    have hz8 : w.heap.size ≤ w8.heap.size := Nat.le_trans HC7.out.size hc8.size
    have hb8 : b < w8.heap.size := hr8.lt
    have HC8 : Hid (Chg [] w w8) := Lib.hid (HC7.out.trans hc8 (fun g hg => Or.inr (by simp at hg; omega)))
    have HR8 := Lib.hid hr8
    clear hc8 hr8
    match r, hr with
    | 0, _ =>
      go_wp2_with fail
      refine (l20Bent_c b ys A c G (M + 1) (by omega) lx (by omega) _ HR8.out).mono ?_
      rintro e w9 ⟨s, rfl, hsl, hc9⟩
      have HC9 : Hid (Chg [] w w9) := Lib.hid (HC8.out.trans hc9 (fun g hg => Or.inr (by simp at hg; omega)))
      clear hc9
      go_wp2
      go_ret
      exact ⟨s, rfl, hsl, HC9.out⟩
    | 1, _ =>
      go_wp2_with fail
      refine (pick_c b ys A c G (M + 1) 14 (by decide) (by decide) (by omega) _ (HR8.out.on ((Chg.refl [] w8).alloc _))).mono ?_
      rintro e w9 ⟨q, hq, rfl, hc9, -⟩
      have hct : ∃ s : Bs, s.length ≤ 20 ∧ w9.cell? ⟨w8.heap.size, q, none⟩ = some (str s) := by
        rw [hc9.cell (p := ⟨w8.heap.size, q, none⟩) (by simp) (by simp; omega)]
        match q, hq with
        | 0, _ => exact ⟨[], by decide, by simp⟩
        | 1, _ => exact ⟨[116, 105, 99, 107, 32], by decide, by simp⟩
        | 2, _ => exact ⟨[116, 105, 99, 107, 32, 49], by decide, by simp⟩
        | 3, _ => exact ⟨[103, 105, 118, 101], by decide, by simp⟩
        | 4, _ => exact ⟨[103, 105, 118, 101, 32, 48, 49], by decide, by simp⟩
        | 5, _ => exact ⟨[109, 97, 100, 101, 32, 49], by decide, by simp⟩
        | 6, _ => exact ⟨[109, 97, 100, 101, 32, 49, 32, 48], by decide, by simp⟩
        | 7, _ => exact ⟨[109, 97, 100, 101, 32, 49, 32, 48, 103], by decide, by simp⟩
        | 8, _ => exact ⟨[109, 97, 100, 101, 32, 49, 32, 65, 66], by decide, by simp⟩
        | 9, _ => exact ⟨[109, 97, 100, 101, 32, 49, 32], by decide, by simp⟩
        | 10, _ => exact ⟨[98, 101, 110, 100, 32, 49, 32, 50], by decide, by simp⟩
        | 11, _ => exact ⟨[102, 97, 108, 108, 32, 120], by decide, by simp⟩
        | 12, _ => exact ⟨[109, 97, 100, 101, 32, 45, 49, 32, 48, 48], by decide, by simp⟩
        | 13, _ => exact ⟨[104, 101, 97, 114, 32, 51, 50, 55, 54, 56], by decide, by simp⟩
        | q + 14, h => exact absurd h (by omega)
      obtain ⟨s, hsl, hcs⟩ := hct
      have HC9 : Hid (Chg [] w w9) := Lib.hid ((HC8.out.alloc _).trans hc9 (fun g hg => Or.inr (by simp at hg; omega)))
      clear hc9
      go_wp2
      go_ret
      exact ⟨s, rfl, by omega, HC9.out⟩
    | 2, _ =>
      go_wp2
      go_ret
      exact ⟨lx, rfl, by omega, HC8.out⟩
    | 3, _ =>
      go_wp2
      go_ret
      exact ⟨lx, rfl, by omega, HC8.out⟩
    | r + 4, h => exact absurd h (by omega)
end Go.Proofs.YtaiinlhobcclcaaDoor.Wk
