/- Contracts of the draws: a reader over bytes, a number out of it. -/
import Derived.Test.YtaiinlhobcclcaaDoorBaseW
import Derived.Test.YtaiinlhobcclcaaDoorNumW
import Derived.Deep.RegionLaw
import Derived.Deep.Cut
import Derived.Deep.CutRange
namespace Go.Proofs.YtaiinlhobcclcaaDoor.Wk
set_option linter.unusedVariables false
set_option linter.unusedSimpArgs false
open Go Go.RowKit Go.Deep Ow
open Rp (R sz)

/-- a reader in a box: the bytes that it reads, how often it was asked -/
structure RdAt (W : World) (b : Nat) (xs : Bs) (A : Option Addr) (c : Nat) (F : List Nat) (n : Nat) : Prop where
  c0 : W.cell? ⟨b, 0, none⟩ = some (.slice A xs.length c)
  c1 : W.cell? ⟨b, 1, none⟩ = some (.int .i64 n)
  fr : ∀ o, W.frozen? ⟨b, o, none⟩ = false
  rl : RL W xs (.slice A xs.length c) F
  ap : b ∉ F
  le : xs.length ≤ 2000
theorem RdAt.lt {W : World} {b : Nat} {xs : Bs} {A : Option Addr} {c : Nat} {F : List Nat} {n : Nat} (h : RdAt W b xs A c F n) : b < W.heap.size := World.block_lt_of_cell? _ _ h.c0
theorem RdAt.on {W W' : World} {b : Nat} {xs : Bs} {A : Option Addr} {c : Nat} {F : List Nat} {n : Nat} (h : RdAt W b xs A c F n) (hc : Chg [] W W') : RdAt W' b xs A c F n :=
  ⟨hc.cell0 h.c0, hc.cell0 h.c1, fun o => (hc.cells.2 b o h.lt).trans (h.fr o), h.rl.chg0 hc, h.ap, h.le⟩

theorem RL.at8 {w : World} {xs : Bs} {A : Option Addr} {c : Nat} {F : List Nat} (h : RL w xs (.slice A xs.length c) F) (h0 : 0 < xs.length) :
    ∃ b o, A = some ⟨b, o, none⟩ ∧ b ∈ F ∧ ∀ i, i < xs.length → w.cell? ⟨b, o + i, none⟩ = some (.int .u8 (xs.getD i 0).toNat) := by
  obtain ⟨A', cap, h1, h2, h3, h4⟩ := h
  rcases h4 with ⟨rfl, _⟩ | ⟨b, off, C, Fs, rfl, rfl, e3, e4⟩
  · simp at h0
  · injection h1 with h1
    refine ⟨b, off, h1, by simp [footOf], fun i hi => ?_⟩
    have a := e4.cell i hi 0 (by decide)
    have r := R_u8.1 (e4.elem i hi)
    rw [r.1] at a
    simp only [sz_u8, Nat.mul_one, Nat.add_zero, List.getElem?_cons_zero] at a
    rw [a, List.getD_eq_getElem?_getD, List.getElem?_eq_getElem hi]
    rfl
theorem RdAt.step {W : World} {b : Nat} {xs : Bs} {A : Option Addr} {c : Nat} {F : List Nat} {n : Nat} (h : RdAt W b xs A c F n) : Chg [b] W (W.setCell ⟨b, 1, none⟩ (.int .i64 ((n : Int) + 1))) ∧ RdAt (W.setCell ⟨b, 1, none⟩ (.int .i64 ((n : Int) + 1))) b xs A c F (n + 1) := by
  have hl := h.lt
  have hc : Chg [b] W (W.setCell ⟨b, 1, none⟩ (.int .i64 ((n : Int) + 1))) := (Chg.refl [b] W).setCell (Or.inl (by simp)) _
  have h0 := h.c0
  have h1 := h.c1
  exact ⟨hc, by simp [go_sem, h0], by simp [go_sem, h1], fun o => by simp [go_sem, h.fr], h.rl.chg hc (fun g hg => by simp; rintro rfl; exact h.ap hg), h.ap, h.le⟩

theorem xor64 (V U : Nat) (h : V < 4611686018427387904) (hu : U < 4611686018427387904) : bits .xor .i64 (V : Int) (U : Int) = ((V ^^^ U : Nat) : Int) := by
  have hx : V ^^^ U < 2 ^ 62 := Nat.xor_lt_two_pow (by omega) (by omega)
  have h1 : (BitVec.ofInt 64 (V : Int)).toNat = V := by
    rw [BitVec.ofInt_natCast, BitVec.toNat_ofNat]; exact Nat.mod_eq_of_lt (by omega)
  have h2 : (BitVec.ofInt 64 (U : Int)).toNat = U := by
    rw [BitVec.ofInt_natCast, BitVec.toNat_ofNat]; exact Nat.mod_eq_of_lt (by omega)
  have e : bits .xor .i64 (V : Int) (U : Int) = IntKind.i64.wrap ((BitVec.ofInt 64 (V : Int) ^^^ BitVec.ofInt 64 (U : Int)).toNat : Int) := rfl
  rw [e, BitVec.toNat_xor, h1, h2, IntKind.wrap_i64]
  generalize V ^^^ U = z at *
  have hz : z < 4611686018427387904 := hx
  clear hx e h1 h2
  omega

set_option maxRecDepth 100000 in
set_option maxHeartbeats 1000000 in
theorem pick_c (b : Nat) (xs : Bs) (A : Option Addr) (c : Nat) (F : List Nat) (n : Nat) (m : Nat) (hm : 1 ≤ m) (hm2 : m ≤ 1000000) (hn : n ≤ 1000000) (w : World) (h : RdAt w b xs A c F n) :
    Calls Tryd.prog 28 #[.pointer (some ⟨b, 0, none⟩), .int .i64 m] w fun e w' => ∃ r : Nat, r < m ∧ e = .returned (.int .i64 r) ∧ Chg [b] w w' ∧ RdAt w' b xs A c F (n + 1) := by
  have HS := Lib.hid h.step
  obtain ⟨h0, h1, hfr, hrl, hap, hle⟩ := h
  have hlt : b < w.heap.size := World.block_lt_of_cell? _ _ h0
  have hm1 : ¬ ((m : Int) < 1) := by omega
  by_cases hz : xs.length = 0
  · rw [hz] at h0
    have HR := Lib.hid hrl
    clear hrl
    go_enter Tryd.func28, Tryd.ntmps28
    go_wp2
    go_ret
    exact ⟨0, hm, rfl, HS.out.1, HS.out.2⟩
  have hz1 : ((xs.length : Int) == 0) = false := by rw [beq_eq_false_iff_ne]; omega
  obtain ⟨b1, o1, rfl, hb1, hel⟩ := RL.at8 hrl (by omega)
  have hne : ¬ b = b1 := fun e => hap (e ▸ hb1)
  have hne' : ¬ b1 = b := fun e => hap (e ▸ hb1)
  have HE := Lib.hid hel
  have HR := Lib.hid hrl
  clear hel hrl hb1
  by_cases hlen : n < xs.length
  · have m1 := HE.out n hlen
    generalize xs.getD n 0 = x at *
    go_enter Tryd.func28, Tryd.ntmps28
    go_wp2
    go_ret
    refine ⟨x.toNat % m, Nat.mod_lt _ hm, ?_, HS.out.1, HS.out.2⟩
    have e : (x.toNat : Int).tmod m = ((x.toNat % m : Nat) : Int) := by rw [Int.tmod_eq_emod_of_nonneg (by omega)]; rfl
    rw [IntWalk.wrap64_in _ (by have := x.toNat_lt; omega), e]
    rfl
  have i1 : n % xs.length < xs.length := Nat.mod_lt _ (by omega)
  have i2 : (n * 7 + 3) % xs.length < xs.length := Nat.mod_lt _ (by omega)
  have m1 := HE.out _ i1
  have m2 := HE.out _ i2
  have d1 : n / xs.length ≤ n := Nat.div_le_self _ _
  have t1 : (n : Int).tmod xs.length = ((n % xs.length : Nat) : Int) := by rw [Int.tmod_eq_emod_of_nonneg (by omega)]; rfl
  have t2 : ((n : Int) * 7 + 3).tmod xs.length = (((n * 7 + 3) % xs.length : Nat) : Int) := by rw [Int.tmod_eq_emod_of_nonneg (by omega)]; rfl
  have t3 : (n : Int).tdiv xs.length = ((n / xs.length : Nat) : Int) := by rw [Int.tdiv_eq_ediv_of_nonneg (by omega)]; rfl
  generalize n % xs.length = j1 at *
  generalize (n * 7 + 3) % xs.length = j2 at *
  generalize n / xs.length = d at *
  generalize xs.getD j1 0 = x at *
  generalize xs.getD j2 0 = y at *
  have hx := x.toNat_lt
  have hy := y.toNat_lt
  generalize x.toNat = X at *
  generalize y.toNat = Y at *
  have HT := Lib.hid (And.intro hn (And.intro d1 (And.intro hx hy)))
  go_enter Tryd.func28, Tryd.ntmps28
  go_wp2
  go_quiet (fail)
  go_wp2
  go_ret
  obtain ⟨V, hV⟩ : ∃ V : Nat, V = X * 131 + Y * 1117 + n * 29 + d * 53 := ⟨_, rfl⟩
  have eV : ((X : Int) * 131 + (Y : Int) * 1117 + (n : Int) * 29 + (d : Int) * 53) = (V : Int) := by omega
  refine ⟨(V ^^^ V / 64) % m, Nat.mod_lt _ hm, ?_, HS.out.1.drewN _, HS.out.2.on ((Chg.refl [] _).drewN _)⟩
  rw [eV, show ((V : Int) / 64) = ((V / 64 : Nat) : Int) by omega, xor64 V (V / 64) (by omega) (by omega), Int.tmod_eq_emod_of_nonneg (by omega)]
  rfl
end Go.Proofs.YtaiinlhobcclcaaDoor.Wk
