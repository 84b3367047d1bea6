/-
  From the form's reading of an argument ('trod') to a Lean value that reads out of memory ('R').
-/
import Derived.Test.YtaiinlhobcclcaaDoorOwn
import Derived.OpenShut
import Derived.ChangeArms
namespace Ow
open Go Go.RowKit Go.Deep
open Rp (R sz)

/-- whatever reads as data of type t reads as an α -/
def Opens (P : Program) (t : TypeId) (α : Type) [Rp α] : Prop :=
  ∀ (H : Type) (enc : TypeId × Value → H) (w : World) (base : Nat) (spare : Nat → Bool) (held : Bool) (fuel : Nat) (cs : List Value) (x : DataW H × List MemPlace),
    DataW.trod enc P w base spare held fuel t cs = some x → ∃ (a : α) (F : List Nat), R w a cs F

theorem opens_int {P : Program} {t : TypeId} (ht : P.underlying t = some (.int .i64)) : Opens P t Int := by
  intro H enc w base spare held fuel cs x h
  obtain ⟨n, rfl, -, hw⟩ := DataW.trod_int ht h
  exact ⟨n, [], rfl, rfl, by have := Go.bounds_i64 hw; exact this⟩
theorem opens_bool {P : Program} {t : TypeId} (ht : P.underlying t = some .bool) : Opens P t Bool := by
  intro H enc w base spare held fuel cs x h
  obtain ⟨n, rfl, -⟩ := DataW.trod_bool ht h
  exact ⟨n, [], rfl, rfl⟩
theorem opens_u8 {P : Program} {t : TypeId} (ht : P.underlying t = some (.int .u8)) : Opens P t UInt8 := by
  intro H enc w base spare held fuel cs x h
  obtain ⟨n, rfl, -, hw⟩ := DataW.trod_int ht h
  have hb := Go.bounds_u8 hw
  refine ⟨UInt8.ofNat n.toNat, [], ?_, rfl⟩
  rw [UInt8.toNat_ofNat', Nat.mod_eq_of_lt (by omega)]
  congr 2
  omega
theorem opens_str {P : Program} {t : TypeId} (ht : P.underlying t = some .string) : Opens P t ByteArray := by
  intro H enc w base spare held fuel cs x h
  obtain ⟨n, rfl, -, hw⟩ := DataW.trod_string ht h
  exact ⟨n, [], rfl, rfl, hw⟩
theorem opens_list {α : Type} [Rp α] {P : Program} {t e : TypeId} (ht : P.underlying t = some (.slice e)) (hc : P.cellsOf e = sz α) (hs : 0 < sz α) (he : Opens P e α) : Opens P t (List α) := by
  intro H enc w base spare held fuel cs x h
  rcases open_slice ht h with ⟨rfl, -⟩ | ⟨ad, len, cap, m, n, D, Pl, rfl, -, hl, hm, hmm, -, hx⟩
  · exact ⟨[], [], _, rfl, RL.nil_⟩
  · by_cases h0 : len = 0
    · subst h0
      exact ⟨[], [], _, rfl, some ad, cap, rfl, by simp, hm, Or.inl ⟨rfl, rfl, by simp⟩⟩
    · have hlm : len ≤ m := by rw [hmm]; split <;> omega
      have key : ∀ i, i < len → ∃ (p : Option (α × List Value × List Nat)), ∃ a C F, p = some (a, C, F) ∧ w.cells? base (ad.add (i * sz α)) (sz α) = some C ∧ R w a C F := fun i hi => by
        obtain ⟨cs', h1, h2⟩ := hx i (by omega)
        obtain ⟨a, F, hr⟩ := he H enc w base spare held n cs' _ h2
        rw [hc] at h1
        exact ⟨some (a, cs', F), a, cs', F, rfl, h1, hr⟩
      obtain ⟨f, hf⟩ := choose_lt (α := Option (α × List Value × List Nat)) key
      obtain ⟨a0, C0, F0, -, hc0, -⟩ := hf 0 (by omega)
      have hsp : ad.spot = none := by
        obtain ⟨_, _, h3⟩ := World.cells?_some hc0
        have h4 := h3 0 hs
        have hl4 := (World.cells?_some hc0).2.1
        rw [List.getElem?_eq_getElem (by omega)] at h4
        rw [show (ad.add (0 * sz α)).add 0 = ad by unfold Addr.add; simp] at h4
        exact World.cell?_spot h4
      obtain ⟨b, off, spot⟩ := ad
      simp only at hsp
      subst hsp
      have hb : b < w.heap.size := by
        obtain ⟨_, _, h3⟩ := World.cells?_some hc0
        have h4 := h3 0 hs
        have hl4 := (World.cells?_some hc0).2.1
        rw [List.getElem?_eq_getElem (by omega)] at h4
        rw [show ((Addr.mk b off none).add (0 * sz α)).add 0 = ⟨b, off, none⟩ by unfold Addr.add; simp] at h4
        exact World.block_lt_of_cell? _ _ h4
      let xs : List α := (List.range len).filterMap fun i => (f i).map (·.1)
      have hxs : ∀ k, k ≤ len → ((List.range k).filterMap fun i => (f i).map (·.1)).length = k ∧ ∀ i, i < k → ∀ a C F, f i = some (a, C, F) → ((List.range k).filterMap fun i => (f i).map (·.1))[i]? = some a := by
        intro k
        induction k with
        | zero => intro _; simp
        | succ k ih =>
          intro hk
          obtain ⟨ih1, ih2⟩ := ih (by omega)
          obtain ⟨a, C, F, hfa, -, -⟩ := hf k (by omega)
          have e : ((List.range (k + 1)).filterMap fun i => (f i).map (·.1)) = ((List.range k).filterMap fun i => (f i).map (·.1)) ++ [a] := by
            rw [List.range_succ, List.filterMap_append]
            simp [hfa]
          rw [e]
          refine ⟨by simp [ih1], fun i hi a' C' F' hfi => ?_⟩
          by_cases hik : i < k
          · rw [List.getElem?_append_left (by omega)]; exact ih2 i hik a' C' F' hfi
          · have : i = k := by omega
            subst this
            rw [hfi] at hfa
            cases hfa
            rw [List.getElem?_append_right (by omega), ih1]; simp
      obtain ⟨hlen, hat⟩ := hxs len (Nat.le_refl _)
      refine ⟨xs, footOf b xs.length (fun i => ((f i).map (·.2.2)).getD []), _, rfl, some ⟨b, off, none⟩, cap, by simp only [xs, hlen], by simp only [xs, hlen]; exact hl, hm,
        Or.inr ⟨b, off, fun i => ((f i).map (·.2.1)).getD [], fun i => ((f i).map (·.2.2)).getD [], rfl, rfl, ?_, hb, ?_, ?_⟩⟩
      · intro hnil
        have : xs.length = 0 := by rw [hnil]; rfl
        simp only [xs, hlen] at this
        omega
      · intro i hi j hj
        simp only [xs, hlen] at hi
        obtain ⟨a, C, F, hfa, hca, -⟩ := hf i hi
        obtain ⟨_, _, h3⟩ := World.cells?_some hca
        have h4 := h3 j hj
        rw [add_add] at h4
        have : (Addr.add ⟨b, off, none⟩ (i * sz α + j)) = ⟨b, off + i * sz α + j, none⟩ := by
          unfold Addr.add; split
          · simp_all
          · simp [Nat.add_assoc]
        rw [this] at h4
        simp only [hfa, Option.map_some, Option.getD_some]
        exact h4
      · intro i hi
        have hi' := hi
        simp only [xs, hlen] at hi'
        obtain ⟨a, C, F, hfa, -, hra⟩ := hf i hi'
        have h5 := hat i hi' a C F hfa
        have h6 : xs[i] = a := by
          have : xs[i]? = some a := h5
          rw [List.getElem?_eq_getElem hi] at this
          exact Option.some.inj this
        simp only [hfa, Option.map_some, Option.getD_some, h6]
        exact hra

/-- the fields from number i on, whose cells begin at off, read as an α -/
def OpensAt (P : Program) (fs : Array Field) (i off : Nat) (α : Type) [Rp α] : Prop :=
  ∀ (H : Type) (enc : TypeId × Value → H) (w : World) (base : Nat) (spare : Nat → Bool) (held : Bool) (n : Nat) (cs : List Value) (xs : List (DataW H × List MemPlace)), off + sz α ≤ cs.length →
    (∀ (j : Nat) (f : Field), fs[j]? = some f → DataW.trod enc P w base spare held n f.type ((cs.drop f.offset).take (P.cellsOf f.type)) = xs[j]?) → xs.length = fs.size →
    ∃ (a : α) (F : List Nat), R w a ((cs.drop off).take (sz α)) F
theorem opensAt_last {P : Program} {fs : Array Field} {i off : Nat} {α : Type} [Rp α] (f : Field) (hf : fs[i]? = some f) (ho : f.offset = off) (hc : P.cellsOf f.type = sz α) (h : Opens P f.type α) : OpensAt P fs i off α := by
  intro H enc w base spare held n cs xs _ hx hl
  have h1 := hx i f hf
  have hi : i < xs.length := by rw [hl]; exact (Array.getElem?_eq_some_iff.1 hf).1
  rw [List.getElem?_eq_getElem hi, ho, hc] at h1
  exact h H enc w base spare held n _ _ h1
theorem opensAt_cons {P : Program} {fs : Array Field} {i off : Nat} {α β : Type} [Rp α] [Rp β] (f : Field) (hf : fs[i]? = some f) (ho : f.offset = off) (hc : P.cellsOf f.type = sz α) (h : Opens P f.type α) (k : OpensAt P fs (i + 1) (off + sz α) β) : OpensAt P fs i off (α × β) := by
  intro H enc w base spare held n cs xs hlen hx hl
  have hs : sz (α × β) = sz α + sz β := rfl
  rw [hs] at hlen
  obtain ⟨a, F, ha⟩ := opensAt_last f hf ho hc h H enc w base spare held n cs xs (by omega) hx hl
  obtain ⟨b, G, hb⟩ := k H enc w base spare held n cs xs (by omega) hx hl
  refine ⟨(a, b), F ++ G, _, _, F, G, ?_, rfl, ha, hb⟩
  rw [hs, List.take_add, List.drop_drop]
theorem opens_struct {P : Program} {t : TypeId} {fs : Array Field} {α : Type} [Rp α] (ht : P.underlying t = some (.struct fs)) (hc : P.cellsOf t = sz α) (h : OpensAt P fs 0 0 α) : Opens P t α := by
  intro H enc w base spare held fuel cs x hx
  obtain ⟨xs, n, -, -, hl, hl2, h3⟩ := DataW.trod_struct ht hx
  obtain ⟨a, F, hr⟩ := h H enc w base spare held n cs xs (by omega) h3 hl2
  rw [List.drop_zero, List.take_of_length_le (by omega)] at hr
  exact ⟨a, F, hr⟩
/-- a struct as what it is by -/
theorem opens_by {P : Program} {t : TypeId} {α β : Type} [Rp β] (f : α → β) (g : β → α) (hg : ∀ y, f (g y) = y) (h : Opens P t β) : @Opens P t α (Rp.by_ f) := by
  intro H enc w base spare held fuel cs x hx
  obtain ⟨b, F, hr⟩ := h H enc w base spare held fuel cs x hx
  exact ⟨g b, F, by show R w (f (g b)) cs F; rw [hg]; exact hr⟩

/-- a whole argument -/
theorem Opens.trod {P : Program} {t : TypeId} {α : Type} [Rp α] (h : Opens P t α) {H : Type} {enc : TypeId × Value → H} {w : World} {base : Nat} {spare : Nat → Bool} {held : Bool} {v : Value} {d : DataW H} {ps : List MemPlace}
    (hd : DataW.Trod enc P w base spare held t v d ps) : ∃ (a : α) (F : List Nat), R w a v.cells.toList F := by
  obtain ⟨fuel, hf⟩ := hd
  exact h H enc w base spare held fuel _ _ hf
#print axioms opens_list
end Ow
