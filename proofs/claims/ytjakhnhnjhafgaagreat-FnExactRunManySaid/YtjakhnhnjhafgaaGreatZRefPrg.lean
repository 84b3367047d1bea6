/- The reference's l3Proc, PrgOk, PrgAt, l5Nums, l5Frame. -/
import Derived.Test.YtjakhnhnjhafgaaGreatZRefIns
import Derived.Test.YtjakhnhnjhafgaaGreatZPlain
set_option linter.unusedVariables false
set_option linter.unusedSimpArgs false
namespace Go.Proofs.YtjakhnhnjhafgaaGreat.Wk
open Go Go.RowKit Go.Deep Ow
open Rp (R sz)

theorem in_10 (n : Nat) : (decide ((1 : Int) ≤ (n : Int)) && decide ((n : Int) ≤ 10)) = decide (1 ≤ n ∧ n ≤ 10) := by
  rw [Bool.eq_iff_iff]
  simp only [Bool.and_eq_true, decide_eq_true_eq]
  omega
theorem in_4 (n : Nat) : (decide ((1 : Int) ≤ (n : Int)) && decide ((n : Int) ≤ 4)) = decide (1 ≤ n ∧ n ≤ 4) := by
  rw [Bool.eq_iff_iff]
  simp only [Bool.and_eq_true, decide_eq_true_eq]
  omega

set_option maxRecDepth 100000 in
set_option maxHeartbeats 2000000 in
theorem refProc_c (c : PrcProc) (procs : Int) (v : Value) (F : List Nat) (w : World) (h : RL w c.Code v F) : Calls Tryz.prog 132 #[.agg #[.int .i64 c.Lo, .int .i64 c.Hi, v], .int .i64 procs] w fun e w' => e = .returned (.bool (procOk c procs)) ∧ Chg [] w w' := by
  obtain ⟨A, ca, rfl, hl, hm⟩ := h.form
  have hn : c.Code.length ≤ maxLen := by omega
  unfold maxLen at hn
  by_cases h1 : numOk c.Lo = true
  case neg =>
    rw [Bool.not_eq_true] at h1
    clear h
    go_enter Tryz.func132, Tryz.ntmps132
    go_wp2_with (go_at_call 72; refine (specNumOk_c _ _).mono ?_; rintro e w3 ⟨rfl, rfl⟩)
    go_ret
    exact ⟨by simp [procOk, itvOk, h1], Chg.e⟩
  by_cases h2 : numOk c.Hi = true
  case neg =>
    rw [Bool.not_eq_true] at h2
    clear h
    go_enter Tryz.func132, Tryz.ntmps132
    go_wp2_with (go_at_call 72; refine (specNumOk_c _ _).mono ?_; rintro e w3 ⟨rfl, rfl⟩)
    go_ret
    exact ⟨by simp [procOk, itvOk, h2], Chg.e⟩
  by_cases h3 : c.Lo ≤ c.Hi
  case neg =>
    have h3' := Lib.hid (show procOk c procs = false by simp [procOk, itvOk, h3])
    clear h
    go_enter Tryz.func132, Tryz.ntmps132
    go_wp2_with (go_at_call 72; refine (specNumOk_c _ _).mono ?_; rintro e w3 ⟨rfl, rfl⟩)
    go_ret
    exact ⟨by rw [h3'.out]; rfl, Chg.e⟩
  by_cases h4 : decide (1 ≤ c.Code.length ∧ c.Code.length ≤ 10) = true
  case neg =>
    rw [Bool.not_eq_true] at h4
    clear h
    go_enter Tryz.func132, Tryz.ntmps132
    go_wp2_with (first | (go_at_call 72; refine (specNumOk_c _ _).mono ?_; rintro e w3 ⟨rfl, rfl⟩) | (go_at_call 71; refine (specL1In_c _ _ _ _).mono ?_; rintro e w4 ⟨rfl, rfl⟩; rw [in_10]))
    go_ret
    refine ⟨?_, Chg.e⟩
    have h6 : ¬ (1 ≤ c.Code.length ∧ c.Code.length ≤ 10) := by simpa using h4
    have h7 : procOk c procs = false := by
      rw [Bool.eq_false_iff]
      intro hp
      simp only [procOk, Bool.and_eq_true, decide_eq_true_eq] at hp
      exact h6 ⟨hp.1.1.1.2, hp.1.1.2⟩
    rw [h7]; rfl
  have h5 : 1 ≤ c.Code.length ∧ c.Code.length ≤ 10 := by simpa using h4
  have hpo : procOk c procs = (c.Code.all (fun i => insOk i procs c.Code.length) && (c.Code.getLast?.elim false insEnds)) := by
    simp [procOk, itvOk, h1, h2, h3, h5.1, h5.2]
  rw [hpo]
  clear hpo
  go_enter Tryz.func132, Tryz.ntmps132
  go_wp2_with (first | (go_at_call 72; refine (specNumOk_c _ _).mono ?_; rintro e w3 ⟨rfl, rfl⟩) | (go_at_call 71; refine (specL1In_c _ _ _ _).mono ?_; rintro e w4 ⟨rfl, rfl⟩; rw [in_10]))
  clear h1 h2 h3 h4
  go_loopw [6] (fun i wr => ∃ k : Nat, k ≤ c.Code.length ∧ i = .int .i64 k ∧ Chg [] w wr ∧ wr.cell? ⟨w.heap.size, 2, none⟩ = some (.slice A c.Code.length ca) ∧ (c.Code.take k).all (fun i => insOk i procs c.Code.length) = true) (fun i _ => c.Code.length - (intOf i).toNat)
  case atStart => exact ⟨0, Nat.zero_le _, rfl, Chg.e, by simp, by simp⟩
  case round =>
    obtain ⟨k, hk, rfl, hc, hcell, hall⟩ := hrel
    by_cases hlt : k < c.Code.length
    · obtain ⟨b1, o1, p1, c1, f1, e1, r1, m1, -⟩ := (h.chg0 hc).elem hlt
      obtain ⟨rfl, rfl, -⟩ := R_InsIns.1 r1
      injection e1 with e1 _ e1c
      subst e1 e1c
      have ya0 := m1 0 (by decide)
      have ya1 := m1 1 (by decide)
      have ya2 := m1 2 (by decide)
      have ya3 := m1 3 (by decide)
      have ya4 := m1 4 (by decide)
      have ya5 := m1 5 (by decide)
      have ya6 := m1 6 (by decide)
      have ya7 := m1 7 (by decide)
      simp only [sz_InsIns, Nat.add_zero, List.getElem?_cons_zero, List.getElem?_cons_succ] at ya0 ya1 ya2 ya3 ya4 ya5 ya6 ya7
      have hall' := Lib.hid hall
      clear hall m1 r1 h
      by_cases hi : insOk c.Code[k] procs c.Code.length = true
      · go_wp2_with (go_at_call 42; refine (refInsOk_c c.Code[k] _ _ _).mono ?_; rintro e w1 ⟨rfl, hc1⟩)
        have hcell1 := hc1.cell0 hcell
        go_wp2
        go_roundw
        case rel => exact ⟨k + 1, by omega, by go_num, hc.trans0 hc1, hcell1, by rw [List.take_succ_eq_append_getElem hlt, List.all_append, hall'.out]; simp [hi]⟩
        case measure => simp [intOf]; omega
      · rw [Bool.not_eq_true] at hi
        go_wp2_with (go_at_call 42; refine (refInsOk_c c.Code[k] _ _ _).mono ?_; rintro e w1 ⟨rfl, hc1⟩)
        go_ret
        refine ⟨?_, hc.trans0 hc1⟩
        have : c.Code.all (fun i => insOk i procs c.Code.length) = false := by
          rw [List.all_eq_false]
          exact ⟨c.Code[k], List.getElem_mem hlt, by simp [hi]⟩
        rw [this]; rfl
    · obtain rfl : k = c.Code.length := by omega
      rw [List.take_length] at hall
      obtain ⟨m, hm1⟩ : ∃ m, c.Code.length = m + 1 := ⟨c.Code.length - 1, by omega⟩
      have hmlt : m < c.Code.length := by omega
      obtain ⟨b1, o1, p1, c1, f1, e1, r1, m1, -⟩ := (h.chg0 hc).elem hmlt
      obtain ⟨rfl, rfl, -⟩ := R_InsIns.1 r1
      injection e1 with e1 _ e1c
      subst e1 e1c
      have ya0 := m1 0 (by decide)
      simp only [sz_InsIns, Nat.add_zero, List.getElem?_cons_zero] at ya0
      have hlast : c.Code.getLast? = some c.Code[m] := by
        rw [List.getLast?_eq_getElem?, List.getElem?_eq_getElem (by omega)]
        congr 2
        omega
      have hres := Lib.hid (show (c.Code.all (fun i => insOk i procs c.Code.length) && (c.Code.getLast?.elim false insEnds)) = insEnds c.Code[m] by rw [hlast, hall]; rfl)
      clear hlast hall m1 r1 h
      have hsub : ((c.Code.length : Int) - 1) = (m : Int) := by omega
      have hsub2 : ((c.Code.length : Int) - 1).toNat = m := by omega
      clear hm1
      by_cases hq1 : (c.Code[m].Op == 12) = true
      all_goals by_cases hq2 : (c.Code[m].Op == 9) = true
      all_goals
        (try rw [Bool.not_eq_true] at hq1)
        (try rw [Bool.not_eq_true] at hq2)
        go_wp2
        go_ret
        exact ⟨by rw [hres.out]; simp [insEnds, hq1, hq2], hc⟩

set_option maxRecDepth 100000 in
set_option maxHeartbeats 2000000 in
theorem refPrgOk_c (p : PrgProg) (v : Value) (F : List Nat) (w : World) (h : RL w p.Procs v F) : Calls Tryz.prog 70 #[.agg #[v]] w fun e w' => e = .returned (.bool (prgOk p)) ∧ Chg [] w w' := by
  obtain ⟨A, ca, rfl, hl, hm⟩ := h.form
  have hn : p.Procs.length ≤ maxLen := by omega
  unfold maxLen at hn
  by_cases h4 : decide (1 ≤ p.Procs.length ∧ p.Procs.length ≤ 4) = true
  case neg =>
    rw [Bool.not_eq_true] at h4
    clear h
    go_enter Tryz.func70, Tryz.ntmps70
    go_wp2_with (go_at_call 71; refine (specL1In_c _ _ _ _).mono ?_; rintro e w4 ⟨rfl, rfl⟩; rw [in_4])
    go_ret
    refine ⟨?_, Chg.e⟩
    have : ¬ (1 ≤ p.Procs.length ∧ p.Procs.length ≤ 4) := by simpa using h4
    have h6 : prgOk p = false := by
      rw [Bool.eq_false_iff]
      intro hp
      simp [prgOk] at hp
      omega
    rw [h6]; rfl
  have h5 : 1 ≤ p.Procs.length ∧ p.Procs.length ≤ 4 := by simpa using h4
  have hpo : prgOk p = p.Procs.all (fun c => procOk c p.Procs.length) := by simp [prgOk, h5.1, h5.2]
  rw [hpo]
  clear hpo h5
  go_enter Tryz.func70, Tryz.ntmps70
  go_wp2_with (go_at_call 71; refine (specL1In_c _ _ _ _).mono ?_; rintro e w4 ⟨rfl, rfl⟩; rw [in_4])
  clear h4
  go_loopw [3] (fun i wr => ∃ k : Nat, k ≤ p.Procs.length ∧ i = .int .i64 k ∧ Chg [] w wr ∧ wr.cell? ⟨w.heap.size, 0, none⟩ = some (.slice A p.Procs.length ca) ∧ (p.Procs.take k).all (fun c => procOk c p.Procs.length) = true) (fun i _ => p.Procs.length - (intOf i).toNat)
  case atStart => exact ⟨0, Nat.zero_le _, rfl, Chg.e, by simp, by simp⟩
  case round =>
    obtain ⟨k, hk, rfl, hc, hcell, hall⟩ := hrel
    by_cases hlt : k < p.Procs.length
    · obtain ⟨b1, o1, p1, c1, f1, e1, r1, m1, -⟩ := (h.chg0 hc).elem hlt
      obtain ⟨vC, FC, rfl, rfl, -, -, g1⟩ := R_PrcProc.1 r1
      injection e1 with e1 _ e1c
      subst e1 e1c
      have ya0 := m1 0 (by decide)
      have ya1 := m1 1 (by decide)
      have ya2 := m1 2 (by decide)
      simp only [sz_PrcProc, Nat.add_zero, List.getElem?_cons_zero, List.getElem?_cons_succ] at ya0 ya1 ya2
      have hall' := Lib.hid hall
      clear hall m1 r1 h
      by_cases hi : procOk p.Procs[k] p.Procs.length = true
      · go_wp2_with fail
        go_region_with (go_at_call 132; refine (refProc_c p.Procs[k] _ _ _ _ (by exact RL.same g1 rfl)).mono ?_; rintro e w1 ⟨rfl, hc1⟩)
        all_goals
          have hcell1 := hc1.cell0 (show World.cell? _ ⟨w.heap.size, 0, none⟩ = _ from hcell)
          have hc2 := hc.trans0 (Chg.un _ hc1)
          clear hc1
          go_wp2
          go_roundw
          case rel => exact ⟨k + 1, by omega, by go_num, hc2, hcell1, by rw [List.take_succ_eq_append_getElem hlt, List.all_append, hall'.out]; simp [hi]⟩
          case measure => simp [intOf]; omega
      · rw [Bool.not_eq_true] at hi
        go_wp2_with fail
        go_region_with (go_at_call 132; refine (refProc_c p.Procs[k] _ _ _ _ (by exact RL.same g1 rfl)).mono ?_; rintro e w1 ⟨rfl, hc1⟩)
        all_goals
          have hc2 := hc.trans0 (Chg.un _ hc1)
          clear hc1
          go_wp2
          go_ret
          refine ⟨?_, hc2⟩
          have : p.Procs.all (fun c => procOk c p.Procs.length) = false := by
            rw [List.all_eq_false]
            exact ⟨p.Procs[k], List.getElem_mem hlt, by simp [hi]⟩
          rw [this]; rfl
    · obtain rfl : k = p.Procs.length := by omega
      rw [List.take_length] at hall
      have hall' := Lib.hid hall
      clear h hall
      go_wp2
      go_ret
      exact ⟨by rw [hall'.out]; rfl, hc⟩

set_option maxRecDepth 100000 in
set_option maxHeartbeats 2000000 in
theorem refNums_c (l : List Int) (n : Nat) (v : Value) (F : List Nat) (w : World) (h : RL w l v F) (hn4 : n = 4) : Calls Tryz.prog 133 #[v, .int .i64 4] w fun e w' => e = .returned (.bool (numsOk l n)) ∧ Chg [] w w' := by
  obtain ⟨A, ca, e0, hl, hm⟩ := h.form
  have hn : l.length ≤ maxLen := by omega
  unfold maxLen at hn
  by_cases h4 : ((l.length : Int) == 4) = true
  case neg =>
    have h5 : ((l.length : Int) != 4) = true := by simpa [bne] using h4
    have h6 : l.length ≠ n := by intro e; apply h4; rw [e, hn4]; rfl
    rw [Bool.not_eq_true] at h4
    have h7 := Lib.hid h6
    clear h h6
    subst e0
    go_enter Tryz.func133, Tryz.ntmps133
    go_wp2
    go_ret
    exact ⟨by simp [numsOk, h7.out], Chg.e⟩
  have h6 : l.length = 4 := by simp at h4; omega
  subst hn4
  have hpo : numsOk l 4 = l.all numOk := by simp [numsOk, h6]
  rw [hpo]
  clear hpo h4 hn
  rw [h6] at e0 hl
  subst e0
  have h7 := Lib.hid h6
  clear h6
  go_enter Tryz.func133, Tryz.ntmps133
  go_wp2
  go_loopw [5] (fun i wr => ∃ k : Nat, k ≤ 4 ∧ i = .int .i64 k ∧ Chg [] w wr ∧ (l.take k).all numOk = true) (fun i _ => 4 - (intOf i).toNat)
  case atStart => exact ⟨0, Nat.zero_le _, rfl, Chg.e, by simp⟩
  case round =>
    obtain ⟨k, hk, rfl, hc, hall⟩ := hrel
    by_cases hlt : k < 4
    · have hlt' : k < l.length := by have := h7.out; omega
      obtain ⟨b1, o1, p1, c1, f1, e1, r1, m1, -⟩ := (h.chg0 hc).elem hlt'
      obtain ⟨rfl, rfl, -⟩ := R_int.1 r1
      injection e1 with e1 e1b e1c
      clear e1b
      subst e1 e1c
      have ya0 := m1 0 (by decide)
      simp only [sz_int, Nat.mul_one, Nat.add_zero, List.getElem?_cons_zero] at ya0
      have hall' := Lib.hid hall
      clear hall m1 r1 h
      by_cases hi : numOk l[k] = true
      · go_wp2_with (go_at_call 72; refine (specNumOk_c _ _).mono ?_; rintro e w3 ⟨rfl, rfl⟩)
        go_roundw
        case rel => exact ⟨k + 1, by omega, by go_num, hc, by rw [List.take_succ_eq_append_getElem hlt', List.all_append, hall'.out]; simp [hi]⟩
        case measure => simp [intOf]; omega
      · rw [Bool.not_eq_true] at hi
        go_wp2_with (go_at_call 72; refine (specNumOk_c _ _).mono ?_; rintro e w3 ⟨rfl, rfl⟩)
        go_ret
        refine ⟨?_, hc⟩
        have : l.all numOk = false := by
          rw [List.all_eq_false]
          exact ⟨l[k], List.getElem_mem hlt', by simp [hi]⟩
        rw [this]; rfl
    · obtain rfl : k = 4 := by omega
      rw [← h7.out, List.take_length] at hall
      have hall' := Lib.hid hall
      clear h hall
      go_wp2
      go_ret
      exact ⟨by rw [hall'.out]; rfl, hc⟩
end Go.Proofs.YtjakhnhnjhafgaaGreat.Wk
namespace Go.Proofs.YtjakhnhnjhafgaaGreat.Wk
open Go Go.RowKit Go.Deep Ow
open Rp (R sz)

/-- what PrgAt hands back -/
abbrev atV (x : Option InsIns) : Value := .tuple #[insV (x.getD insZero), .bool x.isSome]

set_option maxRecDepth 100000 in
set_option maxHeartbeats 2000000 in
theorem refPrgAt_c (p : PrgProg) (proc pc : Int) (v : Value) (F : List Nat) (w : World) (h : RL w p.Procs v F) : Calls Tryz.prog 22 #[.agg #[v], .int .i64 proc, .int .i64 pc] w fun e w' => e = .returned (atV (prgAt p proc pc)) ∧ Chg [] w w' := by
  obtain ⟨A, ca, rfl, hl, hm⟩ := h.form
  have hn : p.Procs.length ≤ maxLen := by omega
  unfold maxLen at hn
  by_cases h1 : proc < 0
  case pos =>
    have hz := Lib.hid (show prgAt p proc pc = none by unfold prgAt; rw [if_pos (Or.inl h1)])
    clear h
    go_enter Tryz.func22, Tryz.ntmps22
    go_wp2
    exact bodyPost_ret (v := .tuple #[insV insZero, .bool false]) (by simp [results, Tryz.results22, go_sem, insZero]) rfl ⟨by first | rfl | (rw [hz.out]; rfl), Chg.e⟩
  by_cases h2 : proc ≥ p.Procs.length
  case pos =>
    have hz := Lib.hid (show prgAt p proc pc = none by
      unfold prgAt
      split
      · rfl
      · rw [List.getElem?_eq_none (by omega)]; rfl)
    clear h
    go_enter Tryz.func22, Tryz.ntmps22
    go_wp2
    exact bodyPost_ret (v := .tuple #[insV insZero, .bool false]) (by simp [results, Tryz.results22, go_sem, insZero]) rfl ⟨by first | rfl | (rw [hz.out]; rfl), Chg.e⟩
  by_cases h3 : pc < 0
  case pos =>
    have hz := Lib.hid (show prgAt p proc pc = none by unfold prgAt; rw [if_pos (Or.inr h3)])
    clear h
    go_enter Tryz.func22, Tryz.ntmps22
    go_wp2
    exact bodyPost_ret (v := .tuple #[insV insZero, .bool false]) (by simp [results, Tryz.results22, go_sem, insZero]) rfl ⟨by first | rfl | (rw [hz.out]; rfl), Chg.e⟩
  obtain ⟨k, rfl⟩ := Int.eq_ofNat_of_zero_le (show 0 ≤ proc by omega)
  obtain ⟨j, rfl⟩ := Int.eq_ofNat_of_zero_le (show 0 ≤ pc by omega)
  clear h1 h3
  have hlt : k < p.Procs.length := by omega
  obtain ⟨b1, o1, p1, c1, f1, e1, r1, m1, -⟩ := h.elem hlt
  obtain ⟨vC, FC, rfl, rfl, -, -, g1⟩ := R_PrcProc.1 r1
  injection e1 with e1 _ e1c
  subst e1 e1c
  have ya2 := m1 2 (by decide)
  simp only [sz_PrcProc, Nat.add_zero, List.getElem?_cons_zero, List.getElem?_cons_succ] at ya2
  have hb1 : b1 < w.heap.size := World.block_lt_of_cell? _ _ ya2
  clear m1 r1 h
  have hz0 : prgAt p k j = p.Procs[k].Code[j]? := by
    unfold prgAt
    rw [if_neg (by omega)]
    simp [List.getElem?_eq_getElem hlt]
  rw [hz0]
  clear hz0
  generalize p.Procs[k].Code = code at g1 ⊢
  obtain ⟨B, cb, rfl, hlb, hmb⟩ := g1.form
  have hnb : code.length ≤ maxLen := by omega
  unfold maxLen at hnb
  by_cases h4 : code.length ≤ j
  case pos =>
    have hz := Lib.hid (show code[j]? = none from List.getElem?_eq_none h4)
    clear g1
    go_enter Tryz.func22, Tryz.ntmps22
    go_wp2
    exact bodyPost_ret (v := .tuple #[insV insZero, .bool false]) (by simp [results, Tryz.results22, go_sem, insZero]) rfl ⟨by first | rfl | (rw [hz.out]; rfl), Chg.e⟩
  have hlt2 : j < code.length := by omega
  obtain ⟨b2, o2, p2, c2, f2, e2, r2, m2, -⟩ := g1.elem hlt2
  obtain ⟨rfl, rfl, -⟩ := R_InsIns.1 r2
  injection e2 with e2 _ e2c
  subst e2 e2c
  have za0 := m2 0 (by decide)
  have za1 := m2 1 (by decide)
  have za2 := m2 2 (by decide)
  have za3 := m2 3 (by decide)
  have za4 := m2 4 (by decide)
  have za5 := m2 5 (by decide)
  have za6 := m2 6 (by decide)
  have za7 := m2 7 (by decide)
  simp only [sz_InsIns, Nat.add_zero, List.getElem?_cons_zero, List.getElem?_cons_succ] at za0 za1 za2 za3 za4 za5 za6 za7
  have hb2 : b2 < w.heap.size := World.block_lt_of_cell? _ _ za0
  clear m2 r2 g1
  have hz := Lib.hid (show code[j]? = some code[j] from List.getElem?_eq_getElem hlt2)
  go_enter Tryz.func22, Tryz.ntmps22
  go_wp2
  exact bodyPost_ret (v := .tuple #[insV code[j], .bool true]) (by simp [results, Tryz.results22, go_sem, insZero]) rfl ⟨by first | rfl | (rw [hz.out]; rfl), Chg.e⟩

set_option maxRecDepth 100000 in
set_option maxHeartbeats 2000000 in
theorem refFrame_c (p : PrgProg) (f : RunFrame) (v vV vC : Value) (F FV FC : List Nat) (w : World) (h : RL w p.Procs v F) (hV : RL w f.Vars vV FV) (hC : RL w f.Cells vC FC) :
    Calls Tryz.prog 74 #[.agg #[v], .agg #[.int .i64 f.Proc, .int .i64 f.Pc, vV, vC]] w fun e w' => e = .returned (.bool (frameOk p f)) ∧ Chg [] w w' := by
  obtain ⟨A, ca, rfl, -, -⟩ := h.form
  obtain ⟨AV, cV, rfl, -, -⟩ := hV.form
  obtain ⟨AC, cC, rfl, -, -⟩ := hC.form
  by_cases h1 : (prgAt p f.Proc f.Pc).isSome = true
  case neg =>
    rw [Bool.not_eq_true] at h1
    go_enter Tryz.func74, Tryz.ntmps74
    go_wp2_with fail
    refine (refPrgAt_c p f.Proc f.Pc _ _ _ (h.chg0 (Chg.e))).mono ?_
    rintro e w1 ⟨rfl, hc1⟩
    unfold atV
    rw [h1]
    clear h hV hC
    go_wp2
    go_ret
    exact ⟨by simp [frameOk, h1], by repeat (with_reducible first | exact Chg.refl _ _ | assumption | refine Chg.trans0 ?_ hc1 | refine Chg.r ?_ _ | refine Chg.alloc ?_ _ | refine Chg.drewN ?_ _ | refine Chg.drew ?_)⟩
  by_cases h2 : numsOk f.Vars 4 = true
  case neg =>
    rw [Bool.not_eq_true] at h2
    go_enter Tryz.func74, Tryz.ntmps74
    go_wp2_with fail
    refine (refPrgAt_c p f.Proc f.Pc _ _ _ (h.chg0 (Chg.e))).mono ?_
    rintro e w1 ⟨rfl, hc1⟩
    unfold atV
    rw [h1]
    have b2 : w1.cell? ⟨w.heap.size + 1, 2, none⟩ = some (.slice AV f.Vars.length cV) := hc1.cell0 (by simp)
    have b3 : w1.cell? ⟨w.heap.size + 1, 3, none⟩ = some (.slice AC f.Cells.length cC) := hc1.cell0 (by simp)
    have hz1 := hc1.size
    repeat (first | rw [World.size_alloc] at hz1 | rw [World.size_setCell] at hz1 | rw [World.size_drew] at hz1 | rw [World.heap_drewN] at hz1)
    have hza : w.heap.size + 1 < w1.heap.size := by omega
    have hV1 := (hV.chg0 (show Chg [] w w1 from by repeat (with_reducible first | exact Chg.refl _ _ | assumption | refine Chg.trans0 ?_ hc1 | refine Chg.r ?_ _ | refine Chg.alloc ?_ _ | refine Chg.drewN ?_ _ | refine Chg.drew ?_)))
    clear h hV hC
    go_wp2_with fail
    refine (refNums_c f.Vars 4 _ _ _ (hV1.chg0 (Chg.e)) rfl).mono ?_
    rintro e w2 ⟨rfl, hc2⟩
    rw [h2]
    clear hV1
    go_wp2
    go_ret
    exact ⟨by simp [frameOk, h1, h2], by repeat (with_reducible first | exact Chg.refl _ _ | assumption | refine Chg.trans0 ?_ hc2 | refine Chg.trans0 ?_ hc1 | refine Chg.r ?_ _ | refine Chg.alloc ?_ _ | refine Chg.drewN ?_ _ | refine Chg.drew ?_)⟩
  by_cases h3 : numsOk f.Cells 4 = true
  all_goals
    (try rw [Bool.not_eq_true] at h3)
    go_enter Tryz.func74, Tryz.ntmps74
    go_wp2_with fail
    refine (refPrgAt_c p f.Proc f.Pc _ _ _ (h.chg0 (Chg.e))).mono ?_
    rintro e w1 ⟨rfl, hc1⟩
    unfold atV
    rw [h1]
    have b2 : w1.cell? ⟨w.heap.size + 1, 2, none⟩ = some (.slice AV f.Vars.length cV) := hc1.cell0 (by simp)
    have b3 : w1.cell? ⟨w.heap.size + 1, 3, none⟩ = some (.slice AC f.Cells.length cC) := hc1.cell0 (by simp)
    have hz1 := hc1.size
    repeat (first | rw [World.size_alloc] at hz1 | rw [World.size_setCell] at hz1 | rw [World.size_drew] at hz1 | rw [World.heap_drewN] at hz1)
    have hza : w.heap.size + 1 < w1.heap.size := by omega
    have hV1 := (hV.chg0 (show Chg [] w w1 from by repeat (with_reducible first | exact Chg.refl _ _ | assumption | refine Chg.trans0 ?_ hc1 | refine Chg.r ?_ _ | refine Chg.alloc ?_ _ | refine Chg.drewN ?_ _ | refine Chg.drew ?_)))
    have hC1 := (hC.chg0 (show Chg [] w w1 from by repeat (with_reducible first | exact Chg.refl _ _ | assumption | refine Chg.trans0 ?_ hc1 | refine Chg.r ?_ _ | refine Chg.alloc ?_ _ | refine Chg.drewN ?_ _ | refine Chg.drew ?_)))
    clear h hV hC
    go_wp2_with fail
    refine (refNums_c f.Vars 4 _ _ _ (hV1.chg0 (Chg.e)) rfl).mono ?_
    rintro e w2 ⟨rfl, hc2⟩
    rw [h2]
    have hC2 := (hC1.chg0 (show Chg [] w1 w2 from by repeat (with_reducible first | exact Chg.refl _ _ | assumption | refine Chg.trans0 ?_ hc2 | refine Chg.r ?_ _ | refine Chg.alloc ?_ _ | refine Chg.drewN ?_ _ | refine Chg.drew ?_)))
    have b5 : w2.cell? ⟨w.heap.size + 1, 3, none⟩ = some (.slice AC f.Cells.length cC) := (Chg.trans0 (show Chg [] w1 _ from Chg.e) hc2).cell0 b3
    clear hV1 hC1
    go_wp2_with fail
    refine (refNums_c f.Cells 4 _ _ _ (hC2.chg0 (Chg.e)) rfl).mono ?_
    rintro e w3 ⟨rfl, hc3⟩
    rw [h3]
    clear hC2
    go_wp2
    go_ret
    exact ⟨by simp [frameOk, h1, h2, h3], by repeat (with_reducible first | exact Chg.refl _ _ | assumption | refine Chg.trans0 ?_ hc3 | refine Chg.trans0 ?_ hc2 | refine Chg.trans0 ?_ hc1 | refine Chg.r ?_ _ | refine Chg.alloc ?_ _ | refine Chg.drewN ?_ _ | refine Chg.drew ?_)⟩
end Go.Proofs.YtjakhnhnjhafgaaGreat.Wk
