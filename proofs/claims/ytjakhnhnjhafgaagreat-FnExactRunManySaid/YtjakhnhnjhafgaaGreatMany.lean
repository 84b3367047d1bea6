/- Many steps of a run: plain facts, a row behind its first number, the boxes of the functions. No program in sight. -/
import Derived.Test.YtjakhnhnjhafgaaGreatZRunMem
import Derived.Test.YtjakhnhnjhafgaaGreatZPlain
set_option linter.unusedVariables false
set_option linter.unusedSimpArgs false
namespace Ow
open Go Go.RowKit Go.Deep
open Rp (R sz)

theorem fuel_stop {p : PrgProg} {x : RunRun} (h : ¬ x.State = 1) (rest : List Int) : ∀ n, runFuel p n x rest = x
  | 0 => rfl
  | n + 1 => by show (if x.State = 1 then _ else x) = x; rw [if_neg h]
theorem fuel_step {p : PrgProg} {x : RunRun} (h : x.State = 1) (rest : List Int) (n : Nat) : runFuel p (n + 1) x rest = runFuel p n (stepped p x (nextIn p x rest).1) (nextIn p x rest).2 := by
  show (if x.State = 1 then _ else x) = _
  rw [if_pos h]
theorem next_at {p : PrgProg} {x : RunRun} {m : Nat} {i : InsIns} (hm : x.Frames.length = m + 1) (hi : prgAt p x.Frames[m].Proc x.Frames[m].Pc = some i) (ins : List Int) : nextIn p x ins = if i.Op = 5 then (ins.headD 0, ins.tail) else (0, ins) := by
  unfold nextIn
  rw [getLast_last hm]
  simp only
  rw [hi]
  rfl
theorem headD_drop (ins : List Int) (k : Nat) : (ins.drop k).headD 0 = ins.getD k 0 := by
  rw [List.headD_eq_head?_getD, List.head?_drop, List.getD_eq_getElem?_getD]
theorem tail_drop (ins : List Int) (k : Nat) : (ins.drop k).tail = ins.drop (k + 1) := by
  rw [List.tail_drop]
theorem runOk_frames {p : PrgProg} {x : RunRun} (h : runOk p x = true) : x.Frames.length ≤ 5 ∧ ∀ f ∈ x.Frames, f.Vars.length = 4 ∧ f.Cells.length = 4 := by
  by_cases hs : x.State = 1
  · have F := goes_facts h hs
    refine ⟨F.n5, fun f hf => ?_⟩
    obtain ⟨k, hk, rfl⟩ := List.mem_iff_getElem.1 hf
    obtain ⟨-, -, h1, h2, -⟩ := frame_facts ((nest_iff p _).1 F.nest k hk).1
    exact ⟨h1, h2⟩
  · have hnil : x.Frames = [] := by
      unfold runOk at h
      rw [if_neg hs] at h
      simp at h
      exact h.2
    rw [hnil]
    exact ⟨by simp, by simp⟩
theorem runOk_out {p : PrgProg} {x : RunRun} (h : runOk p x = true) : I64 x.State ∧ I64 x.Out := by
  unfold runOk at h
  simp only [Bool.and_eq_true, decide_eq_true_eq, numOk_iff] at h
  unfold I64
  omega
/-- N steps from a run lead to X; n of them are done, x and rest are left -/
def Many (p : PrgProg) (X : RunRun) (N n : Nat) (x : RunRun) (rest : List Int) : Prop := n ≤ N ∧ runOk p x = true ∧ runFuel p (N - n) x rest = X
theorem Many.ok {p : PrgProg} {X x : RunRun} {N n : Nat} {rest : List Int} (h : Many p X N n x rest) : runOk p x = true := h.2.1
theorem Many.le {p : PrgProg} {X x : RunRun} {N n : Nat} {rest : List Int} (h : Many p X N n x rest) : n ≤ N := h.1
theorem Many.start {p : PrgProg} {r : RunRun} {ins : List Int} {fuel : Int} (h : runOk p r = true) (hf : fuel ≤ 300) : Many p (runMany p r ins fuel) fuel.toNat 0 r ins :=
  ⟨Nat.zero_le _, h, by unfold runMany; rw [if_pos ⟨h, hf⟩]; rfl⟩
theorem Many.stop {p : PrgProg} {X x : RunRun} {N n : Nat} {rest : List Int} (h : Many p X N n x rest) (hs : n = N ∨ ¬ x.State = 1) : x = X := by
  obtain ⟨h1, h2, h3⟩ := h
  rcases hs with rfl | hs
  · rw [Nat.sub_self] at h3; exact h3
  · rw [fuel_stop hs] at h3; exact h3
theorem Many.next {p : PrgProg} {X x : RunRun} {N n : Nat} {rest : List Int} (h : Many p X N n x rest) (hn : n < N) (hs : x.State = 1) : Many p X N (n + 1) (stepped p x (nextIn p x rest).1) (nextIn p x rest).2 := by
  obtain ⟨h1, h2, h3⟩ := h
  refine ⟨hn, stepped_ok h2 hs _, ?_⟩
  rw [show N - n = (N - (n + 1)) + 1 by omega, fuel_step hs] at h3
  exact h3
theorem many_no {p : PrgProg} {r : RunRun} {ins : List Int} {fuel : Int} (h : runOk p r = false ∨ 300 < fuel) : runMany p r ins fuel = runZero := by
  unfold runMany
  rw [if_neg]
  rintro ⟨h1, h2⟩
  rcases h with h | h
  · rw [h] at h1; cases h1
  · omega
theorem fuel_ok {p : PrgProg} : ∀ (n : Nat) (x : RunRun) (rest : List Int), runOk p x = true → runOk p (runFuel p n x rest) = true
  | 0, _, _, h => h
  | n + 1, x, rest, h => by
    by_cases hs : x.State = 1
    · rw [fuel_step hs]
      exact fuel_ok n _ _ (stepped_ok h hs _)
    · rw [fuel_stop hs]; exact h
theorem many_cnt (p : PrgProg) (r : RunRun) (ins : List Int) (fuel : Int) : cntL (runMany p r ins fuel).Frames ≤ 50 := by
  unfold runMany
  split
  · rename_i h
    exact runOk_cnt (fuel_ok _ _ _ h.1)
  · simp [runZero, cntL]
theorem szI_int : ∀ xs : List Int, szI xs = 0
  | [] => rfl
  | x :: r => by show 0 + szI r = 0; rw [szI_int r]
/-- where a run that goes on stands -/
structure StandAt (p : PrgProg) (x : RunRun) (m : Nat) (i : InsIns) : Prop where
  lt : m < x.Frames.length
  len : x.Frames.length = m + 1
  at_ : prgAt p x.Frames[m].Proc x.Frames[m].Pc = some i
  eq : x = goes x.Frames
theorem stand_at {p : PrgProg} {x : RunRun} (h : runOk p x = true) (hs : x.State = 1) : ∃ m i, StandAt p x m i := by
  have F := goes_facts h hs
  have n1 := F.n1
  obtain ⟨m, hm⟩ : ∃ m, x.Frames.length = m + 1 := ⟨x.Frames.length - 1, by omega⟩
  obtain ⟨i, hi, -⟩ := frame_facts ((nest_iff p _).1 F.nest m (by omega)).1
  exact ⟨m, i, by omega, hm, hi, goes_eq F hs⟩
/-- a step takes the k-th number, or 0 -/
theorem Many.drop_in {p : PrgProg} {X x : RunRun} {N n m k : Nat} {ins : List Int} {i : InsIns} (h : Many p X N n x (ins.drop k)) (hn : n < N) (hs : x.State = 1) (ha : StandAt p x m i) (h5 : i.Op = 5) (hk : k < ins.length) : Many p X N (n + 1) (stepped p x ins[k]) (ins.drop (k + 1)) := by
  have h1 := h.next hn hs
  rw [next_at ha.len ha.at_, if_pos h5] at h1
  simp only [headD_drop, tail_drop] at h1
  rw [List.getD_eq_getElem?_getD, List.getElem?_eq_getElem hk] at h1
  exact h1
theorem Many.drop_out {p : PrgProg} {X x : RunRun} {N n m : Nat} {rest : List Int} {i : InsIns} (h : Many p X N n x rest) (hn : n < N) (hs : x.State = 1) (ha : StandAt p x m i) (h5 : ¬ i.Op = 5 ∨ rest = []) : Many p X N (n + 1) (stepped p x 0) rest := by
  have h1 := h.next hn hs
  rw [next_at ha.len ha.at_] at h1
  by_cases h6 : i.Op = 5
  · rcases h5 with h5 | h5
    · exact absurd h6 h5
    · subst h5
      rw [if_pos h6] at h1
      exact h1
  · rw [if_neg h6] at h1
    exact h1
theorem Many.cons_in {p : PrgProg} {X x : RunRun} {N n m : Nat} {y : Int} {rest : List Int} {i : InsIns} (h : Many p X N n x (y :: rest)) (hn : n < N) (hs : x.State = 1) (ha : StandAt p x m i) (h5 : i.Op = 5) : Many p X N (n + 1) (stepped p x y) rest := by
  have h1 := h.next hn hs
  rw [next_at ha.len ha.at_, if_pos h5] at h1
  exact h1

/-- one of the numbers that come in -/
theorem RL.at1 {ins : List Int} {w : World} {v : Value} {F : List Nat} (h : RL w ins v F) {k : Nat} (hk : k < ins.length) : ∃ b off cap, v = .slice (some ⟨b, off, none⟩) ins.length cap ∧ w.cell? ⟨b, off + k, none⟩ = some (.int .i64 ins[k]) ∧ I64 ins[k] ∧ b < w.heap.size := by
  obtain ⟨A, cap, h1, h2, h3, h4⟩ := h
  rcases h4 with ⟨rfl, _⟩ | ⟨b, off, C, Fs, rfl, rfl, e3, e4⟩
  · simp at hk
  · obtain ⟨c1, c2, c3⟩ := R_int.1 (e4.elem k hk)
    have c4 := e4.cell k hk 0 (by decide)
    rw [c1] at c4
    exact ⟨b, off, cap, h1, by simpa [sz_int] using c4, c3, e4.lt⟩
/-- the row behind its first number -/
theorem RL.tail1 {y : Int} {r : List Int} {w : World} {v : Value} {F : List Nat} (h : RL w (y :: r) v F) : ∃ b off cap, v = .slice (some ⟨b, off, none⟩) (r.length + 1) cap ∧ w.cell? ⟨b, off, none⟩ = some (.int .i64 y) ∧ I64 y ∧ b < w.heap.size ∧ r.length + 1 ≤ cap ∧ ∃ F', RL w r (.slice (some ⟨b, off + 1, none⟩) r.length (cap - 1)) F' ∧ ∀ g ∈ F', g ∈ F := by
  obtain ⟨A, cap, h1, h2, h3, h4⟩ := h
  rcases h4 with ⟨h4, _⟩ | ⟨b, off, C, Fs, rfl, rfl, e3, e4⟩
  · cases h4
  · obtain ⟨c1, c2, c3⟩ := R_int.1 (e4.elem 0 (by simp))
    have c4 := e4.cell 0 (by simp) 0 (by decide)
    rw [c1] at c4
    rw [List.length_cons] at h2
    refine ⟨b, off, cap, h1, by simpa [sz_int] using c4, c3, e4.lt, h2, ?_⟩
    by_cases hr : r = []
    · subst hr
      exact ⟨[], ⟨_, _, rfl, by simp, by omega, Or.inl ⟨rfl, rfl, fun h => by cases h⟩⟩, by simp⟩
    · refine ⟨footOf b r.length (fun i => Fs (i + 1)), ⟨_, _, rfl, by omega, by omega, Or.inr ⟨b, off + 1, fun i => C (i + 1), _, rfl, rfl, hr, e4.lt, fun i hi j hj => ?_, fun i hi => ?_⟩⟩, fun g hg => ?_⟩
      · have := e4.cell (i + 1) (by simp; omega) j hj
        simp only [sz_int, Nat.mul_one] at this ⊢
        rw [show off + 1 + i + j = off + (i + 1) + j by omega]
        exact this
      · exact e4.elem (i + 1) (by simp; omega)
      · simp only [footOf, List.mem_cons, List.mem_flatMap, List.mem_range] at hg ⊢
        rcases hg with hg | ⟨i, hi, hg⟩
        · exact Or.inl hg
        · exact Or.inr ⟨i + 1, by simp; omega, hg⟩

/-- the boxes: the program at N, the result (still nothing) at N + 2, the run at B -/
structure ManyBox (N B : Nat) (vP : Value) (x : RunRun) (v : Value) (w : World) : Prop where
  p0 : w.cell? ⟨N, 0, none⟩ = some vP
  q0 : w.cell? ⟨N + 2, 0, none⟩ = some (.int .i64 0)
  q1 : w.cell? ⟨N + 2, 1, none⟩ = some (.slice none 0 0)
  q2 : w.cell? ⟨N + 2, 2, none⟩ = some (.int .i64 0)
  q3 : w.cell? ⟨N + 2, 3, none⟩ = some (.int .i64 0)
  q4 : w.cell? ⟨N + 2, 4, none⟩ = some (.int .i64 0)
  z : ∀ j, w.frozen? ⟨N + 2, j, none⟩ = false
  c0 : w.cell? ⟨B, 0, none⟩ = some (.int .i64 x.State)
  c1 : w.cell? ⟨B, 1, none⟩ = some v
  c2 : w.cell? ⟨B, 2, none⟩ = some (.int .i64 x.Out)
  c3 : w.cell? ⟨B, 3, none⟩ = some (.int .i64 x.Proc)
  c4 : w.cell? ⟨B, 4, none⟩ = some (.int .i64 x.Pc)
  zB : ∀ j, w.frozen? ⟨B, j, none⟩ = false
  lt : N + 2 < B
  ltB : B < w.heap.size
theorem ManyBox.chg {N B : Nat} {vP v : Value} {x : RunRun} {w w' : World} (h : ManyBox N B vP x v w) (hc : Chg [] w w') : ManyBox N B vP x v w' := by
  have hf := hc.cells.2
  have l1 := h.lt
  have l2 := h.ltB
  exact ⟨hc.cell0 h.p0, hc.cell0 h.q0, hc.cell0 h.q1, hc.cell0 h.q2, hc.cell0 h.q3, hc.cell0 h.q4, fun j => (hf _ _ (by omega)).trans (h.z j), hc.cell0 h.c0, hc.cell0 h.c1, hc.cell0 h.c2, hc.cell0 h.c3, hc.cell0 h.c4, fun j => (hf _ _ l2).trans (h.zB j), l1, Nat.lt_of_lt_of_le l2 hc.size⟩
/-- a new run in the box -/
theorem ManyBox.turn {N B : Nat} {vP v v' : Value} {x x' : RunRun} {w w' : World} (h : ManyBox N B vP x v w) (hc : Chg [B] w w') (k0 : w'.cell? ⟨B, 0, none⟩ = some (.int .i64 x'.State)) (k1 : w'.cell? ⟨B, 1, none⟩ = some v') (k2 : w'.cell? ⟨B, 2, none⟩ = some (.int .i64 x'.Out)) (k3 : w'.cell? ⟨B, 3, none⟩ = some (.int .i64 x'.Proc)) (k4 : w'.cell? ⟨B, 4, none⟩ = some (.int .i64 x'.Pc)) (kz : ∀ j, w'.frozen? ⟨B, j, none⟩ = false) : ManyBox N B vP x' v' w' := by
  have l1 := h.lt
  have l2 := h.ltB
  have e : ∀ b, b < N + 3 → ∀ j, w'.cell? ⟨b, j, none⟩ = w.cell? ⟨b, j, none⟩ := fun b hb j => hc.cell (p := ⟨b, j, none⟩) (by show b < _; omega) (by simp; omega)
  have ef : ∀ j, w'.frozen? ⟨N + 2, j, none⟩ = w.frozen? ⟨N + 2, j, none⟩ := fun j => World.frozen?_of_block (hc.block (N + 2) (by omega) (by simp; omega))
  exact ⟨(e _ (by omega) _).trans h.p0, (e _ (by omega) _).trans h.q0, (e _ (by omega) _).trans h.q1, (e _ (by omega) _).trans h.q2, (e _ (by omega) _).trans h.q3, (e _ (by omega) _).trans h.q4, fun j => (ef j).trans (h.z j), k0, k1, k2, k3, k4, kz, l1, Nat.lt_of_lt_of_le l2 hc.size⟩
end Ow
