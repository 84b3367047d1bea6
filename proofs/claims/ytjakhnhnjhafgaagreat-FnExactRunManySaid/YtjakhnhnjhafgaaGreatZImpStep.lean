/- The program's step: written by a program of mine (wip/gen/gen_impstep.py). -/
import Derived.Test.YtjakhnhnjhafgaaGreatZImpStep1
import Derived.Test.YtjakhnhnjhafgaaGreatZImpStep2
import Derived.Test.YtjakhnhnjhafgaaGreatZImpStep3
import Derived.Test.YtjakhnhnjhafgaaGreatZImpStep4
import Derived.Test.YtjakhnhnjhafgaaGreatZImpStep5
import Derived.Test.YtjakhnhnjhafgaaGreatZImpStep6
import Derived.Test.YtjakhnhnjhafgaaGreatZImpStep7
import Derived.Test.YtjakhnhnjhafgaaGreatZImpStep8
import Derived.Test.YtjakhnhnjhafgaaGreatZImpStep9
import Derived.Test.YtjakhnhnjhafgaaGreatZRunner5
import Derived.Test.YtjakhnhnjhafgaaGreatZRefStep0
import Derived.Test.YtjakhnhnjhafgaaGreatZImplAt
import Derived.Test.YtjakhnhnjhafgaaGreatZCatch
import Derived.Test.YtjakhnhnjhafgaaGreatZImplCopy
import Derived.Deep.RegionHeld3
set_option linter.unusedVariables false
set_option linter.unusedSimpArgs false
namespace Go.Proofs.YtjakhnhnjhafgaaGreat.Wk
open Go Go.RowKit Go.Deep Ow
open Rp (R sz)
theorem impStep_c (p : PrgProg) (fs : List RunFrame) (inp : Int) (X : Nat) (vP : Value) (FP : List Nat) (v : Value) (G : List Nat) (w : World) (hP : RL w p.Procs vP FP) (hXP : X ∉ FP) (hX : RunX w X vP (goes fs) v) (h : RL w fs v G) (ho : Own w G) (hXG : X ∉ G) (hroom : Room w 58 v fs.length) (hin : I64 inp) (hok : runOk p (goes fs) = true) :
    Calls Tryz.prog 130 #[.pointer (some ⟨X, 0, none⟩), .int .i64 inp] w (StepRes X vP G (stepped p (goes fs) inp) w) := by
  have F := goes_facts hok rfl
  obtain ⟨m, hm⟩ : ∃ m, fs.length = m + 1 := ⟨fs.length - 1, by have := F.n1; simp only [goes] at this; omega⟩
  obtain ⟨i, hi, -⟩ := frame_facts ((nest_iff p _).1 F.nest m (by simp only [goes]; omega)).1
  simp only [goes] at hi
  obtain ⟨kp, jp, At⟩ := prgAt_facts F.prg hi
  have I := ins_facts At.ok
  have hsel : ∀ P : Int → Prop, P i.Op → ∀ (m : Nat) (hml : m < fs.length) (i : InsIns), fs.length = m + 1 → prgAt p fs[m].Proc fs[m].Pc = some i → P i.Op := by
    intro P hPo m' hml' i' hm' hi'
    obtain rfl : m' = m := by omega
    rw [hi] at hi'
    cases hi'
    exact hPo
  rcases op_range I.op1 I.op12 with h1 | h1 | h1 | h1 | h1 | h1 | h1 | h1 | h1
  · exact impStep1_c p fs inp X vP FP v G w hP hXP hX h ho hXG hroom hin hok (hsel (fun o => 1 ≤ o ∧ o ≤ 4) ⟨I.op1, h1⟩)
  · exact impStep5_c p fs inp X vP FP v G w hP hXP hX h ho hXG hroom hin hok (hsel (· = 5) h1)
  · exact impStep6_c p fs inp X vP FP v G w hP hXP hX h ho hXG hroom hin hok (hsel (· = 6) h1)
  · exact impStep7_c p fs inp X vP FP v G w hP hXP hX h ho hXG hroom hin hok (hsel (· = 7) h1)
  · exact impStep8_c p fs inp X vP FP v G w hP hXP hX h ho hXG hroom hin hok (hsel (· = 8) h1)
  · exact impStep9_c p fs inp X vP FP v G w hP hXP hX h ho hXG hroom hin hok (hsel (· = 9) h1)
  · exact impStep10_c p fs inp X vP FP v G w hP hXP hX h ho hXG hroom hin hok (hsel (· = 10) h1)
  · exact impStep11_c p fs inp X vP FP v G w hP hXP hX h ho hXG hroom hin hok (hsel (· = 11) h1)
  · exact impStep12_c p fs inp X vP FP v G w hP hXP hX h ho hXG hroom hin hok (hsel (· = 12) h1)
end Go.Proofs.YtjakhnhnjhafgaaGreat.Wk
namespace Go.Proofs.YtjakhnhnjhafgaaGreat.Wk
open Go Go.RowKit Go.Deep Ow
open Rp (R sz)

set_option maxRecDepth 100000 in
set_option maxHeartbeats 8000000 in
theorem implStepped_c (p : PrgProg) (fs : List RunFrame) (inp : Int) (vP vF : Value) (FP FF : List Nat) (w : World) (hP : RL w p.Procs vP FP) (h : RL w fs vF FF) (hin : I64 inp) (hok : runOk p (goes fs) = true) :
    Calls Tryz.prog 66 #[.agg #[vP], .agg #[.int .i64 1, vF, .int .i64 0, .int .i64 0, .int .i64 0], .int .i64 inp] w (RetRun [] (stepped p (goes fs) inp) w) := by
  have F := goes_facts hok rfl
  have hN : nestOk p fs = true := F.nest
  have n5 : fs.length ≤ 5 := F.n5
  have h44 : ∀ f ∈ fs, f.Vars.length = 4 ∧ f.Cells.length = 4 := fun f hf => by
    obtain ⟨k, hk, rfl⟩ := List.mem_iff_getElem.1 hf
    obtain ⟨-, -, h1, h2, -⟩ := frame_facts ((nest_iff p _).1 hN k hk).1
    exact ⟨h1, h2⟩
  have hcp : ∀ wx, Chg [] w wx → Calls Tryz.prog 65 #[.agg #[.int .i64 1, vF, .int .i64 0, .int .i64 0, .int .i64 0]] wx (RetCopy (goes fs) wx) := fun wx hx => copyRun_c (goes fs) _ _ wx (h.chg0 hx) n5 h44
  have hP_ := Lib.hid hP
  have hok_ := Lib.hid hok
  obtain ⟨AP, cP, rfl, -, -⟩ := hP.form
  obtain ⟨AF, cF, rfl, -, -⟩ := h.form
  clear F hN n5 h44 hP h hok
  have hmf : ∀ (fn : Fn) (first cap : Array Value) (w : World), (Instr.makeFunc fn first cap).run Tryz.prog w = .ok (.func fn first cap) w := fun _ _ _ _ => rfl
  go_enter_defers Tryz.func66, Tryz.ntmps66
  go_wp2_with fail
  generalize hW0 : World.alloc _ _ = w0
  have hK0 : Chg [] w w0 := hW0 ▸ Chg.c
  have pb : w0.cell? ⟨w.heap.size, 0, none⟩ = some (.slice AP p.Procs.length cP) := by rw [← hW0]; simp [go_sem]
  have r0 : w0.cell? ⟨w.heap.size + 1, 0, none⟩ = some (.int .i64 1) := by rw [← hW0]; simp [go_sem]
  have r1 : w0.cell? ⟨w.heap.size + 1, 1, none⟩ = some (.slice AF fs.length cF) := by rw [← hW0]; simp [go_sem]
  have r2 : w0.cell? ⟨w.heap.size + 1, 2, none⟩ = some (.int .i64 0) := by rw [← hW0]; simp [go_sem]
  have r3 : w0.cell? ⟨w.heap.size + 1, 3, none⟩ = some (.int .i64 0) := by rw [← hW0]; simp [go_sem]
  have r4 : w0.cell? ⟨w.heap.size + 1, 4, none⟩ = some (.int .i64 0) := by rw [← hW0]; simp [go_sem]
  have x0 : w0.cell? ⟨w.heap.size + 2, 0, none⟩ = some (.int .i64 0) := by rw [← hW0]; simp [go_sem]
  have x1 : w0.cell? ⟨w.heap.size + 2, 1, none⟩ = some (.slice none 0 0) := by rw [← hW0]; simp [go_sem]
  have x2 : w0.cell? ⟨w.heap.size + 2, 2, none⟩ = some (.int .i64 0) := by rw [← hW0]; simp [go_sem]
  have x3 : w0.cell? ⟨w.heap.size + 2, 3, none⟩ = some (.int .i64 0) := by rw [← hW0]; simp [go_sem]
  have x4 : w0.cell? ⟨w.heap.size + 2, 4, none⟩ = some (.int .i64 0) := by rw [← hW0]; simp [go_sem]
  have fx : ∀ j, w0.frozen? ⟨w.heap.size + 2, j, none⟩ = false := fun j => by rw [← hW0]; simp [go_sem]
  have l0 : w.heap.size + 2 < w0.heap.size := by rw [← hW0]; simp [go_sem]
  clear hW0 hmf
  go_region_held3 (fun w' => w'.cell? ⟨w.heap.size, 0, none⟩ = some (.slice AP p.Procs.length cP) ∧ w'.cell? ⟨w.heap.size + 1, 0, none⟩ = some (.int .i64 1) ∧ w'.cell? ⟨w.heap.size + 1, 1, none⟩ = some (.slice AF fs.length cF) ∧ w'.cell? ⟨w.heap.size + 1, 2, none⟩ = some (.int .i64 0) ∧ w'.cell? ⟨w.heap.size + 1, 3, none⟩ = some (.int .i64 0) ∧ w'.cell? ⟨w.heap.size + 1, 4, none⟩ = some (.int .i64 0)) (((try dsimp only); (repeat' apply And.intro) <;> (first | with_reducible assumption | (go_keep; done))))
    (first | (go_at_call 65; refine (hcp _ (Chg.k)).mono ?_; rintro e wc ⟨v, base, rfl, hcc, hGc, hbc⟩; have hKc : Chg [] w0 wc := Chg.trans0 (show Chg [] w0 _ from Chg.c) hcc; have hbase : w0.heap.size ≤ base := Nat.le_trans (show Chg [] w0 _ from Chg.c).size hbc; obtain ⟨G, hR, hO, hge, hRoom⟩ := hGc.out; simp only [goes] at hR hRoom; obtain ⟨A3, k3, c3, rfl⟩ := form3 hR; have hR_ := Lib.hid hR; have hO_ := Lib.hid hO; have hge_ := Lib.hid hge; have hRoom_ := Lib.hid hRoom; have pbc := hKc.cell0 pb; have rc0 := hKc.cell0 r0; have rc1 := hKc.cell0 r1; have rc2 := hKc.cell0 r2; have rc3 := hKc.cell0 r3; have rc4 := hKc.cell0 r4; clear hcc hGc hbc hR hO hge hRoom hcp))
  all_goals
    generalize hW3 : World.alloc _ _ = w3
    have h3 : Chg [] wc w3 := hW3 ▸ Chg.c
    have hX3 : RunX w3 wc.heap.size (.slice AP p.Procs.length cP) (goes fs) (.slice A3 k3 c3) := by
      have e := hW3
      clear hW3
      rw [← e]
      clear e
      refine ⟨?_, ?_, ?_, ?_, ?_, ?_, fun j => ?_⟩ <;> simp [go_sem, goes]
    have hK3 := hK0.trans0 (hKc.trans0 h3)
    have hXw : w.heap.size + 2 < wc.heap.size := Nat.lt_of_lt_of_le l0 hKc.size
    have hXP := Lib.hid (show wc.heap.size ∉ FP from fun hg => absurd (hP_.out.lt _ hg) (by omega))
    have hXG := Lib.hid (show wc.heap.size ∉ G from fun hg => absurd (hO_.out.lt _ hg) (Nat.lt_irrefl _))
    have hns := Lib.hid (show w.heap.size + 2 ∉ wc.heap.size :: G from fun hg => by
      rcases List.mem_cons.1 hg with h1 | h1
      · omega
      · have := hge_.out _ h1; omega)
    have hnw := Lib.hid (show ∀ g ∈ wc.heap.size :: G, w.heap.size ≤ g from fun g hg => by
      rcases List.mem_cons.1 hg with h1 | h1
      · omega
      · have := hge_.out _ h1; omega)
    have h03 := hKc.trans0 h3
    have x30 := h03.cell0 x0
    have x31 := h03.cell0 x1
    have x32 := h03.cell0 x2
    have x33 := h03.cell0 x3
    have x34 := h03.cell0 x4
    have fx3 : ∀ j, w3.frozen? ⟨w.heap.size + 2, j, none⟩ = false := fun j => (h03.cells.2 (w.heap.size + 2) j l0).trans (fx j)
    have l3 := Nat.lt_of_lt_of_le l0 h03.size
    have hX3_ := Lib.hid hX3
    clear hW3 hX3
    go_wp2_with fail
    refine (impStep_c p fs inp wc.heap.size _ FP _ G _ (hP_.out.chg0 hK3) hXP.out hX3_.out (hR_.out.chg0 h3) (hO_.out.chg0 h3) hXG.out (hRoom_.out.chg h3 (by simp)) hin hok_.out).mono ?_
    rintro e w9 hres
    have hnx := Lib.hid (show ∀ x : RunRun, True from fun _ => trivial)
    rcases hres with ⟨rfl, v9, G9, RX9, hc9, r9, o9, g9⟩ | ⟨⟨rfl, hc9⟩, hnil⟩
    · obtain ⟨A9, k9, c9, rfl⟩ := form3 r9
      have q0 := (hc9.cell (p := ⟨w.heap.size + 2, 0, none⟩) l3 hns.out).trans x30
      have q1 := (hc9.cell (p := ⟨w.heap.size + 2, 1, none⟩) l3 hns.out).trans x31
      have q2 := (hc9.cell (p := ⟨w.heap.size + 2, 2, none⟩) l3 hns.out).trans x32
      have q3 := (hc9.cell (p := ⟨w.heap.size + 2, 3, none⟩) l3 hns.out).trans x33
      have q4 := (hc9.cell (p := ⟨w.heap.size + 2, 4, none⟩) l3 hns.out).trans x34
      have l9 := Nat.lt_of_lt_of_le l3 hc9.size
      have fz9 : ∀ j, w9.frozen? ⟨w.heap.size + 2, j, none⟩ = false := fun j => (show w9.frozen? ⟨w.heap.size + 2, j, none⟩ = w3.frozen? ⟨w.heap.size + 2, j, none⟩ from World.frozen?_of_block (hc9.block (w.heap.size + 2) l3 hns.out)).trans (fx3 j)
      have z0 := fz9 0
      have z1 := fz9 1
      have z2 := fz9 2
      have z3 := fz9 3
      have z4 := fz9 4
      have X1 := RX9.c1
      have X2 := RX9.c2
      have X3 := RX9.c3
      have X4 := RX9.c4
      have X5 := RX9.c5
      have hcW : Chg [] w w9 := hK3.trans hc9 (fun g hg => Or.inr (hnw.out g hg))
      have g9' := Lib.hid (show ∀ g ∈ G9, w.heap.size + 2 < g from fun g hg => by
        rcases g9 g hg with h1 | h1
        · have := hge_.out _ h1; omega
        · omega)
      have hc9_ := Lib.hid hc9
      have r9_ := Lib.hid r9
      have o9_ := Lib.hid o9
      clear RX9 hc9 r9 o9 g9 fz9 fx fx3
      generalize hst : stepped p (goes fs) inp = x at *
      clear hst
      go_wp2
      refine leaves_cons (f := 129) (args := #[.pointer (some ⟨w.heap.size + 2, 0, none⟩)]) (by simp) (by simp [go_sem]) ?_
      refine (catchIdle_c _ _).mono ?_
      rintro e u' w'' ⟨rfl, rfl, rfl⟩
      refine Exists.intro (runV x (.slice A9 k9 c9)) ⟨?_, ?_⟩
      · simp [results, Tryz.results66, go_sem, q0, q1, q2, q3, q4, l9]
      · have n9 : ∀ g ∈ G9, g ∉ [w.heap.size + 2] := fun g hg hb => by have h1 := g9'.out g hg; have h2 := List.mem_singleton.1 hb; omega
        exact ⟨_, G9, rfl, Chg.k, r9_.out.chg (G := [w.heap.size + 2]) (Chg.g) n9, o9_.out.chg (G := [w.heap.size + 2]) (Chg.g) n9, fun g hg => Or.inr (by have := g9'.out g hg; omega)⟩
    · have q0 := (hc9.cell (p := ⟨w.heap.size + 2, 0, none⟩) l3 hns.out).trans x30
      have q1 := (hc9.cell (p := ⟨w.heap.size + 2, 1, none⟩) l3 hns.out).trans x31
      have q2 := (hc9.cell (p := ⟨w.heap.size + 2, 2, none⟩) l3 hns.out).trans x32
      have q3 := (hc9.cell (p := ⟨w.heap.size + 2, 3, none⟩) l3 hns.out).trans x33
      have q4 := (hc9.cell (p := ⟨w.heap.size + 2, 4, none⟩) l3 hns.out).trans x34
      have l9 := Nat.lt_of_lt_of_le l3 hc9.size
      have fz9 : ∀ j, w9.frozen? ⟨w.heap.size + 2, j, none⟩ = false := fun j => (show w9.frozen? ⟨w.heap.size + 2, j, none⟩ = w3.frozen? ⟨w.heap.size + 2, j, none⟩ from World.frozen?_of_block (hc9.block (w.heap.size + 2) l3 hns.out)).trans (fx3 j)
      have hcW : Chg [] w w9 := hK3.trans hc9 (fun g hg => Or.inr (hnw.out g hg))
      refine leaves_cons (f := 129) (args := #[.pointer (some ⟨w.heap.size + 2, 0, none⟩)]) (by simp) (by simp [go_sem]) ?_
      refine (catchPan_c _ (w.heap.size + 2) w9 q0 q1 q2 q3 q4 fz9 l9).mono ?_
      rintro e u' w'' ⟨rfl, rfl, hcB, d0, d1, d2, d3, d4⟩
      refine Exists.intro (runV (stepped p (goes fs) inp) (.slice none 0 0)) ⟨?_, ?_⟩
      · simp [results, Tryz.results66, go_sem, d0, d1, d2, d3, d4]
      · exact RetRun.nil_ hnil (hcW.trans hcB (fun g hg => Or.inr (by have := List.mem_singleton.1 hg; omega)))
end Go.Proofs.YtjakhnhnjhafgaaGreat.Wk
