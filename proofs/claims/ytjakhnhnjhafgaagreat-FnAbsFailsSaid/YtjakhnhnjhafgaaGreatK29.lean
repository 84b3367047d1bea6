/- A part of the proof. -/
import Derived.Deep.RegionHeld3
import Derived.Test.YtjakhnhnjhafgaaGreatK09
import Derived.Test.YtjakhnhnjhafgaaGreatK10
import Derived.Test.YtjakhnhnjhafgaaGreatK11
import Derived.Test.YtjakhnhnjhafgaaGreatK08
import Derived.Test.YtjakhnhnjhafgaaGreatK02
import Derived.Test.YtjakhnhnjhafgaaGreatK25
import Derived.Test.YtjakhnhnjhafgaaGreatK03
import Derived.Test.YtjakhnhnjhafgaaGreatK23
import Derived.Test.YtjakhnhnjhafgaaGreatK26
import Derived.Test.YtjakhnhnjhafgaaGreatK28
import Derived.Test.YtjakhnhnjhafgaaGreatK24
set_option linter.unusedVariables false
set_option linter.unusedSimpArgs false
namespace Go.Proofs.YtjakhnhnjhafgaaGreat.Wk
open Go Go.RowKit Go.Deep Ow
open Rp (R sz)
theorem nImpStep_c (p : PrgProg) (fs : List RunFrame) (inp : Int) (X : Nat) (vP : Value) (FP : List Nat) (v : Value) (G : List Nat) (w : World) (hP : RL w p.Procs vP FP) (hXP : X ∉ FP) (hX : RunX w X vP (goes fs) v) (h : RL w fs v G) (ho : Own w G) (hXG : X ∉ G) (hroom : Room w 58 v fs.length) (hin : I64 inp) (hok : runOk p (goes fs) = true) (hal : ∀ (m : Nat) (hml : m < fs.length) (i : InsIns), fs.length = m + 1 → prgAt p fs[m].Proc fs[m].Pc = some i → i.Op = 4 ∨ i.Op = 6 ∨ i.Op = 7 ∨ i.Op = 11) :
 Calls Tryz.prog 130 #[.pointer (some ⟨X, 0, none⟩), .int .i64 inp] w (StepRes X vP G (stepped p (goes fs) inp) w) := by
 have F := goes_facts hok rfl
 obtain ⟨m, hm⟩ : ∃ m, fs.length = m + 1 := ⟨fs.length - 1, by have := F.n1; simp only [goes] at this; omega⟩
 obtain ⟨i, hi, -⟩ := frame_facts ((nest_iff p _).1 F.nest m (by simp only [goes]; omega)).1
 simp only [goes] at hi
 obtain ⟨kp, jp, At⟩ := prgAt_facts F.prg hi
 have I := ins_facts At.ok
 have hsel : ∀ P : Int → Prop, P i.Op → ∀ (m : Nat) (hml : m < fs.length) (i : InsIns), fs.length = m + 1 → prgAt p fs[m].Proc fs[m].Pc = some i → P i.Op := by
  intro P hPo m' hml' i' hm' hi'
  obtain rfl : m' = m := by omega
  rw [hi] at hi'
  cases hi'
  exact hPo
 rcases hal m (by omega) i hm hi with h1 | h1 | h1 | h1
 · exact impStep1_c p fs inp X vP FP v G w hP hXP hX h ho hXG hroom hin hok (hsel (fun o => 1 ≤ o ∧ o ≤ 4) ⟨I.op1, by omega⟩)
 · exact impStep6_c p fs inp X vP FP v G w hP hXP hX h ho hXG hroom hin hok (hsel (· = 6) h1)
 · exact impStep7_c p fs inp X vP FP v G w hP hXP hX h ho hXG hroom hin hok (hsel (· = 7) h1)
 · exact impStep11_c p fs inp X vP FP v G w hP hXP hX h ho hXG hroom hin hok (hsel (· = 11) h1)
set_option maxRecDepth 100000 in
set_option maxHeartbeats 8000000 in
theorem nImplStepped_c (p : PrgProg) (fs : List RunFrame) (inp : Int) (vP vF : Value) (FP FF : List Nat) (w : World) (hP : RL w p.Procs vP FP) (h : RL w fs vF FF) (hin : I64 inp) (hok : runOk p (goes fs) = true) (hal : ∀ (m : Nat) (hml : m < fs.length) (i : InsIns), fs.length = m + 1 → prgAt p fs[m].Proc fs[m].Pc = some i → i.Op = 4 ∨ i.Op = 6 ∨ i.Op = 7 ∨ i.Op = 11) :
 Calls Tryz.prog 66 #[.agg #[vP], .agg #[.int .i64 1, vF, .int .i64 0, .int .i64 0, .int .i64 0], .int .i64 inp] w (RetRun [] (stepped p (goes fs) inp) w) := by
 have F := goes_facts hok rfl
 have hN : nestOk p fs = true := F.nest
 have n5 : fs.length ≤ 5 := F.n5
 have h44 : ∀ f ∈ fs, f.Vars.length = 4 ∧ f.Cells.length = 4 := fun f hf => by
  obtain ⟨k, hk, rfl⟩ := List.mem_iff_getElem.1 hf
  obtain ⟨-, -, h1, h2, -⟩ := frame_facts ((nest_iff p _).1 hN k hk).1
  exact ⟨h1, h2⟩
 have hcp : ∀ wx, Chg [] w wx → Calls Tryz.prog 65 #[.agg #[.int .i64 1, vF, .int .i64 0, .int .i64 0, .int .i64 0]] wx (RetCopy (goes fs) wx) := fun wx hx => copyRun_c (goes fs) _ _ wx (h.chg0 hx) n5 h44
 have hP_ := Lib.hid hP
 have hok_ := Lib.hid hok
 have hal_ := Lib.hid hal
 clear hal
 obtain ⟨AP, cP, rfl, -, -⟩ := hP.form
 obtain ⟨AF, cF, rfl, -, -⟩ := h.form
 clear F hN n5 h44 hP h hok
 have hmf : ∀ (fn : Fn) (first cap : Array Value) (w : World), (Instr.makeFunc fn first cap).run Tryz.prog w = .ok (.func fn first cap) w := fun _ _ _ _ => rfl
 go_enter_defers Tryz.func66, Tryz.ntmps66
 go_wp2_with fail
 generalize hW0 : World.alloc _ _ = w0
 have hK0 : Chg [] w w0 := hW0 ▸ Chg.c
 have pb : w0.cell? ⟨w.heap.size, 0, none⟩ = some (.slice AP p.Procs.length cP) := by rw [← hW0]; simp [go_sem]
 have r0 : w0.cell? ⟨w.heap.size + 1, 0, none⟩ = some (.int .i64 1) := by rw [← hW0]; simp [go_sem]
 have r1 : w0.cell? ⟨w.heap.size + 1, 1, none⟩ = some (.slice AF fs.length cF) := by rw [← hW0]; simp [go_sem]
 have r2 : w0.cell? ⟨w.heap.size + 1, 2, none⟩ = some (.int .i64 0) := by rw [← hW0]; simp [go_sem]
 have r3 : w0.cell? ⟨w.heap.size + 1, 3, none⟩ = some (.int .i64 0) := by rw [← hW0]; simp [go_sem]
 have r4 : w0.cell? ⟨w.heap.size + 1, 4, none⟩ = some (.int .i64 0) := by rw [← hW0]; simp [go_sem]
 have x0 : w0.cell? ⟨w.heap.size + 2, 0, none⟩ = some (.int .i64 0) := by rw [← hW0]; simp [go_sem]
 have x1 : w0.cell? ⟨w.heap.size + 2, 1, none⟩ = some (.slice none 0 0) := by rw [← hW0]; simp [go_sem]
 have x2 : w0.cell? ⟨w.heap.size + 2, 2, none⟩ = some (.int .i64 0) := by rw [← hW0]; simp [go_sem]
 have x3 : w0.cell? ⟨w.heap.size + 2, 3, none⟩ = some (.int .i64 0) := by rw [← hW0]; simp [go_sem]
 have x4 : w0.cell? ⟨w.heap.size + 2, 4, none⟩ = some (.int .i64 0) := by rw [← hW0]; simp [go_sem]
 have fx : ∀ j, w0.frozen? ⟨w.heap.size + 2, j, none⟩ = false := fun j => by rw [← hW0]; simp [go_sem]
 have l0 : w.heap.size + 2 < w0.heap.size := by rw [← hW0]; simp [go_sem]
 clear hW0 hmf
 go_region_held3 (fun w' => w'.cell? ⟨w.heap.size, 0, none⟩ = some (.slice AP p.Procs.length cP) ∧ w'.cell? ⟨w.heap.size + 1, 0, none⟩ = some (.int .i64 1) ∧ w'.cell? ⟨w.heap.size + 1, 1, none⟩ = some (.slice AF fs.length cF) ∧ w'.cell? ⟨w.heap.size + 1, 2, none⟩ = some (.int .i64 0) ∧ w'.cell? ⟨w.heap.size + 1, 3, none⟩ = some (.int .i64 0) ∧ w'.cell? ⟨w.heap.size + 1, 4, none⟩ = some (.int .i64 0)) (((try dsimp only); (repeat' apply And.intro) <;> (first | with_reducible assumption | (go_keep; done))))
  (first | (go_at_call 65; refine (hcp _ (Chg.k)).mono ?_; rintro e wc ⟨v, base, rfl, hcc, hGc, hbc⟩; have hKc : Chg [] w0 wc := Chg.trans0 (show Chg [] w0 _ from Chg.c) hcc; have hbase : w0.heap.size ≤ base := Nat.le_trans (show Chg [] w0 _ from Chg.c).size hbc; obtain ⟨G, hR, hO, hge, hRoom⟩ := hGc.out; simp only [goes] at hR hRoom; obtain ⟨A3, k3, c3, rfl⟩ := form3 hR; have hR_ := Lib.hid hR; have hO_ := Lib.hid hO; have hge_ := Lib.hid hge; have hRoom_ := Lib.hid hRoom; have pbc := hKc.cell0 pb; have rc0 := hKc.cell0 r0; have rc1 := hKc.cell0 r1; have rc2 := hKc.cell0 r2; have rc3 := hKc.cell0 r3; have rc4 := hKc.cell0 r4; clear hcc hGc hbc hR hO hge hRoom hcp))
 all_goals
  generalize hW3 : World.alloc _ _ = w3
  have h3 : Chg [] wc w3 := hW3 ▸ Chg.c
  have hX3 : RunX w3 wc.heap.size (.slice AP p.Procs.length cP) (goes fs) (.slice A3 k3 c3) := by
   have e := hW3
   clear hW3
   rw [← e]
   clear e
   refine ⟨?_, ?_, ?_, ?_, ?_, ?_, fun j => ?_⟩ <;> simp [go_sem, goes]
  have hK3 := hK0.trans0 (hKc.trans0 h3)
  have hXw : w.heap.size + 2 < wc.heap.size := Nat.lt_of_lt_of_le l0 hKc.size
  have hXP := Lib.hid (show wc.heap.size ∉ FP from fun hg => absurd (hP_.out.lt _ hg) (by omega))
  have hXG := Lib.hid (show wc.heap.size ∉ G from fun hg => absurd (hO_.out.lt _ hg) (Nat.lt_irrefl _))
  have hns := Lib.hid (show w.heap.size + 2 ∉ wc.heap.size :: G from fun hg => by
   rcases List.mem_cons.1 hg with h1 | h1
   · omega
   · have := hge_.out _ h1; omega)
  have hnw := Lib.hid (show ∀ g ∈ wc.heap.size :: G, w.heap.size ≤ g from fun g hg => by
   rcases List.mem_cons.1 hg with h1 | h1
   · omega
   · have := hge_.out _ h1; omega)
  have h03 := hKc.trans0 h3
  have x30 := h03.cell0 x0
  have x31 := h03.cell0 x1
  have x32 := h03.cell0 x2
  have x33 := h03.cell0 x3
  have x34 := h03.cell0 x4
  have fx3 : ∀ j, w3.frozen? ⟨w.heap.size + 2, j, none⟩ = false := fun j => (h03.cells.2 (w.heap.size + 2) j l0).trans (fx j)
  have l3 := Nat.lt_of_lt_of_le l0 h03.size
  have hX3_ := Lib.hid hX3
  clear hW3 hX3
  go_wp2_with fail
  refine (nImpStep_c p fs inp wc.heap.size _ FP _ G _ (hP_.out.chg0 hK3) hXP.out hX3_.out (hR_.out.chg0 h3) (hO_.out.chg0 h3) hXG.out (hRoom_.out.chg h3 (by simp)) hin hok_.out hal_.out).mono ?_
  rintro e w9 hres
  have hnx := Lib.hid (show ∀ x : RunRun, True from fun _ => trivial)
  rcases hres with ⟨rfl, v9, G9, RX9, hc9, r9, o9, g9⟩ | ⟨⟨rfl, hc9⟩, hnil⟩
  · obtain ⟨A9, k9, c9, rfl⟩ := form3 r9
    have q0 := (hc9.cell (p := ⟨w.heap.size + 2, 0, none⟩) l3 hns.out).trans x30
    have q1 := (hc9.cell (p := ⟨w.heap.size + 2, 1, none⟩) l3 hns.out).trans x31
    have q2 := (hc9.cell (p := ⟨w.heap.size + 2, 2, none⟩) l3 hns.out).trans x32
    have q3 := (hc9.cell (p := ⟨w.heap.size + 2, 3, none⟩) l3 hns.out).trans x33
    have q4 := (hc9.cell (p := ⟨w.heap.size + 2, 4, none⟩) l3 hns.out).trans x34
    have l9 := Nat.lt_of_lt_of_le l3 hc9.size
    have fz9 : ∀ j, w9.frozen? ⟨w.heap.size + 2, j, none⟩ = false := fun j => (show w9.frozen? ⟨w.heap.size + 2, j, none⟩ = w3.frozen? ⟨w.heap.size + 2, j, none⟩ from World.frozen?_of_block (hc9.block (w.heap.size + 2) l3 hns.out)).trans (fx3 j)
    have z0 := fz9 0
    have z1 := fz9 1
    have z2 := fz9 2
    have z3 := fz9 3
    have z4 := fz9 4
    have X1 := RX9.c1
    have X2 := RX9.c2
    have X3 := RX9.c3
    have X4 := RX9.c4
    have X5 := RX9.c5
    have hcW : Chg [] w w9 := hK3.trans hc9 (fun g hg => Or.inr (hnw.out g hg))
    have g9' := Lib.hid (show ∀ g ∈ G9, w.heap.size + 2 < g from fun g hg => by
     rcases g9 g hg with h1 | h1
     · have := hge_.out _ h1; omega
     · omega)
    have hc9_ := Lib.hid hc9
    have r9_ := Lib.hid r9
    have o9_ := Lib.hid o9
    clear RX9 hc9 r9 o9 g9 fz9 fx fx3
    generalize hst : stepped p (goes fs) inp = x at *
    clear hst
    go_wp2
    refine leaves_cons (f := 129) (args := #[.pointer (some ⟨w.heap.size + 2, 0, none⟩)]) (by simp) (by simp [go_sem]) ?_
    refine (catchIdle_c _ _).mono ?_
    rintro e u' w'' ⟨rfl, rfl, rfl⟩
    refine Exists.intro (runV x (.slice A9 k9 c9)) ⟨?_, ?_⟩
    · simp [results, Tryz.results66, go_sem, q0, q1, q2, q3, q4, l9]
    · have n9 : ∀ g ∈ G9, g ∉ [w.heap.size + 2] := fun g hg hb => by have h1 := g9'.out g hg; have h2 := List.mem_singleton.1 hb; omega
      exact ⟨_, G9, rfl, Chg.k, r9_.out.chg (G := [w.heap.size + 2]) (Chg.g) n9, o9_.out.chg (G := [w.heap.size + 2]) (Chg.g) n9, fun g hg => Or.inr (by have := g9'.out g hg; omega)⟩
  · have q0 := (hc9.cell (p := ⟨w.heap.size + 2, 0, none⟩) l3 hns.out).trans x30
    have q1 := (hc9.cell (p := ⟨w.heap.size + 2, 1, none⟩) l3 hns.out).trans x31
    have q2 := (hc9.cell (p := ⟨w.heap.size + 2, 2, none⟩) l3 hns.out).trans x32
    have q3 := (hc9.cell (p := ⟨w.heap.size + 2, 3, none⟩) l3 hns.out).trans x33
    have q4 := (hc9.cell (p := ⟨w.heap.size + 2, 4, none⟩) l3 hns.out).trans x34
    have l9 := Nat.lt_of_lt_of_le l3 hc9.size
    have fz9 : ∀ j, w9.frozen? ⟨w.heap.size + 2, j, none⟩ = false := fun j => (show w9.frozen? ⟨w.heap.size + 2, j, none⟩ = w3.frozen? ⟨w.heap.size + 2, j, none⟩ from World.frozen?_of_block (hc9.block (w.heap.size + 2) l3 hns.out)).trans (fx3 j)
    have hcW : Chg [] w w9 := hK3.trans hc9 (fun g hg => Or.inr (hnw.out g hg))
    refine leaves_cons (f := 129) (args := #[.pointer (some ⟨w.heap.size + 2, 0, none⟩)]) (by simp) (by simp [go_sem]) ?_
    refine (catchPan_c _ (w.heap.size + 2) w9 q0 q1 q2 q3 q4 fz9 l9).mono ?_
    rintro e u' w'' ⟨rfl, rfl, hcB, d0, d1, d2, d3, d4⟩
    refine Exists.intro (runV (stepped p (goes fs) inp) (.slice none 0 0)) ⟨?_, ?_⟩
    · simp [results, Tryz.results66, go_sem, d0, d1, d2, d3, d4]
    · exact RetRun.nil_ hnil (hcW.trans hcB (fun g hg => Or.inr (by have := List.mem_singleton.1 hg; omega)))
set_option maxHeartbeats 1000000 in
theorem nImplStepGo_c (p : PrgProg) (r : RunRun) (inp : Int) (vP vF : Value) (FP FF : List Nat) (w : World) (hP : RL w p.Procs vP FP) (h : RL w r.Frames vF FF) (hin : I64 inp) (hok : runOk p r = true) (hs : r.State = 1) (hal : ∀ (m : Nat) (hml : m < r.Frames.length) (i : InsIns), r.Frames.length = m + 1 → prgAt p r.Frames[m].Proc r.Frames[m].Pc = some i → i.Op = 4 ∨ i.Op = 6 ∨ i.Op = 7 ∨ i.Op = 11) :
 Calls Tryz.prog 14 #[.agg #[vP], runV r vF, .int .i64 inp] w (RetRun [] (runStep p r inp) w) := by
 have hst : runStep p r inp = stepped p r inp := by unfold runStep; rw [if_pos hok, if_pos hs]
 have eg := goes_eq (goes_facts hok hs) hs
 have hcp : ∀ wx, Chg [] w wx → Calls Tryz.prog 66 #[.agg #[vP], runV r vF, .int .i64 inp] wx (RetRun [] (runStep p r inp) wx) := fun wx hx => by
  rw [hst]
  have hok2 : runOk p (goes r.Frames) = true := eg ▸ hok
  have := nImplStepped_c p r.Frames inp _ _ _ _ wx (hP.chg0 hx) (h.chg0 hx) hin hok2 hal
  have e2 : stepped p r inp = stepped p (goes r.Frames) inp := congrArg (fun q => stepped p q inp) eg
  rw [e2]
  have f := goes_facts hok hs
  simp only [runV]
  rw [hs, f.out, f.proc, f.pc]
  exact this
 have hsn : (r.State != 1) = false := by rw [hs]; rfl
 have hrk : ∀ wx, Chg [] w wx → Calls Tryz.prog 64 #[.agg #[vP], runV r vF] wx (fun e w' => e = .returned (.bool true) ∧ Chg [] wx w') := fun wx hx => by
  have := implRunOk_c p r _ _ _ _ wx (hP.chg0 hx) (h.chg0 hx)
  rw [hok] at this
  exact this
 obtain ⟨AP, cP, rfl, -, -⟩ := hP.form
 obtain ⟨AF, cF, rfl, -, -⟩ := h.form
 clear hal hP h hok hs hin hst eg
 generalize runStep p r inp = x at hcp ⊢
 go_enter Tryz.func14, Tryz.ntmps14
 go_wp2_with (first
  | (go_at_call 64; refine (hrk _ (Chg.c)).mono ?_; rintro e w8 ⟨rfl, hc8⟩; have hK8 : Chg [] w w8 := Chg.trans0 (show Chg [] w _ from Chg.c) hc8; have r0 := hc8.cell0 (p := ⟨w.heap.size + 1, 0, none⟩) (v := .int .i64 r.State) (by simp [go_sem]); have r1 := hc8.cell0 (p := ⟨w.heap.size + 1, 1, none⟩) (v := .slice AF r.Frames.length cF) (by simp [go_sem]); have r2 := hc8.cell0 (p := ⟨w.heap.size + 1, 2, none⟩) (v := .int .i64 r.Out) (by simp [go_sem]); have r3 := hc8.cell0 (p := ⟨w.heap.size + 1, 3, none⟩) (v := .int .i64 r.Proc) (by simp [go_sem]); have r4 := hc8.cell0 (p := ⟨w.heap.size + 1, 4, none⟩) (v := .int .i64 r.Pc) (by simp [go_sem]); have p0 := hc8.cell0 (p := ⟨w.heap.size, 0, none⟩) (v := .slice AP p.Procs.length cP) (by simp [go_sem]); have q0 : w8.cell? ⟨w.heap.size + 2, 0, none⟩ = some (.int .i64 0) := hc8.cell0 (by simp [go_sem]); have q1 : w8.cell? ⟨w.heap.size + 2, 1, none⟩ = some (.slice none 0 0) := hc8.cell0 (by simp [go_sem]); have q2 : w8.cell? ⟨w.heap.size + 2, 2, none⟩ = some (.int .i64 0) := hc8.cell0 (by simp [go_sem]); have q3 : w8.cell? ⟨w.heap.size + 2, 3, none⟩ = some (.int .i64 0) := hc8.cell0 (by simp [go_sem]); have q4 : w8.cell? ⟨w.heap.size + 2, 4, none⟩ = some (.int .i64 0) := hc8.cell0 (by simp [go_sem]); have z0 : w8.frozen? ⟨w.heap.size + 2, 0, none⟩ = false := (hc8.cells.2 (w.heap.size + 2) 0 (by simp [go_sem])).trans (by simp [go_sem]); have z1 : w8.frozen? ⟨w.heap.size + 2, 1, none⟩ = false := (hc8.cells.2 (w.heap.size + 2) 1 (by simp [go_sem])).trans (by simp [go_sem]); have z2 : w8.frozen? ⟨w.heap.size + 2, 2, none⟩ = false := (hc8.cells.2 (w.heap.size + 2) 2 (by simp [go_sem])).trans (by simp [go_sem]); have z3 : w8.frozen? ⟨w.heap.size + 2, 3, none⟩ = false := (hc8.cells.2 (w.heap.size + 2) 3 (by simp [go_sem])).trans (by simp [go_sem]); have z4 : w8.frozen? ⟨w.heap.size + 2, 4, none⟩ = false := (hc8.cells.2 (w.heap.size + 2) 4 (by simp [go_sem])).trans (by simp [go_sem]); have lz : w.heap.size + 2 < w8.heap.size := Nat.lt_of_lt_of_le (by simp [go_sem]) hc8.size)
  | (go_at_call 66; refine (hcp _ (Chg.k)).mono ?_; rintro e w9 ⟨v9, G9, rfl, hc9, r9, o9, g9⟩; obtain ⟨A9, k9, c9, rfl⟩ := form3 r9; have hY : Chg [] w8 w9 := Chg.trans0 (show Chg [] w8 _ from Chg.c) hc9; have hK9 := hK8.trans0 hY; have hY0 := (show Chg [] w8 _ from Chg.c).size; have u0 := hY.cell0 q0; have u1 := hY.cell0 q1; have u2 := hY.cell0 q2; have u3 := hY.cell0 q3; have u4 := hY.cell0 q4; have y0 : w9.frozen? ⟨w.heap.size + 2, 0, none⟩ = false := (hY.cells.2 (w.heap.size + 2) 0 lz).trans z0; have y1 : w9.frozen? ⟨w.heap.size + 2, 1, none⟩ = false := (hY.cells.2 (w.heap.size + 2) 1 lz).trans z1; have y2 : w9.frozen? ⟨w.heap.size + 2, 2, none⟩ = false := (hY.cells.2 (w.heap.size + 2) 2 lz).trans z2; have y3 : w9.frozen? ⟨w.heap.size + 2, 3, none⟩ = false := (hY.cells.2 (w.heap.size + 2) 3 lz).trans z3; have y4 : w9.frozen? ⟨w.heap.size + 2, 4, none⟩ = false := (hY.cells.2 (w.heap.size + 2) 4 lz).trans z4; have lz9 := Nat.lt_of_lt_of_le lz hY.size; have lz9b : w.heap.size + 1 < w9.heap.size := Nat.lt_of_succ_lt lz9))
 all_goals
  have g9' : ∀ g ∈ G9, w.heap.size + 2 < g := fun g hg => (g9 g hg).elim (fun h1 => absurd h1 (by simp)) (fun h1 => Nat.lt_of_lt_of_le (Nat.lt_of_lt_of_le lz hY0) h1)
  have n9 : ∀ g ∈ G9, g ∉ [w.heap.size + 2] := fun g hg hb => by have h1 := g9' g hg; have h2 := List.mem_singleton.1 hb; omega
  refine bodyPost_ret (v := runV x (.slice A9 k9 c9)) ?_ rfl ?_
  · simp [results, Tryz.results14, go_sem, u0, u1, u2, u3, u4, lz9]
  · exact ⟨_, G9, rfl, Chg.k, r9.chg (G := [w.heap.size + 2]) (Chg.g) n9, o9.chg (G := [w.heap.size + 2]) (Chg.g) n9, fun g hg => Or.inr (Nat.le_of_lt (Nat.lt_trans (by omega) (g9' g hg)))⟩
end Go.Proofs.YtjakhnhnjhafgaaGreat.Wk
namespace Go.Proofs.YtjakhnhnjhafgaaGreat.Wk
open Go Go.RowKit Go.Deep Ow
set_option maxRecDepth 100000
theorem nRunStep_e {p0 : List PrcProc} {r0 r2 r3 r4 inp : Int} {r1 : List RunFrame} {x : RunRun} (hp : p0 ≠ [] ∧ ∀ c ∈ p0, Bo.ok c) (hf : r1 ≠ [] ∧ ∀ f ∈ r1, Bo.ok f) (hi : I64 inp) (hok : runOk ⟨p0⟩ ⟨r0, r1, r2, r3, r4⟩ = true) (hs : r0 = 1) (hal : ∀ (m : Nat) (hml : m < r1.length) (i : InsIns), r1.length = m + 1 → prgAt ⟨p0⟩ r1[m].Proc r1[m].Pc = some i → i.Op = 4 ∨ i.Op = 6 ∨ i.Op = 7 ∨ i.Op = 11) (h : runStep ⟨p0⟩ ⟨r0, r1, r2, r3, r4⟩ inp = x) :
 EC Tryz.prog 14 0 [.agg [.d (.sl 3 (p0.map dPrcProc))], .agg [CI r0, .d (.sl 4 (r1.map dRunFrame)), CI r2, CI r3, CI r4], CI inp] [] (.agg [CI x.State, .d (.sl 4 (x.Frames.map dRunFrame)), CI x.Out, CI x.Proc, CI x.Pc]) [] 0 := by
 subst h
 refine EC.ofMem (FnIs.ok (fn := Tryz.f14) ⟨by kernel_rfl, by kernel_rfl, rfl⟩) (fun ρ RO w vs hro hr => ?_)
 obtain ⟨a, b, c, rfl, ha, hb, hc⟩ := hr.vs3
 obtain ⟨vP, rfl, hP⟩ := ha.agg1
 obtain ⟨y0, vF, y2, y3, y4, rfl, h0, hF, h2, h3, h4⟩ := hb.agg5
 obtain rfl := h0.lit
 obtain rfl := h2.lit
 obtain rfl := h3.lit
 obtain rfl := h4.lit
 obtain rfl := hc.lit
 obtain ⟨FP, -, rP⟩ := RL.ofD (xs := p0) hro hp.1 hp.2 hP.dd
 obtain ⟨FF, -, rF⟩ := RL.ofD (xs := r1) hro hf.1 hf.2 hF.dd
 refine (nImplStepGo_c ⟨p0⟩ ⟨r0, r1, r2, r3, r4⟩ inp vP vF FP FF w rP rF hi hok hs hal).mono ?_
 rintro e w' ⟨v, G, rfl, hc, hR, hO, hg⟩
 refine ⟨_, G, rfl, hc, fun g h => (hg g h).elim (fun h => by cases h) .inr, hR.lt, ?_⟩
 have hD : RelD (fun b => RO b ∨ b ∈ G) w' (.sl 4 ((runStep ⟨p0⟩ ⟨r0, r1, r2, r3, r4⟩ inp).Frames.map dRunFrame)) v := hR.toD.mono (fun b hb => .inr hb) (fun _ _ => rfl)
 refine .agg _ [_, v, _, _, _] rfl ?_ ?_
 · obtain ⟨A, cap, rfl, -⟩ := hR.form
   simp [Value.oneCell']
 · intro i c u h1 h2
   match i, h1, h2 with
   | 0, h1, h2 => cases h1; cases h2; exact .d _ _ (.lit _)
   | 1, h1, h2 => cases h1; cases h2; exact .d _ _ hD
   | 2, h1, h2 => cases h1; cases h2; exact .d _ _ (.lit _)
   | 3, h1, h2 => cases h1; cases h2; exact .d _ _ (.lit _)
   | 4, h1, h2 => cases h1; cases h2; exact .d _ _ (.lit _)
end Go.Proofs.YtjakhnhnjhafgaaGreat.Wk
namespace Go.Proofs.YtjakhnhnjhafgaaGreat.Wk
open Go Go.RowKit Go.Deep Ow
theorem ins_i64 {i : InsIns} {n m : Int} (h : insOk i n m = true) (hn : n ≤ 1000) (hm : m ≤ 1000) : Bo.ok i := by
 obtain ⟨o, d, a, b, r, l, hi, t⟩ := i
 simp only [insOk, Bool.and_eq_true, decide_eq_true_eq, varOk] at h
 obtain ⟨⟨⟨⟨⟨⟨h1, h2⟩, h3⟩, h4⟩, h5⟩, h6⟩, h7⟩ := h
 show I64 o ∧ I64 d ∧ I64 a ∧ I64 b ∧ I64 r ∧ I64 l ∧ I64 hi ∧ I64 t
 have key : -10 ≤ r ∧ r ≤ 10 ∧ -1100000000 ≤ l ∧ l ≤ 1100000000 ∧ -1100000000 ≤ hi ∧ hi ≤ 1100000000 ∧ 0 ≤ t ∧ t ≤ 1000 := by
  rcases (by omega : o = 1 ∨ o = 2 ∨ o = 3 ∨ o = 4 ∨ o = 5 ∨ o = 6 ∨ o = 7 ∨ o = 8 ∨ o = 9 ∨ o = 10 ∨ o = 11 ∨ o = 12) with rfl | rfl | rfl | rfl | rfl | rfl | rfl | rfl | rfl | rfl | rfl | rfl <;>
   simp [formOk, restOk, relOk, below, itvOk, numOk] at h3 h7 <;> omega
 unfold I64
 omega
theorem procs_i64 {p : PrgProg} (h : prgOk p = true) : p.Procs ≠ [] ∧ ∀ c ∈ p.Procs, Bo.ok c := by
 simp only [prgOk, Bool.and_eq_true, decide_eq_true_eq, List.all_eq_true] at h
 obtain ⟨⟨h1, h2⟩, h3⟩ := h
 refine ⟨fun e => by simp [e] at h1, fun c hc => ?_⟩
 have := h3 c hc
 simp only [procOk, Bool.and_eq_true, decide_eq_true_eq, List.all_eq_true, itvOk, numOk] at this
 obtain ⟨⟨⟨⟨g1, g2⟩, g3⟩, g4⟩, g5⟩ := this
 refine ⟨?_, ?_, fun e => by (have e' : c.Code = [] := e; rw [e'] at g2; exact absurd g2 (by simp)), fun i hi => ins_i64 (g4 i hi) (by omega) (by omega)⟩
 · show I64 c.Lo
   unfold I64; omega
 · show I64 c.Hi
   unfold I64; omega
theorem nums_i64 {l : List Int} {n : Nat} (h : numsOk l n = true) (hn : 0 < n) : Bo.ok l := by
 simp only [numsOk, Bool.and_eq_true, List.all_eq_true] at h
 have hl : l.length = n := by simpa using h.1
 refine ⟨fun e => by (rw [e] at hl; exact absurd hl (by simp; omega)), fun x hx => ?_⟩
 have := h.2 x hx
 simp only [numOk, Bool.and_eq_true, decide_eq_true_eq] at this
 show I64 x
 unfold I64; omega
end Go.Proofs.YtjakhnhnjhafgaaGreat.Wk
namespace Go.Proofs.YtjakhnhnjhafgaaGreat.Wk
open Go Go.RowKit Go.Deep Ow
set_option maxRecDepth 100000
def tryRun (i : InsIns) (s1 : List ItvItv) (k : Int) : RunRun := ⟨1, [⟨0, 0, tryVars i s1 k, [0, 0, 0, 0]⟩], 0, 0, 0⟩
def tryEnd (i : InsIns) (s1 : List ItvItv) (k : Int) : RunRun := runStep (owLone i) (tryRun i s1 k) 0
theorem try_len {s1 : List ItvItv} {v : Int} {b : List Int} (h : b = (s1.take v.toNat).map fun a : ItvItv => a.Lo) (h0 : 0 ≤ v) (h4 : v ≤ 4) (hl : s1.length = 4) : (b.length : Int) = v := by
 subst h; simp [hl]; omega
theorem try_all {s1 : List ItvItv} {v : Int} {b : List Int} (h : b = (s1.take v.toNat).map fun a : ItvItv => a.Lo) (h4 : ¬ v < 4) (hl : s1.length = 4) : b = s1.map fun a : ItvItv => a.Lo := by
 subst h; rw [List.take_of_length_le (by omega)]
theorem try_next {s1 : List ItvItv} {v : Int} {b : List Int} (h : b = (s1.take v.toNat).map fun a : ItvItv => a.Lo) (h0 : 0 ≤ v) (h4 : v < 4) (hl : s1.length = 4) : b ++ [(s1.getD v.toNat zItvItv).Lo] = (s1.take (v + 1).toNat).map fun a : ItvItv => a.Lo := by
 have e : (v + 1).toNat = v.toNat + 1 := by omega
 have hv : v.toNat < s1.length := by omega
 subst h
 rw [e, List.take_succ_eq_append_getElem hv, List.map_append, List.getD_eq_getElem?_getD, List.getElem?_eq_getElem hv]
 rfl
theorem tmod0 {x : Int} (h : 0 ≤ x) : 0 ≤ x.tmod 2 := Int.tmod_nonneg _ h
theorem tmod2 {x : Int} (h : 0 ≤ x) : x.tmod 2 < ((2 : Nat) : Int) := by rw [Int.tmod_eq_emod_of_nonneg h]; omega
theorem half0 {x : Int} (h : 0 ≤ x) (h6 : x ≤ 6) : 0 ≤ IntKind.i64.wrap (x.tdiv 2) := by rw [wrapI] <;> rw [Int.tdiv_eq_ediv_of_nonneg h] <;> omega
theorem next6 {x : Int} (h : 0 ≤ x) (h6 : x < 6) : IntKind.i64.wrap (x + 1) = x + 1 := by rw [wrapI] <;> omega
theorem lone_i64 {p : PrgProg} {i : InsIns} {s : AbsState} (h : absFails p i s = true) (h2 : insRisks i.Op = true) (h10 : ¬ i.Op = 10) (x : Int) : ((owLone i).Procs ≠ [] ∧ ∀ c ∈ (owLone i).Procs, Bo.ok c) ∧ ((tryRun i s.Vars x).Frames ≠ [] ∧ ∀ f ∈ (tryRun i s.Vars x).Frames, Bo.ok f) ∧ runOk (owLone i) (tryRun i s.Vars x) = true ∧ ∀ (m : Nat) (hml : m < (tryRun i s.Vars x).Frames.length) (j : InsIns), (tryRun i s.Vars x).Frames.length = m + 1 → prgAt (owLone i) (tryRun i s.Vars x).Frames[m].Proc (tryRun i s.Vars x).Frames[m].Pc = some j → j.Op = 4 ∨ j.Op = 6 ∨ j.Op = 7 ∨ j.Op = 11 := by
 have hfit : l7Fit p i s = true := by simp only [absFails, Bool.and_eq_true] at h; exact h.1
 obtain ⟨hp, hi, hl, hon⟩ := fit_facts hfit
 have hok : absOk s = true := by simp only [l7Fit, Bool.and_eq_true] at hfit; exact hfit.1.2
 obtain ⟨d0, d4, a0, a4, b0, b4, -⟩ := ins_vars hi
 have hops : i.Op = 4 ∨ i.Op = 6 ∨ i.Op = 7 ∨ i.Op = 11 := by
  simp only [insRisks, Bool.or_eq_true, beq_iff_eq] at h2; omega
 obtain ⟨n1, n2, n3⟩ := tries_nums (i := i) hok hon ⟨a0, a4⟩ ⟨b0, b4⟩ x
 have hn : numsOk (tryVars i s.Vars x) 4 = true := by
  unfold tryVars
  split
  · exact nums_modify n1 (by decide)
  · split
    · split
      · have hd := n3
        refine nums_modify n3 ?_
        simp only [numsOk, Bool.and_eq_true, List.all_eq_true] at hd
        have hlen : (tryD i s.Vars x).length = 4 := by simpa using hd.1
        refine hd.2 _ ?_
        rw [List.getD_eq_getElem?_getD, List.getElem?_eq_getElem (by omega)]
        exact List.getElem_mem _
      · exact n2
    · exact n1
 have hz : I64 0 := by unfold I64; omega
 have h0 : numsOk [0, 0, 0, 0] 4 = true := by decide
 have hpl := lone_ok hi hops
 have hat : prgAt (owLone i) 0 0 = some i := by simp [prgAt, owLone, lone_eq hops]
 refine ⟨procs_i64 hpl, ⟨nofun, fun f hf => ?_⟩, ?_, fun m hml j hm hj => ?_⟩
 · obtain rfl := List.mem_singleton.1 hf
   exact ⟨hz, hz, nums_i64 hn (by omega), nums_i64 h0 (by omega)⟩
 · simp [tryRun, runOk, hpl, nestOk, frameOk, hat, hn, h0, numOk]
 · obtain rfl : m = 0 := by simp only [tryRun, List.length_cons, List.length_nil] at hm; omega
   have hj' : prgAt (owLone i) 0 0 = some j := hj
   rw [hat] at hj'
   cases hj'
   exact hops
theorem call_out {p : PrgProg} {i : InsIns} {s : AbsState} (h : absFails p i s = true) (h10 : i.Op = 10) : (decide ((s.Vars.getD i.A.toNat zItvItv).Lo < (p.Procs.getD i.To.toNat zPrcProc).Lo) || decide ((p.Procs.getD i.To.toNat zPrcProc).Hi < (s.Vars.getD i.A.toNat zItvItv).Hi)) = true := by
 have hfit : l7Fit p i s = true := by simp only [absFails, Bool.and_eq_true] at h; exact h.1
 obtain ⟨hp, hi, hl, hon⟩ := fit_facts hfit
 have hok : absOk s = true := by simp only [l7Fit, Bool.and_eq_true] at hfit; exact hfit.1.2
 obtain ⟨d0, d4, a0, a4, b0, b4, ht⟩ := ins_vars hi
 have ia := (itv_at hok hon a0 a4).1
 obtain ⟨t0, t1⟩ := ht h10
 have h2 : itvIn (s.Vars.getD i.A.toNat zItvItv) (l7Given p i) = false := by
  simp only [absFails, Bool.and_eq_true, h10] at h
  simpa using h.2
 have ig : itvOk (l7Given p i) = true := by
  simp only [prgOk, Bool.and_eq_true, List.all_eq_true] at hp
  have hk : i.To.toNat < p.Procs.length := by omega
  have := hp.2 _ (List.getElem_mem hk)
  simp only [procOk, Bool.and_eq_true] at this
  simp only [l7Given, List.getD_eq_getElem?_getD, List.getElem?_eq_getElem hk]
  exact this.1.1.1.1
 simp only [itvIn, ia, ig] at h2
 simp only [l7Given] at h2
 have key : ¬ ((p.Procs.getD i.To.toNat zPrcProc).Lo ≤ (s.Vars.getD i.A.toNat zItvItv).Lo ∧ (s.Vars.getD i.A.toNat zItvItv).Hi ≤ (p.Procs.getD i.To.toNat zPrcProc).Hi) := fun ⟨u, v⟩ => by
  simp only [u, v, decide_true, Bool.and_true] at h2
  cases h2
 simp only [Bool.or_eq_true, decide_eq_true_eq]
 omega
theorem fails_facts {p : PrgProg} {i : InsIns} {s : AbsState} (h : absFails p i s = true) : 0 ≤ i.A ∧ i.A < 4 ∧ 0 ≤ i.B ∧ i.B < 4 ∧ s.Vars.length = 4 ∧ insRisks i.Op = true ∧ (i.Op = 10 → 0 ≤ i.To ∧ i.To < p.Procs.length) := by
 have hfit : l7Fit p i s = true := by simp only [absFails, Bool.and_eq_true] at h; exact h.1
 obtain ⟨hp, hi, hl, hon⟩ := fit_facts hfit
 obtain ⟨d0, d4, a0, a4, b0, b4, h10⟩ := ins_vars hi
 refine ⟨a0, a4, b0, b4, hl, ?_, h10⟩
 simp only [absFails, Bool.and_eq_true] at h
 have h2 := h.2
 simp only [insRisks, Bool.or_eq_true, beq_iff_eq]
 repeat' split at h2
 all_goals first | omega | cases h2
set_option maxHeartbeats 4000000 in
theorem fnAbsFails_e {code : List UInt8} {r : Bool} {p0 : List PrcProc} {i0 i1 i2 i3 i4 i5 i6 i7 : Int} {s0 : Bool} {s1 : List ItvItv} {s2 s3 : Int} (hd : EC Tryz.prog 8 0 [.d (.sl 1 (code.map dU8))] [] (.tup [.agg [.d (.sl 3 (p0.map dPrcProc))], .agg [CI i0, CI i1, CI i2, CI i3, CI i4, CI i5, CI i6, CI i7], .agg [CB s0, .d (.sl 2 (s1.map dItvItv)), CI s2, CI s3]]) [] 0) (h : true = r) : EC Tryz.prog 3 0 [.d (.sl 1 (code.map dU8))] [] (CB r) [] 0 := by
 subst h
 obtain ⟨ck, hck⟩ : ∃ ck, ck = ordCk := ⟨_, rfl⟩
 refine (seat [] [15]).PU2 (mkC ck hck (mkF [(31, fun s => [s.at_ 10])] (mkM true [1, 1, 11, 188]))) (fn := Tryz.f3) ⟨by kernel_rfl, by kernel_rfl, rfl⟩ 9 (by rfl) (mkEs [eLU8 10 code, ePrgProg 311000 ⟨p0⟩, eInsIns 311030 ⟨i0, i1, i2, i3, i4, i5, i6, i7⟩, eAbsState 311060 ⟨s0, s1, ⟨s2, s3⟩⟩, eB 413000 (absFails ⟨p0⟩ ⟨i0, i1, i2, i3, i4, i5, i6, i7⟩ ⟨s0, s1, ⟨s2, s3⟩⟩), eB 514000 (absFails ⟨p0⟩ ⟨i0, i1, i2, i3, i4, i5, i6, i7⟩ ⟨s0, s1, ⟨s2, s3⟩⟩), eB 810000 true, eB 912000 (insRisks i0), eB 1012000 (insRisks i0), ePrgProg 1411000 (owLone ⟨i0, i1, i2, i3, i4, i5, i6, i7⟩)]) (consL ⟨Int, fun ee k => 0 ≤ k ∧ k ≤ 6 ∧ ∀ j : Int, 0 ≤ j → j < k → ¬ (tryEnd ⟨i0, i1, i2, i3, i4, i5, i6, i7⟩ s1 j).State = 3, fun ee k => mkEs [eI 1 k], fun ee k => (6 - k).toNat⟩ (consL ⟨Int × List Int, fun ee x => match x with | ⟨v, l⟩ => 0 ≤ v ∧ v ≤ 4 ∧ l = (s1.take v.toNat).map (fun a : ItvItv => a.Lo), fun ee x => match x with | ⟨v, l⟩ => mkEs [eI 1 v, eLInt 2 l, eRunRun 3113000 (tryRun ⟨i0, i1, i2, i3, i4, i5, i6, i7⟩ s1 (ee.I 100000001 [])), eRunRun 3114000 (tryEnd ⟨i0, i1, i2, i3, i4, i5, i6, i7⟩ s1 (ee.I 100000001 [])), eB 3310000 true], fun ee x => match x with | ⟨v, l⟩ => (4 - v).toNat⟩ noLps)) [(0, fun s => (0, (s.kl (mkM true [1, 1, 11, 96])).upd [(9, xi 100000001)])), (2, fun s => (1, (((s.kl (mkM true [1, 1, 11, 96])).upd [(11, xi 200000001)]).grow ((s.kl (mkM true [1, 1, 11, 96])).at_ 10) (.rws kInt 200000002 .nil))))] [xLU8 10] (by simp only [go_sem, Nat.reduceEqDiff, Nat.reduceAdd, Nat.reduceBEq, Int.reduceToNat]) (fun _ => ?_)
 intro K hK
 conv => arg 4; cbv
 simp only [hK]
 conv => arg 4; cbv
 simp (maxSteps := 4000000) only [go_sem, Nat.reduceEqDiff, Nat.reduceAdd, Nat.reduceBEq, Int.reduceToNat, Nat.reduceDiv, Nat.reduceMod, lput, consL]
 have FX : absFails ⟨p0⟩ ⟨i0, i1, i2, i3, i4, i5, i6, i7⟩ ⟨s0, s1, ⟨s2, s3⟩⟩ = true → 0 ≤ i2 ∧ i2 < 4 ∧ 0 ≤ i3 ∧ i3 < 4 ∧ s1.length = 4 ∧ insRisks i0 = true ∧ (i0 = 10 → 0 ≤ i7 ∧ i7 < p0.length) := fun h => fails_facts h
 repeat' (first | with_reducible apply And.intro | intro _)
 all_goals (try (exfalso; assumption))
 all_goals first | (rw [hck]; rfl) | exact hd | exact iAbsFails_e rfl | exact AbsFails_e rfl | exact owOk_e rfl | exact iInsRisks_e rfl | exact owLone_e rfl | exact owFrameOf_h (ns := [0, 0, 0, 0]) (by simp) | trivial | skip
 all_goals (have G := FX (by first | assumption | grind); obtain ⟨G1, G2, G3, G4, G5, G6, G7⟩ := G)
 all_goals clear hK FX hd hck
 all_goals first | omega | (simp only [List.length_modify]; omega) | (simp_all; done) | skip
 · exact call_out (i := ⟨i0, i1, i2, i3, i4, i5, i6, i7⟩) (s := ⟨s0, s1, ⟨s2, s3⟩⟩) ‹absFails _ _ _ = true› ‹i0 = 10›
 · exact ⟨0, [], ⟨by omega, by omega, rfl⟩, rfl, rfl, rfl⟩
 all_goals have HP := ‹¬ _ ∧ absFails _ _ _ = true ∧ _›
 all_goals have HX := ‹(0 : Int) ≤ _ ∧ _ ≤ (6 : Int) ∧ ∀ j : Int, 0 ≤ j → _›
 rotate_right
 · obtain ⟨k, k0, k6, hk⟩ := tries HP.2.1 HP.2.2.1.1 HP.2.2.1.2 HP.2.2.2
   exact absurd hk (HX.2.2 k k0 (by omega))
 all_goals have HB := ‹(0 : Int) ≤ _ ∧ _ ≤ (4 : Int) ∧ _ = List.map (fun a : ItvItv => a.Lo) _›
 all_goals have HL := try_len HB.2.2 HB.1 HB.2.1 G5
 all_goals first | omega | (simp only [List.length_modify]; omega) | exact tmod0 HX.1 | exact tmod2 HX.1 | exact tmod0 (half0 HX.1 HX.2.1) | exact tmod2 (half0 HX.1 HX.2.1) | (rw [next6 HX.1 ‹_›]; omega) | skip
 · rename_i v b hv hv4
   exact ⟨v + 1, b ++ [(s1.getD v.toNat zItvItv).Lo], ⟨by omega, by omega, try_next hv.2.2 hv.1 hv4 G5⟩, by omega, by simp, next6 hv.1 (by omega), rfl⟩
 · rw [try_all HB.2.2 ‹_› G5]
   exact owFrameOf_h (vs := tryVars ⟨i0, i1, i2, i3, i4, i5, i6, i7⟩ s1 _) (ns := [0, 0, 0, 0]) (by simp)
 · rename_i x hx hx6 v b hv hv4
   have HI := lone_i64 HP.2.1 HP.2.2.1.1 HP.2.2.2 x
   exact nRunStep_e (p0 := (owLone ⟨i0, i1, i2, i3, i4, i5, i6, i7⟩).Procs) (r1 := (tryRun ⟨i0, i1, i2, i3, i4, i5, i6, i7⟩ s1 x).Frames) HI.1 HI.2.1 (by unfold I64; omega) HI.2.2.1 rfl HI.2.2.2 rfl
 · rename_i x hx hx6 v b hv hq j hj hjx he
   rw [next6 HX.1 hx6] at hjx
   by_cases e : j = x
   · subst e; exact hq.2 he
   · exact HX.2.2 j hj (by omega) he
end Go.Proofs.YtjakhnhnjhafgaaGreat.Wk
namespace Go.Proofs.YtjakhnhnjhafgaaGreat.Wk
open Go Go.RowKit Go.Deep Ow
abbrev kR : Ki := .cons (.sl kU8) (.cons (.int .i64) .nil)
abbrev rdX (l : Nat) (b p : X) : XB := ⟨l, kR, .cons (.cons b (.cons p .nil)) .nil⟩
abbrev rdH (b : List UInt8) (p : Int) : Hp := [(0, .c 2 [[.d (.sl 1 (b.map dU8)), CI p]])]
attribute [go_sem] V.Ex XB.den
set_option maxRecDepth 100000
theorem xor_nn {a b : Int} (h0 : 0 ≤ a) (h1 : a < 4611686018427387904) (h2 : 0 ≤ b) (h3 : b < 4611686018427387904) : 0 ≤ arI .xor .i64 a b := by
 show 0 ≤ IntKind.i64.wrap ((BitVec.ofInt 64 a ^^^ BitVec.ofInt 64 b).toNat : Int)
 obtain ⟨m, rfl⟩ := Int.eq_ofNat_of_zero_le h0
 obtain ⟨n, rfl⟩ := Int.eq_ofNat_of_zero_le h2
 have hm : m < 2 ^ 62 := by have : (m : Int) < 4611686018427387904 := h1; omega
 have hn : n < 2 ^ 62 := by have : (n : Int) < 4611686018427387904 := h3; omega
 have : (BitVec.ofInt 64 (m : Int) ^^^ BitVec.ofInt 64 (n : Int)).toNat = m ^^^ n := by
  simp only [BitVec.toNat_xor, BitVec.ofInt_natCast, BitVec.toNat_ofNat]
  rw [Nat.mod_eq_of_lt (by omega), Nat.mod_eq_of_lt (by omega)]
 rw [this]
 have hx := Nat.xor_lt_two_pow hm hn
 rw [wrapI (by omega) (by omega)]
 omega
theorem mix_nn {x y p q : Int} (x0 : 0 ≤ x) (x1 : x < 256) (y0 : 0 ≤ y) (y1 : y < 256) (p0 : 0 ≤ p) (p1 : p + 1 ≤ 1000000000) (q0 : 0 ≤ q) (q1 : q ≤ p) :
 0 ≤ arI .xor .i64 (IntKind.i64.wrap (IntKind.i64.wrap (IntKind.i64.wrap (IntKind.i64.wrap (x * 131) + IntKind.i64.wrap (y * 1117)) + IntKind.i64.wrap (p * 29)) + IntKind.i64.wrap (IntKind.i64.wrap q * 53)))
  (IntKind.i64.wrap ((IntKind.i64.wrap (IntKind.i64.wrap (IntKind.i64.wrap (IntKind.i64.wrap (x * 131) + IntKind.i64.wrap (y * 1117)) + IntKind.i64.wrap (p * 29)) + IntKind.i64.wrap (IntKind.i64.wrap q * 53))).tdiv 64)) := by
 have e : IntKind.i64.wrap (IntKind.i64.wrap (IntKind.i64.wrap (IntKind.i64.wrap (x * 131) + IntKind.i64.wrap (y * 1117)) + IntKind.i64.wrap (p * 29)) + IntKind.i64.wrap (IntKind.i64.wrap q * 53)) = x * 131 + y * 1117 + p * 29 + q * 53 := by
  rw [wrapI (n := x * 131) (by omega) (by omega), wrapI (n := y * 1117) (by omega) (by omega), wrapI (n := p * 29) (by omega) (by omega), wrapI (n := q) (by omega) (by omega), wrapI (n := q * 53) (by omega) (by omega),
   wrapI (n := x * 131 + y * 1117) (by omega) (by omega), wrapI (n := x * 131 + y * 1117 + p * 29) (by omega) (by omega), wrapI (by omega) (by omega)]
 rw [e]
 generalize hg : x * 131 + y * 1117 + p * 29 + q * 53 = z
 have z0 : 0 ≤ z := by omega
 have z1 : z < 1000000000000 := by omega
 have hq : IntKind.i64.wrap (z.tdiv 64) = z / 64 := by
  have := Int.tdiv_eq_ediv_of_nonneg (b := 64) z0
  rw [this, wrapI] <;> omega
 rw [hq]
 exact xor_nn z0 (by omega) (by omega) (by omega)
theorem pick_ok {x n : Int} (h0 : 0 ≤ x) (hn : ¬ n < 1) : 0 ≤ x.tmod n ∧ (1 ≤ n → x.tmod n < n) := ⟨Int.tmod_nonneg _ h0, fun h => Int.tmod_lt_of_pos _ (by omega)⟩
set_option maxHeartbeats 1000000 in
theorem pick_x (b : List UInt8) (p n : Int) (h0 : 0 ≤ p) (h1 : p + 1 ≤ 1000000000) : ∃ a, (0 ≤ a ∧ (1 ≤ n → a < n)) ∧ EC Tryz.prog 49 1 [.ptr 0 2 0 0, CI n] (rdH b p) (CI a) (rdH b (p + 1)) 1 := by
 have key := (seat [] []).PE (mkM true []) (f := 49) (fn := Tryz.f49) (args := [.ptr 0 2 0 0, CI n]) (h := rdH b p) ⟨by kernel_rfl, by kernel_rfl, rfl⟩ (Nat.le_refl 1) (mkEs [eLU8 1 b, eI 2 p, eI 10 n])
  [.ptr 0 2 (.int .i64 0) 0, xi 10] [rdX 0 (xLU8 1) (xi 2)] (by simp only [go_sem, Nat.reduceEqDiff, Int.reduceToNat]) (by simp only [go_sem, Nat.reduceEqDiff]) (xi 900) [rdX 0 (xLU8 951) (xi 952)] (fun a : Int => 0 ≤ a ∧ (1 ≤ n → a < n)) (fun a => mkEs [eI 900 a, eLU8 951 b, eI 952 (p + 1)]) ⟨0, by omega⟩ ?_
 · simp only [go_sem, Nat.reduceEqDiff, Int.reduceToNat] at key; exact key
 conv => arg 3; cbv
 have e1 : IntKind.i64.wrap (p + 1) = p + 1 := wrapI (by omega) (by omega)
 have e2 : IntKind.i64.wrap (p + 1 - 1) = p := by rw [wrapI] <;> omega
 simp only [go_sem, Nat.reduceEqDiff, Nat.reduceBEq, e1, e2]
 have hbr : ∀ i, 0 ≤ ((b.getD i 0).toNat : Int) ∧ ((b.getD i 0).toNat : Int) < 256 := fun i => by have := (b.getD i 0).toNat_lt; omega
 have hb : ∀ i, IntKind.i64.wrap ((b.getD i 0).toNat : Int) = ((b.getD i 0).toNat : Int) := fun i => wrapI (by have := hbr i; omega) (by have := hbr i; omega)
 have m7 : IntKind.i64.wrap (IntKind.i64.wrap (p * 7) + 3) = p * 7 + 3 := by
  rw [wrapI (n := p * 7) (by omega) (by omega), wrapI] <;> omega
 simp only [hb, m7]
 have hl0 : (0 : Int) ≤ (b.length : Int) := Int.natCast_nonneg _
 have rem : ∀ x : Int, 0 ≤ x → ¬ (b.length : Int) = 0 → 0 ≤ x.tmod b.length ∧ x.tmod b.length < b.length := fun x hx hl => ⟨Int.tmod_nonneg _ hx, Int.tmod_lt_of_pos _ (by omega)⟩
 have quo : ¬ (b.length : Int) = 0 → 0 ≤ p.tdiv b.length ∧ p.tdiv b.length ≤ p := fun hl => ⟨Int.tdiv_nonneg h0 (by omega), Int.tdiv_le_self _ h0⟩
 refine ⟨fun _ => ⟨Int.le_refl _, fun h => by omega⟩, fun hc => ?_⟩
 have hl : ¬ (b.length : Int) = 0 := fun h => hc (.inr h)
 have hn : ¬ n < 1 := fun h => hc (.inl h)
 have hnz : n ≠ 0 := fun h => hn (by rw [h]; decide)
 exact ⟨fun hp => ⟨⟨⟨h0, hp⟩, fun _ => hnz⟩, pick_ok (hbr _).1 hn⟩, fun hp => ⟨⟨hl, fun _ => ⟨rem p h0 hl, fun _ => ⟨hl, fun _ => ⟨rem _ (by omega) hl, fun _ => hl⟩⟩⟩⟩, hnz, pick_ok (mix_nn (hbr _).1 (hbr _).2 (hbr _).1 (hbr _).2 h0 h1 (quo hl).1 (quo hl).2) hn⟩⟩
open Classical in
noncomputable def pickV (b : List UInt8) (p n : Int) : Int := if h : 0 ≤ p ∧ p + 1 ≤ 1000000000 then (pick_x b p n h.1 h.2).choose else 0
abbrev pickP (b : List UInt8) (p n : Int) : Int := p + 1
attribute [go_sem] pickP
theorem pick_e {b : List UInt8} {p n : Int} (h0 : 0 ≤ p) (h1 : p + 1 ≤ 1000000000) : EC Tryz.prog 49 1 [.ptr 0 2 0 0, CI n] (rdH b p) (CI (pickV b p n)) (rdH b (pickP b p n)) 1 := by
 have := (pick_x b p n h0 h1).choose_spec.2
 unfold pickV; rw [dif_pos ⟨h0, h1⟩]; exact this
theorem pick_i {b : List UInt8} {p n : Int} : 0 ≤ pickV b p n ∧ (1 ≤ n → pickV b p n < n) := by
 unfold pickV; split
 · rename_i h; exact (pick_x b p n h.1 h.2).choose_spec.1
 · exact ⟨Int.le_refl 0, fun h => by omega⟩
@[grind =] theorem pick_k {b : List UInt8} {p n : Int} : pickV b p n = max 0 (if 1 ≤ n then min (pickV b p n) (n - 1) else pickV b p n) := by
 have := pick_i (b := b) (p := p) (n := n)
 split <;> omega
end Go.Proofs.YtjakhnhnjhafgaaGreat.Wk
namespace Go.Proofs.YtjakhnhnjhafgaaGreat.Wk
open Go Go.RowKit Go.Deep Ow
set_option maxRecDepth 100000
set_option maxHeartbeats 2000000 in
theorem odd_x (b : List UInt8) (p : Int) (n : Int) (h0 : 0 ≤ p) (h1 : p + 1 ≤ 1000000000) : ∃ a : Bool × Int, (p ≤ a.2 ∧ a.2 ≤ p + 1 ∧ (9000 ≤ n → a.1 = false)) ∧ EC Tryz.prog 50 1 [.ptr 0 2 0 0, CI n] (rdH b p) (CB a.1) (rdH b a.2) 1 := by
 have key := (seat [] []).PX (mkM true []) (f := 50) (fn := Tryz.f50) (args := [.ptr 0 2 0 0, CI n]) (h := rdH b p) ⟨by kernel_rfl, by kernel_rfl, rfl⟩ (Nat.le_refl 1) (fun (t : Int × Int) => match t with | ⟨t0, t1⟩ => mkEs [eLU8 1 b, eI 2 p, eInt 10 n, eInt 115000 (pickV b t0 t1), eI 115201 (pickP b t0 t1)]) [.ptr 0 2 (.int .i64 0) 0, xInt 10] [rdX 0 (xLU8 1) (xi 2)] (fun ⟨t0, t1⟩ => by simp (maxSteps := 1000000) only [go_sem, Nat.reduceEqDiff, Nat.reduceAdd, Nat.reduceBEq, Int.reduceToNat]) (fun ⟨t0, t1⟩ => by simp (maxSteps := 1000000) only [go_sem, Nat.reduceEqDiff, Nat.reduceAdd, Nat.reduceBEq, Int.reduceToNat]) (xBool 900) [rdX 0 (xLU8 951) (xi 952)] (fun a : Bool × Int => p ≤ a.2 ∧ a.2 ≤ p + 1 ∧ (9000 ≤ n → a.1 = false)) (fun a => mkEs [eBool 900 a.1, eLU8 951 b, eI 952 a.2]) ⟨(false, p), by simp <;> omega⟩ ?_
 · obtain ⟨a, h2, h3⟩ := key
   simp only [go_sem, Nat.reduceEqDiff, Nat.reduceAdd, Nat.reduceBEq, Int.reduceToNat] at h3
   exact ⟨a, h2, h3⟩
 conv => arg 1; ext t; arg 3; cbv
 simp (maxSteps := 4000000) only [V.Ex, go_sem, Nat.reduceEqDiff, Nat.reduceAdd, Nat.reduceBEq, Int.reduceToNat]
 iterate 2 apply Exists.intro
 try dsimp +instances only
 repeat' (first | with_reducible apply And.intro | intro _)
 all_goals first | exact pick_e (b := b) (by grind) (by grind) | grind [wrapI] | grind (splits := 24) [wrapI] | exact sel_lo (by decide) | exact sel_hi (by decide) | (simp only [List.length_map, List.length_cons, List.length_nil]; omega) | ((repeat' split) <;> grind [wrapI]) | exact (0 : Int)
open Classical in
noncomputable def oddF (b : List UInt8) (p : Int) (n : Int) : Bool × Int := if h : 0 ≤ p ∧ p + 1 ≤ 1000000000 then (odd_x b p n h.1 h.2).choose else (false, p)
noncomputable def oddV (b : List UInt8) (p : Int) (n : Int) : Bool := (oddF b p n).1
noncomputable def oddP (b : List UInt8) (p : Int) (n : Int) : Int := (oddF b p n).2
theorem odd_e {b : List UInt8} {p : Int} {n : Int} (h0 : 0 ≤ p) (h1 : p + 1 ≤ 1000000000) : EC Tryz.prog 50 1 [.ptr 0 2 0 0, CI n] (rdH b p) (CB (oddV b p n)) (rdH b (oddP b p n)) 1 := by
 have := (odd_x b p n h0 h1).choose_spec.2
 simp only [oddV, oddP, oddF, dif_pos (show 0 ≤ p ∧ p + 1 ≤ 1000000000 from ⟨h0, h1⟩)]; exact this
@[grind =] theorem odd_i {b : List UInt8} {p : Int} {n : Int} : oddP b p n = max p (min (oddP b p n) (p + 1)) := by
 simp only [oddP, oddF]
 split
 · rename_i h; have := (odd_x b p n h.1 h.2).choose_spec.1; omega
 · omega
theorem odd_j {b : List UInt8} {p : Int} {n : Int} : (9000 ≤ n → (oddV b p n) = false) := by
 simp only [oddV, oddF]
 split
 · rename_i h; exact (odd_x b p n h.1 h.2).choose_spec.1.2.2
 · simp <;> omega
@[grind =] theorem odd_9 {b : List UInt8} {p n : Int} (h : 9000 ≤ n) : oddV b p n = false := odd_j (b := b) (p := p) (n := n) h
set_option maxHeartbeats 2000000 in
theorem num_x (b : List UInt8) (p : Int) (h0 : 0 ≤ p) (h1 : p + 3 ≤ 1000000000) : ∃ a : Int × Int, (p ≤ a.2 ∧ a.2 ≤ p + 3 ∧ -32768 ≤ a.1 ∧ a.1 ≤ 32767) ∧ EC Tryz.prog 69 1 [.ptr 0 2 0 0] (rdH b p) (CI a.1) (rdH b a.2) 1 := by
 have key := (seat [] []).PX (mkM true []) (f := 69) (fn := Tryz.f69) (args := [.ptr 0 2 0 0]) (h := rdH b p) ⟨by kernel_rfl, by kernel_rfl, rfl⟩ (Nat.le_refl 1) (fun (t : Int × Int × Int × Int × Int × Int × Int × Int × Int × Int × Int × Int) => match t with | ⟨t0, t1, t2, t3, t4, t5, t6, t7, t8, t9, t10, t11⟩ => mkEs [eLU8 1 b, eI 2 p, eInt 111000 (pickV b t0 t1), eI 111201 (pickP b t0 t1), eInt 312000 (pickV b t2 t3), eI 312201 (pickP b t2 t3), eInt 511000 (pickV b t4 t5), eI 511201 (pickP b t4 t5), eInt 712000 (pickV b t6 t7), eI 712201 (pickP b t6 t7), eInt 811000 (pickV b t8 t9), eI 811201 (pickP b t8 t9), eInt 814000 (pickV b t10 t11), eI 814201 (pickP b t10 t11)]) [.ptr 0 2 (.int .i64 0) 0] [rdX 0 (xLU8 1) (xi 2)] (fun ⟨t0, t1, t2, t3, t4, t5, t6, t7, t8, t9, t10, t11⟩ => by simp (maxSteps := 1000000) only [go_sem, Nat.reduceEqDiff, Nat.reduceAdd, Nat.reduceBEq, Int.reduceToNat]) (fun ⟨t0, t1, t2, t3, t4, t5, t6, t7, t8, t9, t10, t11⟩ => by simp (maxSteps := 1000000) only [go_sem, Nat.reduceEqDiff, Nat.reduceAdd, Nat.reduceBEq, Int.reduceToNat]) (xInt 900) [rdX 0 (xLU8 951) (xi 952)] (fun a : Int × Int => p ≤ a.2 ∧ a.2 ≤ p + 3 ∧ -32768 ≤ a.1 ∧ a.1 ≤ 32767) (fun a => mkEs [eInt 900 a.1, eLU8 951 b, eI 952 a.2]) ⟨(0, p), by simp <;> omega⟩ ?_
 · obtain ⟨a, h2, h3⟩ := key
   simp only [go_sem, Nat.reduceEqDiff, Nat.reduceAdd, Nat.reduceBEq, Int.reduceToNat] at h3
   exact ⟨a, h2, h3⟩
 conv => arg 1; ext t; arg 3; cbv
 simp (maxSteps := 4000000) only [V.Ex, go_sem, Nat.reduceEqDiff, Nat.reduceAdd, Nat.reduceBEq, Int.reduceToNat]
 iterate 12 apply Exists.intro
 try dsimp +instances only
 repeat' (first | with_reducible apply And.intro | intro _)
 all_goals first | exact pick_e (b := b) (by grind) (by grind) | grind [wrapI] | grind (splits := 24) [wrapI] | exact sel_lo (by decide) | exact sel_hi (by decide) | (simp only [List.length_map, List.length_cons, List.length_nil]; omega) | ((repeat' split) <;> grind [wrapI]) | exact (0 : Int)
open Classical in
noncomputable def numF (b : List UInt8) (p : Int) : Int × Int := if h : 0 ≤ p ∧ p + 3 ≤ 1000000000 then (num_x b p h.1 h.2).choose else (0, p)
noncomputable def numV (b : List UInt8) (p : Int) : Int := (numF b p).1
noncomputable def numP (b : List UInt8) (p : Int) : Int := (numF b p).2
theorem num_e {b : List UInt8} {p : Int} (h0 : 0 ≤ p) (h1 : p + 3 ≤ 1000000000) : EC Tryz.prog 69 1 [.ptr 0 2 0 0] (rdH b p) (CI (numV b p)) (rdH b (numP b p)) 1 := by
 have := (num_x b p h0 h1).choose_spec.2
 simp only [numV, numP, numF, dif_pos (show 0 ≤ p ∧ p + 3 ≤ 1000000000 from ⟨h0, h1⟩)]; exact this
@[grind =] theorem num_i {b : List UInt8} {p : Int} : numP b p = max p (min (numP b p) (p + 3)) := by
 simp only [numP, numF]
 split
 · rename_i h; have := (num_x b p h.1 h.2).choose_spec.1; omega
 · omega
set_option maxHeartbeats 2000000 in
theorem raw_x (b : List UInt8) (p : Int) (h0 : 0 ≤ p) (h1 : p + 5 ≤ 1000000000) : ∃ a : Int × Int, (p ≤ a.2 ∧ a.2 ≤ p + 5 ∧ True) ∧ EC Tryz.prog 167 1 [.ptr 0 2 0 0] (rdH b p) (CI a.1) (rdH b a.2) 1 := by
 have key := (seat [] []).PX (mkM true []) (f := 167) (fn := Tryz.f167) (args := [.ptr 0 2 0 0]) (h := rdH b p) ⟨by kernel_rfl, by kernel_rfl, rfl⟩ (Nat.le_refl 1) (fun (t : Int × Int × Int × Int × Int × Int × Int × Int) => match t with | ⟨t0, t1, t2, t3, t4, t5, t6, t7⟩ => mkEs [eLU8 1 b, eI 2 p, eInt 111000 (pickV b t0 t1), eI 111201 (pickP b t0 t1), eInt 312000 (pickV b t2 t3), eI 312201 (pickP b t2 t3), eInt 511000 (numV b t4), eI 511201 (numP b t4), eInt 514000 (pickV b t5 t6), eI 514201 (pickP b t5 t6), eInt 611000 (numV b t7), eI 611201 (numP b t7)]) [.ptr 0 2 (.int .i64 0) 0] [rdX 0 (xLU8 1) (xi 2)] (fun ⟨t0, t1, t2, t3, t4, t5, t6, t7⟩ => by simp (maxSteps := 1000000) only [go_sem, Nat.reduceEqDiff, Nat.reduceAdd, Nat.reduceBEq, Int.reduceToNat]) (fun ⟨t0, t1, t2, t3, t4, t5, t6, t7⟩ => by simp (maxSteps := 1000000) only [go_sem, Nat.reduceEqDiff, Nat.reduceAdd, Nat.reduceBEq, Int.reduceToNat]) (xInt 900) [rdX 0 (xLU8 951) (xi 952)] (fun a : Int × Int => p ≤ a.2 ∧ a.2 ≤ p + 5 ∧ True) (fun a => mkEs [eInt 900 a.1, eLU8 951 b, eI 952 a.2]) ⟨(0, p), by simp <;> omega⟩ ?_
 · obtain ⟨a, h2, h3⟩ := key
   simp only [go_sem, Nat.reduceEqDiff, Nat.reduceAdd, Nat.reduceBEq, Int.reduceToNat] at h3
   exact ⟨a, h2, h3⟩
 conv => arg 1; ext t; arg 3; cbv
 simp (maxSteps := 4000000) only [V.Ex, go_sem, Nat.reduceEqDiff, Nat.reduceAdd, Nat.reduceBEq, Int.reduceToNat]
 iterate 8 apply Exists.intro
 try dsimp +instances only
 repeat' (first | with_reducible apply And.intro | intro _)
 all_goals first | exact pick_e (b := b) (by grind) (by grind) | exact num_e (b := b) (by grind) (by grind) | grind [wrapI] | grind (splits := 24) [wrapI] | exact sel_lo (by decide) | exact sel_hi (by decide) | (simp only [List.length_map, List.length_cons, List.length_nil]; omega) | ((repeat' split) <;> grind [wrapI]) | exact (0 : Int)
open Classical in
noncomputable def rawF (b : List UInt8) (p : Int) : Int × Int := if h : 0 ≤ p ∧ p + 5 ≤ 1000000000 then (raw_x b p h.1 h.2).choose else (0, p)
noncomputable def rawV (b : List UInt8) (p : Int) : Int := (rawF b p).1
noncomputable def rawP (b : List UInt8) (p : Int) : Int := (rawF b p).2
theorem raw_e {b : List UInt8} {p : Int} (h0 : 0 ≤ p) (h1 : p + 5 ≤ 1000000000) : EC Tryz.prog 167 1 [.ptr 0 2 0 0] (rdH b p) (CI (rawV b p)) (rdH b (rawP b p)) 1 := by
 have := (raw_x b p h0 h1).choose_spec.2
 simp only [rawV, rawP, rawF, dif_pos (show 0 ≤ p ∧ p + 5 ≤ 1000000000 from ⟨h0, h1⟩)]; exact this
@[grind =] theorem raw_i {b : List UInt8} {p : Int} : rawP b p = max p (min (rawP b p) (p + 5)) := by
 simp only [rawP, rawF]
 split
 · rename_i h; have := (raw_x b p h.1 h.2).choose_spec.1; omega
 · omega
end Go.Proofs.YtjakhnhnjhafgaaGreat.Wk
namespace Go.Proofs.YtjakhnhnjhafgaaGreat.Wk
open Go Go.RowKit Go.Deep Ow
set_option maxRecDepth 100000
set_option maxHeartbeats 2000000 in
theorem itv_x (b : List UInt8) (p : Int) (n : Int) (h0 : 0 ≤ p) (h1 : p + 20 ≤ 1000000000) : ∃ a : ItvItv × Int, (p ≤ a.2 ∧ a.2 ≤ p + 20 ∧ (9000 ≤ n → a.1.Lo ≤ a.1.Hi)) ∧ EC Tryz.prog 112 1 [.ptr 0 2 0 0, CI n] (rdH b p) (.agg [CI a.1.Lo, CI a.1.Hi]) (rdH b a.2) 1 := by
 have key := (seat [] []).PX (mkM true [2, 2, 4, 5, 1, 34, 1, 16]) (f := 112) (fn := Tryz.f112) (args := [.ptr 0 2 0 0, CI n]) (h := rdH b p) ⟨by kernel_rfl, by kernel_rfl, rfl⟩ (Nat.le_refl 1) (fun (t : Int × Int × Int × Int × Int × Int × Int × Int × Int × Int × Int × Int × Int × Int × Int × Int) => match t with | ⟨t0, t1, t2, t3, t4, t5, t6, t7, t8, t9, t10, t11, t12, t13, t14, t15⟩ => mkEs [eLU8 1 b, eI 2 p, eInt 10 n, eInt 111000 (numV b t0), eI 111201 (numP b t0), eInt 211000 (numV b t1), eI 211201 (numP b t1), eInt 311000 (pickV b t2 t3), eI 311201 (pickP b t2 t3), eInt 712000 (pickV b t4 t5), eI 712201 (pickP b t4 t5), eInt 912000 (pickV b t6 t7), eI 912201 (pickP b t6 t7), eInt 917000 (pickV b t8 t9), eI 917201 (pickP b t8 t9), eBool 1112000 (oddV b t10 t11), eI 1112201 (oddP b t10 t11), eInt 1211000 (pickV b t12 t13), eI 1211201 (pickP b t12 t13), eInt 1711000 (rawV b t14), eI 1711201 (rawP b t14), eInt 1311000 (rawV b t15), eI 1311201 (rawP b t15)]) [.ptr 0 2 (.int .i64 0) 0, xInt 10] [rdX 0 (xLU8 1) (xi 2)] (fun ⟨t0, t1, t2, t3, t4, t5, t6, t7, t8, t9, t10, t11, t12, t13, t14, t15⟩ => by simp (maxSteps := 1000000) only [go_sem, Nat.reduceEqDiff, Nat.reduceAdd, Nat.reduceBEq, Int.reduceToNat]) (fun ⟨t0, t1, t2, t3, t4, t5, t6, t7, t8, t9, t10, t11, t12, t13, t14, t15⟩ => by simp (maxSteps := 1000000) only [go_sem, Nat.reduceEqDiff, Nat.reduceAdd, Nat.reduceBEq, Int.reduceToNat]) (xItvItv 900) [rdX 0 (xLU8 951) (xi 952)] (fun a : ItvItv × Int => p ≤ a.2 ∧ a.2 ≤ p + 20 ∧ (9000 ≤ n → a.1.Lo ≤ a.1.Hi)) (fun a => mkEs [eItvItv 900 a.1, eLU8 951 b, eI 952 a.2]) ⟨(zItvItv, p), by simp [zItvItv] <;> omega⟩ ?_
 · obtain ⟨a, h2, h3⟩ := key
   simp only [go_sem, Nat.reduceEqDiff, Nat.reduceAdd, Nat.reduceBEq, Int.reduceToNat] at h3
   exact ⟨a, h2, h3⟩
 conv => arg 1; ext t; arg 3; cbv
 simp (maxSteps := 4000000) only [V.Ex, go_sem, Nat.reduceEqDiff, Nat.reduceAdd, Nat.reduceBEq, Int.reduceToNat]
 iterate 16 apply Exists.intro
 try dsimp +instances only
 repeat' (first | with_reducible apply And.intro | intro _)
 all_goals first | exact num_e (b := b) (by grind) (by grind) | exact pick_e (b := b) (by grind) (by grind) | exact odd_e (b := b) (by grind) (by grind) | exact raw_e (b := b) (by grind) (by grind) | (refine ⟨_, _, _, ?_, rfl, rfl, rfl⟩; (repeat' (first | with_reducible apply And.intro | intro _)); all_goals first | grind [wrapI] | grind (splits := 24) [wrapI] | exact sel_lo (by decide) | exact sel_hi (by decide) | (simp only [List.length_map, List.length_cons, List.length_nil]; omega) | ((repeat' split) <;> grind [wrapI])) | grind [wrapI] | grind (splits := 24) [wrapI] | exact sel_lo (by decide) | exact sel_hi (by decide) | (simp only [List.length_map, List.length_cons, List.length_nil]; omega) | ((repeat' split) <;> grind [wrapI]) | exact (0 : Int)
open Classical in
noncomputable def itvF (b : List UInt8) (p : Int) (n : Int) : ItvItv × Int := if h : 0 ≤ p ∧ p + 20 ≤ 1000000000 then (itv_x b p n h.1 h.2).choose else (zItvItv, p)
noncomputable def itvV (b : List UInt8) (p : Int) (n : Int) : ItvItv := (itvF b p n).1
noncomputable def itvP (b : List UInt8) (p : Int) (n : Int) : Int := (itvF b p n).2
theorem itv_e {b : List UInt8} {p : Int} {n : Int} (h0 : 0 ≤ p) (h1 : p + 20 ≤ 1000000000) : EC Tryz.prog 112 1 [.ptr 0 2 0 0, CI n] (rdH b p) (.agg [CI (itvV b p n).Lo, CI (itvV b p n).Hi]) (rdH b (itvP b p n)) 1 := by
 have := (itv_x b p n h0 h1).choose_spec.2
 simp only [itvV, itvP, itvF, dif_pos (show 0 ≤ p ∧ p + 20 ≤ 1000000000 from ⟨h0, h1⟩)]; exact this
@[grind =] theorem itv_i {b : List UInt8} {p : Int} {n : Int} : itvP b p n = max p (min (itvP b p n) (p + 20)) := by
 simp only [itvP, itvF]
 split
 · rename_i h; have := (itv_x b p n h.1 h.2).choose_spec.1; omega
 · omega
end Go.Proofs.YtjakhnhnjhafgaaGreat.Wk
namespace Go.Proofs.YtjakhnhnjhafgaaGreat.Wk
open Go Go.RowKit Go.Deep Ow
set_option maxRecDepth 100000
set_option maxHeartbeats 2000000 in
theorem spoil_x (b : List UInt8) (p : Int) (i0 : Int) (i1 : Int) (i2 : Int) (i3 : Int) (i4 : Int) (i5 : Int) (i6 : Int) (i7 : Int) (h0 : 0 ≤ p) (h1 : p + 2 ≤ 1000000000) : ∃ a : InsIns × Int, (p ≤ a.2 ∧ a.2 ≤ p + 2 ∧ True) ∧ EC Tryz.prog 51 1 [.ptr 0 2 0 0, .agg [CI i0, CI i1, CI i2, CI i3, CI i4, CI i5, CI i6, CI i7]] (rdH b p) (.agg [CI a.1.Op, CI a.1.D, CI a.1.A, CI a.1.B, CI a.1.Rel, CI a.1.Lo, CI a.1.Hi, CI a.1.To]) (rdH b a.2) 1 := by
 have key := (seat [] []).PX (mkM true [2, 1, 2, 1, 1, 55]) (f := 51) (fn := Tryz.f51) (args := [.ptr 0 2 0 0, .agg [CI i0, CI i1, CI i2, CI i3, CI i4, CI i5, CI i6, CI i7]]) (h := rdH b p) ⟨by kernel_rfl, by kernel_rfl, rfl⟩ (Nat.le_refl 1) (fun (t : Int × Int × Int × Int × Int × Int × Int × Int × Int × Int × Int × Int × Int × Int × Int × Int) => match t with | ⟨t0, t1, t2, t3, t4, t5, t6, t7, t8, t9, t10, t11, t12, t13, t14, t15⟩ => mkEs [eLU8 1 b, eI 2 p, eInsIns 10 ⟨i0, i1, i2, i3, i4, i5, i6, i7⟩, eInt 111000 (pickV b t0 t1), eI 111201 (pickP b t0 t1), eInt 412000 (pickV b t2 t3), eI 412201 (pickP b t2 t3), eInt 612000 (pickV b t4 t5), eI 612201 (pickP b t4 t5), eInt 812000 (pickV b t6 t7), eI 812201 (pickP b t6 t7), eInt 1012000 (pickV b t8 t9), eI 1012201 (pickP b t8 t9), eInt 1212000 (pickV b t10 t11), eI 1212201 (pickP b t10 t11), eInt 1412000 (pickV b t12 t13), eI 1412201 (pickP b t12 t13), eInt 212000 (pickV b t14 t15), eI 212201 (pickP b t14 t15)]) [.ptr 0 2 (.int .i64 0) 0, xInsIns 10] [rdX 0 (xLU8 1) (xi 2)] (fun ⟨t0, t1, t2, t3, t4, t5, t6, t7, t8, t9, t10, t11, t12, t13, t14, t15⟩ => by simp (maxSteps := 1000000) only [go_sem, Nat.reduceEqDiff, Nat.reduceAdd, Nat.reduceBEq, Int.reduceToNat]) (fun ⟨t0, t1, t2, t3, t4, t5, t6, t7, t8, t9, t10, t11, t12, t13, t14, t15⟩ => by simp (maxSteps := 1000000) only [go_sem, Nat.reduceEqDiff, Nat.reduceAdd, Nat.reduceBEq, Int.reduceToNat]) (xInsIns 900) [rdX 0 (xLU8 951) (xi 952)] (fun a : InsIns × Int => p ≤ a.2 ∧ a.2 ≤ p + 2 ∧ True) (fun a => mkEs [eInsIns 900 a.1, eLU8 951 b, eI 952 a.2]) ⟨(zInsIns, p), by simp <;> omega⟩ ?_
 · obtain ⟨a, h2, h3⟩ := key
   simp only [go_sem, Nat.reduceEqDiff, Nat.reduceAdd, Nat.reduceBEq, Int.reduceToNat] at h3
   exact ⟨a, h2, h3⟩
 conv => arg 1; ext t; arg 3; cbv
 simp (maxSteps := 4000000) only [V.Ex, go_sem, Nat.reduceEqDiff, Nat.reduceAdd, Nat.reduceBEq, Int.reduceToNat]
 iterate 16 apply Exists.intro
 try dsimp +instances only
 repeat' (first | with_reducible apply And.intro | intro _)
 all_goals first | exact pick_e (b := b) (by grind) (by grind) | (refine ⟨_, _, _, _, _, _, _, _, _, ?_, rfl, rfl, rfl, rfl, rfl, rfl, rfl, rfl, rfl⟩; (repeat' (first | with_reducible apply And.intro | intro _)); all_goals first | grind [wrapI] | grind (splits := 24) [wrapI] | exact sel_lo (by decide) | exact sel_hi (by decide) | (simp only [List.length_map, List.length_cons, List.length_nil]; omega) | ((repeat' split) <;> grind [wrapI])) | grind [wrapI] | grind (splits := 24) [wrapI] | exact sel_lo (by decide) | exact sel_hi (by decide) | (simp only [List.length_map, List.length_cons, List.length_nil]; omega) | ((repeat' split) <;> grind [wrapI]) | exact (0 : Int)
open Classical in
noncomputable def spoilF (b : List UInt8) (p : Int) (i : InsIns) : InsIns × Int := if h : 0 ≤ p ∧ p + 2 ≤ 1000000000 then (spoil_x b p i.Op i.D i.A i.B i.Rel i.Lo i.Hi i.To h.1 h.2).choose else (zInsIns, p)
noncomputable def spoilV (b : List UInt8) (p : Int) (i : InsIns) : InsIns := (spoilF b p i).1
noncomputable def spoilP (b : List UInt8) (p : Int) (i : InsIns) : Int := (spoilF b p i).2
theorem spoil_e {b : List UInt8} {p : Int} {i0 : Int} {i1 : Int} {i2 : Int} {i3 : Int} {i4 : Int} {i5 : Int} {i6 : Int} {i7 : Int} (h0 : 0 ≤ p) (h1 : p + 2 ≤ 1000000000) : EC Tryz.prog 51 1 [.ptr 0 2 0 0, .agg [CI i0, CI i1, CI i2, CI i3, CI i4, CI i5, CI i6, CI i7]] (rdH b p) (.agg [CI (spoilV b p ⟨i0, i1, i2, i3, i4, i5, i6, i7⟩).Op, CI (spoilV b p ⟨i0, i1, i2, i3, i4, i5, i6, i7⟩).D, CI (spoilV b p ⟨i0, i1, i2, i3, i4, i5, i6, i7⟩).A, CI (spoilV b p ⟨i0, i1, i2, i3, i4, i5, i6, i7⟩).B, CI (spoilV b p ⟨i0, i1, i2, i3, i4, i5, i6, i7⟩).Rel, CI (spoilV b p ⟨i0, i1, i2, i3, i4, i5, i6, i7⟩).Lo, CI (spoilV b p ⟨i0, i1, i2, i3, i4, i5, i6, i7⟩).Hi, CI (spoilV b p ⟨i0, i1, i2, i3, i4, i5, i6, i7⟩).To]) (rdH b (spoilP b p ⟨i0, i1, i2, i3, i4, i5, i6, i7⟩)) 1 := by
 have := (spoil_x b p i0 i1 i2 i3 i4 i5 i6 i7 h0 h1).choose_spec.2
 simp only [spoilV, spoilP, spoilF, dif_pos (show 0 ≤ p ∧ p + 2 ≤ 1000000000 from ⟨h0, h1⟩)]; exact this
@[grind =] theorem spoil_i {b : List UInt8} {p : Int} {i0 : Int} {i1 : Int} {i2 : Int} {i3 : Int} {i4 : Int} {i5 : Int} {i6 : Int} {i7 : Int} : spoilP b p ⟨i0, i1, i2, i3, i4, i5, i6, i7⟩ = max p (min (spoilP b p ⟨i0, i1, i2, i3, i4, i5, i6, i7⟩) (p + 2)) := by
 simp only [spoilP, spoilF]
 split
 · rename_i h; have := (spoil_x b p i0 i1 i2 i3 i4 i5 i6 i7 h.1 h.2).choose_spec.1; omega
 · omega
end Go.Proofs.YtjakhnhnjhafgaaGreat.Wk
