/- The deferred closure of the program's stepped. Written by a program of mine (wip/gen/gen_impjoin.py). -/
import Derived.Test.YtjakhnhnjhafgaaGreatZRunMem
import Derived.Test.YtjakhnhnjhafgaaGreatZBase
import Derived.Recover
import Derived.Defers
import Derived.Test.YtjakhnhnjhafgaaGreatZRefMut
import Derived.Deep.OwnRows
set_option linter.unusedVariables false
set_option linter.unusedSimpArgs false
namespace Go.Proofs.YtjakhnhnjhafgaaGreat.Wk
open Go Go.RowKit Go.Deep Ow
open Rp (R sz)

theorem taFail (a b c d : Int) (s : Value) (w : World) : (Instr.typeAssert (.iface 182 (.agg #[.int .i64 a, s, .int .i64 b, .int .i64 c, .int .i64 d])) 20 182 true).run Tryz.prog w = .ok (.tuple #[.agg #[.int .i64 a, s, .int .i64 b, .int .i64 c, .int .i64 d], .bool true]) w := by kernel_rfl
theorem catchIdle_c (p : Addr) (w : World) :
    CallsD Tryz.prog 129 #[.pointer (some p)] .returning w fun e u' w' => e = .returned (.tuple #[]) ∧ u' = .returning ∧ w' = w := by
  refine callsD_of_wpS Tryz.func129 rfl fun c₀ cs hu => ?_
  apply wpS_seq
  apply wpS_region
  simp [wpOpsS, go_sem, recoverD, hu, Tryz.ntmps129, Exit.thenS]
  apply wpS_seq
  apply wpS_region
  simp [wpOpsS, go_sem, Exit.thenS]
  refine wpS_cond (t := false) (by simp [Act.eval, Array.replicate]) ?_
  simp only [Bool.false_eq_true, if_false]
  refine wpS_of_wp (wp_skip ?_)
  cases c₀
  simp_all [bodyPostS, results, Tryz.results129]
set_option maxRecDepth 100000 in
set_option maxHeartbeats 2000000 in
theorem catchPan_c (x : RunRun) (B : Nat) (w : World) (k0 : w.cell? ⟨B, 0, none⟩ = some (.int .i64 0)) (k1 : w.cell? ⟨B, 1, none⟩ = some (.slice none 0 0)) (k2 : w.cell? ⟨B, 2, none⟩ = some (.int .i64 0)) (k3 : w.cell? ⟨B, 3, none⟩ = some (.int .i64 0)) (k4 : w.cell? ⟨B, 4, none⟩ = some (.int .i64 0)) (fz : ∀ j, w.frozen? ⟨B, j, none⟩ = false) (lB : B < w.heap.size) :
    CallsD Tryz.prog 129 #[.pointer (some ⟨B, 0, none⟩)] (.panicking ({ v := .iface 182 (runV x (.slice none 0 0)), recovered := false } :: [])) w fun e u' w' =>
      e = .returned (.tuple #[]) ∧ u' = .panicking ({ v := .iface 182 (runV x (.slice none 0 0)), recovered := true } :: []) ∧ Chg [B] w w' ∧ w'.cell? ⟨B, 0, none⟩ = some (.int .i64 x.State) ∧ w'.cell? ⟨B, 1, none⟩ = some (.slice none 0 0) ∧ w'.cell? ⟨B, 2, none⟩ = some (.int .i64 x.Out) ∧ w'.cell? ⟨B, 3, none⟩ = some (.int .i64 x.Proc) ∧ w'.cell? ⟨B, 4, none⟩ = some (.int .i64 x.Pc) := by
  have hta := taFail x.State x.Out x.Proc x.Pc (.slice none 0 0)
  refine callsD_of_wpS Tryz.func129 rfl fun c₀ cs hu => ?_
  apply wpS_seq
  apply wpS_region
  simp [wpOpsS, go_sem, recoverD, hu, Tryz.ntmps129, Exit.thenS]
  apply wpS_seq
  apply wpS_region
  simp [wpOpsS, go_sem, Exit.thenS]
  refine wpS_cond (t := true) (by simp [Act.eval, Array.replicate]) ?_
  simp only [if_true]
  refine wpS_of_wp ?_
  have f0 := fz 0
  have f1 := fz 1
  have f2 := fz 2
  have f3 := fz 3
  have f4 := fz 4
  refine (show (∀ Q : Exit → Act → World → Prop, (∀ (a : Act) (w' : World), a.defers = [] → (Chg [B] w w' ∧ w'.cell? ⟨B, 0, none⟩ = some (.int .i64 x.State) ∧ w'.cell? ⟨B, 1, none⟩ = some (.slice none 0 0) ∧ w'.cell? ⟨B, 2, none⟩ = some (.int .i64 x.Out) ∧ w'.cell? ⟨B, 3, none⟩ = some (.int .i64 x.Proc) ∧ w'.cell? ⟨B, 4, none⟩ = some (.int .i64 x.Pc)) → Q .normal a w') → Code.wp _ _ Q _ _) → _ from fun key => key _ ?_) ?_
  · intro a w' hd hW
    cases c₀
    simp_all [bodyPostS, results, Tryz.results129]
  · intro Q hQ
    have hQ' := Lib.hid hQ
    clear hQ hu fz
    have et : ∀ V : Value, (#[Value.pointer (some { block := B, off := 0 })] ++ (((((Array.replicate 16 undef).setIfInBounds 3 V).setIfInBounds 0 V).setIfInBounds 4 V).setIfInBounds 5 (Value.bool true))) = #[Value.pointer (some { block := B, off := 0 }), V, undef, undef, V, V, .bool true, undef, undef, undef, undef, undef, undef, undef, undef, undef, undef] := fun V => rfl
    rw [et]
    clear et
    go_wp2
    refine hQ'.out _ _ rfl ⟨?_, ?_⟩
    · repeat (with_reducible first | exact Chg.refl _ _ | refine Chg.setCell ?_ (Or.inl (by simp)) _ | refine Chg.r ?_ _ | refine Chg.alloc ?_ _)
    · simp [go_sem, k0, k1, k2, k3, k4, lB]
end Go.Proofs.YtjakhnhnjhafgaaGreat.Wk
namespace Go.Proofs.YtjakhnhnjhafgaaGreat.Wk
open Go Go.RowKit Go.Deep Ow
open Rp (R sz)

theorem make4 (w : World) : (Instr.makeSlice 42 (.int .i64 4) (.int .i64 4)).run Tryz.prog w = .ok (.slice (some ⟨w.heap.size, 0, none⟩) 4 4) (w.alloc (.cells #[.int .i64 0, .int .i64 0, .int .i64 0, .int .i64 0] 3)) :=
  (run_make_row' (P := Tryz.prog) 42 3 (.int .i64 0) 8 Tryz.underlying42 intInfo rfl .i64 .i64 4 (by omega) (by omega) w).trans (by rw [show madeCells #[Value.int .i64 0] 4 = #[.int .i64 0, .int .i64 0, .int .i64 0, .int .i64 0] by kernel_rfl])

set_option maxHeartbeats 1000000 in
theorem implEnter_c (proc arg : Int) (w : World) (ha : I64 arg) : Calls Tryz.prog 208 #[.int .i64 proc, .int .i64 arg] w (RetFrame (entered proc arg) w) := by
  have ha' := Lib.hid ha
  have hmk := make4
  clear ha
  go_enter Tryz.func208, Tryz.ntmps208
  go_wp2_with fail
  go_region
  all_goals go_wp2
  all_goals first
    | (refine bodyPost_ret (v := .agg #[.int .i64 proc, .int .i64 0, .slice (some ⟨w.heap.size + 1, 0, none⟩) 4 4, .slice (some ⟨w.heap.size + 1 + 1, 0, none⟩) 4 4]) ?_ rfl ?_
       focus (simp [results, Tryz.results208, go_sem]; done)
       exact ⟨_, _, [w.heap.size + 1], _, _, [w.heap.size + 1 + 1], rfl, Chg.c, (ints_new (by first | exact heap_atd (by simp; done) | exact heap_pastd (by simp) (heap_at (by simp; done)) | exact heap_pastd (by simp) (heap_past (by simp) (heap_at (by simp; done)))) ha'.out I64_0 I64_0 I64_0).1, (ints_new (by first | exact heap_atd (by simp; done) | exact heap_pastd (by simp) (heap_at (by simp; done)) | exact heap_pastd (by simp) (heap_past (by simp) (heap_at (by simp; done)))) I64_0 I64_0 I64_0 I64_0).1, Own.append (ints_new (by first | exact heap_atd (by simp; done) | exact heap_pastd (by simp) (heap_at (by simp; done)) | exact heap_pastd (by simp) (heap_past (by simp) (heap_at (by simp; done)))) ha'.out I64_0 I64_0 I64_0).2 (ints_new (by first | exact heap_atd (by simp; done) | exact heap_pastd (by simp) (heap_at (by simp; done)) | exact heap_pastd (by simp) (heap_past (by simp) (heap_at (by simp; done)))) I64_0 I64_0 I64_0 I64_0).2 (fun b hb hb' => by have h1 := List.mem_singleton.1 hb; have h2 := List.mem_singleton.1 hb'; omega), fun g hg => by simp only [List.mem_append, List.mem_singleton] at hg; omega⟩)
    | (refine bodyPost_ret (v := .agg #[.int .i64 proc, .int .i64 0, .slice (some ⟨w.heap.size + 1, 0, none⟩) 4 4, .slice (some ⟨w.heap.size + 1 + 1 + 1, 0, none⟩) 4 4]) ?_ rfl ?_
       focus (simp [results, Tryz.results208, go_sem]; done)
       exact ⟨_, _, [w.heap.size + 1], _, _, [w.heap.size + 1 + 1 + 1], rfl, Chg.c, (ints_new (by first | exact heap_atd (by simp; done) | exact heap_pastd (by simp) (heap_at (by simp; done)) | exact heap_pastd (by simp) (heap_past (by simp) (heap_at (by simp; done)))) ha'.out I64_0 I64_0 I64_0).1, (ints_new (by first | exact heap_atd (by simp; done) | exact heap_pastd (by simp) (heap_at (by simp; done)) | exact heap_pastd (by simp) (heap_past (by simp) (heap_at (by simp; done)))) I64_0 I64_0 I64_0 I64_0).1, Own.append (ints_new (by first | exact heap_atd (by simp; done) | exact heap_pastd (by simp) (heap_at (by simp; done)) | exact heap_pastd (by simp) (heap_past (by simp) (heap_at (by simp; done)))) ha'.out I64_0 I64_0 I64_0).2 (ints_new (by first | exact heap_atd (by simp; done) | exact heap_pastd (by simp) (heap_at (by simp; done)) | exact heap_pastd (by simp) (heap_past (by simp) (heap_at (by simp; done)))) I64_0 I64_0 I64_0 I64_0).2 (fun b hb hb' => by have h1 := List.mem_singleton.1 hb; have h2 := List.mem_singleton.1 hb'; omega), fun g hg => by simp only [List.mem_append, List.mem_singleton] at hg; omega⟩)
    | (refine bodyPost_ret (v := .agg #[.int .i64 proc, .int .i64 0, .slice (some ⟨w.heap.size + 1 + 1, 0, none⟩) 4 4, .slice (some ⟨w.heap.size + 1, 0, none⟩) 4 4]) ?_ rfl ?_
       focus (simp [results, Tryz.results208, go_sem]; done)
       exact ⟨_, _, [w.heap.size + 1 + 1], _, _, [w.heap.size + 1], rfl, Chg.c, (ints_new (by first | exact heap_atd (by simp; done) | exact heap_pastd (by simp) (heap_at (by simp; done)) | exact heap_pastd (by simp) (heap_past (by simp) (heap_at (by simp; done)))) ha'.out I64_0 I64_0 I64_0).1, (ints_new (by first | exact heap_atd (by simp; done) | exact heap_pastd (by simp) (heap_at (by simp; done)) | exact heap_pastd (by simp) (heap_past (by simp) (heap_at (by simp; done)))) I64_0 I64_0 I64_0 I64_0).1, Own.append (ints_new (by first | exact heap_atd (by simp; done) | exact heap_pastd (by simp) (heap_at (by simp; done)) | exact heap_pastd (by simp) (heap_past (by simp) (heap_at (by simp; done)))) ha'.out I64_0 I64_0 I64_0).2 (ints_new (by first | exact heap_atd (by simp; done) | exact heap_pastd (by simp) (heap_at (by simp; done)) | exact heap_pastd (by simp) (heap_past (by simp) (heap_at (by simp; done)))) I64_0 I64_0 I64_0 I64_0).2 (fun b hb hb' => by have h1 := List.mem_singleton.1 hb; have h2 := List.mem_singleton.1 hb'; omega), fun g hg => by simp only [List.mem_append, List.mem_singleton] at hg; omega⟩)
    | (refine bodyPost_ret (v := .agg #[.int .i64 proc, .int .i64 0, .slice (some ⟨w.heap.size + 1 + 1, 0, none⟩) 4 4, .slice (some ⟨w.heap.size + 1 + 1 + 1, 0, none⟩) 4 4]) ?_ rfl ?_
       focus (simp [results, Tryz.results208, go_sem]; done)
       exact ⟨_, _, [w.heap.size + 1 + 1], _, _, [w.heap.size + 1 + 1 + 1], rfl, Chg.c, (ints_new (by first | exact heap_atd (by simp; done) | exact heap_pastd (by simp) (heap_at (by simp; done)) | exact heap_pastd (by simp) (heap_past (by simp) (heap_at (by simp; done)))) ha'.out I64_0 I64_0 I64_0).1, (ints_new (by first | exact heap_atd (by simp; done) | exact heap_pastd (by simp) (heap_at (by simp; done)) | exact heap_pastd (by simp) (heap_past (by simp) (heap_at (by simp; done)))) I64_0 I64_0 I64_0 I64_0).1, Own.append (ints_new (by first | exact heap_atd (by simp; done) | exact heap_pastd (by simp) (heap_at (by simp; done)) | exact heap_pastd (by simp) (heap_past (by simp) (heap_at (by simp; done)))) ha'.out I64_0 I64_0 I64_0).2 (ints_new (by first | exact heap_atd (by simp; done) | exact heap_pastd (by simp) (heap_at (by simp; done)) | exact heap_pastd (by simp) (heap_past (by simp) (heap_at (by simp; done)))) I64_0 I64_0 I64_0 I64_0).2 (fun b hb hb' => by have h1 := List.mem_singleton.1 hb; have h2 := List.mem_singleton.1 hb'; omega), fun g hg => by simp only [List.mem_append, List.mem_singleton] at hg; omega⟩)
    | (refine bodyPost_ret (v := .agg #[.int .i64 proc, .int .i64 0, .slice (some ⟨w.heap.size + 1 + 1 + 1, 0, none⟩) 4 4, .slice (some ⟨w.heap.size + 1, 0, none⟩) 4 4]) ?_ rfl ?_
       focus (simp [results, Tryz.results208, go_sem]; done)
       exact ⟨_, _, [w.heap.size + 1 + 1 + 1], _, _, [w.heap.size + 1], rfl, Chg.c, (ints_new (by first | exact heap_atd (by simp; done) | exact heap_pastd (by simp) (heap_at (by simp; done)) | exact heap_pastd (by simp) (heap_past (by simp) (heap_at (by simp; done)))) ha'.out I64_0 I64_0 I64_0).1, (ints_new (by first | exact heap_atd (by simp; done) | exact heap_pastd (by simp) (heap_at (by simp; done)) | exact heap_pastd (by simp) (heap_past (by simp) (heap_at (by simp; done)))) I64_0 I64_0 I64_0 I64_0).1, Own.append (ints_new (by first | exact heap_atd (by simp; done) | exact heap_pastd (by simp) (heap_at (by simp; done)) | exact heap_pastd (by simp) (heap_past (by simp) (heap_at (by simp; done)))) ha'.out I64_0 I64_0 I64_0).2 (ints_new (by first | exact heap_atd (by simp; done) | exact heap_pastd (by simp) (heap_at (by simp; done)) | exact heap_pastd (by simp) (heap_past (by simp) (heap_at (by simp; done)))) I64_0 I64_0 I64_0 I64_0).2 (fun b hb hb' => by have h1 := List.mem_singleton.1 hb; have h2 := List.mem_singleton.1 hb'; omega), fun g hg => by simp only [List.mem_append, List.mem_singleton] at hg; omega⟩)
    | (refine bodyPost_ret (v := .agg #[.int .i64 proc, .int .i64 0, .slice (some ⟨w.heap.size + 1 + 1 + 1, 0, none⟩) 4 4, .slice (some ⟨w.heap.size + 1 + 1, 0, none⟩) 4 4]) ?_ rfl ?_
       focus (simp [results, Tryz.results208, go_sem]; done)
       exact ⟨_, _, [w.heap.size + 1 + 1 + 1], _, _, [w.heap.size + 1 + 1], rfl, Chg.c, (ints_new (by first | exact heap_atd (by simp; done) | exact heap_pastd (by simp) (heap_at (by simp; done)) | exact heap_pastd (by simp) (heap_past (by simp) (heap_at (by simp; done)))) ha'.out I64_0 I64_0 I64_0).1, (ints_new (by first | exact heap_atd (by simp; done) | exact heap_pastd (by simp) (heap_at (by simp; done)) | exact heap_pastd (by simp) (heap_past (by simp) (heap_at (by simp; done)))) I64_0 I64_0 I64_0 I64_0).1, Own.append (ints_new (by first | exact heap_atd (by simp; done) | exact heap_pastd (by simp) (heap_at (by simp; done)) | exact heap_pastd (by simp) (heap_past (by simp) (heap_at (by simp; done)))) ha'.out I64_0 I64_0 I64_0).2 (ints_new (by first | exact heap_atd (by simp; done) | exact heap_pastd (by simp) (heap_at (by simp; done)) | exact heap_pastd (by simp) (heap_past (by simp) (heap_at (by simp; done)))) I64_0 I64_0 I64_0 I64_0).2 (fun b hb hb' => by have h1 := List.mem_singleton.1 hb; have h2 := List.mem_singleton.1 hb'; omega), fun g hg => by simp only [List.mem_append, List.mem_singleton] at hg; omega⟩)
end Go.Proofs.YtjakhnhnjhafgaaGreat.Wk
