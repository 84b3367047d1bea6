/- A part of the proof. -/
import Derived.Deep.RegionHeld3
import Derived.Test.YtjakhnhnjhafgaaGreatK03
set_option linter.unusedVariables false
set_option linter.unusedSimpArgs false
namespace Go.Proofs.YtjakhnhnjhafgaaGreat.Wk
open Go Go.RowKit Go.Deep Ow
open Rp (R sz)
theorem wp_region_quietC {P : Program} {C : World → Prop} {id : Nat} {Q : Exit → Act → World → Prop} {a : Act} {w : World} {l : List Oper} (hm : P.follows .mixedOrders = true) (hB : Region.lexB .any l.toArray = true) (hC : C w.drew)
 (h : wpQuiet P l.toArray C (fun a' => ∀ w', C w' → Q .normal a' w') l a) : (Code.region id l.toArray true).wp P Q a w :=
 wp_region_quiet (C := C) hm hB hC (by simpa using h)
section
variable {P : Program} {C : World → Prop} {a : Act} {o : Oper} {K : Act → Prop}
theorem quiet_val (v : Value) (h : ∀ w, C w → (execOp a.eval o).run P w = .ok (.value v) w) (hk : K (a.put o.dst v)) : o.quiet P a C K :=
 ⟨v, fun w hw => by unfold Oper.quietAt; rw [h w hw]; exact ⟨rfl, rfl⟩, hk⟩
theorem qV (v : Value) (h : ∀ w, C w → (execOp a.eval o).run P w = .ok (.value v) w) (hk : K (a.put o.dst v)) : o.quiet P a C K := quiet_val v h hk
theorem qF (h : ∀ w, C w → (execOp a.eval o).run P w = .ok (.value (.bool false)) w) (hk : K (a.put o.dst (.bool false))) : o.quiet P a C K := quiet_val _ h hk
theorem qT (h : ∀ w, C w → (execOp a.eval o).run P w = .ok (.value (.bool true)) w) (hk : K (a.put o.dst (.bool true))) : o.quiet P a C K := quiet_val _ h hk
theorem quiet_enter (v : Value) (f : FuncId) (args : Array Value) (h : ∀ w, C w → (execOp a.eval o).run P w = .ok (.enter f args) w) (hc : ∀ w, C w → Calls P f args w (fun e w'' => e = .returned v ∧ C w'')) (hk : K (a.put o.dst v)) : o.quiet P a C K :=
 ⟨v, fun w hw => by unfold Oper.quietAt; rw [h w hw]; exact ⟨rfl, hc w hw⟩, hk⟩
end
def InBox (w1 : World) (b : Nat) (i : InsIns) (w' : World) : Prop :=
 Chg [] w1 w' ∧ w'.cell? ⟨b, 0, none⟩ = some (.int .i64 i.Op) ∧ w'.cell? ⟨b, 1, none⟩ = some (.int .i64 i.D) ∧ w'.cell? ⟨b, 2, none⟩ = some (.int .i64 i.A) ∧ w'.cell? ⟨b, 3, none⟩ = some (.int .i64 i.B) ∧ w'.cell? ⟨b, 4, none⟩ = some (.int .i64 i.Rel) ∧ w'.cell? ⟨b, 5, none⟩ = some (.int .i64 i.Lo) ∧ w'.cell? ⟨b, 6, none⟩ = some (.int .i64 i.Hi) ∧ w'.cell? ⟨b, 7, none⟩ = some (.int .i64 i.To)
theorem InBox.q0 {w1 w' : World} {b : Nat} {i : InsIns} (h : InBox w1 b i w') : w'.cell? ⟨b, 0, none⟩ = some (.int .i64 i.Op) := h.2.1
theorem InBox.q1 {w1 w' : World} {b : Nat} {i : InsIns} (h : InBox w1 b i w') : w'.cell? ⟨b, 1, none⟩ = some (.int .i64 i.D) := h.2.2.1
theorem InBox.q2 {w1 w' : World} {b : Nat} {i : InsIns} (h : InBox w1 b i w') : w'.cell? ⟨b, 2, none⟩ = some (.int .i64 i.A) := h.2.2.2.1
theorem InBox.q3 {w1 w' : World} {b : Nat} {i : InsIns} (h : InBox w1 b i w') : w'.cell? ⟨b, 3, none⟩ = some (.int .i64 i.B) := h.2.2.2.2.1
theorem InBox.q4 {w1 w' : World} {b : Nat} {i : InsIns} (h : InBox w1 b i w') : w'.cell? ⟨b, 4, none⟩ = some (.int .i64 i.Rel) := h.2.2.2.2.2.1
theorem InBox.q5 {w1 w' : World} {b : Nat} {i : InsIns} (h : InBox w1 b i w') : w'.cell? ⟨b, 5, none⟩ = some (.int .i64 i.Lo) := h.2.2.2.2.2.2.1
theorem InBox.q6 {w1 w' : World} {b : Nat} {i : InsIns} (h : InBox w1 b i w') : w'.cell? ⟨b, 6, none⟩ = some (.int .i64 i.Hi) := h.2.2.2.2.2.2.2.1
theorem InBox.q7 {w1 w' : World} {b : Nat} {i : InsIns} (h : InBox w1 b i w') : w'.cell? ⟨b, 7, none⟩ = some (.int .i64 i.To) := h.2.2.2.2.2.2.2.2
theorem InBox.mk_ {W w1 : World} {b : Nat} {i : InsIns} (hc : Chg [] W w1) (h0 : W.cell? ⟨b, 0, none⟩ = some (.int .i64 i.Op) := by simp) (h1 : W.cell? ⟨b, 1, none⟩ = some (.int .i64 i.D) := by simp) (h2 : W.cell? ⟨b, 2, none⟩ = some (.int .i64 i.A) := by simp) (h3 : W.cell? ⟨b, 3, none⟩ = some (.int .i64 i.B) := by simp) (h4 : W.cell? ⟨b, 4, none⟩ = some (.int .i64 i.Rel) := by simp) (h5 : W.cell? ⟨b, 5, none⟩ = some (.int .i64 i.Lo) := by simp) (h6 : W.cell? ⟨b, 6, none⟩ = some (.int .i64 i.Hi) := by simp) (h7 : W.cell? ⟨b, 7, none⟩ = some (.int .i64 i.To) := by simp) : InBox w1 b i w1.drew := ⟨(Chg.refl [] w1).drew, hc.cell0 h0, hc.cell0 h1, hc.cell0 h2, hc.cell0 h3, hc.cell0 h4, hc.cell0 h5, hc.cell0 h6, hc.cell0 h7⟩
theorem InBox.chg {w1 w' w'' : World} {b : Nat} {i : InsIns} (h : InBox w1 b i w') (hc : Chg [] w' w'') : InBox w1 b i w'' :=
 ⟨h.1.trans0 hc, hc.cell0 h.2.1, hc.cell0 h.2.2.1, hc.cell0 h.2.2.2.1, hc.cell0 h.2.2.2.2.1, hc.cell0 h.2.2.2.2.2.1, hc.cell0 h.2.2.2.2.2.2.1, hc.cell0 h.2.2.2.2.2.2.2.1, hc.cell0 h.2.2.2.2.2.2.2.2⟩
set_option maxRecDepth 100000 in
set_option maxHeartbeats 2000000 in
theorem insBad_form (cv payload : Value) (fI : FuncId) (own i : InsIns) (procs size : Int) (w : World)
 (hcode : ∀ w, Calls Tryz.prog 120 #[insV i] w fun e w' => e = .returned cv ∧ Chg [] w w')
 (hnil : ∀ (ev : Operand → Value) (o : Oper) (w : World), o.op = Op.binOp BinOp.eql 161 (Operand.tmp 15) (Operand.const Value.nilIface) 161 → ev (.tmp 15) = cv → ev (.const .nilIface) = .nilIface → (execOp ev o).run Tryz.prog w = .ok (.value (.bool false)) w)
 (hinv : ∀ (ev : Operand → Value) (o : Oper) (w : World), o.op = Op.call { callee := Callee.invoke (Operand.tmp 18) "loop.example/outwork/impl.ins", args := #[], argTypes := #[] } → ev (.tmp 18) = cv → (execOp ev o).run Tryz.prog w = .ok (.enter fI #[payload]) w)
 (hins : ∀ w, Calls Tryz.prog fI #[payload] w fun e w' => e = .returned (insV own) ∧ Chg [] w w')
 (hs : insSame own i = false) : Calls Tryz.prog 55 #[insV i, .int .i64 procs, .int .i64 size] w fun e w' => e = .returned (.bool false) ∧ Chg [] w w' := by
 have hne : ∀ w, (binOp .neq 27 (insV own) (insV i)).run Tryz.prog w = .ok (.bool true) w := fun w => (neqIns own i w).trans (by rw [hs]; rfl)
 have hgd := insGuard
 go_enter Tryz.func55, Tryz.ntmps55
 go_wp2_with fail
 refine (hcode _).mono ?_
 rintro e w1 ⟨rfl, hc1⟩
 go_wp2_with fail
 refine wp_region_quietC (C := InBox w1 w.heap.size i) (by kernel_rfl) (by kernel_rfl) (InBox.mk_ hc1) ?_
 go_big_quiet_want
 refine qV (cv) (fun _ _ => by rfl) ?_
 go_big_quiet_on
 (try simp only [pS, pN, pA, pZ, pC])
 go_big_quiet_want
 refine qF (fun _ _ => by exact hnil _ _ _ rfl rfl rfl) ?_
 go_big_quiet_on
 (try simp only [pS, pN, pA, pZ, pC])
 go_big_quiet_want
 refine qF (fun _ _ => by rfl) ?_
 go_big_quiet_on
 (try simp only [pS, pN, pA, pZ, pC])
 go_big_quiet_want
 refine qV (cv) (fun _ _ => by rfl) ?_
 go_big_quiet_on
 (try simp only [pS, pN, pA, pZ, pC])
 go_big_quiet_want
 refine quiet_enter (insV own) fI #[payload] (fun wq hq => ?_) (fun wq hq => ?_) ?_
 · exact hinv _ _ _ rfl rfl
 · exact (hins wq).mono fun _ _ h => ⟨h.1, hq.chg h.2⟩
 go_big_quiet_on
 (try simp only [pS, pN, pA, pZ, pC])
 go_big_quiet_want
 refine qV (insV i) (fun wq hq => by simp [go_sem, hq.q0, hq.q1, hq.q2, hq.q3, hq.q4, hq.q5, hq.q6, hq.q7]) ?_
 go_big_quiet_on
 (try simp only [pS, pN, pA, pZ, pC])
 go_big_quiet_want
 refine qT (fun _ _ => by simp [go_sem, hne, hgd]) ?_
 go_big_quiet_on
 (try simp only [pS, pN, pA, pZ, pC])
 go_big_quiet_want
 refine qT (fun _ _ => by rfl) ?_
 go_big_quiet_on
 (try simp only [pS, pN, pA, pZ, pC])
 go_big_quiet_want
 refine qT (fun _ _ => by rfl) ?_
 go_big_quiet_on
 (try simp only [pS, pN, pA, pZ, pC])
 go_big_quiet_skip
 go_big_quiet_skip
 go_big_quiet_skip
 go_big_quiet_skip
 go_big_quiet_want
 refine qT (fun _ _ => by rfl) ?_
 go_big_quiet_on
 (try simp only [pS, pN, pA, pZ, pC])
 go_big_quiet_want
 refine qT (fun _ _ => by rfl) ?_
 go_big_quiet_on
 (try simp only [pS, pN, pA, pZ, pC])
 go_big_quiet_skip
 go_big_quiet_skip
 go_big_quiet_skip
 go_big_quiet_skip
 go_big_quiet_want
 refine qT (fun _ _ => by rfl) ?_
 go_big_quiet_on
 (try simp only [pS, pN, pA, pZ, pC])
 go_big_quiet_want
 refine qT (fun _ _ => by rfl) ?_
 go_big_quiet_on
 (try simp only [pS, pN, pA, pZ, pC])
 go_big_quiet_skip
 go_big_quiet_skip
 go_big_quiet_skip
 go_big_quiet_skip
 go_big_quiet_want
 refine qT (fun _ _ => by rfl) ?_
 go_big_quiet_on
 (try simp only [pS, pN, pA, pZ, pC])
 refine wpQuiet_nil (fun w2 hq => ?_)
 have hq1 := hq.1
 clear hq
 go_wp2
 go_ret
 exact ⟨rfl, by repeat (with_reducible first | exact Chg.refl _ _ | assumption | refine Chg.trans0 ?_ hq1 | refine Chg.trans0 ?_ hc1 | refine Chg.alloc ?_ _)⟩
set_option maxRecDepth 100000 in
set_option maxHeartbeats 2000000 in
theorem insBad_D (cv payload : Value) (fI : FuncId) (own i : InsIns) (procs size : Int) (w : World)
 (hcode : ∀ w, Calls Tryz.prog 120 #[insV i] w fun e w' => e = .returned cv ∧ Chg [] w w')
 (hnil : ∀ (ev : Operand → Value) (o : Oper) (w : World), o.op = Op.binOp BinOp.eql 161 (Operand.tmp 15) (Operand.const Value.nilIface) 161 → ev (.tmp 15) = cv → ev (.const .nilIface) = .nilIface → (execOp ev o).run Tryz.prog w = .ok (.value (.bool false)) w)
 (hinv : ∀ (ev : Operand → Value) (o : Oper) (w : World), o.op = Op.call { callee := Callee.invoke (Operand.tmp 18) "loop.example/outwork/impl.ins", args := #[], argTypes := #[] } → ev (.tmp 18) = cv → (execOp ev o).run Tryz.prog w = .ok (.enter fI #[payload]) w)
 (hins : ∀ w, Calls Tryz.prog fI #[payload] w fun e w' => e = .returned (insV own) ∧ Chg [] w w')
 (hs : insSame own i = true) (hd : varOk i.D = false) : Calls Tryz.prog 55 #[insV i, .int .i64 procs, .int .i64 size] w fun e w' => e = .returned (.bool false) ∧ Chg [] w w' := by
 have hne : ∀ w, (binOp .neq 27 (insV own) (insV i)).run Tryz.prog w = .ok (.bool false) w := fun w => (neqIns own i w).trans (by rw [hs]; rfl)
 have hgd := insGuard
 go_enter Tryz.func55, Tryz.ntmps55
 go_wp2_with fail
 refine (hcode _).mono ?_
 rintro e w1 ⟨rfl, hc1⟩
 go_wp2_with fail
 refine wp_region_quietC (C := InBox w1 w.heap.size i) (by kernel_rfl) (by kernel_rfl) (InBox.mk_ hc1) ?_
 go_big_quiet_want
 refine qV (cv) (fun _ _ => by rfl) ?_
 go_big_quiet_on
 (try simp only [pS, pN, pA, pZ, pC])
 go_big_quiet_want
 refine qF (fun _ _ => by exact hnil _ _ _ rfl rfl rfl) ?_
 go_big_quiet_on
 (try simp only [pS, pN, pA, pZ, pC])
 go_big_quiet_want
 refine qF (fun _ _ => by rfl) ?_
 go_big_quiet_on
 (try simp only [pS, pN, pA, pZ, pC])
 go_big_quiet_want
 refine qV (cv) (fun _ _ => by rfl) ?_
 go_big_quiet_on
 (try simp only [pS, pN, pA, pZ, pC])
 go_big_quiet_want
 refine quiet_enter (insV own) fI #[payload] (fun wq hq => ?_) (fun wq hq => ?_) ?_
 · exact hinv _ _ _ rfl rfl
 · exact (hins wq).mono fun _ _ h => ⟨h.1, hq.chg h.2⟩
 go_big_quiet_on
 (try simp only [pS, pN, pA, pZ, pC])
 go_big_quiet_want
 refine qV (insV i) (fun wq hq => by simp [go_sem, hq.q0, hq.q1, hq.q2, hq.q3, hq.q4, hq.q5, hq.q6, hq.q7]) ?_
 go_big_quiet_on
 (try simp only [pS, pN, pA, pZ, pC])
 go_big_quiet_want
 refine qF (fun _ _ => by simp [go_sem, hne, hgd]) ?_
 go_big_quiet_on
 (try simp only [pS, pN, pA, pZ, pC])
 go_big_quiet_want
 refine qF (fun _ _ => by rfl) ?_
 go_big_quiet_on
 (try simp only [pS, pN, pA, pZ, pC])
 go_big_quiet_want
 refine qF (fun _ _ => by rfl) ?_
 go_big_quiet_on
 (try simp only [pS, pN, pA, pZ, pC])
 go_big_quiet_want
 refine qV (.pointer (some ⟨w.heap.size, 1, none⟩)) (fun _ _ => by first | rfl | simp [go_sem]) ?_
 go_big_quiet_on
 (try simp only [pS, pN, pA, pZ, pC])
 go_big_quiet_want
 refine qV (.int .i64 i.D) (fun wq hq => by simp [go_sem, hq.q1]) ?_
 go_big_quiet_on
 (try simp only [pS, pN, pA, pZ, pC])
 go_big_quiet_want
 refine quiet_enter (.bool (varOk i.D)) 121 #[.int .i64 i.D] (fun wq hq => ?_) (fun wq hq => ?_) ?_
 · simp [go_sem]
 · exact (implIsVar_c _ _).mono fun _ _ h => ⟨h.1, h.2 ▸ hq⟩
 go_big_quiet_on
 (try simp only [pS, pN, pA, pZ, pC])
 go_big_quiet_want
 refine qT (fun _ _ => by simp [go_sem, hd]) ?_
 go_big_quiet_on
 (try simp only [pS, pN, pA, pZ, pC])
 go_big_quiet_want
 refine qT (fun _ _ => by rfl) ?_
 go_big_quiet_on
 (try simp only [pS, pN, pA, pZ, pC])
 go_big_quiet_want
 refine qT (fun _ _ => by rfl) ?_
 go_big_quiet_on
 (try simp only [pS, pN, pA, pZ, pC])
 go_big_quiet_skip
 go_big_quiet_skip
 go_big_quiet_skip
 go_big_quiet_skip
 go_big_quiet_want
 refine qT (fun _ _ => by rfl) ?_
 go_big_quiet_on
 (try simp only [pS, pN, pA, pZ, pC])
 go_big_quiet_want
 refine qT (fun _ _ => by rfl) ?_
 go_big_quiet_on
 (try simp only [pS, pN, pA, pZ, pC])
 go_big_quiet_skip
 go_big_quiet_skip
 go_big_quiet_skip
 go_big_quiet_skip
 go_big_quiet_want
 refine qT (fun _ _ => by rfl) ?_
 go_big_quiet_on
 (try simp only [pS, pN, pA, pZ, pC])
 refine wpQuiet_nil (fun w2 hq => ?_)
 have hq1 := hq.1
 clear hq
 go_wp2
 go_ret
 exact ⟨rfl, by repeat (with_reducible first | exact Chg.refl _ _ | assumption | refine Chg.trans0 ?_ hq1 | refine Chg.trans0 ?_ hc1 | refine Chg.alloc ?_ _)⟩
set_option maxRecDepth 100000 in
set_option maxHeartbeats 2000000 in
theorem insBad_A (cv payload : Value) (fI : FuncId) (own i : InsIns) (procs size : Int) (w : World)
 (hcode : ∀ w, Calls Tryz.prog 120 #[insV i] w fun e w' => e = .returned cv ∧ Chg [] w w')
 (hnil : ∀ (ev : Operand → Value) (o : Oper) (w : World), o.op = Op.binOp BinOp.eql 161 (Operand.tmp 15) (Operand.const Value.nilIface) 161 → ev (.tmp 15) = cv → ev (.const .nilIface) = .nilIface → (execOp ev o).run Tryz.prog w = .ok (.value (.bool false)) w)
 (hinv : ∀ (ev : Operand → Value) (o : Oper) (w : World), o.op = Op.call { callee := Callee.invoke (Operand.tmp 18) "loop.example/outwork/impl.ins", args := #[], argTypes := #[] } → ev (.tmp 18) = cv → (execOp ev o).run Tryz.prog w = .ok (.enter fI #[payload]) w)
 (hins : ∀ w, Calls Tryz.prog fI #[payload] w fun e w' => e = .returned (insV own) ∧ Chg [] w w')
 (hs : insSame own i = true) (hd : varOk i.D = true) (ha : varOk i.A = false) : Calls Tryz.prog 55 #[insV i, .int .i64 procs, .int .i64 size] w fun e w' => e = .returned (.bool false) ∧ Chg [] w w' := by
 have hne : ∀ w, (binOp .neq 27 (insV own) (insV i)).run Tryz.prog w = .ok (.bool false) w := fun w => (neqIns own i w).trans (by rw [hs]; rfl)
 have hgd := insGuard
 go_enter Tryz.func55, Tryz.ntmps55
 go_wp2_with fail
 refine (hcode _).mono ?_
 rintro e w1 ⟨rfl, hc1⟩
 go_wp2_with fail
 refine wp_region_quietC (C := InBox w1 w.heap.size i) (by kernel_rfl) (by kernel_rfl) (InBox.mk_ hc1) ?_
 go_big_quiet_want
 refine qV (cv) (fun _ _ => by rfl) ?_
 go_big_quiet_on
 (try simp only [pS, pN, pA, pZ, pC])
 go_big_quiet_want
 refine qF (fun _ _ => by exact hnil _ _ _ rfl rfl rfl) ?_
 go_big_quiet_on
 (try simp only [pS, pN, pA, pZ, pC])
 go_big_quiet_want
 refine qF (fun _ _ => by rfl) ?_
 go_big_quiet_on
 (try simp only [pS, pN, pA, pZ, pC])
 go_big_quiet_want
 refine qV (cv) (fun _ _ => by rfl) ?_
 go_big_quiet_on
 (try simp only [pS, pN, pA, pZ, pC])
 go_big_quiet_want
 refine quiet_enter (insV own) fI #[payload] (fun wq hq => ?_) (fun wq hq => ?_) ?_
 · exact hinv _ _ _ rfl rfl
 · exact (hins wq).mono fun _ _ h => ⟨h.1, hq.chg h.2⟩
 go_big_quiet_on
 (try simp only [pS, pN, pA, pZ, pC])
 go_big_quiet_want
 refine qV (insV i) (fun wq hq => by simp [go_sem, hq.q0, hq.q1, hq.q2, hq.q3, hq.q4, hq.q5, hq.q6, hq.q7]) ?_
 go_big_quiet_on
 (try simp only [pS, pN, pA, pZ, pC])
 go_big_quiet_want
 refine qF (fun _ _ => by simp [go_sem, hne, hgd]) ?_
 go_big_quiet_on
 (try simp only [pS, pN, pA, pZ, pC])
 go_big_quiet_want
 refine qF (fun _ _ => by rfl) ?_
 go_big_quiet_on
 (try simp only [pS, pN, pA, pZ, pC])
 go_big_quiet_want
 refine qF (fun _ _ => by rfl) ?_
 go_big_quiet_on
 (try simp only [pS, pN, pA, pZ, pC])
 go_big_quiet_want
 refine qV (.pointer (some ⟨w.heap.size, 1, none⟩)) (fun _ _ => by first | rfl | simp [go_sem]) ?_
 go_big_quiet_on
 (try simp only [pS, pN, pA, pZ, pC])
 go_big_quiet_want
 refine qV (.int .i64 i.D) (fun wq hq => by simp [go_sem, hq.q1]) ?_
 go_big_quiet_on
 (try simp only [pS, pN, pA, pZ, pC])
 go_big_quiet_want
 refine quiet_enter (.bool (varOk i.D)) 121 #[.int .i64 i.D] (fun wq hq => ?_) (fun wq hq => ?_) ?_
 · simp [go_sem]
 · exact (implIsVar_c _ _).mono fun _ _ h => ⟨h.1, h.2 ▸ hq⟩
 go_big_quiet_on
 (try simp only [pS, pN, pA, pZ, pC])
 go_big_quiet_want
 refine qF (fun _ _ => by simp [go_sem, hd]) ?_
 go_big_quiet_on
 (try simp only [pS, pN, pA, pZ, pC])
 go_big_quiet_want
 refine qF (fun _ _ => by rfl) ?_
 go_big_quiet_on
 (try simp only [pS, pN, pA, pZ, pC])
 go_big_quiet_want
 refine qF (fun _ _ => by rfl) ?_
 go_big_quiet_on
 (try simp only [pS, pN, pA, pZ, pC])
 go_big_quiet_want
 refine qV (.pointer (some ⟨w.heap.size, 2, none⟩)) (fun _ _ => by first | rfl | simp [go_sem]) ?_
 go_big_quiet_on
 (try simp only [pS, pN, pA, pZ, pC])
 go_big_quiet_want
 refine qV (.int .i64 i.A) (fun wq hq => by simp [go_sem, hq.q2]) ?_
 go_big_quiet_on
 (try simp only [pS, pN, pA, pZ, pC])
 go_big_quiet_want
 refine quiet_enter (.bool (varOk i.A)) 121 #[.int .i64 i.A] (fun wq hq => ?_) (fun wq hq => ?_) ?_
 · simp [go_sem]
 · exact (implIsVar_c _ _).mono fun _ _ h => ⟨h.1, h.2 ▸ hq⟩
 go_big_quiet_on
 (try simp only [pS, pN, pA, pZ, pC])
 go_big_quiet_want
 refine qT (fun _ _ => by simp [go_sem, ha]) ?_
 go_big_quiet_on
 (try simp only [pS, pN, pA, pZ, pC])
 go_big_quiet_want
 refine qT (fun _ _ => by rfl) ?_
 go_big_quiet_on
 (try simp only [pS, pN, pA, pZ, pC])
 go_big_quiet_want
 refine qT (fun _ _ => by rfl) ?_
 go_big_quiet_on
 (try simp only [pS, pN, pA, pZ, pC])
 go_big_quiet_skip
 go_big_quiet_skip
 go_big_quiet_skip
 go_big_quiet_skip
 go_big_quiet_want
 refine qT (fun _ _ => by rfl) ?_
 go_big_quiet_on
 (try simp only [pS, pN, pA, pZ, pC])
 refine wpQuiet_nil (fun w2 hq => ?_)
 have hq1 := hq.1
 clear hq
 go_wp2
 go_ret
 exact ⟨rfl, by repeat (with_reducible first | exact Chg.refl _ _ | assumption | refine Chg.trans0 ?_ hq1 | refine Chg.trans0 ?_ hc1 | refine Chg.alloc ?_ _)⟩
set_option maxRecDepth 100000 in
set_option maxHeartbeats 2000000 in
theorem insBad_B (cv payload : Value) (fI : FuncId) (own i : InsIns) (procs size : Int) (w : World)
 (hcode : ∀ w, Calls Tryz.prog 120 #[insV i] w fun e w' => e = .returned cv ∧ Chg [] w w')
 (hnil : ∀ (ev : Operand → Value) (o : Oper) (w : World), o.op = Op.binOp BinOp.eql 161 (Operand.tmp 15) (Operand.const Value.nilIface) 161 → ev (.tmp 15) = cv → ev (.const .nilIface) = .nilIface → (execOp ev o).run Tryz.prog w = .ok (.value (.bool false)) w)
 (hinv : ∀ (ev : Operand → Value) (o : Oper) (w : World), o.op = Op.call { callee := Callee.invoke (Operand.tmp 18) "loop.example/outwork/impl.ins", args := #[], argTypes := #[] } → ev (.tmp 18) = cv → (execOp ev o).run Tryz.prog w = .ok (.enter fI #[payload]) w)
 (hins : ∀ w, Calls Tryz.prog fI #[payload] w fun e w' => e = .returned (insV own) ∧ Chg [] w w')
 (hs : insSame own i = true) (hd : varOk i.D = true) (ha : varOk i.A = true) (hb : varOk i.B = false) : Calls Tryz.prog 55 #[insV i, .int .i64 procs, .int .i64 size] w fun e w' => e = .returned (.bool false) ∧ Chg [] w w' := by
 have hne : ∀ w, (binOp .neq 27 (insV own) (insV i)).run Tryz.prog w = .ok (.bool false) w := fun w => (neqIns own i w).trans (by rw [hs]; rfl)
 have hgd := insGuard
 go_enter Tryz.func55, Tryz.ntmps55
 go_wp2_with fail
 refine (hcode _).mono ?_
 rintro e w1 ⟨rfl, hc1⟩
 go_wp2_with fail
 refine wp_region_quietC (C := InBox w1 w.heap.size i) (by kernel_rfl) (by kernel_rfl) (InBox.mk_ hc1) ?_
 go_big_quiet_want
 refine qV (cv) (fun _ _ => by rfl) ?_
 go_big_quiet_on
 (try simp only [pS, pN, pA, pZ, pC])
 go_big_quiet_want
 refine qF (fun _ _ => by exact hnil _ _ _ rfl rfl rfl) ?_
 go_big_quiet_on
 (try simp only [pS, pN, pA, pZ, pC])
 go_big_quiet_want
 refine qF (fun _ _ => by rfl) ?_
 go_big_quiet_on
 (try simp only [pS, pN, pA, pZ, pC])
 go_big_quiet_want
 refine qV (cv) (fun _ _ => by rfl) ?_
 go_big_quiet_on
 (try simp only [pS, pN, pA, pZ, pC])
 go_big_quiet_want
 refine quiet_enter (insV own) fI #[payload] (fun wq hq => ?_) (fun wq hq => ?_) ?_
 · exact hinv _ _ _ rfl rfl
 · exact (hins wq).mono fun _ _ h => ⟨h.1, hq.chg h.2⟩
 go_big_quiet_on
 (try simp only [pS, pN, pA, pZ, pC])
 go_big_quiet_want
 refine qV (insV i) (fun wq hq => by simp [go_sem, hq.q0, hq.q1, hq.q2, hq.q3, hq.q4, hq.q5, hq.q6, hq.q7]) ?_
 go_big_quiet_on
 (try simp only [pS, pN, pA, pZ, pC])
 go_big_quiet_want
 refine qF (fun _ _ => by simp [go_sem, hne, hgd]) ?_
 go_big_quiet_on
 (try simp only [pS, pN, pA, pZ, pC])
 go_big_quiet_want
 refine qF (fun _ _ => by rfl) ?_
 go_big_quiet_on
 (try simp only [pS, pN, pA, pZ, pC])
 go_big_quiet_want
 refine qF (fun _ _ => by rfl) ?_
 go_big_quiet_on
 (try simp only [pS, pN, pA, pZ, pC])
 go_big_quiet_want
 refine qV (.pointer (some ⟨w.heap.size, 1, none⟩)) (fun _ _ => by first | rfl | simp [go_sem]) ?_
 go_big_quiet_on
 (try simp only [pS, pN, pA, pZ, pC])
 go_big_quiet_want
 refine qV (.int .i64 i.D) (fun wq hq => by simp [go_sem, hq.q1]) ?_
 go_big_quiet_on
 (try simp only [pS, pN, pA, pZ, pC])
 go_big_quiet_want
 refine quiet_enter (.bool (varOk i.D)) 121 #[.int .i64 i.D] (fun wq hq => ?_) (fun wq hq => ?_) ?_
 · simp [go_sem]
 · exact (implIsVar_c _ _).mono fun _ _ h => ⟨h.1, h.2 ▸ hq⟩
 go_big_quiet_on
 (try simp only [pS, pN, pA, pZ, pC])
 go_big_quiet_want
 refine qF (fun _ _ => by simp [go_sem, hd]) ?_
 go_big_quiet_on
 (try simp only [pS, pN, pA, pZ, pC])
 go_big_quiet_want
 refine qF (fun _ _ => by rfl) ?_
 go_big_quiet_on
 (try simp only [pS, pN, pA, pZ, pC])
 go_big_quiet_want
 refine qF (fun _ _ => by rfl) ?_
 go_big_quiet_on
 (try simp only [pS, pN, pA, pZ, pC])
 go_big_quiet_want
 refine qV (.pointer (some ⟨w.heap.size, 2, none⟩)) (fun _ _ => by first | rfl | simp [go_sem]) ?_
 go_big_quiet_on
 (try simp only [pS, pN, pA, pZ, pC])
 go_big_quiet_want
 refine qV (.int .i64 i.A) (fun wq hq => by simp [go_sem, hq.q2]) ?_
 go_big_quiet_on
 (try simp only [pS, pN, pA, pZ, pC])
 go_big_quiet_want
 refine quiet_enter (.bool (varOk i.A)) 121 #[.int .i64 i.A] (fun wq hq => ?_) (fun wq hq => ?_) ?_
 · simp [go_sem]
 · exact (implIsVar_c _ _).mono fun _ _ h => ⟨h.1, h.2 ▸ hq⟩
 go_big_quiet_on
 (try simp only [pS, pN, pA, pZ, pC])
 go_big_quiet_want
 refine qF (fun _ _ => by simp [go_sem, ha]) ?_
 go_big_quiet_on
 (try simp only [pS, pN, pA, pZ, pC])
 go_big_quiet_want
 refine qF (fun _ _ => by rfl) ?_
 go_big_quiet_on
 (try simp only [pS, pN, pA, pZ, pC])
 go_big_quiet_want
 refine qF (fun _ _ => by rfl) ?_
 go_big_quiet_on
 (try simp only [pS, pN, pA, pZ, pC])
 go_big_quiet_want
 refine qV (.pointer (some ⟨w.heap.size, 3, none⟩)) (fun _ _ => by first | rfl | simp [go_sem]) ?_
 go_big_quiet_on
 (try simp only [pS, pN, pA, pZ, pC])
 go_big_quiet_want
 refine qV (.int .i64 i.B) (fun wq hq => by simp [go_sem, hq.q3]) ?_
 go_big_quiet_on
 (try simp only [pS, pN, pA, pZ, pC])
 go_big_quiet_want
 refine quiet_enter (.bool (varOk i.B)) 121 #[.int .i64 i.B] (fun wq hq => ?_) (fun wq hq => ?_) ?_
 · simp [go_sem]
 · exact (implIsVar_c _ _).mono fun _ _ h => ⟨h.1, h.2 ▸ hq⟩
 go_big_quiet_on
 (try simp only [pS, pN, pA, pZ, pC])
 go_big_quiet_want
 refine qT (fun _ _ => by simp [go_sem, hb]) ?_
 go_big_quiet_on
 (try simp only [pS, pN, pA, pZ, pC])
 go_big_quiet_want
 refine qT (fun _ _ => by rfl) ?_
 go_big_quiet_on
 (try simp only [pS, pN, pA, pZ, pC])
 refine wpQuiet_nil (fun w2 hq => ?_)
 have hq1 := hq.1
 clear hq
 go_wp2
 go_ret
 exact ⟨rfl, by repeat (with_reducible first | exact Chg.refl _ _ | assumption | refine Chg.trans0 ?_ hq1 | refine Chg.trans0 ?_ hc1 | refine Chg.alloc ?_ _)⟩
end Go.Proofs.YtjakhnhnjhafgaaGreat.Wk
