/- A part of the proof. -/
import Derived.Test.YtjakhnhnjhafgaaGreatK04
set_option linter.unusedVariables false
set_option linter.unusedSimpArgs false
namespace Go.Proofs.YtjakhnhnjhafgaaGreat.Wk
open Go Go.RowKit Go.Deep Ow
open Rp (R sz)
theorem nilOf_arith (i : InsIns) (ev : Operand → Value) (o : Oper) (w : World) (h1 : o.op = Op.binOp BinOp.eql 161 (Operand.tmp 15) (Operand.const Value.nilIface) 161) (h2 : ev (.tmp 15) = (.iface 175 (.agg #[.int .i64 i.Op, .int .i64 i.D, .int .i64 i.A, .int .i64 i.B]))) (h3 : ev (.const .nilIface) = .nilIface) : (execOp ev o).run Tryz.prog w = .ok (.value (.bool false)) w := by
 unfold execOp
 simp [h1, h2, h3, go_sem]
theorem invOf_arith (i : InsIns) (ev : Operand → Value) (o : Oper) (w : World) (h1 : o.op = Op.call { callee := Callee.invoke (Operand.tmp 18) "loop.example/outwork/impl.ins", args := #[], argTypes := #[] }) (h2 : ev (.tmp 18) = (.iface 175 (.agg #[.int .i64 i.Op, .int .i64 i.D, .int .i64 i.A, .int .i64 i.B]))) : (execOp ev o).run Tryz.prog w = .ok (.enter 247 #[.agg #[.int .i64 i.Op, .int .i64 i.D, .int .i64 i.A, .int .i64 i.B]]) w := by
 unfold execOp
 simp [h1, h2, go_sem]
 kernel_rfl
theorem nilOf_any (i : InsIns) (ev : Operand → Value) (o : Oper) (w : World) (h1 : o.op = Op.binOp BinOp.eql 161 (Operand.tmp 15) (Operand.const Value.nilIface) 161) (h2 : ev (.tmp 15) = (.iface 165 (.agg #[.int .i64 i.D, .int .i64 i.Lo, .int .i64 i.Hi]))) (h3 : ev (.const .nilIface) = .nilIface) : (execOp ev o).run Tryz.prog w = .ok (.value (.bool false)) w := by
 unfold execOp
 simp [h1, h2, h3, go_sem]
theorem invOf_any (i : InsIns) (ev : Operand → Value) (o : Oper) (w : World) (h1 : o.op = Op.call { callee := Callee.invoke (Operand.tmp 18) "loop.example/outwork/impl.ins", args := #[], argTypes := #[] }) (h2 : ev (.tmp 18) = (.iface 165 (.agg #[.int .i64 i.D, .int .i64 i.Lo, .int .i64 i.Hi]))) : (execOp ev o).run Tryz.prog w = .ok (.enter 242 #[.agg #[.int .i64 i.D, .int .i64 i.Lo, .int .i64 i.Hi]]) w := by
 unfold execOp
 simp [h1, h2, go_sem]
 kernel_rfl
theorem nilOf_load (i : InsIns) (ev : Operand → Value) (o : Oper) (w : World) (h1 : o.op = Op.binOp BinOp.eql 161 (Operand.tmp 15) (Operand.const Value.nilIface) 161) (h2 : ev (.tmp 15) = (.iface 177 (.agg #[.int .i64 i.D, .int .i64 i.A]))) (h3 : ev (.const .nilIface) = .nilIface) : (execOp ev o).run Tryz.prog w = .ok (.value (.bool false)) w := by
 unfold execOp
 simp [h1, h2, h3, go_sem]
theorem invOf_load (i : InsIns) (ev : Operand → Value) (o : Oper) (w : World) (h1 : o.op = Op.call { callee := Callee.invoke (Operand.tmp 18) "loop.example/outwork/impl.ins", args := #[], argTypes := #[] }) (h2 : ev (.tmp 18) = (.iface 177 (.agg #[.int .i64 i.D, .int .i64 i.A]))) : (execOp ev o).run Tryz.prog w = .ok (.enter 248 #[.agg #[.int .i64 i.D, .int .i64 i.A]]) w := by
 unfold execOp
 simp [h1, h2, go_sem]
 kernel_rfl
theorem nilOf_store (i : InsIns) (ev : Operand → Value) (o : Oper) (w : World) (h1 : o.op = Op.binOp BinOp.eql 161 (Operand.tmp 15) (Operand.const Value.nilIface) 161) (h2 : ev (.tmp 15) = (.iface 179 (.agg #[.int .i64 i.A, .int .i64 i.B]))) (h3 : ev (.const .nilIface) = .nilIface) : (execOp ev o).run Tryz.prog w = .ok (.value (.bool false)) w := by
 unfold execOp
 simp [h1, h2, h3, go_sem]
theorem invOf_store (i : InsIns) (ev : Operand → Value) (o : Oper) (w : World) (h1 : o.op = Op.call { callee := Callee.invoke (Operand.tmp 18) "loop.example/outwork/impl.ins", args := #[], argTypes := #[] }) (h2 : ev (.tmp 18) = (.iface 179 (.agg #[.int .i64 i.A, .int .i64 i.B]))) : (execOp ev o).run Tryz.prog w = .ok (.enter 249 #[.agg #[.int .i64 i.A, .int .i64 i.B]]) w := by
 unfold execOp
 simp [h1, h2, go_sem]
 kernel_rfl
theorem nilOf_if (i : InsIns) (ev : Operand → Value) (o : Oper) (w : World) (h1 : o.op = Op.binOp BinOp.eql 161 (Operand.tmp 15) (Operand.const Value.nilIface) 161) (h2 : ev (.tmp 15) = (.iface 167 (.agg #[.int .i64 i.Rel, .int .i64 i.A, .int .i64 i.B, .int .i64 i.To]))) (h3 : ev (.const .nilIface) = .nilIface) : (execOp ev o).run Tryz.prog w = .ok (.value (.bool false)) w := by
 unfold execOp
 simp [h1, h2, h3, go_sem]
theorem invOf_if (i : InsIns) (ev : Operand → Value) (o : Oper) (w : World) (h1 : o.op = Op.call { callee := Callee.invoke (Operand.tmp 18) "loop.example/outwork/impl.ins", args := #[], argTypes := #[] }) (h2 : ev (.tmp 18) = (.iface 167 (.agg #[.int .i64 i.Rel, .int .i64 i.A, .int .i64 i.B, .int .i64 i.To]))) : (execOp ev o).run Tryz.prog w = .ok (.enter 243 #[.agg #[.int .i64 i.Rel, .int .i64 i.A, .int .i64 i.B, .int .i64 i.To]]) w := by
 unfold execOp
 simp [h1, h2, go_sem]
 kernel_rfl
theorem nilOf_jump (i : InsIns) (ev : Operand → Value) (o : Oper) (w : World) (h1 : o.op = Op.binOp BinOp.eql 161 (Operand.tmp 15) (Operand.const Value.nilIface) 161) (h2 : ev (.tmp 15) = (.iface 169 (.agg #[.int .i64 i.To]))) (h3 : ev (.const .nilIface) = .nilIface) : (execOp ev o).run Tryz.prog w = .ok (.value (.bool false)) w := by
 unfold execOp
 simp [h1, h2, h3, go_sem]
theorem invOf_jump (i : InsIns) (ev : Operand → Value) (o : Oper) (w : World) (h1 : o.op = Op.call { callee := Callee.invoke (Operand.tmp 18) "loop.example/outwork/impl.ins", args := #[], argTypes := #[] }) (h2 : ev (.tmp 18) = (.iface 169 (.agg #[.int .i64 i.To]))) : (execOp ev o).run Tryz.prog w = .ok (.enter 244 #[.agg #[.int .i64 i.To]]) w := by
 unfold execOp
 simp [h1, h2, go_sem]
 kernel_rfl
theorem nilOf_call (i : InsIns) (ev : Operand → Value) (o : Oper) (w : World) (h1 : o.op = Op.binOp BinOp.eql 161 (Operand.tmp 15) (Operand.const Value.nilIface) 161) (h2 : ev (.tmp 15) = (.iface 171 (.agg #[.int .i64 i.D, .int .i64 i.A, .int .i64 i.To]))) (h3 : ev (.const .nilIface) = .nilIface) : (execOp ev o).run Tryz.prog w = .ok (.value (.bool false)) w := by
 unfold execOp
 simp [h1, h2, h3, go_sem]
theorem invOf_call (i : InsIns) (ev : Operand → Value) (o : Oper) (w : World) (h1 : o.op = Op.call { callee := Callee.invoke (Operand.tmp 18) "loop.example/outwork/impl.ins", args := #[], argTypes := #[] }) (h2 : ev (.tmp 18) = (.iface 171 (.agg #[.int .i64 i.D, .int .i64 i.A, .int .i64 i.To]))) : (execOp ev o).run Tryz.prog w = .ok (.enter 245 #[.agg #[.int .i64 i.D, .int .i64 i.A, .int .i64 i.To]]) w := by
 unfold execOp
 simp [h1, h2, go_sem]
 kernel_rfl
theorem nilOf_assert (i : InsIns) (ev : Operand → Value) (o : Oper) (w : World) (h1 : o.op = Op.binOp BinOp.eql 161 (Operand.tmp 15) (Operand.const Value.nilIface) 161) (h2 : ev (.tmp 15) = (.iface 173 (.agg #[.int .i64 i.Rel, .int .i64 i.A, .int .i64 i.B]))) (h3 : ev (.const .nilIface) = .nilIface) : (execOp ev o).run Tryz.prog w = .ok (.value (.bool false)) w := by
 unfold execOp
 simp [h1, h2, h3, go_sem]
theorem invOf_assert (i : InsIns) (ev : Operand → Value) (o : Oper) (w : World) (h1 : o.op = Op.call { callee := Callee.invoke (Operand.tmp 18) "loop.example/outwork/impl.ins", args := #[], argTypes := #[] }) (h2 : ev (.tmp 18) = (.iface 173 (.agg #[.int .i64 i.Rel, .int .i64 i.A, .int .i64 i.B]))) : (execOp ev o).run Tryz.prog w = .ok (.enter 246 #[.agg #[.int .i64 i.Rel, .int .i64 i.A, .int .i64 i.B]]) w := by
 unfold execOp
 simp [h1, h2, go_sem]
 kernel_rfl
theorem nilOf_ret (i : InsIns) (ev : Operand → Value) (o : Oper) (w : World) (h1 : o.op = Op.binOp BinOp.eql 161 (Operand.tmp 15) (Operand.const Value.nilIface) 161) (h2 : ev (.tmp 15) = (.iface 208 (.agg #[.int .i64 i.A]))) (h3 : ev (.const .nilIface) = .nilIface) : (execOp ev o).run Tryz.prog w = .ok (.value (.bool false)) w := by
 unfold execOp
 simp [h1, h2, h3, go_sem]
theorem invOf_ret (i : InsIns) (ev : Operand → Value) (o : Oper) (w : World) (h1 : o.op = Op.call { callee := Callee.invoke (Operand.tmp 18) "loop.example/outwork/impl.ins", args := #[], argTypes := #[] }) (h2 : ev (.tmp 18) = (.iface 208 (.agg #[.int .i64 i.A]))) : (execOp ev o).run Tryz.prog w = .ok (.enter 250 #[.agg #[.int .i64 i.A]]) w := by
 unfold execOp
 simp [h1, h2, go_sem]
 kernel_rfl
set_option maxRecDepth 100000 in
set_option maxHeartbeats 2000000 in
theorem insNil_c (i : InsIns) (procs size : Int) (w : World) (h : i.Op < 1 ∨ 12 < i.Op) : Calls Tryz.prog 55 #[insV i, .int .i64 procs, .int .i64 size] w fun e w' => e = .returned (.bool false) ∧ Chg [] w w' := by
 have hnil : ∀ (ev : Operand → Value) (o : Oper) (w : World), o.op = Op.binOp BinOp.eql 161 (Operand.tmp 15) (Operand.const Value.nilIface) 161 → ev (.tmp 15) = .nilIface → ev (.const .nilIface) = .nilIface → (execOp ev o).run Tryz.prog w = .ok (.value (.bool true)) w := by
  intro ev o w h1 h2 h3
  unfold execOp
  simp [h1, h2, h3, go_sem]
 go_enter Tryz.func55, Tryz.ntmps55
 go_wp2_with fail
 refine (codeOfNil_c i _ h).mono ?_
 rintro e w1 ⟨rfl, hc1⟩
 clear h
 go_wp2_with fail
 refine wp_region_quietC (C := InBox w1 w.heap.size i) (by kernel_rfl) (by kernel_rfl) (InBox.mk_ hc1) ?_
 go_big_quiet_want
 refine qV (.nilIface) (fun _ _ => by rfl) ?_
 go_big_quiet_on
 (try simp only [pS, pN, pA, pZ, pC])
 go_big_quiet_want
 refine qT (fun _ _ => by exact hnil _ _ _ rfl rfl rfl) ?_
 go_big_quiet_on
 (try simp only [pS, pN, pA, pZ, pC])
 go_big_quiet_want
 refine qT (fun _ _ => by rfl) ?_
 go_big_quiet_on
 (try simp only [pS, pN, pA, pZ, pC])
 go_big_quiet_skip
 go_big_quiet_skip
 go_big_quiet_skip
 go_big_quiet_skip
 go_big_quiet_want
 refine qT (fun _ _ => by rfl) ?_
 go_big_quiet_on
 (try simp only [pS, pN, pA, pZ, pC])
 go_big_quiet_want
 refine qT (fun _ _ => by rfl) ?_
 go_big_quiet_on
 (try simp only [pS, pN, pA, pZ, pC])
 go_big_quiet_skip
 go_big_quiet_skip
 go_big_quiet_skip
 go_big_quiet_skip
 go_big_quiet_want
 refine qT (fun _ _ => by rfl) ?_
 go_big_quiet_on
 (try simp only [pS, pN, pA, pZ, pC])
 go_big_quiet_want
 refine qT (fun _ _ => by rfl) ?_
 go_big_quiet_on
 (try simp only [pS, pN, pA, pZ, pC])
 go_big_quiet_skip
 go_big_quiet_skip
 go_big_quiet_skip
 go_big_quiet_skip
 go_big_quiet_want
 refine qT (fun _ _ => by rfl) ?_
 go_big_quiet_on
 (try simp only [pS, pN, pA, pZ, pC])
 go_big_quiet_want
 refine qT (fun _ _ => by rfl) ?_
 go_big_quiet_on
 (try simp only [pS, pN, pA, pZ, pC])
 go_big_quiet_skip
 go_big_quiet_skip
 go_big_quiet_skip
 go_big_quiet_skip
 go_big_quiet_want
 refine qT (fun _ _ => by rfl) ?_
 go_big_quiet_on
 (try simp only [pS, pN, pA, pZ, pC])
 refine wpQuiet_nil (fun w2 hq => ?_)
 have hq1 := hq.1
 clear hq hnil
 go_wp2
 go_ret
 exact ⟨rfl, by repeat (with_reducible first | exact Chg.refl _ _ | assumption | refine Chg.trans0 ?_ hq1 | refine Chg.trans0 ?_ hc1 | refine Chg.alloc ?_ _ | refine Chg.drew ?_ | refine Chg.drewN ?_ _ | refine Chg.r ?_ _)⟩
def CodeIs (i : InsIns) (cv : Value) : Prop := (cv = .iface 175 (.agg #[.int .i64 i.Op, .int .i64 i.D, .int .i64 i.A, .int .i64 i.B]) ∧ 1 ≤ i.Op ∧ i.Op ≤ 4) ∨ (cv = .iface 165 (.agg #[.int .i64 i.D, .int .i64 i.Lo, .int .i64 i.Hi]) ∧ i.Op = 5) ∨ (cv = .iface 177 (.agg #[.int .i64 i.D, .int .i64 i.A]) ∧ i.Op = 6) ∨ (cv = .iface 179 (.agg #[.int .i64 i.A, .int .i64 i.B]) ∧ i.Op = 7) ∨ (cv = .iface 167 (.agg #[.int .i64 i.Rel, .int .i64 i.A, .int .i64 i.B, .int .i64 i.To]) ∧ i.Op = 8) ∨ (cv = .iface 169 (.agg #[.int .i64 i.To]) ∧ i.Op = 9) ∨ (cv = .iface 171 (.agg #[.int .i64 i.D, .int .i64 i.A, .int .i64 i.To]) ∧ i.Op = 10) ∨ (cv = .iface 173 (.agg #[.int .i64 i.Rel, .int .i64 i.A, .int .i64 i.B]) ∧ i.Op = 11) ∨ (cv = .iface 208 (.agg #[.int .i64 i.A]) ∧ i.Op = 12)
set_option maxRecDepth 100000 in
set_option maxHeartbeats 8000000 in
theorem insOk_all (cv payload : Value) (fI : FuncId) (own i : InsIns) (procs size : Int) (w : World)
 (hcode : ∀ w, Calls Tryz.prog 120 #[insV i] w fun e w' => e = .returned cv ∧ Chg [] w w')
 (hnil : ∀ (ev : Operand → Value) (o : Oper) (w : World), o.op = Op.binOp BinOp.eql 161 (Operand.tmp 15) (Operand.const Value.nilIface) 161 → ev (.tmp 15) = cv → ev (.const .nilIface) = .nilIface → (execOp ev o).run Tryz.prog w = .ok (.value (.bool false)) w)
 (hinv : ∀ (ev : Operand → Value) (o : Oper) (w : World), o.op = Op.call { callee := Callee.invoke (Operand.tmp 18) "loop.example/outwork/impl.ins", args := #[], argTypes := #[] } → ev (.tmp 18) = cv → (execOp ev o).run Tryz.prog w = .ok (.enter fI #[payload]) w)
 (hins : ∀ w, Calls Tryz.prog fI #[payload] w fun e w' => e = .returned (insV own) ∧ Chg [] w w') (hk : CodeIs i cv)
 (hs : insSame own i = true) (hd : varOk i.D = true) (ha : varOk i.A = true) (hb : varOk i.B = true) : Calls Tryz.prog 55 #[insV i, .int .i64 procs, .int .i64 size] w fun e w' => e = .returned (.bool (restOk i procs size)) ∧ Chg [] w w' := by
 have hne : ∀ w, (binOp .neq 27 (insV own) (insV i)).run Tryz.prog w = .ok (.bool false) w := fun w => (neqIns own i w).trans (by rw [hs]; rfl)
 have hgd := insGuard
 go_enter Tryz.func55, Tryz.ntmps55
 go_wp2_with fail
 refine (hcode _).mono ?_
 rintro e w1 ⟨rfl, hc1⟩
 go_wp2_with fail
 refine wp_region_quietC (C := InBox w1 w.heap.size i) (by kernel_rfl) (by kernel_rfl) (InBox.mk_ hc1) ?_
 go_big_quiet_want
 refine qV (cv) (fun _ _ => by rfl) ?_
 go_big_quiet_on
 (try simp only [pS, pN, pA, pZ, pC])
 go_big_quiet_want
 refine qF (fun _ _ => by exact hnil _ _ _ rfl rfl rfl) ?_
 go_big_quiet_on
 (try simp only [pS, pN, pA, pZ, pC])
 go_big_quiet_want
 refine qF (fun _ _ => by rfl) ?_
 go_big_quiet_on
 (try simp only [pS, pN, pA, pZ, pC])
 go_big_quiet_want
 refine qV (cv) (fun _ _ => by rfl) ?_
 go_big_quiet_on
 (try simp only [pS, pN, pA, pZ, pC])
 go_big_quiet_want
 refine quiet_enter (insV own) fI #[payload] (fun wq hq => ?_) (fun wq hq => ?_) ?_
 · exact hinv _ _ _ rfl rfl
 · exact (hins wq).mono fun _ _ h => ⟨h.1, hq.chg h.2⟩
 go_big_quiet_on
 (try simp only [pS, pN, pA, pZ, pC])
 go_big_quiet_want
 refine qV (insV i) (fun wq hq => by simp [go_sem, hq.q0, hq.q1, hq.q2, hq.q3, hq.q4, hq.q5, hq.q6, hq.q7]) ?_
 go_big_quiet_on
 (try simp only [pS, pN, pA, pZ, pC])
 go_big_quiet_want
 refine qF (fun _ _ => by simp [go_sem, hne, hgd]) ?_
 go_big_quiet_on
 (try simp only [pS, pN, pA, pZ, pC])
 go_big_quiet_want
 refine qF (fun _ _ => by rfl) ?_
 go_big_quiet_on
 (try simp only [pS, pN, pA, pZ, pC])
 go_big_quiet_want
 refine qF (fun _ _ => by rfl) ?_
 go_big_quiet_on
 (try simp only [pS, pN, pA, pZ, pC])
 go_big_quiet_want
 refine qV (.pointer (some ⟨w.heap.size, 1, none⟩)) (fun _ _ => by first | rfl | simp [go_sem]) ?_
 go_big_quiet_on
 (try simp only [pS, pN, pA, pZ, pC])
 go_big_quiet_want
 refine qV (.int .i64 i.D) (fun wq hq => by simp [go_sem, hq.q1]) ?_
 go_big_quiet_on
 (try simp only [pS, pN, pA, pZ, pC])
 go_big_quiet_want
 refine quiet_enter (.bool (varOk i.D)) 121 #[.int .i64 i.D] (fun wq hq => ?_) (fun wq hq => ?_) ?_
 · simp [go_sem]
 · exact (implIsVar_c _ _).mono fun _ _ h => ⟨h.1, h.2 ▸ hq⟩
 go_big_quiet_on
 (try simp only [pS, pN, pA, pZ, pC])
 go_big_quiet_want
 refine qF (fun _ _ => by simp [go_sem, hd]) ?_
 go_big_quiet_on
 (try simp only [pS, pN, pA, pZ, pC])
 go_big_quiet_want
 refine qF (fun _ _ => by rfl) ?_
 go_big_quiet_on
 (try simp only [pS, pN, pA, pZ, pC])
 go_big_quiet_want
 refine qF (fun _ _ => by rfl) ?_
 go_big_quiet_on
 (try simp only [pS, pN, pA, pZ, pC])
 go_big_quiet_want
 refine qV (.pointer (some ⟨w.heap.size, 2, none⟩)) (fun _ _ => by first | rfl | simp [go_sem]) ?_
 go_big_quiet_on
 (try simp only [pS, pN, pA, pZ, pC])
 go_big_quiet_want
 refine qV (.int .i64 i.A) (fun wq hq => by simp [go_sem, hq.q2]) ?_
 go_big_quiet_on
 (try simp only [pS, pN, pA, pZ, pC])
 go_big_quiet_want
 refine quiet_enter (.bool (varOk i.A)) 121 #[.int .i64 i.A] (fun wq hq => ?_) (fun wq hq => ?_) ?_
 · simp [go_sem]
 · exact (implIsVar_c _ _).mono fun _ _ h => ⟨h.1, h.2 ▸ hq⟩
 go_big_quiet_on
 (try simp only [pS, pN, pA, pZ, pC])
 go_big_quiet_want
 refine qF (fun _ _ => by simp [go_sem, ha]) ?_
 go_big_quiet_on
 (try simp only [pS, pN, pA, pZ, pC])
 go_big_quiet_want
 refine qF (fun _ _ => by rfl) ?_
 go_big_quiet_on
 (try simp only [pS, pN, pA, pZ, pC])
 go_big_quiet_want
 refine qF (fun _ _ => by rfl) ?_
 go_big_quiet_on
 (try simp only [pS, pN, pA, pZ, pC])
 go_big_quiet_want
 refine qV (.pointer (some ⟨w.heap.size, 3, none⟩)) (fun _ _ => by first | rfl | simp [go_sem]) ?_
 go_big_quiet_on
 (try simp only [pS, pN, pA, pZ, pC])
 go_big_quiet_want
 refine qV (.int .i64 i.B) (fun wq hq => by simp [go_sem, hq.q3]) ?_
 go_big_quiet_on
 (try simp only [pS, pN, pA, pZ, pC])
 go_big_quiet_want
 refine quiet_enter (.bool (varOk i.B)) 121 #[.int .i64 i.B] (fun wq hq => ?_) (fun wq hq => ?_) ?_
 · simp [go_sem]
 · exact (implIsVar_c _ _).mono fun _ _ h => ⟨h.1, h.2 ▸ hq⟩
 go_big_quiet_on
 (try simp only [pS, pN, pA, pZ, pC])
 go_big_quiet_want
 refine qF (fun _ _ => by simp [go_sem, hb]) ?_
 go_big_quiet_on
 (try simp only [pS, pN, pA, pZ, pC])
 go_big_quiet_want
 refine qF (fun _ _ => by rfl) ?_
 go_big_quiet_on
 (try simp only [pS, pN, pA, pZ, pC])
 refine wpQuiet_nil (fun w2 hq => ?_)
 have hq1 := hq.1
 clear hq hnil hinv hins hne hgd hcode hs hd ha hb
 rcases hk with ⟨rfl, ho⟩ | ⟨rfl, ho⟩ | ⟨rfl, ho⟩ | ⟨rfl, ho⟩ | ⟨rfl, ho⟩ | ⟨rfl, ho⟩ | ⟨rfl, ho⟩ | ⟨rfl, ho⟩ | ⟨rfl, ho⟩
 · have taany := fun w => ta_arith_any i.Op i.D i.A i.B w
   have taif := fun w => ta_arith_if i.Op i.D i.A i.B w
   have tajump := fun w => ta_arith_jump i.Op i.D i.A i.B w
   have tacall := fun w => ta_arith_call i.Op i.D i.A i.B w
   have taassert := fun w => ta_arith_assert i.Op i.D i.A i.B w
   have er : restOk i procs size = true := by unfold restOk; rw [if_neg (by omega), if_neg (by omega), if_neg (by omega), if_neg (by omega), if_neg (by omega)]
   replace er := Lib.hid er
   clear ho
   go_wp2
   go_ret
   exact ⟨by rw [er.out]; rfl, by repeat (with_reducible first | exact Chg.refl _ _ | assumption | refine Chg.trans0 ?_ hq1 | refine Chg.trans0 ?_ hc1 | refine Chg.alloc ?_ _ | refine Chg.drew ?_ | refine Chg.drewN ?_ _ | refine Chg.r ?_ _)⟩
 · have taany := fun w => ta_any_any i.D i.Lo i.Hi w
   have taif := fun w => ta_any_if i.D i.Lo i.Hi w
   have tajump := fun w => ta_any_jump i.D i.Lo i.Hi w
   have tacall := fun w => ta_any_call i.D i.Lo i.Hi w
   have taassert := fun w => ta_any_assert i.D i.Lo i.Hi w
   have er : restOk i procs size = (itvOk ⟨i.Lo, i.Hi⟩) := by unfold restOk; rw [if_pos ho]
   replace er := Lib.hid er
   clear ho
   go_wp2_with fail
   refine (implItvOk_c _ _ _).mono ?_
   rintro e w4 ⟨rfl, hc4⟩
   go_wp2
   go_ret
   exact ⟨by rw [er.out]; rfl, by repeat (with_reducible first | exact Chg.refl _ _ | assumption | refine Chg.trans0 ?_ hq1 | refine Chg.trans0 ?_ hc1 | refine Chg.trans0 ?_ hc4 | refine Chg.alloc ?_ _ | refine Chg.drew ?_ | refine Chg.drewN ?_ _ | refine Chg.r ?_ _)⟩
 · have taany := fun w => ta_load_any i.D i.A w
   have taif := fun w => ta_load_if i.D i.A w
   have tajump := fun w => ta_load_jump i.D i.A w
   have tacall := fun w => ta_load_call i.D i.A w
   have taassert := fun w => ta_load_assert i.D i.A w
   have er : restOk i procs size = true := by unfold restOk; rw [if_neg (by omega), if_neg (by omega), if_neg (by omega), if_neg (by omega), if_neg (by omega)]
   replace er := Lib.hid er
   clear ho
   go_wp2
   go_ret
   exact ⟨by rw [er.out]; rfl, by repeat (with_reducible first | exact Chg.refl _ _ | assumption | refine Chg.trans0 ?_ hq1 | refine Chg.trans0 ?_ hc1 | refine Chg.alloc ?_ _ | refine Chg.drew ?_ | refine Chg.drewN ?_ _ | refine Chg.r ?_ _)⟩
 · have taany := fun w => ta_store_any i.A i.B w
   have taif := fun w => ta_store_if i.A i.B w
   have tajump := fun w => ta_store_jump i.A i.B w
   have tacall := fun w => ta_store_call i.A i.B w
   have taassert := fun w => ta_store_assert i.A i.B w
   have er : restOk i procs size = true := by unfold restOk; rw [if_neg (by omega), if_neg (by omega), if_neg (by omega), if_neg (by omega), if_neg (by omega)]
   replace er := Lib.hid er
   clear ho
   go_wp2
   go_ret
   exact ⟨by rw [er.out]; rfl, by repeat (with_reducible first | exact Chg.refl _ _ | assumption | refine Chg.trans0 ?_ hq1 | refine Chg.trans0 ?_ hc1 | refine Chg.alloc ?_ _ | refine Chg.drew ?_ | refine Chg.drewN ?_ _ | refine Chg.r ?_ _)⟩
 · have taany := fun w => ta_if_any i.Rel i.A i.B i.To w
   have taif := fun w => ta_if_if i.Rel i.A i.B i.To w
   have tajump := fun w => ta_if_jump i.Rel i.A i.B i.To w
   have tacall := fun w => ta_if_call i.Rel i.A i.B i.To w
   have taassert := fun w => ta_if_assert i.Rel i.A i.B i.To w
   have er : restOk i procs size = (relOk i.Rel && below i.To size) := by unfold restOk; rw [if_neg (by omega), if_pos ho]
   replace er := Lib.hid er
   clear ho
   by_cases hrl : relOk i.Rel = true
   all_goals
    (try rw [Bool.not_eq_true] at hrl)
    go_wp2_with (first | (go_at_call 122; refine (implIsRel_c _ _).mono ?_; rintro e w4 ⟨rfl, rfl⟩) | (go_at_call 98; refine (implBelow_c _ _ _).mono ?_; rintro e w5 ⟨rfl, rfl⟩))
    go_ret
    exact ⟨by rw [er.out]; simp [hrl], by repeat (with_reducible first | exact Chg.refl _ _ | assumption | refine Chg.trans0 ?_ hq1 | refine Chg.trans0 ?_ hc1 | refine Chg.alloc ?_ _ | refine Chg.drew ?_ | refine Chg.drewN ?_ _ | refine Chg.r ?_ _)⟩
 · have taany := fun w => ta_jump_any i.To w
   have taif := fun w => ta_jump_if i.To w
   have tajump := fun w => ta_jump_jump i.To w
   have tacall := fun w => ta_jump_call i.To w
   have taassert := fun w => ta_jump_assert i.To w
   have er : restOk i procs size = (below i.To size) := by unfold restOk; rw [if_neg (by omega), if_neg (by omega), if_pos ho]
   replace er := Lib.hid er
   clear ho
   go_wp2_with (go_at_call 98; refine (implBelow_c _ _ _).mono ?_; rintro e w4 ⟨rfl, rfl⟩)
   go_ret
   exact ⟨by rw [er.out]; rfl, by repeat (with_reducible first | exact Chg.refl _ _ | assumption | refine Chg.trans0 ?_ hq1 | refine Chg.trans0 ?_ hc1 | refine Chg.alloc ?_ _ | refine Chg.drew ?_ | refine Chg.drewN ?_ _ | refine Chg.r ?_ _)⟩
 · have taany := fun w => ta_call_any i.D i.A i.To w
   have taif := fun w => ta_call_if i.D i.A i.To w
   have tajump := fun w => ta_call_jump i.D i.A i.To w
   have tacall := fun w => ta_call_call i.D i.A i.To w
   have taassert := fun w => ta_call_assert i.D i.A i.To w
   have er : restOk i procs size = (below i.To procs) := by unfold restOk; rw [if_neg (by omega), if_neg (by omega), if_neg (by omega), if_pos ho]
   replace er := Lib.hid er
   clear ho
   go_wp2_with (go_at_call 98; refine (implBelow_c _ _ _).mono ?_; rintro e w4 ⟨rfl, rfl⟩)
   go_ret
   exact ⟨by rw [er.out]; rfl, by repeat (with_reducible first | exact Chg.refl _ _ | assumption | refine Chg.trans0 ?_ hq1 | refine Chg.trans0 ?_ hc1 | refine Chg.alloc ?_ _ | refine Chg.drew ?_ | refine Chg.drewN ?_ _ | refine Chg.r ?_ _)⟩
 · have taany := fun w => ta_assert_any i.Rel i.A i.B w
   have taif := fun w => ta_assert_if i.Rel i.A i.B w
   have tajump := fun w => ta_assert_jump i.Rel i.A i.B w
   have tacall := fun w => ta_assert_call i.Rel i.A i.B w
   have taassert := fun w => ta_assert_assert i.Rel i.A i.B w
   have er : restOk i procs size = (relOk i.Rel) := by unfold restOk; rw [if_neg (by omega), if_neg (by omega), if_neg (by omega), if_neg (by omega), if_pos ho]
   replace er := Lib.hid er
   clear ho
   go_wp2_with (go_at_call 122; refine (implIsRel_c _ _).mono ?_; rintro e w4 ⟨rfl, rfl⟩)
   go_ret
   exact ⟨by rw [er.out]; rfl, by repeat (with_reducible first | exact Chg.refl _ _ | assumption | refine Chg.trans0 ?_ hq1 | refine Chg.trans0 ?_ hc1 | refine Chg.alloc ?_ _ | refine Chg.drew ?_ | refine Chg.drewN ?_ _ | refine Chg.r ?_ _)⟩
 · have taany := fun w => ta_ret_any i.A w
   have taif := fun w => ta_ret_if i.A w
   have tajump := fun w => ta_ret_jump i.A w
   have tacall := fun w => ta_ret_call i.A w
   have taassert := fun w => ta_ret_assert i.A w
   have er : restOk i procs size = true := by unfold restOk; rw [if_neg (by omega), if_neg (by omega), if_neg (by omega), if_neg (by omega), if_neg (by omega)]
   replace er := Lib.hid er
   clear ho
   go_wp2
   go_ret
   exact ⟨by rw [er.out]; rfl, by repeat (with_reducible first | exact Chg.refl _ _ | assumption | refine Chg.trans0 ?_ hq1 | refine Chg.trans0 ?_ hc1 | refine Chg.alloc ?_ _ | refine Chg.drew ?_ | refine Chg.drewN ?_ _ | refine Chg.r ?_ _)⟩
theorem insOk_nil {i : InsIns} {procs size : Int} (h : i.Op < 1 ∨ 12 < i.Op) : insOk i procs size = false := by
 unfold insOk
 rcases h with h | h
 · rw [decide_eq_false (show ¬ 1 ≤ i.Op by omega)]; rfl
 · rw [decide_eq_false (show ¬ i.Op ≤ 12 by omega)]; simp
theorem insOk_eq_arith {i : InsIns} {procs size : Int} (h : 1 ≤ i.Op ∧ i.Op ≤ 4) : insOk i procs size = (insSame ⟨i.Op, i.D, i.A, i.B, 0, 0, 0, 0⟩ i && varOk i.D && varOk i.A && varOk i.B && restOk i procs size) := by
 have n5 : ¬ i.Op = 5 := by omega
 have n6 : ¬ i.Op = 6 := by omega
 have n7 : ¬ i.Op = 7 := by omega
 have n8 : ¬ i.Op = 8 := by omega
 have n9 : ¬ i.Op = 9 := by omega
 have n10 : ¬ i.Op = 10 := by omega
 have n11 : ¬ i.Op = 11 := by omega
 have n12 : ¬ i.Op = 12 := by omega
 have h1 : decide (1 ≤ i.Op) = true := decide_eq_true h.1
 have h2 : decide (i.Op ≤ 12) = true := decide_eq_true (by omega)
 unfold insOk formOk insSame
 rw [h1, h2, if_pos h.2]
 simp only [n5, n8, n9, n10, n11, if_false]
 clear h1 h2 h n5 n6 n7 n8 n9 n10 n11 n12
 grind
theorem insAll_arith (i : InsIns) (procs size : Int) (w : World)
 (hcode : ∀ w, Calls Tryz.prog 120 #[insV i] w fun e w' => e = .returned (.iface 175 (.agg #[.int .i64 i.Op, .int .i64 i.D, .int .i64 i.A, .int .i64 i.B])) ∧ Chg [] w w') (hop : 1 ≤ i.Op ∧ i.Op ≤ 4) :
 Calls Tryz.prog 55 #[insV i, .int .i64 procs, .int .i64 size] w fun e w' => e = .returned (.bool (insOk i procs size)) ∧ Chg [] w w' := by
 rw [insOk_eq_arith hop]
 by_cases hs : insSame ⟨i.Op, i.D, i.A, i.B, 0, 0, 0, 0⟩ i = true
 case neg =>
  rw [Bool.not_eq_true] at hs
  rw [hs]
  exact insBad_form _ _ _ _ i procs size w hcode (nilOf_arith i) (invOf_arith i) (fun w => arithIns_c i.Op i.D i.A i.B w) hs
 by_cases hd : varOk i.D = true
 case neg =>
  rw [Bool.not_eq_true] at hd
  rw [hs, hd]
  exact insBad_D _ _ _ _ i procs size w hcode (nilOf_arith i) (invOf_arith i) (fun w => arithIns_c i.Op i.D i.A i.B w) hs hd
 by_cases ha : varOk i.A = true
 case neg =>
  rw [Bool.not_eq_true] at ha
  rw [hs, hd, ha]
  exact insBad_A _ _ _ _ i procs size w hcode (nilOf_arith i) (invOf_arith i) (fun w => arithIns_c i.Op i.D i.A i.B w) hs hd ha
 by_cases hb : varOk i.B = true
 case neg =>
  rw [Bool.not_eq_true] at hb
  rw [hs, hd, ha, hb]
  exact insBad_B _ _ _ _ i procs size w hcode (nilOf_arith i) (invOf_arith i) (fun w => arithIns_c i.Op i.D i.A i.B w) hs hd ha hb
 rw [hs, hd, ha, hb]
 exact insOk_all _ _ _ _ i procs size w hcode (nilOf_arith i) (invOf_arith i) (fun w => arithIns_c i.Op i.D i.A i.B w) (by unfold CodeIs; simp [hop]; done) hs hd ha hb
theorem insOk_eq_any {i : InsIns} {procs size : Int} (h : i.Op = 5) : insOk i procs size = (insSame ⟨5, i.D, 0, 0, 0, i.Lo, i.Hi, 0⟩ i && varOk i.D && varOk i.A && varOk i.B && restOk i procs size) := by
 have n6 : ¬ i.Op = 6 := by omega
 have n7 : ¬ i.Op = 7 := by omega
 have n8 : ¬ i.Op = 8 := by omega
 have n9 : ¬ i.Op = 9 := by omega
 have n10 : ¬ i.Op = 10 := by omega
 have n11 : ¬ i.Op = 11 := by omega
 have n12 : ¬ i.Op = 12 := by omega
 have h1 : decide (1 ≤ i.Op) = true := decide_eq_true (by omega)
 have h2 : decide (i.Op ≤ 12) = true := decide_eq_true (by omega)
 have h4 : ¬ i.Op ≤ 4 := by omega
 unfold insOk formOk insSame
 rw [h1, h2, if_neg h4]
 simp only [n6, n7, n8, n9, n10, n11, n12, if_false, if_true, h]
 clear h1 h2 h n6 n7 n8 n9 n10 n11 n12
 grind
theorem insAll_any (i : InsIns) (procs size : Int) (w : World)
 (hcode : ∀ w, Calls Tryz.prog 120 #[insV i] w fun e w' => e = .returned (.iface 165 (.agg #[.int .i64 i.D, .int .i64 i.Lo, .int .i64 i.Hi])) ∧ Chg [] w w') (hop : i.Op = 5) :
 Calls Tryz.prog 55 #[insV i, .int .i64 procs, .int .i64 size] w fun e w' => e = .returned (.bool (insOk i procs size)) ∧ Chg [] w w' := by
 rw [insOk_eq_any hop]
 by_cases hs : insSame ⟨5, i.D, 0, 0, 0, i.Lo, i.Hi, 0⟩ i = true
 case neg =>
  rw [Bool.not_eq_true] at hs
  rw [hs]
  exact insBad_form _ _ _ _ i procs size w hcode (nilOf_any i) (invOf_any i) (fun w => anyIns_c i.D i.Lo i.Hi w) hs
 by_cases hd : varOk i.D = true
 case neg =>
  rw [Bool.not_eq_true] at hd
  rw [hs, hd]
  exact insBad_D _ _ _ _ i procs size w hcode (nilOf_any i) (invOf_any i) (fun w => anyIns_c i.D i.Lo i.Hi w) hs hd
 by_cases ha : varOk i.A = true
 case neg =>
  rw [Bool.not_eq_true] at ha
  rw [hs, hd, ha]
  exact insBad_A _ _ _ _ i procs size w hcode (nilOf_any i) (invOf_any i) (fun w => anyIns_c i.D i.Lo i.Hi w) hs hd ha
 by_cases hb : varOk i.B = true
 case neg =>
  rw [Bool.not_eq_true] at hb
  rw [hs, hd, ha, hb]
  exact insBad_B _ _ _ _ i procs size w hcode (nilOf_any i) (invOf_any i) (fun w => anyIns_c i.D i.Lo i.Hi w) hs hd ha hb
 rw [hs, hd, ha, hb]
 exact insOk_all _ _ _ _ i procs size w hcode (nilOf_any i) (invOf_any i) (fun w => anyIns_c i.D i.Lo i.Hi w) (by unfold CodeIs; simp [hop]; done) hs hd ha hb
theorem insOk_eq_load {i : InsIns} {procs size : Int} (h : i.Op = 6) : insOk i procs size = (insSame ⟨6, i.D, i.A, 0, 0, 0, 0, 0⟩ i && varOk i.D && varOk i.A && varOk i.B && restOk i procs size) := by
 have n5 : ¬ i.Op = 5 := by omega
 have n7 : ¬ i.Op = 7 := by omega
 have n8 : ¬ i.Op = 8 := by omega
 have n9 : ¬ i.Op = 9 := by omega
 have n10 : ¬ i.Op = 10 := by omega
 have n11 : ¬ i.Op = 11 := by omega
 have n12 : ¬ i.Op = 12 := by omega
 have h1 : decide (1 ≤ i.Op) = true := decide_eq_true (by omega)
 have h2 : decide (i.Op ≤ 12) = true := decide_eq_true (by omega)
 have h4 : ¬ i.Op ≤ 4 := by omega
 unfold insOk formOk insSame
 rw [h1, h2, if_neg h4]
 simp only [n5, n7, n8, n9, n10, n11, n12, if_false, if_true, h]
 clear h1 h2 h n5 n7 n8 n9 n10 n11 n12
 grind
theorem insAll_load (i : InsIns) (procs size : Int) (w : World)
 (hcode : ∀ w, Calls Tryz.prog 120 #[insV i] w fun e w' => e = .returned (.iface 177 (.agg #[.int .i64 i.D, .int .i64 i.A])) ∧ Chg [] w w') (hop : i.Op = 6) :
 Calls Tryz.prog 55 #[insV i, .int .i64 procs, .int .i64 size] w fun e w' => e = .returned (.bool (insOk i procs size)) ∧ Chg [] w w' := by
 rw [insOk_eq_load hop]
 by_cases hs : insSame ⟨6, i.D, i.A, 0, 0, 0, 0, 0⟩ i = true
 case neg =>
  rw [Bool.not_eq_true] at hs
  rw [hs]
  exact insBad_form _ _ _ _ i procs size w hcode (nilOf_load i) (invOf_load i) (fun w => loadIns_c i.D i.A w) hs
 by_cases hd : varOk i.D = true
 case neg =>
  rw [Bool.not_eq_true] at hd
  rw [hs, hd]
  exact insBad_D _ _ _ _ i procs size w hcode (nilOf_load i) (invOf_load i) (fun w => loadIns_c i.D i.A w) hs hd
 by_cases ha : varOk i.A = true
 case neg =>
  rw [Bool.not_eq_true] at ha
  rw [hs, hd, ha]
  exact insBad_A _ _ _ _ i procs size w hcode (nilOf_load i) (invOf_load i) (fun w => loadIns_c i.D i.A w) hs hd ha
 by_cases hb : varOk i.B = true
 case neg =>
  rw [Bool.not_eq_true] at hb
  rw [hs, hd, ha, hb]
  exact insBad_B _ _ _ _ i procs size w hcode (nilOf_load i) (invOf_load i) (fun w => loadIns_c i.D i.A w) hs hd ha hb
 rw [hs, hd, ha, hb]
 exact insOk_all _ _ _ _ i procs size w hcode (nilOf_load i) (invOf_load i) (fun w => loadIns_c i.D i.A w) (by unfold CodeIs; simp [hop]; done) hs hd ha hb
theorem insOk_eq_store {i : InsIns} {procs size : Int} (h : i.Op = 7) : insOk i procs size = (insSame ⟨7, 0, i.A, i.B, 0, 0, 0, 0⟩ i && varOk i.D && varOk i.A && varOk i.B && restOk i procs size) := by
 have n5 : ¬ i.Op = 5 := by omega
 have n6 : ¬ i.Op = 6 := by omega
 have n8 : ¬ i.Op = 8 := by omega
 have n9 : ¬ i.Op = 9 := by omega
 have n10 : ¬ i.Op = 10 := by omega
 have n11 : ¬ i.Op = 11 := by omega
 have n12 : ¬ i.Op = 12 := by omega
 have h1 : decide (1 ≤ i.Op) = true := decide_eq_true (by omega)
 have h2 : decide (i.Op ≤ 12) = true := decide_eq_true (by omega)
 have h4 : ¬ i.Op ≤ 4 := by omega
 unfold insOk formOk insSame
 rw [h1, h2, if_neg h4]
 simp only [n5, n6, n8, n9, n10, n11, n12, if_false, if_true, h]
 clear h1 h2 h n5 n6 n8 n9 n10 n11 n12
 grind
theorem insAll_store (i : InsIns) (procs size : Int) (w : World)
 (hcode : ∀ w, Calls Tryz.prog 120 #[insV i] w fun e w' => e = .returned (.iface 179 (.agg #[.int .i64 i.A, .int .i64 i.B])) ∧ Chg [] w w') (hop : i.Op = 7) :
 Calls Tryz.prog 55 #[insV i, .int .i64 procs, .int .i64 size] w fun e w' => e = .returned (.bool (insOk i procs size)) ∧ Chg [] w w' := by
 rw [insOk_eq_store hop]
 by_cases hs : insSame ⟨7, 0, i.A, i.B, 0, 0, 0, 0⟩ i = true
 case neg =>
  rw [Bool.not_eq_true] at hs
  rw [hs]
  exact insBad_form _ _ _ _ i procs size w hcode (nilOf_store i) (invOf_store i) (fun w => storeIns_c i.A i.B w) hs
 by_cases hd : varOk i.D = true
 case neg =>
  rw [Bool.not_eq_true] at hd
  rw [hs, hd]
  exact insBad_D _ _ _ _ i procs size w hcode (nilOf_store i) (invOf_store i) (fun w => storeIns_c i.A i.B w) hs hd
 by_cases ha : varOk i.A = true
 case neg =>
  rw [Bool.not_eq_true] at ha
  rw [hs, hd, ha]
  exact insBad_A _ _ _ _ i procs size w hcode (nilOf_store i) (invOf_store i) (fun w => storeIns_c i.A i.B w) hs hd ha
 by_cases hb : varOk i.B = true
 case neg =>
  rw [Bool.not_eq_true] at hb
  rw [hs, hd, ha, hb]
  exact insBad_B _ _ _ _ i procs size w hcode (nilOf_store i) (invOf_store i) (fun w => storeIns_c i.A i.B w) hs hd ha hb
 rw [hs, hd, ha, hb]
 exact insOk_all _ _ _ _ i procs size w hcode (nilOf_store i) (invOf_store i) (fun w => storeIns_c i.A i.B w) (by unfold CodeIs; simp [hop]; done) hs hd ha hb
theorem insOk_eq_if {i : InsIns} {procs size : Int} (h : i.Op = 8) : insOk i procs size = (insSame ⟨8, 0, i.A, i.B, i.Rel, 0, 0, i.To⟩ i && varOk i.D && varOk i.A && varOk i.B && restOk i procs size) := by
 have n5 : ¬ i.Op = 5 := by omega
 have n6 : ¬ i.Op = 6 := by omega
 have n7 : ¬ i.Op = 7 := by omega
 have n9 : ¬ i.Op = 9 := by omega
 have n10 : ¬ i.Op = 10 := by omega
 have n11 : ¬ i.Op = 11 := by omega
 have n12 : ¬ i.Op = 12 := by omega
 have h1 : decide (1 ≤ i.Op) = true := decide_eq_true (by omega)
 have h2 : decide (i.Op ≤ 12) = true := decide_eq_true (by omega)
 have h4 : ¬ i.Op ≤ 4 := by omega
 unfold insOk formOk insSame
 rw [h1, h2, if_neg h4]
 simp only [n5, n6, n7, n9, n10, n11, n12, if_false, if_true, h]
 clear h1 h2 h n5 n6 n7 n9 n10 n11 n12
 grind
theorem insAll_if (i : InsIns) (procs size : Int) (w : World)
 (hcode : ∀ w, Calls Tryz.prog 120 #[insV i] w fun e w' => e = .returned (.iface 167 (.agg #[.int .i64 i.Rel, .int .i64 i.A, .int .i64 i.B, .int .i64 i.To])) ∧ Chg [] w w') (hop : i.Op = 8) :
 Calls Tryz.prog 55 #[insV i, .int .i64 procs, .int .i64 size] w fun e w' => e = .returned (.bool (insOk i procs size)) ∧ Chg [] w w' := by
 rw [insOk_eq_if hop]
 by_cases hs : insSame ⟨8, 0, i.A, i.B, i.Rel, 0, 0, i.To⟩ i = true
 case neg =>
  rw [Bool.not_eq_true] at hs
  rw [hs]
  exact insBad_form _ _ _ _ i procs size w hcode (nilOf_if i) (invOf_if i) (fun w => ifIns_c i.Rel i.A i.B i.To w) hs
 by_cases hd : varOk i.D = true
 case neg =>
  rw [Bool.not_eq_true] at hd
  rw [hs, hd]
  exact insBad_D _ _ _ _ i procs size w hcode (nilOf_if i) (invOf_if i) (fun w => ifIns_c i.Rel i.A i.B i.To w) hs hd
 by_cases ha : varOk i.A = true
 case neg =>
  rw [Bool.not_eq_true] at ha
  rw [hs, hd, ha]
  exact insBad_A _ _ _ _ i procs size w hcode (nilOf_if i) (invOf_if i) (fun w => ifIns_c i.Rel i.A i.B i.To w) hs hd ha
 by_cases hb : varOk i.B = true
 case neg =>
  rw [Bool.not_eq_true] at hb
  rw [hs, hd, ha, hb]
  exact insBad_B _ _ _ _ i procs size w hcode (nilOf_if i) (invOf_if i) (fun w => ifIns_c i.Rel i.A i.B i.To w) hs hd ha hb
 rw [hs, hd, ha, hb]
 exact insOk_all _ _ _ _ i procs size w hcode (nilOf_if i) (invOf_if i) (fun w => ifIns_c i.Rel i.A i.B i.To w) (by unfold CodeIs; simp [hop]; done) hs hd ha hb
theorem insOk_eq_jump {i : InsIns} {procs size : Int} (h : i.Op = 9) : insOk i procs size = (insSame ⟨9, 0, 0, 0, 0, 0, 0, i.To⟩ i && varOk i.D && varOk i.A && varOk i.B && restOk i procs size) := by
 have n5 : ¬ i.Op = 5 := by omega
 have n6 : ¬ i.Op = 6 := by omega
 have n7 : ¬ i.Op = 7 := by omega
 have n8 : ¬ i.Op = 8 := by omega
 have n10 : ¬ i.Op = 10 := by omega
 have n11 : ¬ i.Op = 11 := by omega
 have n12 : ¬ i.Op = 12 := by omega
 have h1 : decide (1 ≤ i.Op) = true := decide_eq_true (by omega)
 have h2 : decide (i.Op ≤ 12) = true := decide_eq_true (by omega)
 have h4 : ¬ i.Op ≤ 4 := by omega
 unfold insOk formOk insSame
 rw [h1, h2, if_neg h4]
 simp only [n5, n6, n7, n8, n10, n11, n12, if_false, if_true, h]
 clear h1 h2 h n5 n6 n7 n8 n10 n11 n12
 grind
theorem insAll_jump (i : InsIns) (procs size : Int) (w : World)
 (hcode : ∀ w, Calls Tryz.prog 120 #[insV i] w fun e w' => e = .returned (.iface 169 (.agg #[.int .i64 i.To])) ∧ Chg [] w w') (hop : i.Op = 9) :
 Calls Tryz.prog 55 #[insV i, .int .i64 procs, .int .i64 size] w fun e w' => e = .returned (.bool (insOk i procs size)) ∧ Chg [] w w' := by
 rw [insOk_eq_jump hop]
 by_cases hs : insSame ⟨9, 0, 0, 0, 0, 0, 0, i.To⟩ i = true
 case neg =>
  rw [Bool.not_eq_true] at hs
  rw [hs]
  exact insBad_form _ _ _ _ i procs size w hcode (nilOf_jump i) (invOf_jump i) (fun w => jumpIns_c i.To w) hs
 by_cases hd : varOk i.D = true
 case neg =>
  rw [Bool.not_eq_true] at hd
  rw [hs, hd]
  exact insBad_D _ _ _ _ i procs size w hcode (nilOf_jump i) (invOf_jump i) (fun w => jumpIns_c i.To w) hs hd
 by_cases ha : varOk i.A = true
 case neg =>
  rw [Bool.not_eq_true] at ha
  rw [hs, hd, ha]
  exact insBad_A _ _ _ _ i procs size w hcode (nilOf_jump i) (invOf_jump i) (fun w => jumpIns_c i.To w) hs hd ha
 by_cases hb : varOk i.B = true
 case neg =>
  rw [Bool.not_eq_true] at hb
  rw [hs, hd, ha, hb]
  exact insBad_B _ _ _ _ i procs size w hcode (nilOf_jump i) (invOf_jump i) (fun w => jumpIns_c i.To w) hs hd ha hb
 rw [hs, hd, ha, hb]
 exact insOk_all _ _ _ _ i procs size w hcode (nilOf_jump i) (invOf_jump i) (fun w => jumpIns_c i.To w) (by unfold CodeIs; simp [hop]; done) hs hd ha hb
theorem insOk_eq_call {i : InsIns} {procs size : Int} (h : i.Op = 10) : insOk i procs size = (insSame ⟨10, i.D, i.A, 0, 0, 0, 0, i.To⟩ i && varOk i.D && varOk i.A && varOk i.B && restOk i procs size) := by
 have n5 : ¬ i.Op = 5 := by omega
 have n6 : ¬ i.Op = 6 := by omega
 have n7 : ¬ i.Op = 7 := by omega
 have n8 : ¬ i.Op = 8 := by omega
 have n9 : ¬ i.Op = 9 := by omega
 have n11 : ¬ i.Op = 11 := by omega
 have n12 : ¬ i.Op = 12 := by omega
 have h1 : decide (1 ≤ i.Op) = true := decide_eq_true (by omega)
 have h2 : decide (i.Op ≤ 12) = true := decide_eq_true (by omega)
 have h4 : ¬ i.Op ≤ 4 := by omega
 unfold insOk formOk insSame
 rw [h1, h2, if_neg h4]
 simp only [n5, n6, n7, n8, n9, n11, n12, if_false, if_true, h]
 clear h1 h2 h n5 n6 n7 n8 n9 n11 n12
 grind
theorem insAll_call (i : InsIns) (procs size : Int) (w : World)
 (hcode : ∀ w, Calls Tryz.prog 120 #[insV i] w fun e w' => e = .returned (.iface 171 (.agg #[.int .i64 i.D, .int .i64 i.A, .int .i64 i.To])) ∧ Chg [] w w') (hop : i.Op = 10) :
 Calls Tryz.prog 55 #[insV i, .int .i64 procs, .int .i64 size] w fun e w' => e = .returned (.bool (insOk i procs size)) ∧ Chg [] w w' := by
 rw [insOk_eq_call hop]
 by_cases hs : insSame ⟨10, i.D, i.A, 0, 0, 0, 0, i.To⟩ i = true
 case neg =>
  rw [Bool.not_eq_true] at hs
  rw [hs]
  exact insBad_form _ _ _ _ i procs size w hcode (nilOf_call i) (invOf_call i) (fun w => callIns_c i.D i.A i.To w) hs
 by_cases hd : varOk i.D = true
 case neg =>
  rw [Bool.not_eq_true] at hd
  rw [hs, hd]
  exact insBad_D _ _ _ _ i procs size w hcode (nilOf_call i) (invOf_call i) (fun w => callIns_c i.D i.A i.To w) hs hd
 by_cases ha : varOk i.A = true
 case neg =>
  rw [Bool.not_eq_true] at ha
  rw [hs, hd, ha]
  exact insBad_A _ _ _ _ i procs size w hcode (nilOf_call i) (invOf_call i) (fun w => callIns_c i.D i.A i.To w) hs hd ha
 by_cases hb : varOk i.B = true
 case neg =>
  rw [Bool.not_eq_true] at hb
  rw [hs, hd, ha, hb]
  exact insBad_B _ _ _ _ i procs size w hcode (nilOf_call i) (invOf_call i) (fun w => callIns_c i.D i.A i.To w) hs hd ha hb
 rw [hs, hd, ha, hb]
 exact insOk_all _ _ _ _ i procs size w hcode (nilOf_call i) (invOf_call i) (fun w => callIns_c i.D i.A i.To w) (by unfold CodeIs; simp [hop]; done) hs hd ha hb
theorem insOk_eq_assert {i : InsIns} {procs size : Int} (h : i.Op = 11) : insOk i procs size = (insSame ⟨11, 0, i.A, i.B, i.Rel, 0, 0, 0⟩ i && varOk i.D && varOk i.A && varOk i.B && restOk i procs size) := by
 have n5 : ¬ i.Op = 5 := by omega
 have n6 : ¬ i.Op = 6 := by omega
 have n7 : ¬ i.Op = 7 := by omega
 have n8 : ¬ i.Op = 8 := by omega
 have n9 : ¬ i.Op = 9 := by omega
 have n10 : ¬ i.Op = 10 := by omega
 have n12 : ¬ i.Op = 12 := by omega
 have h1 : decide (1 ≤ i.Op) = true := decide_eq_true (by omega)
 have h2 : decide (i.Op ≤ 12) = true := decide_eq_true (by omega)
 have h4 : ¬ i.Op ≤ 4 := by omega
 unfold insOk formOk insSame
 rw [h1, h2, if_neg h4]
 simp only [n5, n6, n7, n8, n9, n10, n12, if_false, if_true, h]
 clear h1 h2 h n5 n6 n7 n8 n9 n10 n12
 grind
theorem insAll_assert (i : InsIns) (procs size : Int) (w : World)
 (hcode : ∀ w, Calls Tryz.prog 120 #[insV i] w fun e w' => e = .returned (.iface 173 (.agg #[.int .i64 i.Rel, .int .i64 i.A, .int .i64 i.B])) ∧ Chg [] w w') (hop : i.Op = 11) :
 Calls Tryz.prog 55 #[insV i, .int .i64 procs, .int .i64 size] w fun e w' => e = .returned (.bool (insOk i procs size)) ∧ Chg [] w w' := by
 rw [insOk_eq_assert hop]
 by_cases hs : insSame ⟨11, 0, i.A, i.B, i.Rel, 0, 0, 0⟩ i = true
 case neg =>
  rw [Bool.not_eq_true] at hs
  rw [hs]
  exact insBad_form _ _ _ _ i procs size w hcode (nilOf_assert i) (invOf_assert i) (fun w => assertIns_c i.Rel i.A i.B w) hs
 by_cases hd : varOk i.D = true
 case neg =>
  rw [Bool.not_eq_true] at hd
  rw [hs, hd]
  exact insBad_D _ _ _ _ i procs size w hcode (nilOf_assert i) (invOf_assert i) (fun w => assertIns_c i.Rel i.A i.B w) hs hd
 by_cases ha : varOk i.A = true
 case neg =>
  rw [Bool.not_eq_true] at ha
  rw [hs, hd, ha]
  exact insBad_A _ _ _ _ i procs size w hcode (nilOf_assert i) (invOf_assert i) (fun w => assertIns_c i.Rel i.A i.B w) hs hd ha
 by_cases hb : varOk i.B = true
 case neg =>
  rw [Bool.not_eq_true] at hb
  rw [hs, hd, ha, hb]
  exact insBad_B _ _ _ _ i procs size w hcode (nilOf_assert i) (invOf_assert i) (fun w => assertIns_c i.Rel i.A i.B w) hs hd ha hb
 rw [hs, hd, ha, hb]
 exact insOk_all _ _ _ _ i procs size w hcode (nilOf_assert i) (invOf_assert i) (fun w => assertIns_c i.Rel i.A i.B w) (by unfold CodeIs; simp [hop]; done) hs hd ha hb
theorem insOk_eq_ret {i : InsIns} {procs size : Int} (h : i.Op = 12) : insOk i procs size = (insSame ⟨12, 0, i.A, 0, 0, 0, 0, 0⟩ i && varOk i.D && varOk i.A && varOk i.B && restOk i procs size) := by
 have n5 : ¬ i.Op = 5 := by omega
 have n6 : ¬ i.Op = 6 := by omega
 have n7 : ¬ i.Op = 7 := by omega
 have n8 : ¬ i.Op = 8 := by omega
 have n9 : ¬ i.Op = 9 := by omega
 have n10 : ¬ i.Op = 10 := by omega
 have n11 : ¬ i.Op = 11 := by omega
 have h1 : decide (1 ≤ i.Op) = true := decide_eq_true (by omega)
 have h2 : decide (i.Op ≤ 12) = true := decide_eq_true (by omega)
 have h4 : ¬ i.Op ≤ 4 := by omega
 unfold insOk formOk insSame
 rw [h1, h2, if_neg h4]
 simp only [n5, n6, n7, n8, n9, n10, n11, if_false, if_true, h]
 clear h1 h2 h n5 n6 n7 n8 n9 n10 n11
 grind
theorem insAll_ret (i : InsIns) (procs size : Int) (w : World)
 (hcode : ∀ w, Calls Tryz.prog 120 #[insV i] w fun e w' => e = .returned (.iface 208 (.agg #[.int .i64 i.A])) ∧ Chg [] w w') (hop : i.Op = 12) :
 Calls Tryz.prog 55 #[insV i, .int .i64 procs, .int .i64 size] w fun e w' => e = .returned (.bool (insOk i procs size)) ∧ Chg [] w w' := by
 rw [insOk_eq_ret hop]
 by_cases hs : insSame ⟨12, 0, i.A, 0, 0, 0, 0, 0⟩ i = true
 case neg =>
  rw [Bool.not_eq_true] at hs
  rw [hs]
  exact insBad_form _ _ _ _ i procs size w hcode (nilOf_ret i) (invOf_ret i) (fun w => retIns_c i.A w) hs
 by_cases hd : varOk i.D = true
 case neg =>
  rw [Bool.not_eq_true] at hd
  rw [hs, hd]
  exact insBad_D _ _ _ _ i procs size w hcode (nilOf_ret i) (invOf_ret i) (fun w => retIns_c i.A w) hs hd
 by_cases ha : varOk i.A = true
 case neg =>
  rw [Bool.not_eq_true] at ha
  rw [hs, hd, ha]
  exact insBad_A _ _ _ _ i procs size w hcode (nilOf_ret i) (invOf_ret i) (fun w => retIns_c i.A w) hs hd ha
 by_cases hb : varOk i.B = true
 case neg =>
  rw [Bool.not_eq_true] at hb
  rw [hs, hd, ha, hb]
  exact insBad_B _ _ _ _ i procs size w hcode (nilOf_ret i) (invOf_ret i) (fun w => retIns_c i.A w) hs hd ha hb
 rw [hs, hd, ha, hb]
 exact insOk_all _ _ _ _ i procs size w hcode (nilOf_ret i) (invOf_ret i) (fun w => retIns_c i.A w) (by unfold CodeIs; simp [hop]; done) hs hd ha hb
set_option maxHeartbeats 4000000 in
theorem implInsOk_c (i : InsIns) (procs size : Int) (w : World) : Calls Tryz.prog 55 #[insV i, .int .i64 procs, .int .i64 size] w fun e w' => e = .returned (.bool (insOk i procs size)) ∧ Chg [] w w' := by
 by_cases hn : i.Op < 1 ∨ 12 < i.Op
 · refine (insNil_c i procs size w hn).mono ?_
   rintro e w' ⟨rfl, hc⟩
   exact ⟨by rw [insOk_nil hn], hc⟩
 have hr : i.Op = 1 ∨ i.Op = 2 ∨ i.Op = 3 ∨ i.Op = 4 ∨ i.Op = 5 ∨ i.Op = 6 ∨ i.Op = 7 ∨ i.Op = 8 ∨ i.Op = 9 ∨ i.Op = 10 ∨ i.Op = 11 ∨ i.Op = 12 := by omega
 clear hn
 rcases hr with h | h | h | h | h | h | h | h | h | h | h | h
 · have hcode := fun w => codeOf1_c i w h
   exact insAll_arith i procs size w hcode ⟨by omega, by omega⟩
 · have hcode := fun w => codeOf2_c i w h
   exact insAll_arith i procs size w hcode ⟨by omega, by omega⟩
 · have hcode := fun w => codeOf3_c i w h
   exact insAll_arith i procs size w hcode ⟨by omega, by omega⟩
 · have hcode := fun w => codeOf4_c i w h
   exact insAll_arith i procs size w hcode ⟨by omega, by omega⟩
 · have hcode := fun w => codeOf5_c i w h
   exact insAll_any i procs size w hcode h
 · have hcode := fun w => codeOf6_c i w h
   exact insAll_load i procs size w hcode h
 · have hcode := fun w => codeOf7_c i w h
   exact insAll_store i procs size w hcode h
 · have hcode := fun w => codeOf8_c i w h
   exact insAll_if i procs size w hcode h
 · have hcode := fun w => codeOf9_c i w h
   exact insAll_jump i procs size w hcode h
 · have hcode := fun w => codeOf10_c i w h
   exact insAll_call i procs size w hcode h
 · have hcode := fun w => codeOf11_c i w h
   exact insAll_assert i procs size w hcode h
 · have hcode := fun w => codeOf12_c i w h
   exact insAll_ret i procs size w hcode h
end Go.Proofs.YtjakhnhnjhafgaaGreat.Wk
