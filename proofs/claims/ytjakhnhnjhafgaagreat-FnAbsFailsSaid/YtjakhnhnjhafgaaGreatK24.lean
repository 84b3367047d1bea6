/- A part of the proof. -/
import Derived.Test.YtjakhnhnjhafgaaGreatK23
import Derived.Test.YtjakhnhnjhafgaaGreatK07
set_option linter.unusedVariables false
set_option linter.unusedSimpArgs false
namespace Ow
open Go Go.RowKit Go.Deep
structure En3 where
 I : List (Nat × Int) := []
 B : List (Nat × Bool) := []
 L : List (Nat × List (List D)) := []
 S : List (Nat × ByteArray) := []
def mkEs : List En3 → Env
 | [] => env0
 | e :: es => ⟨fun i a => lk e.I ((mkEs es).I i a) i a, fun i a => lk e.B ((mkEs es).B i a) i a, fun i a => lk e.S ((mkEs es).S i a) i a, fun i a => lk e.L ((mkEs es).L i a) i a⟩
@[go_sem] theorem mkEs_I {e : En3} {es : List En3} {i : Nat} {a : List C} : (mkEs (e :: es)).I i a = lk e.I ((mkEs es).I i a) i a := rfl
@[go_sem] theorem mkEs_B {e : En3} {es : List En3} {i : Nat} {a : List C} : (mkEs (e :: es)).B i a = lk e.B ((mkEs es).B i a) i a := rfl
@[go_sem] theorem mkEs_S {e : En3} {es : List En3} {i : Nat} {a : List C} : (mkEs (e :: es)).S i a = lk e.S ((mkEs es).S i a) i a := rfl
@[go_sem] theorem mkEs_L {e : En3} {es : List En3} {i : Nat} {a : List C} : (mkEs (e :: es)).L i a = lk e.L ((mkEs es).L i a) i a := rfl
abbrev eI (i : Nat) (n : Int) : En3 := { I := [(i, n)] }
abbrev eB (i : Nat) (b : Bool) : En3 := { B := [(i, b)] }
abbrev xi (j : Nat) : X := .ati .i64 j .nil
theorem gD {α : Type} {f : α → List D} {xs : List α} {i : Nat} {z : α} {β : Type} {g : List D → β} (h : g [] = g (f z)) : g ((xs.map f).getD i []) = g (f (xs.getD i z)) := by
 simp only [List.getD_eq_getElem?_getD, List.getElem?_map]
 cases xs[i]? with
 | none => exact h
 | some a => rfl
def dInt (x : Int) : List D := [.lit (.int .i64 x)]
abbrev kInt : Ki := .cons (.int .i64) .nil
theorem row_Int (x : Int) : kInt.row (dInt x) = dInt x := rfl
@[go_sem] theorem map_Int {xs : List Int} : (xs.map dInt).map kInt.row = xs.map dInt := map_row row_Int xs
def uInt (r : List D) : Int := intD (r.headD dz)
@[go_sem] theorem uc_Int {α : Type} {c : α} {l : List α} {g : α → List D} : (c :: l).map (fun c => uInt (g c)) = uInt (g c) :: l.map (fun c => uInt (g c)) := rfl
@[go_sem] theorem un0_Int {α : Type} {g : α → List D} : ([] : List α).map (fun c => uInt (g c)) = [] := rfl
theorem ud_Int (x : Int) : uInt (dInt x) = x := rfl
abbrev qInt (l : List Int) : List C := l.map (fun x => .tup ((dInt x).map .d))
@[go_sem] theorem rws_Int {l : List Int} : (l.map dInt).map (fun r => C.tup ((kInt.row r).map C.d)) = qInt l := by rw [List.map_map]; exact List.map_congr_left (fun x _ => by simp only [Function.comp, row_Int])
theorem qinj_Int {l m : List Int} : qInt l = qInt m ↔ l = m := by
 refine ⟨fun h => ?_, fun h => by rw [h]⟩
 have := congrArg (List.map (fun c => uInt ((tupOf c).map dOf))) h
 simpa [Function.comp_def, tupOf, dOf, ud_Int] using this
@[go_sem high] theorem qsn_Int {l : List Int} {a0 : Int} : qInt l ++ [C.tup [.d (.lit (.int .i64 a0))]] = qInt (l ++ [a0]) := by
 have e : qInt (l ++ [a0]) = qInt l ++ [C.tup [.d (.lit (.int .i64 a0))]] := List.map_append
 exact e.symm
@[go_sem] theorem iteq_Int {c : Prop} [Decidable c] {a b : List Int} : (if c then C.tup (qInt a) else C.tup (qInt b)) = C.tup (qInt (if c then a else b)) := by split <;> rfl
@[go_sem high] theorem gq_Int_0 {l : List Int} {i : Nat} : intD (dOf ((tupOf ((qInt l).getD i .dead)).getD 0 .dead)) = (l.getD i 0) := by
 simp only [List.getD_eq_getElem?_getD, List.getElem?_map]
 cases l[i]? <;> rfl
@[go_sem] theorem md_Int_0 {l : List Int} {i : Nat} {a : Int} : (qInt l).modify i (fun c => C.tup ((tupOf c).set 0 (C.d (.lit (.int .i64 a))))) = qInt (l.modify i (fun x => a)) := mdq (q := fun x => C.tup ((dInt x).map .d)) (fun _ => rfl) l i
@[go_sem] theorem qeq_Int {l m : List Int} : C.tup (qInt l) = C.tup (qInt m) ↔ l = m := by rw [C.tup.injEq, qinj_Int]
@[go_sem] theorem qnil_Int {m : List Int} : C.tup [] = C.tup (qInt m) ↔ [] = m := by rw [← qinj_Int, C.tup.injEq]; rfl
@[go_sem high] theorem qfz_Int {l : List Int} : (qInt l).map (fun c => kInt.row ((tupOf c).map dOf)) = l.map dInt := by rw [List.map_map]; exact List.map_congr_left (fun x _ => by simp only [Function.comp, tupOf, List.map_map, Function.comp_def, dOf, List.map_id']; exact row_Int x)
def xInt (i : Nat) : X := .ati .i64 i .nil
abbrev eInt (i : Nat) (x : Int) : En3 := { I := [(i, x)] }
abbrev eLInt (i : Nat) (x : (List Int)) : En3 := { L := [(i, x.map dInt)] }
def dU8 (x : UInt8) : List D := [.lit (.int .u8 x.toNat)]
abbrev kU8 : Ki := .cons (.int .u8) .nil
theorem row_U8 (x : UInt8) : kU8.row (dU8 x) = dU8 x := rfl
@[go_sem] theorem map_U8 {xs : List UInt8} : (xs.map dU8).map kU8.row = xs.map dU8 := map_row row_U8 xs
@[go_sem] theorem get_U8_0 {xs : List UInt8} {i : Nat} : intD (((xs.map dU8).getD i []).getD 0 dz) = ((xs.getD i 0).toNat : Int) := gD (z := 0) (g := fun r => intD (r.getD 0 dz)) rfl
def xLU8 (i : Nat) : X := .atl (.cons (.int .u8) .nil) i .nil
abbrev eLU8 (i : Nat) (x : (List UInt8)) : En3 := { L := [(i, x.map dU8)] }
def xBool (i : Nat) : X := .atb i .nil
abbrev eBool (i : Nat) (x : Bool) : En3 := { B := [(i, x)] }
def zInsIns : InsIns := { Op := 0, D := 0, A := 0, B := 0, Rel := 0, Lo := 0, Hi := 0, To := 0 }
def dInsIns (x : InsIns) : List D := [.lit (.int .i64 x.Op), .lit (.int .i64 x.D), .lit (.int .i64 x.A), .lit (.int .i64 x.B), .lit (.int .i64 x.Rel), .lit (.int .i64 x.Lo), .lit (.int .i64 x.Hi), .lit (.int .i64 x.To)]
@[go_sem] theorem exists_InsIns {p : InsIns → Prop} : (∃ x, p x) ↔ ∃ a0 : Int, ∃ a1 : Int, ∃ a2 : Int, ∃ a3 : Int, ∃ a4 : Int, ∃ a5 : Int, ∃ a6 : Int, ∃ a7 : Int, p ⟨a0, a1, a2, a3, a4, a5, a6, a7⟩ := ⟨fun ⟨x, h⟩ => ⟨x.Op, x.D, x.A, x.B, x.Rel, x.Lo, x.Hi, x.To, h⟩, fun ⟨a0, a1, a2, a3, a4, a5, a6, a7, h⟩ => ⟨_, h⟩⟩
abbrev kInsIns : Ki := .cons (.int .i64) (.cons (.int .i64) (.cons (.int .i64) (.cons (.int .i64) (.cons (.int .i64) (.cons (.int .i64) (.cons (.int .i64) (.cons (.int .i64) .nil)))))))
theorem row_InsIns (x : InsIns) : kInsIns.row (dInsIns x) = dInsIns x := rfl
@[go_sem] theorem map_InsIns {xs : List InsIns} : (xs.map dInsIns).map kInsIns.row = xs.map dInsIns := map_row row_InsIns xs
@[go_sem] theorem get_InsIns_0 {xs : List InsIns} {i : Nat} : intD (((xs.map dInsIns).getD i []).getD 0 dz) = (xs.getD i zInsIns).Op := gD (z := zInsIns) (g := fun r => intD (r.getD 0 dz)) rfl
@[go_sem] theorem get_InsIns_1 {xs : List InsIns} {i : Nat} : intD (((xs.map dInsIns).getD i []).getD 1 dz) = (xs.getD i zInsIns).D := gD (z := zInsIns) (g := fun r => intD (r.getD 1 dz)) rfl
@[go_sem] theorem get_InsIns_2 {xs : List InsIns} {i : Nat} : intD (((xs.map dInsIns).getD i []).getD 2 dz) = (xs.getD i zInsIns).A := gD (z := zInsIns) (g := fun r => intD (r.getD 2 dz)) rfl
@[go_sem] theorem get_InsIns_3 {xs : List InsIns} {i : Nat} : intD (((xs.map dInsIns).getD i []).getD 3 dz) = (xs.getD i zInsIns).B := gD (z := zInsIns) (g := fun r => intD (r.getD 3 dz)) rfl
@[go_sem] theorem get_InsIns_4 {xs : List InsIns} {i : Nat} : intD (((xs.map dInsIns).getD i []).getD 4 dz) = (xs.getD i zInsIns).Rel := gD (z := zInsIns) (g := fun r => intD (r.getD 4 dz)) rfl
@[go_sem] theorem get_InsIns_5 {xs : List InsIns} {i : Nat} : intD (((xs.map dInsIns).getD i []).getD 5 dz) = (xs.getD i zInsIns).Lo := gD (z := zInsIns) (g := fun r => intD (r.getD 5 dz)) rfl
@[go_sem] theorem get_InsIns_6 {xs : List InsIns} {i : Nat} : intD (((xs.map dInsIns).getD i []).getD 6 dz) = (xs.getD i zInsIns).Hi := gD (z := zInsIns) (g := fun r => intD (r.getD 6 dz)) rfl
@[go_sem] theorem get_InsIns_7 {xs : List InsIns} {i : Nat} : intD (((xs.map dInsIns).getD i []).getD 7 dz) = (xs.getD i zInsIns).To := gD (z := zInsIns) (g := fun r => intD (r.getD 7 dz)) rfl
def uInsIns (r : List D) : InsIns := ⟨intD (r.headD dz), intD (r.tail.headD dz), intD (r.tail.tail.headD dz), intD (r.tail.tail.tail.headD dz), intD (r.tail.tail.tail.tail.headD dz), intD (r.tail.tail.tail.tail.tail.headD dz), intD (r.tail.tail.tail.tail.tail.tail.headD dz), intD (r.tail.tail.tail.tail.tail.tail.tail.headD dz)⟩
theorem un_InsIns (r : List D) : kInsIns.row r = dInsIns (uInsIns r) := rfl
@[go_sem] theorem fz_InsIns {α : Type} {l : List α} {g : α → List D} : l.map (fun c => kInsIns.row (g c)) = (l.map (fun c => uInsIns (g c))).map dInsIns := by simp only [List.map_map, Function.comp_def, un_InsIns]
theorem mr_InsIns {l : List (List D)} : l.map kInsIns.row = (l.map uInsIns).map dInsIns := by rw [List.map_map]; exact List.map_congr_left (fun r _ => un_InsIns r)
@[go_sem] theorem uc_InsIns {α : Type} {c : α} {l : List α} {g : α → List D} : (c :: l).map (fun c => uInsIns (g c)) = uInsIns (g c) :: l.map (fun c => uInsIns (g c)) := rfl
@[go_sem] theorem un0_InsIns {α : Type} {g : α → List D} : ([] : List α).map (fun c => uInsIns (g c)) = [] := rfl
theorem ud_InsIns (x : InsIns) : uInsIns (dInsIns x) = x := rfl
@[go_sem] theorem inj_InsIns {l m : List InsIns} : l.map dInsIns = m.map dInsIns ↔ l = m := ⟨fun h => by have := congrArg (List.map uInsIns) h; simpa [Function.comp_def, ud_InsIns] using this, fun h => by rw [h]⟩
abbrev qInsIns (l : List InsIns) : List C := l.map (fun x => .tup ((dInsIns x).map .d))
@[go_sem] theorem rws_InsIns {l : List InsIns} : (l.map dInsIns).map (fun r => C.tup ((kInsIns.row r).map C.d)) = qInsIns l := by rw [List.map_map]; exact List.map_congr_left (fun x _ => by simp only [Function.comp, row_InsIns])
theorem qinj_InsIns {l m : List InsIns} : qInsIns l = qInsIns m ↔ l = m := by
 refine ⟨fun h => ?_, fun h => by rw [h]⟩
 have := congrArg (List.map (fun c => uInsIns ((tupOf c).map dOf))) h
 simpa [Function.comp_def, tupOf, dOf, ud_InsIns] using this
@[go_sem high] theorem qsn_InsIns {l : List InsIns} {a0 : Int} {a1 : Int} {a2 : Int} {a3 : Int} {a4 : Int} {a5 : Int} {a6 : Int} {a7 : Int} : qInsIns l ++ [C.tup [.d (.lit (.int .i64 a0)), .d (.lit (.int .i64 a1)), .d (.lit (.int .i64 a2)), .d (.lit (.int .i64 a3)), .d (.lit (.int .i64 a4)), .d (.lit (.int .i64 a5)), .d (.lit (.int .i64 a6)), .d (.lit (.int .i64 a7))]] = qInsIns (l ++ [⟨a0, a1, a2, a3, a4, a5, a6, a7⟩]) := by
 have e : qInsIns (l ++ [⟨a0, a1, a2, a3, a4, a5, a6, a7⟩]) = qInsIns l ++ [C.tup [.d (.lit (.int .i64 a0)), .d (.lit (.int .i64 a1)), .d (.lit (.int .i64 a2)), .d (.lit (.int .i64 a3)), .d (.lit (.int .i64 a4)), .d (.lit (.int .i64 a5)), .d (.lit (.int .i64 a6)), .d (.lit (.int .i64 a7))]] := List.map_append
 exact e.symm
@[go_sem] theorem iteq_InsIns {c : Prop} [Decidable c] {a b : List InsIns} : (if c then C.tup (qInsIns a) else C.tup (qInsIns b)) = C.tup (qInsIns (if c then a else b)) := by split <;> rfl
@[go_sem] theorem qeq_InsIns {l m : List InsIns} : C.tup (qInsIns l) = C.tup (qInsIns m) ↔ l = m := by rw [C.tup.injEq, qinj_InsIns]
@[go_sem] theorem qnil_InsIns {m : List InsIns} : C.tup [] = C.tup (qInsIns m) ↔ [] = m := by rw [← qinj_InsIns, C.tup.injEq]; rfl
@[go_sem high] theorem qfz_InsIns {l : List InsIns} : (qInsIns l).map (fun c => kInsIns.row ((tupOf c).map dOf)) = l.map dInsIns := by rw [List.map_map]; exact List.map_congr_left (fun x _ => by simp only [Function.comp, tupOf, List.map_map, Function.comp_def, dOf, List.map_id']; exact row_InsIns x)
def xInsIns (i : Nat) : X := .agg (.cons (.ati .i64 (i + 0) .nil) (.cons (.ati .i64 (i + 1) .nil) (.cons (.ati .i64 (i + 2) .nil) (.cons (.ati .i64 (i + 3) .nil) (.cons (.ati .i64 (i + 4) .nil) (.cons (.ati .i64 (i + 5) .nil) (.cons (.ati .i64 (i + 6) .nil) (.cons (.ati .i64 (i + 7) .nil) .nil))))))))
abbrev eInsIns (i : Nat) (x : InsIns) : En3 := { I := [(i + 0, x.Op), (i + 1, x.D), (i + 2, x.A), (i + 3, x.B), (i + 4, x.Rel), (i + 5, x.Lo), (i + 6, x.Hi), (i + 7, x.To)], B := [], L := [], S := [] }
def xLInsIns (i : Nat) : X := .atl (.cons (.int .i64) (.cons (.int .i64) (.cons (.int .i64) (.cons (.int .i64) (.cons (.int .i64) (.cons (.int .i64) (.cons (.int .i64) (.cons (.int .i64) .nil)))))))) i .nil
abbrev eLInsIns (i : Nat) (x : (List InsIns)) : En3 := { L := [(i, x.map dInsIns)] }
def zPrcProc : PrcProc := { Lo := 0, Hi := 0, Code := [] }
def dPrcProc (x : PrcProc) : List D := [.lit (.int .i64 x.Lo), .lit (.int .i64 x.Hi), .sl 8 (x.Code.map dInsIns)]
@[go_sem] theorem exists_PrcProc {p : PrcProc → Prop} : (∃ x, p x) ↔ ∃ a0 : Int, ∃ a1 : Int, ∃ a2 : (List InsIns), p ⟨a0, a1, a2⟩ := ⟨fun ⟨x, h⟩ => ⟨x.Lo, x.Hi, x.Code, h⟩, fun ⟨a0, a1, a2, h⟩ => ⟨_, h⟩⟩
abbrev kPrcProc : Ki := .cons (.int .i64) (.cons (.int .i64) (.cons (.sl (.cons (.int .i64) (.cons (.int .i64) (.cons (.int .i64) (.cons (.int .i64) (.cons (.int .i64) (.cons (.int .i64) (.cons (.int .i64) (.cons (.int .i64) .nil))))))))) .nil))
theorem row_PrcProc (x : PrcProc) : kPrcProc.row (dPrcProc x) = dPrcProc x := by
 show ([.lit (.int .i64 x.Lo), .lit (.int .i64 x.Hi), .sl 8 ((x.Code.map dInsIns).map kInsIns.row)] : List D) = _
 simp only [map_InsIns, dPrcProc]
@[go_sem] theorem map_PrcProc {xs : List PrcProc} : (xs.map dPrcProc).map kPrcProc.row = xs.map dPrcProc := map_row row_PrcProc xs
@[go_sem] theorem get_PrcProc_0 {xs : List PrcProc} {i : Nat} : intD (((xs.map dPrcProc).getD i []).getD 0 dz) = (xs.getD i zPrcProc).Lo := gD (z := zPrcProc) (g := fun r => intD (r.getD 0 dz)) rfl
@[go_sem] theorem get_PrcProc_1 {xs : List PrcProc} {i : Nat} : intD (((xs.map dPrcProc).getD i []).getD 1 dz) = (xs.getD i zPrcProc).Hi := gD (z := zPrcProc) (g := fun r => intD (r.getD 1 dz)) rfl
@[go_sem] theorem get_PrcProc_2 {xs : List PrcProc} {i : Nat} : elsD (((xs.map dPrcProc).getD i []).getD 2 dz) = (xs.getD i zPrcProc).Code.map dInsIns := gD (z := zPrcProc) (g := fun r => elsD (r.getD 2 dz)) rfl
def uPrcProc (r : List D) : PrcProc := ⟨intD (r.headD dz), intD (r.tail.headD dz), (elsD (r.tail.tail.headD dz)).map uInsIns⟩
theorem un_PrcProc (r : List D) : kPrcProc.row r = dPrcProc (uPrcProc r) := by
 show ([.lit (.int .i64 (intD (r.headD dz))), .lit (.int .i64 (intD (r.tail.headD dz))), .sl 8 ((elsD (r.tail.tail.headD dz)).map kInsIns.row)] : List D) = _
 simp only [mr_InsIns, dPrcProc, uPrcProc]
@[go_sem] theorem fz_PrcProc {α : Type} {l : List α} {g : α → List D} : l.map (fun c => kPrcProc.row (g c)) = (l.map (fun c => uPrcProc (g c))).map dPrcProc := by simp only [List.map_map, Function.comp_def, un_PrcProc]
@[go_sem] theorem uc_PrcProc {α : Type} {c : α} {l : List α} {g : α → List D} : (c :: l).map (fun c => uPrcProc (g c)) = uPrcProc (g c) :: l.map (fun c => uPrcProc (g c)) := rfl
@[go_sem] theorem un0_PrcProc {α : Type} {g : α → List D} : ([] : List α).map (fun c => uPrcProc (g c)) = [] := rfl
theorem ud_PrcProc (x : PrcProc) : uPrcProc (dPrcProc x) = x := by
 simp only [uPrcProc, dPrcProc, List.headD_cons, List.tail_cons, intD_i, boolD_b, strD_s, elsD_s, List.map_map, Function.comp_def, ud_InsIns, List.map_id']
@[go_sem] theorem inj_PrcProc {l m : List PrcProc} : l.map dPrcProc = m.map dPrcProc ↔ l = m := ⟨fun h => by have := congrArg (List.map uPrcProc) h; simpa [Function.comp_def, ud_PrcProc] using this, fun h => by rw [h]⟩
abbrev qPrcProc (l : List PrcProc) : List C := l.map (fun x => .tup ((dPrcProc x).map .d))
@[go_sem] theorem rws_PrcProc {l : List PrcProc} : (l.map dPrcProc).map (fun r => C.tup ((kPrcProc.row r).map C.d)) = qPrcProc l := by rw [List.map_map]; exact List.map_congr_left (fun x _ => by simp only [Function.comp, row_PrcProc])
theorem qinj_PrcProc {l m : List PrcProc} : qPrcProc l = qPrcProc m ↔ l = m := by
 refine ⟨fun h => ?_, fun h => by rw [h]⟩
 have := congrArg (List.map (fun c => uPrcProc ((tupOf c).map dOf))) h
 simpa [Function.comp_def, tupOf, dOf, ud_PrcProc] using this
@[go_sem high] theorem qsn_PrcProc {l : List PrcProc} {a0 : Int} {a1 : Int} {a2 : List InsIns} : qPrcProc l ++ [C.tup [.d (.lit (.int .i64 a0)), .d (.lit (.int .i64 a1)), .d (.sl 8 (a2.map dInsIns))]] = qPrcProc (l ++ [⟨a0, a1, a2⟩]) := by
 have e : qPrcProc (l ++ [⟨a0, a1, a2⟩]) = qPrcProc l ++ [C.tup [.d (.lit (.int .i64 a0)), .d (.lit (.int .i64 a1)), .d (.sl 8 (a2.map dInsIns))]] := List.map_append
 exact e.symm
@[go_sem] theorem iteq_PrcProc {c : Prop} [Decidable c] {a b : List PrcProc} : (if c then C.tup (qPrcProc a) else C.tup (qPrcProc b)) = C.tup (qPrcProc (if c then a else b)) := by split <;> rfl
@[go_sem high] theorem gq_PrcProc_0 {l : List PrcProc} {i : Nat} : intD (dOf ((tupOf ((qPrcProc l).getD i .dead)).getD 0 .dead)) = (l.getD i zPrcProc).Lo := by
 simp only [List.getD_eq_getElem?_getD, List.getElem?_map]
 cases l[i]? <;> rfl
@[go_sem high] theorem gq_PrcProc_1 {l : List PrcProc} {i : Nat} : intD (dOf ((tupOf ((qPrcProc l).getD i .dead)).getD 1 .dead)) = (l.getD i zPrcProc).Hi := by
 simp only [List.getD_eq_getElem?_getD, List.getElem?_map]
 cases l[i]? <;> rfl
@[go_sem high] theorem gq_PrcProc_2 {l : List PrcProc} {i : Nat} : elsD (dOf ((tupOf ((qPrcProc l).getD i .dead)).getD 2 .dead)) = (l.getD i zPrcProc).Code.map dInsIns := by
 simp only [List.getD_eq_getElem?_getD, List.getElem?_map]
 cases l[i]? <;> rfl
@[go_sem] theorem md_PrcProc_0 {l : List PrcProc} {i : Nat} {a : Int} : (qPrcProc l).modify i (fun c => C.tup ((tupOf c).set 0 (C.d (.lit (.int .i64 a))))) = qPrcProc (l.modify i (fun x => ⟨a, x.Hi, x.Code⟩)) := mdq (q := fun x => C.tup ((dPrcProc x).map .d)) (fun _ => rfl) l i
@[go_sem] theorem md_PrcProc_1 {l : List PrcProc} {i : Nat} {a : Int} : (qPrcProc l).modify i (fun c => C.tup ((tupOf c).set 1 (C.d (.lit (.int .i64 a))))) = qPrcProc (l.modify i (fun x => ⟨x.Lo, a, x.Code⟩)) := mdq (q := fun x => C.tup ((dPrcProc x).map .d)) (fun _ => rfl) l i
@[go_sem] theorem md_PrcProc_2 {l : List PrcProc} {i : Nat} {a : List InsIns} : (qPrcProc l).modify i (fun c => C.tup ((tupOf c).set 2 (C.d (.sl 8 (a.map dInsIns))))) = qPrcProc (l.modify i (fun x => ⟨x.Lo, x.Hi, a⟩)) := mdq (q := fun x => C.tup ((dPrcProc x).map .d)) (fun _ => rfl) l i
@[go_sem] theorem qeq_PrcProc {l m : List PrcProc} : C.tup (qPrcProc l) = C.tup (qPrcProc m) ↔ l = m := by rw [C.tup.injEq, qinj_PrcProc]
@[go_sem] theorem qnil_PrcProc {m : List PrcProc} : C.tup [] = C.tup (qPrcProc m) ↔ [] = m := by rw [← qinj_PrcProc, C.tup.injEq]; rfl
@[go_sem high] theorem qfz_PrcProc {l : List PrcProc} : (qPrcProc l).map (fun c => kPrcProc.row ((tupOf c).map dOf)) = l.map dPrcProc := by rw [List.map_map]; exact List.map_congr_left (fun x _ => by simp only [Function.comp, tupOf, List.map_map, Function.comp_def, dOf, List.map_id']; exact row_PrcProc x)
def xPrcProc (i : Nat) : X := .agg (.cons (.ati .i64 (i + 0) .nil) (.cons (.ati .i64 (i + 1) .nil) (.cons (.atl (.cons (.int .i64) (.cons (.int .i64) (.cons (.int .i64) (.cons (.int .i64) (.cons (.int .i64) (.cons (.int .i64) (.cons (.int .i64) (.cons (.int .i64) .nil)))))))) (i + 2) .nil) .nil)))
abbrev ePrcProc (i : Nat) (x : PrcProc) : En3 := { I := [(i + 0, x.Lo), (i + 1, x.Hi)], B := [], L := [(i + 2, x.Code.map dInsIns)], S := [] }
abbrev eLPrcProc (i : Nat) (x : (List PrcProc)) : En3 := { L := [(i, x.map dPrcProc)] }
def zPrgProg : PrgProg := { Procs := [] }
@[go_sem] theorem exists_PrgProg {p : PrgProg → Prop} : (∃ x, p x) ↔ ∃ a0 : (List PrcProc), p ⟨a0⟩ := ⟨fun ⟨x, h⟩ => ⟨x.Procs, h⟩, fun ⟨a0, h⟩ => ⟨_, h⟩⟩
def xPrgProg (i : Nat) : X := .agg (.cons (.atl (.cons (.int .i64) (.cons (.int .i64) (.cons (.sl (.cons (.int .i64) (.cons (.int .i64) (.cons (.int .i64) (.cons (.int .i64) (.cons (.int .i64) (.cons (.int .i64) (.cons (.int .i64) (.cons (.int .i64) .nil))))))))) .nil))) (i + 0) .nil) .nil)
abbrev ePrgProg (i : Nat) (x : PrgProg) : En3 := { I := [], B := [], L := [(i + 0, x.Procs.map dPrcProc)], S := [] }
def zItvItv : ItvItv := { Lo := 0, Hi := 0 }
def dItvItv (x : ItvItv) : List D := [.lit (.int .i64 x.Lo), .lit (.int .i64 x.Hi)]
@[go_sem] theorem exists_ItvItv {p : ItvItv → Prop} : (∃ x, p x) ↔ ∃ a0 : Int, ∃ a1 : Int, p ⟨a0, a1⟩ := ⟨fun ⟨x, h⟩ => ⟨x.Lo, x.Hi, h⟩, fun ⟨a0, a1, h⟩ => ⟨_, h⟩⟩
abbrev kItvItv : Ki := .cons (.int .i64) (.cons (.int .i64) .nil)
theorem row_ItvItv (x : ItvItv) : kItvItv.row (dItvItv x) = dItvItv x := rfl
@[go_sem] theorem map_ItvItv {xs : List ItvItv} : (xs.map dItvItv).map kItvItv.row = xs.map dItvItv := map_row row_ItvItv xs
@[go_sem] theorem get_ItvItv_0 {xs : List ItvItv} {i : Nat} : intD (((xs.map dItvItv).getD i []).getD 0 dz) = (xs.getD i zItvItv).Lo := gD (z := zItvItv) (g := fun r => intD (r.getD 0 dz)) rfl
@[go_sem] theorem get_ItvItv_1 {xs : List ItvItv} {i : Nat} : intD (((xs.map dItvItv).getD i []).getD 1 dz) = (xs.getD i zItvItv).Hi := gD (z := zItvItv) (g := fun r => intD (r.getD 1 dz)) rfl
def uItvItv (r : List D) : ItvItv := ⟨intD (r.headD dz), intD (r.tail.headD dz)⟩
@[go_sem] theorem uc_ItvItv {α : Type} {c : α} {l : List α} {g : α → List D} : (c :: l).map (fun c => uItvItv (g c)) = uItvItv (g c) :: l.map (fun c => uItvItv (g c)) := rfl
@[go_sem] theorem un0_ItvItv {α : Type} {g : α → List D} : ([] : List α).map (fun c => uItvItv (g c)) = [] := rfl
theorem ud_ItvItv (x : ItvItv) : uItvItv (dItvItv x) = x := rfl
@[go_sem] theorem inj_ItvItv {l m : List ItvItv} : l.map dItvItv = m.map dItvItv ↔ l = m := ⟨fun h => by have := congrArg (List.map uItvItv) h; simpa [Function.comp_def, ud_ItvItv] using this, fun h => by rw [h]⟩
abbrev qItvItv (l : List ItvItv) : List C := l.map (fun x => .tup ((dItvItv x).map .d))
@[go_sem] theorem rws_ItvItv {l : List ItvItv} : (l.map dItvItv).map (fun r => C.tup ((kItvItv.row r).map C.d)) = qItvItv l := by rw [List.map_map]; exact List.map_congr_left (fun x _ => by simp only [Function.comp, row_ItvItv])
theorem qinj_ItvItv {l m : List ItvItv} : qItvItv l = qItvItv m ↔ l = m := by
 refine ⟨fun h => ?_, fun h => by rw [h]⟩
 have := congrArg (List.map (fun c => uItvItv ((tupOf c).map dOf))) h
 simpa [Function.comp_def, tupOf, dOf, ud_ItvItv] using this
@[go_sem high] theorem qsn_ItvItv {l : List ItvItv} {a0 : Int} {a1 : Int} : qItvItv l ++ [C.tup [.d (.lit (.int .i64 a0)), .d (.lit (.int .i64 a1))]] = qItvItv (l ++ [⟨a0, a1⟩]) := by
 have e : qItvItv (l ++ [⟨a0, a1⟩]) = qItvItv l ++ [C.tup [.d (.lit (.int .i64 a0)), .d (.lit (.int .i64 a1))]] := List.map_append
 exact e.symm
@[go_sem] theorem iteq_ItvItv {c : Prop} [Decidable c] {a b : List ItvItv} : (if c then C.tup (qItvItv a) else C.tup (qItvItv b)) = C.tup (qItvItv (if c then a else b)) := by split <;> rfl
@[go_sem] theorem md_ItvItv_0 {l : List ItvItv} {i : Nat} {a : Int} : (qItvItv l).modify i (fun c => C.tup ((tupOf c).set 0 (C.d (.lit (.int .i64 a))))) = qItvItv (l.modify i (fun x => ⟨a, x.Hi⟩)) := mdq (q := fun x => C.tup ((dItvItv x).map .d)) (fun _ => rfl) l i
@[go_sem] theorem md_ItvItv_1 {l : List ItvItv} {i : Nat} {a : Int} : (qItvItv l).modify i (fun c => C.tup ((tupOf c).set 1 (C.d (.lit (.int .i64 a))))) = qItvItv (l.modify i (fun x => ⟨x.Lo, a⟩)) := mdq (q := fun x => C.tup ((dItvItv x).map .d)) (fun _ => rfl) l i
@[go_sem] theorem qeq_ItvItv {l m : List ItvItv} : C.tup (qItvItv l) = C.tup (qItvItv m) ↔ l = m := by rw [C.tup.injEq, qinj_ItvItv]
@[go_sem] theorem qnil_ItvItv {m : List ItvItv} : C.tup [] = C.tup (qItvItv m) ↔ [] = m := by rw [← qinj_ItvItv, C.tup.injEq]; rfl
@[go_sem high] theorem qfz_ItvItv {l : List ItvItv} : (qItvItv l).map (fun c => kItvItv.row ((tupOf c).map dOf)) = l.map dItvItv := by rw [List.map_map]; exact List.map_congr_left (fun x _ => by simp only [Function.comp, tupOf, List.map_map, Function.comp_def, dOf, List.map_id']; exact row_ItvItv x)
def xItvItv (i : Nat) : X := .agg (.cons (.ati .i64 (i + 0) .nil) (.cons (.ati .i64 (i + 1) .nil) .nil))
abbrev eItvItv (i : Nat) (x : ItvItv) : En3 := { I := [(i + 0, x.Lo), (i + 1, x.Hi)], B := [], L := [], S := [] }
abbrev eLItvItv (i : Nat) (x : (List ItvItv)) : En3 := { L := [(i, x.map dItvItv)] }
def zAbsState : AbsState := { On := false, Vars := [], Cells := zItvItv }
@[go_sem] theorem exists_AbsState {p : AbsState → Prop} : (∃ x, p x) ↔ ∃ a0 : Bool, ∃ a1 : (List ItvItv), ∃ a2 : ItvItv, p ⟨a0, a1, a2⟩ := ⟨fun ⟨x, h⟩ => ⟨x.On, x.Vars, x.Cells, h⟩, fun ⟨a0, a1, a2, h⟩ => ⟨_, h⟩⟩
def xAbsState (i : Nat) : X := .agg (.cons (.atb (i + 0) .nil) (.cons (.atl (.cons (.int .i64) (.cons (.int .i64) .nil)) (i + 1) .nil) (.cons (.ati .i64 (i + 2) .nil) (.cons (.ati .i64 (i + 3) .nil) .nil))))
abbrev eAbsState (i : Nat) (x : AbsState) : En3 := { I := [(i + 2, x.Cells.Lo), (i + 3, x.Cells.Hi)], B := [(i + 0, x.On)], L := [(i + 1, x.Vars.map dItvItv)], S := [] }
def dRunFrame (x : RunFrame) : List D := [.lit (.int .i64 x.Proc), .lit (.int .i64 x.Pc), .sl 1 (x.Vars.map dInt), .sl 1 (x.Cells.map dInt)]
abbrev kRunFrame : Ki := .cons (.int .i64) (.cons (.int .i64) (.cons (.sl (.cons (.int .i64) .nil)) (.cons (.sl (.cons (.int .i64) .nil)) .nil)))
theorem row_RunFrame (x : RunFrame) : kRunFrame.row (dRunFrame x) = dRunFrame x := by
 show ([.lit (.int .i64 x.Proc), .lit (.int .i64 x.Pc), .sl 1 ((x.Vars.map dInt).map kInt.row), .sl 1 ((x.Cells.map dInt).map kInt.row)] : List D) = _
 simp only [map_Int, dRunFrame]
@[go_sem] theorem map_RunFrame {xs : List RunFrame} : (xs.map dRunFrame).map kRunFrame.row = xs.map dRunFrame := map_row row_RunFrame xs
abbrev eRunRun (i : Nat) (x : RunRun) : En3 := { I := [(i + 0, x.State), (i + 2, x.Out), (i + 3, x.Proc), (i + 4, x.Pc)], B := [], L := [(i + 1, x.Frames.map dRunFrame)], S := [] }
@[go_sem] theorem arAdd {k : IntKind} {a b : Int} : arI .add k a b = k.wrap (a + b) := rfl
@[go_sem] theorem arSub {k : IntKind} {a b : Int} : arI .sub k a b = k.wrap (a - b) := rfl
@[go_sem] theorem arMul {k : IntKind} {a b : Int} : arI .mul k a b = k.wrap (a * b) := rfl
@[go_sem] theorem arQuo {k : IntKind} {a b : Int} : arI .quo k a b = k.wrap (a.tdiv b) := rfl
@[go_sem] theorem arRem {k : IntKind} {a b : Int} : arI .rem k a b = a.tmod b := rfl
@[go_sem] theorem CInj {k : IntKind} {a b : Int} : (C.d (.lit (.int k a)) = C.d (.lit (.int k b))) ↔ a = b := by simp
@[go_sem] theorem CBnj {a b : Bool} : (C.d (.lit (.bool a)) = C.d (.lit (.bool b))) ↔ a = b := by simp
@[go_sem] theorem mdOf0 : ([] : List C).map dOf = [] := rfl
@[go_sem] theorem mdOf1 {c : C} {l : List C} : (c :: l).map dOf = dOf c :: l.map dOf := rfl
@[go_sem] theorem mCd0 : ([] : List D).map C.d = [] := rfl
@[go_sem] theorem mCd1 {c : D} {l : List D} : (c :: l).map C.d = C.d c :: l.map C.d := rfl
@[go_sem] theorem mXd0 {e : Env} : ([] : List X).map (X.den e) = [] := rfl
@[go_sem] theorem mXd1 {e : Env} {c : X} {l : List X} : (c :: l).map (X.den e) = X.den e c :: l.map (X.den e) := rfl
@[go_sem] theorem mBd0 {e : Env} : ([] : List XB).map (XB.den e) = [] := rfl
@[go_sem] theorem mBd1 {e : Env} {c : XB} {l : List XB} : (c :: l).map (XB.den e) = XB.den e c :: l.map (XB.den e) := rfl
@[go_sem] theorem rowsC0 : rowsC (.tup []) = [] := rfl
@[go_sem] theorem rowsC1 {c : C} {l : List C} : rowsC (.tup (c :: l)) = tupOf c :: rowsC (.tup l) := rfl
@[go_sem] theorem rowsCm {α : Type} {l : List α} {f : α → C} : rowsC (.tup (l.map f)) = l.map (fun x => tupOf (f x)) := by simp [rowsC, tupOf, Function.comp_def]
@[go_sem] theorem headD_c {α : Type} {a d : α} {l : List α} : (a :: l).headD d = a := rfl
@[go_sem] theorem headD_n {α : Type} {d : α} : ([] : List α).headD d = d := rfl
@[go_sem] theorem tail_c {α : Type} {a : α} {l : List α} : (a :: l).tail = l := rfl
def tabI (j : Nat) : List C → List Int
 | [] => []
 | c :: l => intD (dOf ((tupOf c).getD j .dead)) :: tabI j l
@[go_sem] theorem tabI0 {j : Nat} : tabI j [] = [] := rfl
@[go_sem] theorem tabI1 {j : Nat} {c : C} {l : List C} : tabI j (c :: l) = intD (dOf ((tupOf c).getD j .dead)) :: tabI j l := rfl
@[go_sem] theorem iteCI {c : Prop} [Decidable c] {k : IntKind} {a b : Int} : (if c then C.d (.lit (.int k a)) else C.d (.lit (.int k b))) = C.d (.lit (.int k (if c then a else b))) := by split <;> rfl
@[go_sem] theorem iteCS {c : Prop} [Decidable c] {n : Nat} {a b : List (List D)} : (if c then C.d (.sl n a) else C.d (.sl n b)) = C.d (.sl n (if c then a else b)) := by split <;> rfl
@[go_sem] theorem CSnj {n : Nat} {a b : List (List D)} : (C.d (.sl n a) = C.d (.sl n b)) ↔ a = b := by simp
def sel (l : List Int) (i : Int) : Int := l.getD i.toNat 0
@[grind =] theorem sel_nil {i : Int} : sel [] i = 0 := rfl
@[grind =] theorem sel_cons {a : Int} {l : List Int} {i : Int} : sel (a :: l) i = if i ≤ 0 then a else sel l (i - 1) := by
 unfold sel
 split
 · rw [show i.toNat = 0 by omega]; rfl
 · rw [show i.toNat = (i - 1).toNat + 1 by omega]; rfl
theorem sel_mem (l : List Int) (i : Int) : sel l i = 0 ∨ sel l i ∈ l := by
 unfold sel
 rw [List.getD_eq_getElem?_getD]
 cases h : l[i.toNat]? with
 | none => exact .inl rfl
 | some z => exact .inr (List.mem_of_getElem? h)
theorem sel_lo {l : List Int} {lo i : Int} (h : (decide (lo ≤ 0) && l.all (fun z => decide (lo ≤ z))) = true) : lo ≤ sel l i := by
 rw [Bool.and_eq_true] at h
 rcases sel_mem l i with e | e
 · rw [e]; exact of_decide_eq_true h.1
 · exact of_decide_eq_true (List.all_eq_true.1 h.2 _ e)
theorem sel_hi {l : List Int} {hi i : Int} (h : (decide (0 ≤ hi) && l.all (fun z => decide (z ≤ hi))) = true) : sel l i ≤ hi := by
 rw [Bool.and_eq_true] at h
 rcases sel_mem l i with e | e
 · rw [e]; exact of_decide_eq_true h.1
 · exact of_decide_eq_true (List.all_eq_true.1 h.2 _ e)
@[go_sem] theorem tbX {l : List C} {i : Int} {j : Nat} : intD (dOf ((tupOf (l.getD i.toNat .dead)).getD j .dead)) = sel (tabI j l) i := by
 have e : tabI j l = l.map (fun c => intD (dOf ((tupOf c).getD j .dead))) := by
  induction l with
  | nil => rfl
  | cons c l ih => simp only [tabI, ih, List.map_cons]
 rw [e]
 unfold sel
 simp only [List.getD_eq_getElem?_getD, List.getElem?_map]
 cases l[i.toNat]? <;> rfl
@[go_sem] theorem getD0 {α : Type} {a d : α} {l : List α} : (a :: l).getD 0 d = a := rfl
@[go_sem] theorem getDs {α : Type} {a d : α} {l : List α} {n : Nat} : (a :: l).getD (n + 1) d = l.getD n d := rfl
theorem tk_snoc {α : Type} (xs : List α) (x : Int) (d : α) (h0 : 0 ≤ x) (h : x < xs.length) : xs.take (x + 1).toNat = xs.take x.toNat ++ [xs.getD x.toNat d] := by
 have e : (x + 1).toNat = x.toNat + 1 := by omega
 have hl : x.toNat < xs.length := by omega
 rw [e, List.take_succ_eq_append_getElem hl, List.getD_eq_getElem?_getD, List.getElem?_eq_getElem hl]; rfl
theorem tk_all {α : Type} (xs : List α) (p : α → Bool) (x : Int) (d : α) (h0 : 0 ≤ x) (h : x < xs.length) : (xs.take (x + 1).toNat).all p = ((xs.take x.toNat).all p && p (xs.getD x.toNat d)) := by
 rw [tk_snoc xs x d h0 h]; simp
theorem tk_end {α : Type} {xs : List α} {x : Int} (h : xs.length ≤ x) : xs.take x.toNat = xs := List.take_of_length_le (by omega)
@[go_sem] theorem tk_0 {α : Type} {xs : List α} : xs.take (Int.toNat 0) = [] := rfl
theorem all_bad {α : Type} {xs : List α} {p : α → Bool} {x : Int} {d : α} (h0 : 0 ≤ x) (h : x < xs.length) (hp : p (xs.getD x.toNat d) = false) : xs.all p = false := by
 have hl : x.toNat < xs.length := by omega
 rw [List.getD_eq_getElem?_getD, List.getElem?_eq_getElem hl] at hp
 exact List.all_eq_false.2 ⟨_, List.getElem_mem hl, by simpa using hp⟩
attribute [go_sem] V.Holds X.den cmpI ileB iltB xAbsState xBool dInsIns xInsIns dInt xInt dItvItv xItvItv xLInsIns xLU8 dPrcProc xPrcProc xPrgProg dRunFrame dU8 uInsIns uInt uItvItv uPrcProc
attribute [go_sem] reduceIte Int.toNat_natCast Int.ofNat_eq_natCast List.length_nil List.length_cons List.length_append List.length_map true_and and_true implies_true Bool.true_and Bool.and_true Ki.len Bool.not_eq_true exists_eq_right exists_eq_right_right exists_eq_left exists_eq_right' exists_eq_right_right' exists_eq_left' Prod.exists Prod.forall Bool.not_eq_eq_eq_not Bool.not_true Bool.not_false
end Ow
namespace Go.Proofs.YtjakhnhnjhafgaaGreat.Wk
open Go Go.RowKit Go.Deep Ow
set_option maxRecDepth 100000
theorem NumOk_e {n : Int} {r : Bool} (h : numOk n = r) : EC Tryz.prog 72 0 [CI n] [] (CB r) [] 0 := by
 subst h
 refine (seat [] []).PU (mkM true []) (fn := Tryz.f72) ⟨by kernel_rfl, by kernel_rfl, rfl⟩ (mkEs [eInt 10 n]) noLps [] [xInt 10] (by simp only [go_sem, Nat.reduceEqDiff, Nat.reduceAdd, Nat.reduceBEq, Int.reduceToNat]) (fun _ => ?_)
 conv => arg 4; cbv
 simp only [go_sem, Nat.reduceEqDiff, Nat.reduceAdd, Nat.reduceBEq, Int.reduceToNat]
 simp [numOk]
theorem ItvOk_e {a0 : Int} {a1 : Int} {r : Bool} (h : itvOk (⟨a0, a1⟩ : ItvItv) = r) : EC Tryz.prog 106 0 [.agg [CI a0, CI a1]] [] (CB r) [] 0 := by
 subst h
 refine (seat [] []).PU (mkM true []) (fn := Tryz.f106) ⟨by kernel_rfl, by kernel_rfl, rfl⟩ (mkEs [eItvItv 10 ⟨a0, a1⟩, eB 112000 (numOk (⟨a0, a1⟩ : ItvItv).Lo), eB 116000 (numOk (⟨a0, a1⟩ : ItvItv).Hi)]) noLps [] [xItvItv 10] (by simp only [go_sem, Nat.reduceEqDiff, Nat.reduceAdd, Nat.reduceBEq, Int.reduceToNat]) (fun _ => ?_)
 conv => arg 4; cbv
 simp only [go_sem, Nat.reduceEqDiff, Nat.reduceAdd, Nat.reduceBEq, Int.reduceToNat, NumOk_e]
 simp [itvOk, Bool.and_assoc]
def l7None (a : ItvItv) : Bool := a.Lo == 0 && a.Hi == 0
theorem l7None_e {a0 : Int} {a1 : Int} {r : Bool} (h : l7None (⟨a0, a1⟩ : ItvItv) = r) : EC Tryz.prog 105 0 [.agg [CI a0, CI a1]] [] (CB r) [] 0 := by
 subst h
 refine (seat [] []).PU (mkM true []) (fn := Tryz.f105) ⟨by kernel_rfl, by kernel_rfl, rfl⟩ (mkEs [eItvItv 10 ⟨a0, a1⟩]) noLps [] [xItvItv 10] (by simp only [go_sem, Nat.reduceEqDiff, Nat.reduceAdd, Nat.reduceBEq, Int.reduceToNat]) (fun _ => ?_)
 conv => arg 4; cbv
 simp only [go_sem, Nat.reduceEqDiff, Nat.reduceAdd, Nat.reduceBEq, Int.reduceToNat]
 rfl
def absOk (s : AbsState) : Bool := if s.On then decide (s.Vars.length = 4) && itvOk s.Cells && s.Vars.all itvOk else decide (s.Vars.length = 0) && l7None s.Cells
theorem AbsOk_e {s0 : Bool} {s1 : List ItvItv} {s2 : Int} {s3 : Int} {r : Bool} (h : absOk (⟨s0, s1, ⟨s2, s3⟩⟩ : AbsState) = r) : EC Tryz.prog 43 0 [.agg [CB s0, .d (.sl 2 (s1.map dItvItv)), CI s2, CI s3]] [] (CB r) [] 0 := by
 subst h
 refine (seat [] []).PU (mkM true [4, 33]) (fn := Tryz.f43) ⟨by kernel_rfl, by kernel_rfl, rfl⟩ (mkEs [eAbsState 10 ⟨s0, s1, ⟨s2, s3⟩⟩, eB 217000 (l7None (⟨s0, s1, ⟨s2, s3⟩⟩ : AbsState).Cells), eB 317000 (itvOk (⟨s0, s1, ⟨s2, s3⟩⟩ : AbsState).Cells)]) (consL ⟨Int, fun _ k => 0 ≤ k ∧ k ≤ 4 ∧ ((⟨s0, s1, ⟨s2, s3⟩⟩ : AbsState).Vars.take k.toNat).all itvOk = true, fun _ k => mkEs [eI 1 k, eB 815000 (itvOk ((⟨s0, s1, ⟨s2, s3⟩⟩ : AbsState).Vars.getD k.toNat zItvItv))], fun _ k => (4 - k).toNat⟩ noLps) [(0, fun s => (0, (s.kl (mkM true [4, 33])).upd [(3, xi 100000001)]))] [xAbsState 10] (by simp only [go_sem, Nat.reduceEqDiff, Nat.reduceAdd, Nat.reduceBEq, Int.reduceToNat]) (fun _ => ?_)
 conv => arg 4; cbv
 simp only [go_sem, Nat.reduceEqDiff, Nat.reduceAdd, Nat.reduceBEq, Int.reduceToNat, Nat.reduceDiv, Nat.reduceMod, lput, consL, ItvOk_e, l7None_e]
 simp +contextual (disch := omega) only [wrapI]
 grind [absOk, tk_all, tk_end, all_bad]
end Go.Proofs.YtjakhnhnjhafgaaGreat.Wk
namespace Go.Proofs.YtjakhnhnjhafgaaGreat.Wk
open Go Go.RowKit Go.Deep Ow
set_option maxRecDepth 100000
def l1In (n lo hi : Int) : Bool := decide (lo ≤ n) && decide (n ≤ hi)
theorem l1In_e {n : Int} {lo : Int} {hi : Int} {r : Bool} (h : l1In n lo hi = r) : EC Tryz.prog 71 0 [CI n, CI lo, CI hi] [] (CB r) [] 0 := by
 subst h
 refine (seat [] []).PU (mkM true []) (fn := Tryz.f71) ⟨by kernel_rfl, by kernel_rfl, rfl⟩ (mkEs [eInt 10 n, eInt 30 lo, eInt 50 hi]) noLps [] [xInt 10, xInt 30, xInt 50] (by simp only [go_sem, Nat.reduceEqDiff, Nat.reduceAdd, Nat.reduceBEq, Int.reduceToNat]) (fun _ => ?_)
 conv => arg 4; cbv
 simp only [go_sem, Nat.reduceEqDiff, Nat.reduceAdd, Nat.reduceBEq, Int.reduceToNat]
 grind [l1In]
def itvHas (a : ItvItv) (n : Int) : Bool := itvOk a && l1In n a.Lo a.Hi
theorem ItvHas_e {a0 : Int} {a1 : Int} {n : Int} {r : Bool} (h : itvHas (⟨a0, a1⟩ : ItvItv) n = r) : EC Tryz.prog 58 0 [.agg [CI a0, CI a1], CI n] [] (CB r) [] 0 := by
 subst h
 refine (seat [] []).PU (mkM true []) (fn := Tryz.f58) ⟨by kernel_rfl, by kernel_rfl, rfl⟩ (mkEs [eItvItv 10 ⟨a0, a1⟩, eInt 30 n, eB 111000 (itvOk (⟨a0, a1⟩ : ItvItv)), eB 118000 (l1In n (⟨a0, a1⟩ : ItvItv).Lo (⟨a0, a1⟩ : ItvItv).Hi)]) noLps [] [xItvItv 10, xInt 30] (by simp only [go_sem, Nat.reduceEqDiff, Nat.reduceAdd, Nat.reduceBEq, Int.reduceToNat]) (fun _ => ?_)
 conv => arg 4; cbv
 simp only [go_sem, Nat.reduceEqDiff, Nat.reduceAdd, Nat.reduceBEq, Int.reduceToNat, ItvOk_e, l1In_e]
 grind [itvHas]
def itvIn (a b : ItvItv) : Bool := itvOk a && itvOk b && decide (b.Lo ≤ a.Lo) && decide (a.Hi ≤ b.Hi)
theorem ItvIn_e {a0 : Int} {a1 : Int} {b0 : Int} {b1 : Int} {r : Bool} (h : itvIn (⟨a0, a1⟩ : ItvItv) (⟨b0, b1⟩ : ItvItv) = r) : EC Tryz.prog 59 0 [.agg [CI a0, CI a1], .agg [CI b0, CI b1]] [] (CB r) [] 0 := by
 subst h
 refine (seat [] []).PU (mkM true []) (fn := Tryz.f59) ⟨by kernel_rfl, by kernel_rfl, rfl⟩ (mkEs [eItvItv 10 ⟨a0, a1⟩, eItvItv 30 ⟨b0, b1⟩, eB 111000 (itvOk (⟨a0, a1⟩ : ItvItv)), eB 114000 (itvOk (⟨b0, b1⟩ : ItvItv))]) noLps [] [xItvItv 10, xItvItv 30] (by simp only [go_sem, Nat.reduceEqDiff, Nat.reduceAdd, Nat.reduceBEq, Int.reduceToNat]) (fun _ => ?_)
 conv => arg 4; cbv
 simp only [go_sem, Nat.reduceEqDiff, Nat.reduceAdd, Nat.reduceBEq, Int.reduceToNat, ItvOk_e]
 grind [itvIn]
theorem l7Places_e {r : ItvItv} (h : (⟨0, 3⟩ : ItvItv) = r) : EC Tryz.prog 60 0 [] [] (.agg [CI r.Lo, CI r.Hi]) [] 0 := by
 subst h
 refine (seat [] []).PU (mkM true []) (fn := Tryz.f60) ⟨by kernel_rfl, by kernel_rfl, rfl⟩ (mkEs []) noLps [] [] (by simp only [go_sem, Nat.reduceEqDiff, Nat.reduceAdd, Nat.reduceBEq, Int.reduceToNat]) (fun _ => ?_)
 conv => arg 4; cbv
 simp only [go_sem, Nat.reduceEqDiff, Nat.reduceAdd, Nat.reduceBEq, Int.reduceToNat]
def l2Cut (a : ItvItv) (n : Int) : ItvItv × Bool := if a.Lo = n ∧ a.Hi = n then (⟨0, 0⟩, false) else (⟨if a.Lo = n then IntKind.i64.wrap (n + 1) else a.Lo, if a.Hi = n then IntKind.i64.wrap (n - 1) else a.Hi⟩, true)
theorem l2Cut_e {a0 : Int} {a1 : Int} {n : Int} {r0 : ItvItv} {r1 : Bool} (h0 : (l2Cut (⟨a0, a1⟩ : ItvItv) n).1 = r0) (h1 : (l2Cut (⟨a0, a1⟩ : ItvItv) n).2 = r1) : EC Tryz.prog 199 0 [.agg [CI a0, CI a1], CI n] [] (.tup [.agg [CI r0.Lo, CI r0.Hi], CB r1]) [] 0 := by
 subst h0 h1
 refine (seat [] []).PU (mkM true []) (fn := Tryz.f199) ⟨by kernel_rfl, by kernel_rfl, rfl⟩ (mkEs [eItvItv 10 ⟨a0, a1⟩, eInt 30 n]) noLps [] [xItvItv 10, xInt 30] (by simp only [go_sem, Nat.reduceEqDiff, Nat.reduceAdd, Nat.reduceBEq, Int.reduceToNat]) (fun _ => ?_)
 conv => arg 4; cbv
 simp only [go_sem, Nat.reduceEqDiff, Nat.reduceAdd, Nat.reduceBEq, Int.reduceToNat]
 grind [l2Cut]
def l2Both (a b : ItvItv) : ItvItv × ItvItv × Bool := if a.Hi < a.Lo ∨ b.Hi < b.Lo then (⟨0, 0⟩, ⟨0, 0⟩, false) else (a, b, true)
theorem l2Both_e {a0 : Int} {a1 : Int} {b0 : Int} {b1 : Int} {r0 : ItvItv} {r1 : ItvItv} {r2 : Bool} (h0 : (l2Both (⟨a0, a1⟩ : ItvItv) (⟨b0, b1⟩ : ItvItv)).1 = r0) (h1 : (l2Both (⟨a0, a1⟩ : ItvItv) (⟨b0, b1⟩ : ItvItv)).2.1 = r1) (h2 : (l2Both (⟨a0, a1⟩ : ItvItv) (⟨b0, b1⟩ : ItvItv)).2.2 = r2) : EC Tryz.prog 171 0 [.agg [CI a0, CI a1], .agg [CI b0, CI b1]] [] (.tup [.agg [CI r0.Lo, CI r0.Hi], .agg [CI r1.Lo, CI r1.Hi], CB r2]) [] 0 := by
 subst h0 h1 h2
 refine (seat [] []).PU (mkM true []) (fn := Tryz.f171) ⟨by kernel_rfl, by kernel_rfl, rfl⟩ (mkEs [eItvItv 10 ⟨a0, a1⟩, eItvItv 30 ⟨b0, b1⟩]) noLps [] [xItvItv 10, xItvItv 30] (by simp only [go_sem, Nat.reduceEqDiff, Nat.reduceAdd, Nat.reduceBEq, Int.reduceToNat]) (fun _ => ?_)
 conv => arg 4; cbv
 simp only [go_sem, Nat.reduceEqDiff, Nat.reduceAdd, Nat.reduceBEq, Int.reduceToNat]
 grind [l2Both]
def l2Other (a b : ItvItv) : ItvItv × ItvItv × Bool :=
 let x := if b.Lo = b.Hi then l2Cut a b.Lo else (a, true)
 let y := if x.2 = true ∧ a.Lo = a.Hi then l2Cut b a.Lo else (b, x.2)
 if y.2 then (x.1, y.1, true) else (⟨0, 0⟩, ⟨0, 0⟩, false)
theorem l2Other_e {a0 : Int} {a1 : Int} {b0 : Int} {b1 : Int} {r0 : ItvItv} {r1 : ItvItv} {r2 : Bool} (h0 : (l2Other (⟨a0, a1⟩ : ItvItv) (⟨b0, b1⟩ : ItvItv)).1 = r0) (h1 : (l2Other (⟨a0, a1⟩ : ItvItv) (⟨b0, b1⟩ : ItvItv)).2.1 = r1) (h2 : (l2Other (⟨a0, a1⟩ : ItvItv) (⟨b0, b1⟩ : ItvItv)).2.2 = r2) : EC Tryz.prog 172 0 [.agg [CI a0, CI a1], .agg [CI b0, CI b1]] [] (.tup [.agg [CI r0.Lo, CI r0.Hi], .agg [CI r1.Lo, CI r1.Hi], CB r2]) [] 0 := by
 subst h0 h1 h2
 refine (seat [] []).PU (mkM true [10, 35]) (fn := Tryz.f172) ⟨by kernel_rfl, by kernel_rfl, rfl⟩ (mkEs [eItvItv 10 ⟨a0, a1⟩, eItvItv 30 ⟨b0, b1⟩, eItvItv 513000 (l2Cut (⟨a0, a1⟩ : ItvItv) (⟨b0, b1⟩ : ItvItv).Lo).1, eB 513030 (l2Cut (⟨a0, a1⟩ : ItvItv) (⟨b0, b1⟩ : ItvItv).Lo).2, eItvItv 713000 (l2Cut (⟨b0, b1⟩ : ItvItv) (⟨a0, a1⟩ : ItvItv).Lo).1, eB 713030 (l2Cut (⟨b0, b1⟩ : ItvItv) (⟨a0, a1⟩ : ItvItv).Lo).2]) noLps [] [xItvItv 10, xItvItv 30] (by simp only [go_sem, Nat.reduceEqDiff, Nat.reduceAdd, Nat.reduceBEq, Int.reduceToNat]) (fun _ => ?_)
 conv => arg 4; cbv
 simp only [go_sem, Nat.reduceEqDiff, Nat.reduceAdd, Nat.reduceBEq, Int.reduceToNat]
 repeat' (first | with_reducible apply And.intro | intro _)
 all_goals first | exact l2Cut_e rfl rfl | grind [l2Other]
abbrev mn (a b : Int) : Int := if decide (b < a) = true then b else a
abbrev mx (a b : Int) : Int := if decide (a < b) = true then b else a
def itvRel (rel : Int) (a b : ItvItv) : ItvItv × ItvItv × Bool :=
 if (!itvOk a || !itvOk b) = true then (⟨0, 0⟩, ⟨0, 0⟩, false)
 else if rel = 1 then l2Both ⟨a.Lo, mn a.Hi (IntKind.i64.wrap (b.Hi - 1))⟩ ⟨mx b.Lo (IntKind.i64.wrap (a.Lo + 1)), b.Hi⟩
 else if rel = 2 then l2Both ⟨a.Lo, mn a.Hi b.Hi⟩ ⟨mx b.Lo a.Lo, b.Hi⟩
 else if rel = 3 then l2Both ⟨mx a.Lo b.Lo, mn a.Hi b.Hi⟩ ⟨mx a.Lo b.Lo, mn a.Hi b.Hi⟩
 else if rel = 4 then l2Other a b
 else (⟨0, 0⟩, ⟨0, 0⟩, false)
theorem ItvRel_e {rel : Int} {a0 : Int} {a1 : Int} {b0 : Int} {b1 : Int} {r0 : ItvItv} {r1 : ItvItv} {r2 : Bool} (h0 : (itvRel rel (⟨a0, a1⟩ : ItvItv) (⟨b0, b1⟩ : ItvItv)).1 = r0) (h1 : (itvRel rel (⟨a0, a1⟩ : ItvItv) (⟨b0, b1⟩ : ItvItv)).2.1 = r1) (h2 : (itvRel rel (⟨a0, a1⟩ : ItvItv) (⟨b0, b1⟩ : ItvItv)).2.2 = r2) : EC Tryz.prog 126 0 [CI rel, .agg [CI a0, CI a1], .agg [CI b0, CI b1]] [] (.tup [.agg [CI r0.Lo, CI r0.Hi], .agg [CI r1.Lo, CI r1.Hi], CB r2]) [] 0 := by
 subst h0 h1 h2
 refine (seat [] []).PU (mkM true [3, 1, 6, 10, 1, 75]) (fn := Tryz.f126) ⟨by kernel_rfl, by kernel_rfl, rfl⟩ (mkEs [eInt 10 rel, eItvItv 30 ⟨a0, a1⟩, eItvItv 50 ⟨b0, b1⟩, eB 111000 (itvOk (⟨a0, a1⟩ : ItvItv)), eB 115000 (itvOk (⟨b0, b1⟩ : ItvItv)), eItvItv 528000 (l2Both ⟨(⟨a0, a1⟩ : ItvItv).Lo, mn (⟨a0, a1⟩ : ItvItv).Hi (IntKind.i64.wrap ((⟨b0, b1⟩ : ItvItv).Hi - 1))⟩ ⟨mx (⟨b0, b1⟩ : ItvItv).Lo (IntKind.i64.wrap ((⟨a0, a1⟩ : ItvItv).Lo + 1)), (⟨b0, b1⟩ : ItvItv).Hi⟩).1, eItvItv 528030 (l2Both ⟨(⟨a0, a1⟩ : ItvItv).Lo, mn (⟨a0, a1⟩ : ItvItv).Hi (IntKind.i64.wrap ((⟨b0, b1⟩ : ItvItv).Hi - 1))⟩ ⟨mx (⟨b0, b1⟩ : ItvItv).Lo (IntKind.i64.wrap ((⟨a0, a1⟩ : ItvItv).Lo + 1)), (⟨b0, b1⟩ : ItvItv).Hi⟩).2.1, eB 528060 (l2Both ⟨(⟨a0, a1⟩ : ItvItv).Lo, mn (⟨a0, a1⟩ : ItvItv).Hi (IntKind.i64.wrap ((⟨b0, b1⟩ : ItvItv).Hi - 1))⟩ ⟨mx (⟨b0, b1⟩ : ItvItv).Lo (IntKind.i64.wrap ((⟨a0, a1⟩ : ItvItv).Lo + 1)), (⟨b0, b1⟩ : ItvItv).Hi⟩).2.2, eItvItv 726000 (l2Both ⟨(⟨a0, a1⟩ : ItvItv).Lo, mn (⟨a0, a1⟩ : ItvItv).Hi (⟨b0, b1⟩ : ItvItv).Hi⟩ ⟨mx (⟨b0, b1⟩ : ItvItv).Lo (⟨a0, a1⟩ : ItvItv).Lo, (⟨b0, b1⟩ : ItvItv).Hi⟩).1, eItvItv 726030 (l2Both ⟨(⟨a0, a1⟩ : ItvItv).Lo, mn (⟨a0, a1⟩ : ItvItv).Hi (⟨b0, b1⟩ : ItvItv).Hi⟩ ⟨mx (⟨b0, b1⟩ : ItvItv).Lo (⟨a0, a1⟩ : ItvItv).Lo, (⟨b0, b1⟩ : ItvItv).Hi⟩).2.1, eB 726060 (l2Both ⟨(⟨a0, a1⟩ : ItvItv).Lo, mn (⟨a0, a1⟩ : ItvItv).Hi (⟨b0, b1⟩ : ItvItv).Hi⟩ ⟨mx (⟨b0, b1⟩ : ItvItv).Lo (⟨a0, a1⟩ : ItvItv).Lo, (⟨b0, b1⟩ : ItvItv).Hi⟩).2.2, eItvItv 1012000 (l2Both ⟨mx (⟨a0, a1⟩ : ItvItv).Lo (⟨b0, b1⟩ : ItvItv).Lo, mn (⟨a0, a1⟩ : ItvItv).Hi (⟨b0, b1⟩ : ItvItv).Hi⟩ ⟨mx (⟨a0, a1⟩ : ItvItv).Lo (⟨b0, b1⟩ : ItvItv).Lo, mn (⟨a0, a1⟩ : ItvItv).Hi (⟨b0, b1⟩ : ItvItv).Hi⟩).1, eItvItv 1012030 (l2Both ⟨mx (⟨a0, a1⟩ : ItvItv).Lo (⟨b0, b1⟩ : ItvItv).Lo, mn (⟨a0, a1⟩ : ItvItv).Hi (⟨b0, b1⟩ : ItvItv).Hi⟩ ⟨mx (⟨a0, a1⟩ : ItvItv).Lo (⟨b0, b1⟩ : ItvItv).Lo, mn (⟨a0, a1⟩ : ItvItv).Hi (⟨b0, b1⟩ : ItvItv).Hi⟩).2.1, eB 1012060 (l2Both ⟨mx (⟨a0, a1⟩ : ItvItv).Lo (⟨b0, b1⟩ : ItvItv).Lo, mn (⟨a0, a1⟩ : ItvItv).Hi (⟨b0, b1⟩ : ItvItv).Hi⟩ ⟨mx (⟨a0, a1⟩ : ItvItv).Lo (⟨b0, b1⟩ : ItvItv).Lo, mn (⟨a0, a1⟩ : ItvItv).Hi (⟨b0, b1⟩ : ItvItv).Hi⟩).2.2, eItvItv 1212000 (l2Other (⟨a0, a1⟩ : ItvItv) (⟨b0, b1⟩ : ItvItv)).1, eItvItv 1212030 (l2Other (⟨a0, a1⟩ : ItvItv) (⟨b0, b1⟩ : ItvItv)).2.1, eB 1212060 (l2Other (⟨a0, a1⟩ : ItvItv) (⟨b0, b1⟩ : ItvItv)).2.2]) noLps [] [xInt 10, xItvItv 30, xItvItv 50] (by simp only [go_sem, Nat.reduceEqDiff, Nat.reduceAdd, Nat.reduceBEq, Int.reduceToNat]) (fun _ => ?_)
 conv => arg 4; cbv
 simp only [go_sem, Nat.reduceEqDiff, Nat.reduceAdd, Nat.reduceBEq, Int.reduceToNat]
 repeat' (first | with_reducible apply And.intro | intro _)
 all_goals first | exact ItvOk_e rfl | exact l2Both_e rfl rfl rfl | exact l2Other_e rfl rfl rfl | grind [itvRel]
def itvNot (rel : Int) (a b : ItvItv) : ItvItv × ItvItv × Bool :=
 if rel = 1 then ((itvRel 2 b a).2.1, (itvRel 2 b a).1, (itvRel 2 b a).2.2)
 else if rel = 2 then ((itvRel 1 b a).2.1, (itvRel 1 b a).1, (itvRel 1 b a).2.2)
 else if rel = 3 then itvRel 4 a b
 else if rel = 4 then itvRel 3 a b
 else (⟨0, 0⟩, ⟨0, 0⟩, false)
end Go.Proofs.YtjakhnhnjhafgaaGreat.Wk
namespace Go.Proofs.YtjakhnhnjhafgaaGreat.Wk
open Go Go.RowKit Go.Deep Ow
set_option maxRecDepth 100000
theorem ItvNot_e {rel : Int} {a0 : Int} {a1 : Int} {b0 : Int} {b1 : Int} {r0 : ItvItv} {r1 : ItvItv} {r2 : Bool} (h0 : (itvNot rel (⟨a0, a1⟩ : ItvItv) (⟨b0, b1⟩ : ItvItv)).1 = r0) (h1 : (itvNot rel (⟨a0, a1⟩ : ItvItv) (⟨b0, b1⟩ : ItvItv)).2.1 = r1) (h2 : (itvNot rel (⟨a0, a1⟩ : ItvItv) (⟨b0, b1⟩ : ItvItv)).2.2 = r2) : EC Tryz.prog 62 0 [CI rel, .agg [CI a0, CI a1], .agg [CI b0, CI b1]] [] (.tup [.agg [CI r0.Lo, CI r0.Hi], .agg [CI r1.Lo, CI r1.Hi], CB r2]) [] 0 := by
 subst h0 h1 h2
 refine (seat [] []).PU (mkM true [3, 1, 12, 42]) (fn := Tryz.f62) ⟨by kernel_rfl, by kernel_rfl, rfl⟩ (mkEs [eInt 10 rel, eItvItv 30 ⟨a0, a1⟩, eItvItv 50 ⟨b0, b1⟩, eItvItv 312000 (itvRel 2 (⟨b0, b1⟩ : ItvItv) (⟨a0, a1⟩ : ItvItv)).1, eItvItv 312030 (itvRel 2 (⟨b0, b1⟩ : ItvItv) (⟨a0, a1⟩ : ItvItv)).2.1, eB 312060 (itvRel 2 (⟨b0, b1⟩ : ItvItv) (⟨a0, a1⟩ : ItvItv)).2.2, eItvItv 612000 (itvRel 1 (⟨b0, b1⟩ : ItvItv) (⟨a0, a1⟩ : ItvItv)).1, eItvItv 612030 (itvRel 1 (⟨b0, b1⟩ : ItvItv) (⟨a0, a1⟩ : ItvItv)).2.1, eB 612060 (itvRel 1 (⟨b0, b1⟩ : ItvItv) (⟨a0, a1⟩ : ItvItv)).2.2, eItvItv 912000 (itvRel 4 (⟨a0, a1⟩ : ItvItv) (⟨b0, b1⟩ : ItvItv)).1, eItvItv 912030 (itvRel 4 (⟨a0, a1⟩ : ItvItv) (⟨b0, b1⟩ : ItvItv)).2.1, eB 912060 (itvRel 4 (⟨a0, a1⟩ : ItvItv) (⟨b0, b1⟩ : ItvItv)).2.2, eItvItv 1112000 (itvRel 3 (⟨a0, a1⟩ : ItvItv) (⟨b0, b1⟩ : ItvItv)).1, eItvItv 1112030 (itvRel 3 (⟨a0, a1⟩ : ItvItv) (⟨b0, b1⟩ : ItvItv)).2.1, eB 1112060 (itvRel 3 (⟨a0, a1⟩ : ItvItv) (⟨b0, b1⟩ : ItvItv)).2.2]) noLps [] [xInt 10, xItvItv 30, xItvItv 50] (by simp only [go_sem, Nat.reduceEqDiff, Nat.reduceAdd, Nat.reduceBEq, Int.reduceToNat]) (fun _ => ?_)
 conv => arg 4; cbv
 simp only [go_sem, Nat.reduceEqDiff, Nat.reduceAdd, Nat.reduceBEq, Int.reduceToNat]
 repeat' (first | with_reducible apply And.intro | intro _)
 all_goals first | exact ItvRel_e rfl rfl rfl | grind [itvNot]
def form (i : InsIns) : InsIns :=
 if i.Op = 5 then ⟨0, 0, i.A, i.B, i.Rel, 0, 0, i.To⟩
 else if i.Op = 1 ∨ i.Op = 2 ∨ i.Op = 3 ∨ i.Op = 4 then ⟨0, 0, 0, 0, i.Rel, i.Lo, i.Hi, i.To⟩
 else if i.Op = 6 then ⟨0, 0, 0, i.B, i.Rel, i.Lo, i.Hi, i.To⟩
 else if i.Op = 7 then ⟨0, i.D, 0, 0, i.Rel, i.Lo, i.Hi, i.To⟩
 else if i.Op = 8 then ⟨0, i.D, 0, 0, 0, i.Lo, i.Hi, 0⟩
 else if i.Op = 9 then ⟨0, i.D, i.A, i.B, i.Rel, i.Lo, i.Hi, 0⟩
 else if i.Op = 10 then ⟨0, 0, 0, i.B, i.Rel, i.Lo, i.Hi, 0⟩
 else if i.Op = 11 then ⟨0, i.D, 0, 0, 0, i.Lo, i.Hi, i.To⟩
 else if i.Op = 12 then ⟨0, i.D, 0, i.B, i.Rel, i.Lo, i.Hi, i.To⟩
 else ⟨0, i.D, i.A, i.B, i.Rel, i.Lo, i.Hi, i.To⟩
end Go.Proofs.YtjakhnhnjhafgaaGreat.Wk
namespace Ow
open Go Go.RowKit Go.Deep
theorem EC.ofLit {P : Program} {f : FuncId} {args : List C} {v : Value} (hf : FnOk P f) (h : ∀ (ρ : Pl) (RO : Nat → Prop) (w : World) (vs : Array Value), RelT ρ RO w args vs → Calls P f vs w fun e w' => e = .returned v ∧ Chg [] w w') :
 EC P f 0 args [] (.d (.lit v)) [] 0 :=
 ⟨hf, Nat.le_refl _, fun ρ F RO w vs hs hρ ha => (h ρ RO w vs ha).mono (fun e w' ⟨he, hc⟩ => ⟨ρ, F, RO, v, he,
   ⟨(ChgP.of hc).mono (fun b hb => by cases hb), fun _ _ => rfl, fun _ h => h, fun _ h => .inl h,
     ⟨fun l B h => (by cases h), fun l l' B B' _ h => (by cases h), fun l B h => (by cases h), fun b hb => Nat.lt_of_lt_of_le (hs.ro b hb) hc.size⟩,
     fun b ⟨l, B, h, _⟩ => (by cases h)⟩, .d _ _ (.lit v), hρ⟩)⟩
theorem FnIs.ok {P : Program} {f : FuncId} {fn : Func} (F : FnIs P f fn) : FnOk P f := ⟨fn, bodyOf fn, F.f, F.n, F.body⟩
def valL : List C → Option (List Value)
 | [] => some []
 | .d (.lit v) :: cs => (valL cs).map (v :: ·)
 | _ :: _ => none
def valT : List C → Option (List Value)
 | [] => some []
 | .d (.lit v) :: cs => (valT cs).map (v :: ·)
 | .agg az :: cs => (valL az).bind (fun a => (valT cs).map (.agg a.toArray :: ·))
 | _ :: _ => none
section
variable {ρ : Pl} {RO : Nat → Prop} {w : World}
theorem RelC.lit {v u : Value} (h : RelC ρ RO w (.d (.lit v)) u) : u = v := by
 cases h with
 | d x v h => cases h; rfl
theorem valL_ok : ∀ {cs : List C} {us vs : List Value}, valL cs = some us → vs.length = cs.length → (∀ (i : Nat) (c : C) (v : Value), cs[i]? = some c → vs[i]? = some v → RelC ρ RO w c v) → vs = us := by
 intro cs
 induction cs with
 | nil => intro us vs h hl _; cases h; cases vs with | nil => rfl | cons _ _ => cases hl
 | cons c cs ih =>
   intro us vs h hl hr
   cases vs with
   | nil => cases hl
   | cons v vs =>
     unfold valL at h
     split at h
     · rename_i h0; cases h0
     · rename_i x cs' h0
       cases h0
       cases hc : valL cs with
       | none => rw [hc] at h; cases h
       | some us' =>
         rw [hc] at h
         cases h
         rw [RelC.lit (hr 0 _ _ rfl rfl), ih hc (by simpa using hl) (fun i c v h1 h2 => hr (i + 1) c v h1 h2)]
     · cases h
theorem valT_ok : ∀ {cs : List C} {us vs : List Value}, valT cs = some us → vs.length = cs.length → (∀ (i : Nat) (c : C) (v : Value), cs[i]? = some c → vs[i]? = some v → RelC ρ RO w c v) → vs = us := by
 intro cs
 induction cs with
 | nil => intro us vs h hl _; cases h; cases vs with | nil => rfl | cons _ _ => cases hl
 | cons c cs ih =>
   intro us vs h hl hr
   cases vs with
   | nil => cases hl
   | cons v vs =>
     unfold valT at h
     split at h
     · rename_i h0; cases h0
     · rename_i x cs' h0
       cases h0
       cases hc : valT cs with
       | none => rw [hc] at h; cases h
       | some us' =>
         rw [hc] at h
         cases h
         rw [RelC.lit (hr 0 _ _ rfl rfl), ih hc (by simpa using hl) (fun i c v h1 h2 => hr (i + 1) c v h1 h2)]
     · rename_i az cs' h0
       cases h0
       cases ha : valL az with
       | none => rw [ha] at h; cases h
       | some a =>
         cases hc : valT cs with
         | none => rw [ha, hc] at h; cases h
         | some us' =>
           rw [ha, hc] at h
           cases h
           have h1 := hr 0 _ _ rfl rfl
           have hv : v = .agg a.toArray := by
            cases h1 with
            | agg cs vs2 hl2 one rel => rw [valL_ok ha hl2 rel]
           rw [hv, ih hc (by simpa using hl) (fun i c v h1 h2 => hr (i + 1) c v h1 h2)]
     · cases h
theorem RelT.vals {T : List C} {vs : Array Value} {us : List Value} (h : RelT ρ RO w T vs) (hv : valT T = some us) : vs = us.toArray := by
 have := valT_ok (ρ := ρ) (RO := RO) (w := w) hv (vs := vs.toList) (by simpa using h.len) (fun i c v h1 h2 => h.rel i c v h1 (by simpa using h2))
 rw [← this]
end
end Ow
namespace Go.Proofs.YtjakhnhnjhafgaaGreat.Wk
open Go Go.RowKit Go.Deep Ow
set_option maxRecDepth 100000
theorem InsOk_e {i0 i1 i2 i3 i4 i5 i6 i7 procs size : Int} {r : Bool} (h : insOk ⟨i0, i1, i2, i3, i4, i5, i6, i7⟩ procs size = r) :
 EC Tryz.prog 42 0 [.agg [CI i0, CI i1, CI i2, CI i3, CI i4, CI i5, CI i6, CI i7], CI procs, CI size] [] (CB r) [] 0 := by
 subst h
 refine EC.ofLit (FnIs.ok (fn := Tryz.f42) ⟨by kernel_rfl, by kernel_rfl, rfl⟩) (fun ρ RO w vs hr => ?_)
 rw [hr.vals (us := [.agg #[.int .i64 i0, .int .i64 i1, .int .i64 i2, .int .i64 i3, .int .i64 i4, .int .i64 i5, .int .i64 i6, .int .i64 i7], .int .i64 procs, .int .i64 size]) rfl]
 exact refInsOk_c ⟨i0, i1, i2, i3, i4, i5, i6, i7⟩ procs size w
end Go.Proofs.YtjakhnhnjhafgaaGreat.Wk
namespace Go.Proofs.YtjakhnhnjhafgaaGreat.Wk
open Go Go.RowKit Go.Deep Ow
set_option maxRecDepth 100000
theorem last_getD {l : List InsIns} (h : 1 ≤ l.length) (i : Nat) (hi : i = l.length - 1) : l.getLast?.elim false insEnds = insEnds (l.getD i zInsIns) := by
 subst hi
 rw [List.getLast?_eq_getElem?, List.getD_eq_getElem?_getD, List.getElem?_eq_getElem (by omega)]; rfl
theorem l3Proc_e {c0 : Int} {c1 : Int} {c2 : List InsIns} {procs : Int} {r : Bool} (h : procOk (⟨c0, c1, c2⟩ : PrcProc) procs = r) : EC Tryz.prog 132 0 [.agg [CI c0, CI c1, .d (.sl 8 (c2.map dInsIns))], CI procs] [] (CB r) [] 0 := by
 subst h
 refine (seat [] []).PU (mkM true [3, 1, 4, 52]) (fn := Tryz.f132) ⟨by kernel_rfl, by kernel_rfl, rfl⟩ (mkEs [ePrcProc 10 ⟨c0, c1, c2⟩, eInt 30 procs, eB 212000 (numOk (⟨c0, c1, c2⟩ : PrcProc).Lo), eB 217000 (numOk (⟨c0, c1, c2⟩ : PrcProc).Hi), eB 229000 (l1In (⟨c0, c1, c2⟩ : PrcProc).Code.length 1 10)]) (consL ⟨Int, fun _ k => 0 ≤ k ∧ k ≤ (⟨c0, c1, c2⟩ : PrcProc).Code.length ∧ ((⟨c0, c1, c2⟩ : PrcProc).Code.take k.toNat).all (fun i => insOk i procs (⟨c0, c1, c2⟩ : PrcProc).Code.length) = true, fun _ k => mkEs [eI 1 k, eB 717000 (insOk ((⟨c0, c1, c2⟩ : PrcProc).Code.getD k.toNat zInsIns) procs (⟨c0, c1, c2⟩ : PrcProc).Code.length)], fun _ k => ((⟨c0, c1, c2⟩ : PrcProc).Code.length - k).toNat⟩ noLps) [(0, fun s => (0, (s.kl (mkM true [3, 1, 4, 52])).upd [(6, xi 100000001)]))] [xPrcProc 10, xInt 30] (by simp only [go_sem, Nat.reduceEqDiff, Nat.reduceAdd, Nat.reduceBEq, Int.reduceToNat]) (fun _ => ?_)
 conv => arg 4; cbv
 simp only [go_sem, Nat.reduceEqDiff, Nat.reduceAdd, Nat.reduceBEq, Int.reduceToNat, Nat.reduceDiv, Nat.reduceMod, lput, consL, NumOk_e, l1In_e, InsOk_e]
 simp only [l1In, not_or, Bool.not_eq_false, Bool.and_eq_true, decide_eq_true_eq, gt_iff_lt, Int.not_lt]
 repeat' (first | with_reducible apply And.intro | intro _)
 all_goals (try simp (disch := omega) only [wrapI] at *)
 all_goals (try (simp; done))
 all_goals (try omega)
 all_goals (try (rw [tk_all (⟨c0, c1, c2⟩ : PrcProc).Code (fun i => insOk i procs (⟨c0, c1, c2⟩ : PrcProc).Code.length) _ zInsIns (by omega) (by omega)]; simp_all; done))
 · rename_i h; simp only [procOk, itvOk]; rcases h with h | h | h | h <;> simp_all <;> omega
 · rename_i h1 x h2 h3 h4; simp only [procOk, all_bad (p := fun i => insOk i procs c2.length) (d := zInsIns) h2.1 h3 h4, Bool.and_false, Bool.false_and]
 · rename_i h1 x h2 h3
   rw [tk_end h3] at h2
   simp only [procOk, itvOk, h1.1, h1.2.1, h2.2.2]
   have e1 : decide (c0 ≤ c1) = true := by simpa using h1.2.2.1
   have e2 : decide (1 ≤ c2.length) = true := by simpa using (show 1 ≤ c2.length by omega)
   have e3 : decide (c2.length ≤ 10) = true := by simpa using (show c2.length ≤ 10 by omega)
   rw [last_getD (show 1 ≤ c2.length by omega) ((c2.length : Int) - 1).toNat (by omega)]
   simp [e1, e2, e3, insEnds]
theorem PrgOk_e {p0 : List PrcProc} {r : Bool} (h : prgOk (⟨p0⟩ : PrgProg) = r) : EC Tryz.prog 70 0 [.agg [.d (.sl 3 (p0.map dPrcProc))]] [] (CB r) [] 0 := by
 subst h
 refine (seat [] []).PU (mkM true [4, 22]) (fn := Tryz.f70) ⟨by kernel_rfl, by kernel_rfl, rfl⟩ (mkEs [ePrgProg 10 ⟨p0⟩, eB 113000 (l1In (⟨p0⟩ : PrgProg).Procs.length 1 4)]) (consL ⟨Int, fun _ k => 0 ≤ k ∧ k ≤ (⟨p0⟩ : PrgProg).Procs.length ∧ ((⟨p0⟩ : PrgProg).Procs.take k.toNat).all (fun c => procOk c (⟨p0⟩ : PrgProg).Procs.length) = true, fun _ k => mkEs [eI 1 k, eB 618000 (procOk ((⟨p0⟩ : PrgProg).Procs.getD k.toNat zPrcProc) (⟨p0⟩ : PrgProg).Procs.length)], fun _ k => ((⟨p0⟩ : PrgProg).Procs.length - k).toNat⟩ noLps) [(0, fun s => (0, (s.kl (mkM true [4, 22])).upd [(3, xi 100000001)]))] [xPrgProg 10] (by simp only [go_sem, Nat.reduceEqDiff, Nat.reduceAdd, Nat.reduceBEq, Int.reduceToNat]) (fun _ => ?_)
 conv => arg 4; cbv
 simp only [go_sem, Nat.reduceEqDiff, Nat.reduceAdd, Nat.reduceBEq, Int.reduceToNat, Nat.reduceDiv, Nat.reduceMod, lput, consL, l1In_e, l3Proc_e]
 simp only [l1In, Bool.and_eq_true, decide_eq_true_eq]
 repeat' (first | with_reducible apply And.intro | intro _)
 all_goals grind [wrapI, prgOk, l1In, tk_all, tk_end, all_bad]
end Go.Proofs.YtjakhnhnjhafgaaGreat.Wk
