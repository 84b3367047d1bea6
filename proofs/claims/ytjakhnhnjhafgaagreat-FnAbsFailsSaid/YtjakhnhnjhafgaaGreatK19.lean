/- A part of the proof. -/
import Derived.Test.YtjakhnhnjhafgaaGreatK18
set_option linter.unusedVariables false
set_option linter.unusedSimpArgs false
namespace Ow
open Go Go.RowKit Go.Deep
inductive Tb (α : Type) where
 | lf
 | nd (l : Tb α) (k : Nat) (a : α) (r : Tb α)
def Tb.toL {α : Type} : Tb α → List (Nat × α)
 | .lf => []
 | .nd l k a r => l.toL ++ (k, a) :: r.toL
def lookT {α : Type} (k : Nat) : Tb α → Option α
 | .lf => none
 | .nd l k' a r => if k = k' then some a else if k < k' then lookT k l else lookT k r
theorem lookT_mem {α : Type} {k : Nat} {a : α} : ∀ {t : Tb α}, lookT k t = some a → (k, a) ∈ t.toL := by
 intro t
 induction t with
 | lf => intro h; cases h
 | nd l k' b r ihl ihr =>
   intro h
   simp only [lookT] at h
   split at h
   · rename_i hk; cases h; subst hk; simp [Tb.toL]
   · split at h
     · simp [Tb.toL, ihl h]
     · simp [Tb.toL, ihr h]
structure Tab where
 fld : Tb (List (Nat × Nat))
 sz : Tb Nat
 ag : Tb Bool
 el : Tb Nat
 len : Tb Bool
 bt : List Nat
 ki : Tb Ki
 pl : Tb (List (Nat × Nat))
 se : Tb Nat
 ap : Tb (Nat × Nat)
 ik : Tb IntKind
def ikT (P : Program) (t : TypeId) : Option IntKind := match P.underlying t with | some (.int k) => some k | _ => none
theorem ikT_spec {P : Program} {t : TypeId} {k : IntKind} (h : ikT P t = some k) : P.underlying t = some (.int k) := by
 unfold ikT at h
 split at h
 · rename_i hu; cases h; exact hu
 · cases h
def plT (P : Program) (t : TypeId) : Option (List (Nat × Nat)) := match P.underlying t with
 | some (.struct fs) => fs.toList.mapM (fun f => (szT P f.type).map (f.offset, ·))
 | _ => none
theorem plT_spec {P : Program} {t : TypeId} {l : List (Nat × Nat)} (h : plT P t = some l) : placeT P t = some (fun i => l[i]?) := by
 unfold plT at h
 unfold placeT
 split at h
 · rename_i fs hu; rw [hu]; simp only [h, Option.map_some]
 · cases h
def seT (P : Program) (t : TypeId) : Option TypeId := match P.underlying t with | some (.slice e) => some e | _ => none
theorem seT_spec {P : Program} {t e : TypeId} (h : seT P t = some e) : P.underlying t = some (.slice e) := by
 unfold seT at h
 split at h
 · rename_i hu; cases h; exact hu
 · cases h
def look {α : Type} (k : Nat) : List (Nat × α) → Option α
 | [] => none
 | x :: l => if x.1 = k then some x.2 else look k l
theorem look_mem {α : Type} {k : Nat} {a : α} : ∀ {l : List (Nat × α)}, look k l = some a → (k, a) ∈ l := by
 intro l
 induction l with
 | nil => intro h; cases h
 | cons x l ih =>
   intro h
   simp only [look] at h
   split at h
   · rename_i hx; cases h; rw [← hx]; exact List.mem_cons_self
   · exact List.mem_cons_of_mem _ (ih h)
def Tab.ck (P : Program) (t : Tab) : Bool :=
 t.fld.toL.all (fun p => p.2.all (fun q => fldT P p.1 q.1 == some q.2)) && t.sz.toL.all (fun p => szT P p.1 == some p.2) && t.ag.toL.all (fun p => aggT P p.1 == some p.2) &&
 t.el.toL.all (fun p => elT P p.1 == some p.2) && t.len.toL.all (fun p => lenT P p.1 == some p.2) && t.bt.all (fun p => boolT P p) && t.pl.toL.all (fun p => plT P p.1 == some p.2) && t.se.toL.all (fun p => seT P p.1 == some p.2) && t.ap.toL.all (fun p => elOk P p.1 p.2.1 p.2.2) && t.ik.toL.all (fun p => ikT P p.1 == some p.2)
structure TabOk (P : Program) (t : Tab) : Prop where
 fld : ∀ s f off, (lookT s t.fld).bind (look f) = some off → fldT P s f = some off
 sz : ∀ s n, lookT s t.sz = some n → szT P s = some n
 ag : ∀ s b, lookT s t.ag = some b → aggT P s = some b
 el : ∀ s n, lookT s t.el = some n → elT P s = some n
 len : ∀ s n, lookT s t.len = some n → lenT P s = some n
 bt : ∀ s, t.bt.contains s = true → boolT P s = true
 pl : ∀ s l, lookT s t.pl = some l → plT P s = some l
 se : ∀ s e, lookT s t.se = some e → P.underlying s = some (.slice e)
 ap : ∀ s q, lookT s t.ap = some q → elOk P s q.1 q.2 = true
 ik : ∀ s k, lookT s t.ik = some k → P.underlying s = some (.int k)
theorem Tab.ok {P : Program} {t : Tab} (h : t.ck P = true) : TabOk P t := by
 simp only [Tab.ck, Bool.and_eq_true, List.all_eq_true, beq_iff_eq] at h
 obtain ⟨⟨⟨⟨⟨⟨⟨⟨⟨h1, h2⟩, h3⟩, h4⟩, h5⟩, h6⟩, h7⟩, h8⟩, h9⟩, h10⟩ := h
 refine ⟨fun s f off hl => ?_, fun s n hl => h2 _ (lookT_mem hl), fun s n hl => h3 _ (lookT_mem hl), fun s n hl => h4 _ (lookT_mem hl), fun s n hl => h5 _ (lookT_mem hl), fun s hs => h6 s (by simpa using hs), fun s l hl => h7 _ (lookT_mem hl), fun s l hl => seT_spec (h8 _ (lookT_mem hl)), fun s q hl => h9 _ (lookT_mem hl), fun s k hl => ikT_spec (h10 _ (lookT_mem hl))⟩
 rw [Option.bind_eq_some_iff] at hl
 obtain ⟨os, ho, hf⟩ := hl
 exact h1 _ (lookT_mem ho) (f, off) (look_mem hf)
def toL : X → List X
 | .cons a b => a :: toL b
 | _ => []
def ofL : List X → X
 | [] => .nil
 | a :: l => .cons a (ofL l)
def isL : X → Bool
 | .nil => true
 | .cons _ b => isL b
 | _ => false
theorem ofL_den {e : Env} (l : List X) : tupOf ((ofL l).den e) = l.map (X.den e) := by
 induction l with
 | nil => rfl
 | cons a l ih =>
   show X.den e a :: tupOf (X.den e (ofL l)) = _
   rw [ih]; rfl
theorem toL_den {e : Env} {x : X} (h : isL x = true) : tupOf (x.den e) = (toL x).map (X.den e) := by
 induction x with
 | nil => rfl
 | cons a b _ ih =>
   show X.den e a :: tupOf (X.den e b) = _
   rw [ih h]; rfl
 | _ => cases h
def OvOk (P : Program) (e : Env) (o : Oper) (s : Sx) (c x : X) (pre : List Nat) : Prop := c.tr e → ∃ pre', OpT P o (fun y => (evX s.T y).den e) ⟨pre', [], [], x.den e⟩ ∧ (∀ l B, pre'.get l = some B → (s.den e).H.get l = some B) ∧ pre'.map (·.1) = pre
theorem OvOk.does {P : Program} {e : Env} {o : Oper} {s : Sx} {c x : X} {pre : List Nat} (h : OvOk P e o s c x pre) (hc : c.tr e) : ∃ r, Does P o (s.den e) r s.n ∧ r.val = x.den e ∧ r.chg = [] ∧ r.pre.map (·.1) = pre := by
 obtain ⟨pre', h1, h2, h3⟩ := h hc
 exact ⟨_, ⟨h1.of_dead (fun x => evX_den), h2, by simp, by simp, Nat.le_refl _, by simp [Hp.get]⟩, rfl, rfl, h3⟩
theorem OvOk.of {P : Program} {e : Env} {o : Oper} {s : Sx} {c x : X} (h : c.tr e → OpT P o (fun y => (evX s.T y).den e) ⟨[], [], [], x.den e⟩) : OvOk P e o s c x [] :=
 fun hc => ⟨[], h hc, (fun l B hl => by cases hl), rfl⟩
def mkBin (o : BinOp) (k : IntKind) (a b : X) : X := match a, b with
 | .int _ m, .int _ n => .int k (arI o k m n)
 | a, b => .bin o k a b
theorem mkBin_den {e : Env} {o : BinOp} {k : IntKind} {a b : X} : (mkBin o k a b).den e = .d (.lit (.int k (arI o k (intOf (a.den e)) (intOf (b.den e))))) := by
 unfold mkBin; split <;> rfl
def refl (o : BinOp) : Option Bool := match o with | .eql => some true | .leq => some true | .geq => some true | .neq => some false | .lss => some false | .gtr => some false | _ => none
def mkCmp (o : BinOp) (a b : X) : X := match a, b with
 | .int _ m, .int _ n => .bool (cmpI o m n)
 | .int _ 0, .rln r => if o = .leq then .bool true else .cmp o (.int .i64 0) (.rln r)
 | .int _ 0, .len r => if o = .leq then .bool true else .cmp o (.int .i64 0) (.len r)
 | a, b => if a == b then (match refl o with | some t => .bool t | none => .cmp o a b) else .cmp o a b
theorem mkCmp_den {e : Env} {o : BinOp} {a b : X} : (mkCmp o a b).den e = .d (.lit (.bool (cmpI o (intOf (a.den e)) (intOf (b.den e))))) := by
 unfold mkCmp
 split
 · rfl
 · split
   · rename_i h; subst h; simp [X.den, intOf_i, cmpI]
   · rfl
 · split
   · rename_i h; subst h; simp [X.den, intOf_i, cmpI]
   · rfl
 · split
   · rename_i h
     rw [beq_iff_eq.1 h]
     cases o <;> simp [refl, X.den, cmpI]
   · rfl
theorem mkCmp_tr {e : Env} {o : BinOp} {a b : X} : (mkCmp o a b).tr e ↔ cmpI o (intOf (a.den e)) (intOf (b.den e)) = true := by
 unfold X.tr; rw [mkCmp_den]; rfl
def intX (o : BinOp) (k : IntKind) (a b : X) : OX := match o with
 | .add => .val (.bool true) (mkBin .add k a b) []
 | .sub => .val (.bool true) (mkBin .sub k a b) []
 | .mul => .val (.bool true) (mkBin .mul k a b) []
 | .quo => .val (mkCmp .neq b (.int k 0)) (mkBin .quo k a b) []
 | .rem => .val (mkCmp .neq b (.int k 0)) (mkBin .rem k a b) []
 | .eql => .val (.bool true) (mkCmp .eql a b) []
 | .neq => .val (.bool true) (mkCmp .neq a b) []
 | .lss => .val (.bool true) (mkCmp .lss a b) []
 | .leq => .val (.bool true) (mkCmp .leq a b) []
 | .gtr => .val (.bool true) (mkCmp .gtr a b) []
 | .geq => .val (.bool true) (mkCmp .geq a b) []
 | _ => .no
def boolX (o : BinOp) (a b : X) : OX := match o with
 | .eql => .val (.bool true) (.eqb a b) []
 | .neq => .val (.bool true) (.not (.eqb a b)) []
 | _ => .no
def strX (o : BinOp) (a b : X) : OX := match o with
 | .eql => .val (.bool true) (.eqs a b) []
 | .neq => .val (.bool true) (.not (.eqs a b)) []
 | .add => .val (X.mkAnd (.cmp .leq (.len a) (.int .i64 4611686018427387903)) (.cmp .leq (.len b) (.int .i64 4611686018427387903))) (.cat a b) []
 | _ => .no
def binX (tab : Tab) (o : BinOp) (t : TypeId) (a b : X) : OX := match a.kd, b.kd with
 | some (.int k), some (.int k') => if k = k' then intX o k a b else .no
 | some .bool, some .bool => if tab.bt.contains t then boolX o a b else .no
 | some .str, some .str => strX o a b
 | _, _ => .no
def pickX (c x y : X) : OX := match c with
 | .bool t => .val (.bool true) (if t then x else y) []
 | c => if c.isB then .val (.bool true) (X.mkIte c (X.strip c x) (X.strip c.mkNot y)) [] else .no
def mkNeg (k : IntKind) (x : X) : X := match x with
 | .int _ n => .int k (k.wrap (0 - n))
 | x => .neg k x
theorem mkNeg_den {e : Env} {k : IntKind} {x : X} : (mkNeg k x).den e = .d (.lit (.int k (k.wrap (0 - intOf (x.den e))))) := by
 unfold mkNeg; split <;> rfl
def unX (u : UnOp) (x : X) : OX := match u, x.kd with
 | .not, some .bool => .val (.bool true) x.mkNot []
 | .neg, some (.int k) => .val (.bool true) (mkNeg k x) []
 | _, _ => .no
def extX (x : X) (i : Nat) : OX := match x with
 | .tup a => if isL a then match (toL a)[i]? with | some c => .val (.bool true) c [] | none => .no else .no
 | _ => .no
def nilX (x : X) : OX := match x with
 | .ptr l sz i j => .val (.bool true) (.ptr l sz i j) []
 | .ep xs => .val (.bool true) (.ep xs) []
 | _ => .no
def fldX (tab : Tab) (t f : Nat) (x : X) : OX := match (lookT t tab.fld).bind (look f) with
 | some off => match x with
   | .ptr l sz i j => .val (.bool true) (.ptr l sz i (j + off)) []
   | .ep xs => if isL xs then .val (.bool true) (.ep (ofL ((toL xs).drop off))) [] else .no
   | _ => .no
 | none => .no
def cellsX (x i : X) : List Ki → Nat → List X
 | [], _ => []
 | k :: ks, j => .get k x i j :: cellsX x i ks (j + 1)
def idxX (tab : Tab) (t : TypeId) (x y : X) : OX := match y.kd, lookT t tab.el with
 | some (.int _), some sz => match x with
   | .osl l sz' (.int _ 0) n => if sz' = sz then .val (X.mkAnd (mkCmp .leq (.int .i64 0) y) (mkCmp .lss y n)) (.ptr l sz y 0) [] else .no
   | x => match x.kd with
     | some (.sl cs) => if cs.len = sz ∧ cs.ls.all (fun k => k.one) = true then .val (X.mkAnd (mkCmp .leq (.int .i64 0) y) (.cmp .lss y (.len x))) (.ep (ofL (cellsX x y cs.ls 0))) [] else .no
     | _ => .no
 | _, _ => .no
def lenX (tab : Tab) (t : TypeId) (x : X) : OX := match x with
 | .osl l sz st n => if lookT t tab.len = some false ∧ (n.kd == some (.int .i64)) = true then .val (mkCmp .leq (.int .i64 0) n) n [] else .no
 | .nilS => if lookT t tab.len = some false then .val (.bool true) (.int .i64 0) [] else .no
 | x => match x.kd with
   | some (.sl _) => if lookT t tab.len = some false then .val (.bool true) (.len x) [] else .no
   | some .str => if lookT t tab.len = some true then .val (.bool true) (.len x) [] else .no
   | _ => .no
def mmX (mx : Bool) (a b : X) : OX := match a.kd, b.kd with
 | some (.int k), some (.int k') => if k = k' then .val (.bool true) (if mx then X.mkIte (mkCmp .gtr b a) b a else X.mkIte (mkCmp .lss b a) b a) [] else .no
 | _, _ => .no
section
variable {P : Program} {e : Env} {tab : Tab} {s : Sx} {c r : X} {pre : List Nat} {o : Oper}
theorem binX_ok (ht : TabOk P tab) {op : BinOp} {t u : TypeId} {x y : Operand} (ho : o.op = .binOp op t x y u) (h : binX tab op t (evX s.T x) (evX s.T y) = .val c r pre) : OvOk P e o s c r pre := by
 have key : ∀ (p : Prop), (c.tr e → p) → pre = [] → binC P op t ((evX s.T x).den e) ((evX s.T y).den e) = .val p [] (r.den e) → OvOk P e o s c r pre := by
  intro p hp hpre hq
  subst hpre
  exact .of fun hc => (OpT.binC (ev := fun y => (evX s.T y).den e) ho hq (hp hc)).2
 revert h key
 generalize evX s.T x = a
 generalize evX s.T y = b
 intro h key
 unfold binX at h
 split at h
 · rename_i k k' h1 h2
   split at h
   · rename_i hk
     subst hk
     have hb : binC P op t (a.den e) (b.den e) = binQ op k (intOf (a.den e)) (intOf (b.den e)) := by rw [kd_int h1, kd_int h2]; simp [binC, binK, intOf_i]
     rw [hb] at key
     cases op <;> simp only [intX, reduceCtorEq, OX.val.injEq] at h <;> obtain ⟨rfl, rfl, rfl⟩ := h <;>
      first
      | exact key True (fun _ => trivial) rfl (by rw [mkBin_den]; rfl)
      | exact key True (fun _ => trivial) rfl (by rw [mkCmp_den]; rfl)
      | (refine key _ (fun hc => ?_) rfl (by rw [mkBin_den]; rfl)
         rw [mkCmp_tr] at hc
         simpa [cmpI, X.den, intOf_i] using hc)
   · cases h
 · rename_i h1 h2
   split at h
   · rename_i hbt
     have hb : binC P op t (a.den e) (b.den e) = boolQ P op t (boolOf (a.den e)) (boolOf (b.den e)) := by rw [kd_bool h1, kd_bool h2]; simp [binC, binK, boolOf_b]
     rw [hb] at key
     unfold boolQ at key
     rw [if_pos (ht.bt t hbt)] at key
     unfold boolX at h
     split at h
     · cases h; exact key True (fun _ => trivial) rfl rfl
     · cases h; exact key True (fun _ => trivial) rfl rfl
     · cases h
   · cases h
 · rename_i h1 h2
   have hb : binC P op t (a.den e) (b.den e) = strQ op (strOf (a.den e)) (strOf (b.den e)) := by rw [kd_str h1, kd_str h2]; simp [binC, binK, strOf_s]
   rw [hb] at key
   unfold strQ at key
   unfold strX at h
   split at h
   · cases h; exact key True (fun _ => trivial) rfl rfl
   · cases h; exact key True (fun _ => trivial) rfl rfl
   · cases h
     refine key _ (fun hc => ?_) rfl rfl
     rw [X.tr_and] at hc
     obtain ⟨c1, c2⟩ := hc
     replace c1 : ((lenOf (a.den e) : Nat) : Int) ≤ 4611686018427387903 := of_decide_eq_true c1
     replace c2 : ((lenOf (b.den e) : Nat) : Int) ≤ 4611686018427387903 := of_decide_eq_true c2
     have e1 : lenOf (a.den e) = (strOf (a.den e)).size := by generalize hz : strOf (a.den e) = z; rw [kd_str h1, hz]; rfl
     have e2 : lenOf (b.den e) = (strOf (b.den e)).size := by generalize hz : strOf (b.den e) = z; rw [kd_str h2, hz]; rfl
     omega
   · cases h
 · cases h
theorem pickX_ok {x y z : Operand} (ho : o.op = .pick x y z) (h : pickX (evX s.T x) (evX s.T y) (evX s.T z) = .val c r pre) : OvOk P e o s c r pre := by
 have key : ∀ t, (evX s.T x).den e = .d (.lit (.bool t)) → OpT P o (fun y => (evX s.T y).den e) ⟨[], [], [], if t then (evX s.T y).den e else (evX s.T z).den e⟩ := fun t h1 => .pick t ho h1
 revert h key
 generalize evX s.T x = a
 generalize evX s.T y = b
 generalize evX s.T z = d
 intro h key
 unfold pickX at h
 split at h
 · rename_i t
   cases h
   refine .of fun _ => ?_
   have := key t rfl
   cases t <;> exact this
 · split at h
   · rename_i hb
     cases h
     refine .of fun _ => ?_
     have := key _ (X.isB_den hb)
     rw [X.den_ite]
     by_cases hc : a.tr e
     · rw [X.strip_den hb hc]
       simp only [show boolOf (a.den e) = true from hc, if_true] at this ⊢
       exact this
     · have h2 : boolOf (a.den e) = false := by simpa [X.tr] using hc
       rw [X.strip_den (g := a.mkNot) X.isB_not (X.tr_not.2 hc)]
       simp only [h2, Bool.false_eq_true, if_false] at this ⊢
       exact this
   · cases h
theorem unX_ok {u : UnOp} {x : Operand} {t : TypeId} (ho : o.op = .unOp u t x) (h : unX u (evX s.T x) = .val c r pre) : OvOk P e o s c r pre := by
 unfold unX at h
 split at h
 · rename_i hk
   cases h
   refine .of fun _ => ?_
   have e2 : ∀ a : X, a.kd = some .bool → (a.mkNot).den e = .d (.lit (.bool (!boolOf (a.den e)))) := by
    intro a _; exact X.mkNot_den
   rw [e2 _ hk]
   exact .not ho (kd_bool hk)
 · rename_i k hk
   cases h
   refine .of fun _ => ?_
   rw [mkNeg_den]
   exact .neg ho (kd_int hk)
 · cases h
theorem extX_ok {x : Operand} {i : Nat} (ho : o.op = .extract x i) (h : extX (evX s.T x) i = .val c r pre) : OvOk P e o s c r pre := by
 have key : ∀ cs c, (evX s.T x).den e = .tup cs → cs[i]? = some c → OpT P o (fun y => (evX s.T y).den e) ⟨[], [], [], c⟩ := fun cs c h1 h2 => .extract ho h1 h2
 revert h key
 generalize evX s.T x = a
 intro h key
 unfold extX at h
 split at h
 · split at h
   · rename_i hl
     split at h
     · rename_i x' hx
       cases h
       exact .of fun _ => key _ _ rfl (by rw [toL_den hl, List.getElem?_map, hx]; rfl)
     · cases h
   · cases h
 · cases h
theorem nilX_ok {x : Operand} (ho : o.op = .nilCheck x) (h : nilX (evX s.T x) = .val c r pre) : OvOk P e o s c r pre := by
 unfold nilX at h
 split at h
 · rename_i hx; cases h; exact .of fun _ => .nilCheckP ho (by rw [hx]; rfl)
 · rename_i hx; cases h; exact .of fun _ => .nilCheckE ho (by rw [hx]; rfl)
 · cases h
theorem fldX_ok (ht : TabOk P tab) {t f : Nat} {x : Operand} (ho : o.op = .fieldAddr t x f) (h : fldX tab t f (evX s.T x) = .val c r pre) : OvOk P e o s c r pre := by
 unfold fldX at h
 split at h
 · rename_i off hf
   have hf := ht.fld t f off hf
   split at h
   · rename_i hx; cases h; exact .of fun _ => .fieldAddrP ho (by rw [hx]; rfl) hf
   · rename_i xs hx
     split at h
     · rename_i hl
       cases h
       refine .of fun _ => ?_
       have := OpT.fieldAddrE (P := P) (o := o) (ev := fun y => (evX s.T y).den e) (cs := (tupOf (xs.den e)).map dOf) ho (by rw [hx]; rfl) hf
       simp only [X.den, ofL_den]
       rw [toL_den hl] at this
       rw [List.map_drop, List.map_drop]
       exact this
     · cases h
   · cases h
 · cases h
theorem cellsX_den {x i : X} : ∀ (ks : List Ki) (j : Nat), ((cellsX x i ks j).map (X.den e)).map dOf = ks.mapIdx (fun n k => k.force ((((elsOf (x.den e)).getD (intOf (i.den e)).toNat []).getD (j + n) dz))) := by
 intro ks
 induction ks with
 | nil => intro j; rfl
 | cons k ks ih =>
   intro j
   simp only [cellsX, List.map_cons, ih, List.mapIdx_cons, X.den, Nat.add_zero, dOf_d]
   congr 1
   refine List.mapIdx_eq_mapIdx_iff.2 fun n hn => ?_
   rw [show j + 1 + n = j + (n + 1) by omega]
theorem row_cells {cs : Ki} (h : cs.flat = true) (hall : cs.ls.all (fun k => k.one) = true) : ∀ {r : List D}, cs.row r = r → r = cs.ls.mapIdx (fun n k => k.force (r.getD n dz)) := by
 induction cs with
 | nil => intro r hr; exact hr.symm
 | cons a b _ ih =>
   intro r hr
   simp only [Ki.flat, Bool.and_eq_true] at h
   simp only [Ki.ls, List.all_cons, Bool.and_eq_true] at hall
   rw [row_cons h.1] at hr
   cases r with
   | nil => cases hr
   | cons d r =>
     simp only [List.headD_cons, List.tail_cons, List.cons.injEq] at hr
     have := ih h.2 hall.2 hr.2
     simp only [Ki.ls, List.mapIdx_cons, List.getD_cons_zero, List.getD_cons_succ]
     rw [hr.1, ← this]
 | _ => cases h
theorem idxX_ok (ht : TabOk P tab) {t : Nat} {x y : Operand} (ho : o.op = .indexAddr t x y) (h : idxX tab t (evX s.T x) (evX s.T y) = .val c r pre) : OvOk P e o s c r pre := by
 have kO := fun (l sz st n : Nat) (ki : IntKind) (z : Int) => OpT.indexAddrO (P := P) (o := o) (ev := fun y => (evX s.T y).den e) (l := l) (sz := sz) (s := st) (n := n) (ki := ki) (z := z) ho
 have kS := fun (sz : Nat) (els : List (List D)) (ki : IntKind) (z : Int) => OpT.indexAddrS (P := P) (o := o) (ev := fun y => (evX s.T y).den e) (sz := sz) (els := els) (ki := ki) (z := z) ho
 revert h kO kS
 generalize evX s.T x = a
 generalize evX s.T y = b
 intro h kO kS
 unfold idxX at h
 split at h
 · rename_i ki sz hy hel
   have e2 := kd_int (e := e) hy
   have hel := ht.el t sz hel
   split at h
   · rename_i l sz' k0 n
     split at h
     · rename_i hsz
       subst hsz
       cases h
       refine .of fun hc => ?_
       rw [X.tr_and, mkCmp_tr] at hc
       obtain ⟨c1, c2⟩ := hc
       rw [mkCmp_tr] at c2
       replace c1 : (0 : Int) ≤ intOf (b.den e) := of_decide_eq_true c1
       replace c2 : intOf (b.den e) < intOf (n.den e) := of_decide_eq_true c2
       have := kO l sz' _ _ ki (intOf (b.den e)) rfl e2 hel c1 (by omega)
       simpa [X.den, intOf_i] using this
     · cases h
   · split at h
     · rename_i cs hk
       split at h
       · rename_i hh
         cases h
         refine .of fun hc => ?_
         rw [X.tr_and, mkCmp_tr] at hc
         obtain ⟨c1, c2⟩ := hc
         obtain ⟨k1, k2, k3, k4⟩ := kd_sl (e := e) hk
         replace c1 : (0 : Int) ≤ intOf (b.den e) := of_decide_eq_true c1
         have hlen : lenOf (a.den e) = (elsOf (a.den e)).length := by generalize hz : elsOf (a.den e) = z at k3 ⊢; rw [k3]; rfl
         replace c2 : intOf (b.den e) < ((lenOf (a.den e) : Nat) : Int) := of_decide_eq_true c2
         rw [hlen] at c2
         have hi : (intOf (b.den e)).toNat < (elsOf (a.den e)).length := by omega
         have := kS sz (elsOf (a.den e)) ki _ (by rw [← hh.1]; exact k3) e2 hel c1 c2
         have hrow : cs.row ((elsOf (a.den e)).getD (intOf (b.den e)).toNat []) = (elsOf (a.den e)).getD (intOf (b.den e)).toNat [] := by
          have h1 : ((elsOf (a.den e)).map cs.row).getD (intOf (b.den e)).toNat [] = (elsOf (a.den e)).getD (intOf (b.den e)).toNat [] := by rw [k4]
          simpa [List.getD_eq_getElem?_getD, hi] using h1
         have hcells := row_cells k1 hh.2 hrow
         have hden : (X.ep (ofL (cellsX a b cs.ls 0))).den e = .d (.ep ((elsOf (a.den e)).getD (intOf (b.den e)).toNat [])) := by
          simp only [X.den, ofL_den, cellsX_den, Nat.zero_add]
          exact congrArg (fun x => C.d (D.ep x)) hcells.symm
         rw [hden]
         exact this
       · cases h
     · cases h
 · cases h
theorem lenX_ok (ht : TabOk P tab) {t : TypeId} {x : Operand} (ho : o.op = .call { callee := .builtin .len, args := #[x], argTypes := #[t] }) (h : lenX tab t (evX s.T x) = .val c r pre) : OvOk P e o s c r pre := by
 have key := fun (n : Nat) (c : C) => OpT.len (P := P) (o := o) (ev := fun y => (evX s.T y).den e) (x := x) (t := t) (n := n) (c := c) ho
 revert h key
 generalize evX s.T x = a
 intro h key
 unfold lenX at h
 split at h
 · rename_i l sz st n
   split at h
   · rename_i hl
     cases h
     refine .of fun hc => ?_
     rw [mkCmp_tr] at hc
     replace hc : (0 : Int) ≤ intOf (r.den e) := of_decide_eq_true hc
     have := key (intOf (r.den e)).toNat _ rfl (ht.len t _ hl.1) rfl
     rw [kd_int (beq_iff_eq.1 hl.2)]
     rwa [Int.toNat_of_nonneg hc] at this
   · cases h
 · split at h
   · rename_i hl
     cases h
     exact .of fun _ => key 0 _ rfl (ht.len t _ hl) rfl
   · cases h
 · split at h
   · rename_i cs hk
     split at h
     · rename_i hl
       cases h
       refine .of fun _ => ?_
       obtain ⟨-, -, k3, -⟩ := kd_sl (e := e) hk
       have := key (elsOf (a.den e)).length _ k3 (ht.len t _ hl) rfl
       simp only [X.den]
       have hlen : lenOf (a.den e) = (elsOf (a.den e)).length := by generalize hz : elsOf (a.den e) = z at k3 ⊢; rw [k3]; rfl
       rw [hlen]; exact this
     · cases h
   · rename_i hk
     split at h
     · rename_i hl
       cases h
       refine .of fun _ => ?_
       have k3 := kd_str (e := e) hk
       have := key (strOf (a.den e)).size _ k3 (ht.len t _ hl) rfl
       simp only [X.den]
       have hlen : lenOf (a.den e) = (strOf (a.den e)).size := by generalize hz : strOf (a.den e) = z at k3 ⊢; rw [k3]; rfl
       rw [hlen]; exact this
     · cases h
   · cases h
theorem mmX_ok {mx : Bool} {ts : Array TypeId} {x y : Operand} (ho : o.op = .call { callee := .builtin (if mx then .max else .min), args := #[x, y], argTypes := ts }) (h : mmX mx (evX s.T x) (evX s.T y) = .val c r pre) : OvOk P e o s c r pre := by
 unfold mmX at h
 split at h
 · rename_i k k' h1 h2
   split at h
   · rename_i hk
     subst hk
     cases h
     refine .of fun _ => ?_
     have e1 := kd_int (e := e) h1
     have e2 := kd_int (e := e) h2
     cases mx
     · have := OpT.min (P := P) (o := o) (ev := fun y => (evX s.T y).den e) (ts := ts) ho e1 e2
       simp only [Bool.false_eq_true, if_false, X.den_ite, mkCmp_den, boolOf_b, cmpI, iltB_iff]
       revert this
       generalize (evX s.T x).den e = u at *
       generalize (evX s.T y).den e = v at *
       intro this
       rw [e1, e2]
       split
       · rename_i hc; simp only [intOf_i] at hc; rw [if_pos hc] at this; exact this
       · rename_i hc; simp only [intOf_i] at hc; rw [if_neg hc] at this; exact this
     · have := OpT.max (P := P) (o := o) (ev := fun y => (evX s.T y).den e) (ts := ts) ho e1 e2
       simp only [if_true, X.den_ite, mkCmp_den, boolOf_b, cmpI, iltB_iff]
       revert this
       generalize (evX s.T x).den e = u at *
       generalize (evX s.T y).den e = v at *
       intro this
       rw [e1, e2]
       split
       · rename_i hc; simp only [intOf_i] at hc; rw [if_pos hc] at this; exact this
       · rename_i hc; simp only [intOf_i] at hc; rw [if_neg hc] at this; exact this
   · cases h
 · cases h
end
end Ow
namespace Ow
open Go Go.RowKit Go.Deep
def RowK (cs : Ki) (r : List C) : Prop := r.length = cs.len ∧ ∀ (j : Nat) (k : Ki) (c : C), cs.ls[j]? = some k → k.one = true → r[j]? = some c → c = .d (k.force (dOf c))
def rowIs : Ki → X → Bool
 | .nil, .nil => true
 | .cons k ks, .cons a b => (k == .any || a.kd == some k) && rowIs ks b
 | _, _ => false
def rkIs (cs : Ki) : X → Bool
 | .nil => true
 | .cons a b => rowIs cs a && rkIs cs b
 | .rws cs' _ _ => cs' == cs && cs.flat && cs.ok
 | .app a b => rkIs cs a && rkIs cs b
 | .ite _ x y => rkIs cs x && rkIs cs y
 | .rof x => x.kd == some (.sl cs)
 | .upd r _ j v => rkIs cs r && (match cs.ls[j]? with | some k => k == .any || v.kd == some k | none => false)
 | _ => false
theorem rowIs_ok {e : Env} : ∀ {cs : Ki} {x : X}, rowIs cs x = true → RowK cs (tupOf (x.den e)) := by
 intro cs
 induction cs with
 | nil => intro x h; cases x <;> first | (cases h; done) | exact ⟨rfl, fun j k c hk => by simp [Ki.ls] at hk⟩
 | cons k ks _ ih =>
   intro x h
   cases x with
   | cons a b =>
     simp only [rowIs, Bool.and_eq_true, Bool.or_eq_true, beq_iff_eq] at h
     obtain ⟨h1, h2⟩ := ih h.2
     refine ⟨by simp only [X.den, tupOf_t, List.length_cons, h1, Ki.len], fun j k' c hk hone hc => ?_⟩
     cases j with
     | zero =>
       simp only [Ki.ls, List.getElem?_cons_zero, Option.some.injEq] at hk
       simp only [X.den, tupOf_t, List.getElem?_cons_zero, Option.some.injEq] at hc
       subst hk hc
       rcases h.1 with h3 | h3
       · subst h3; cases hone
       · exact (kd_ok h3).2.2
     | succ j =>
       simp only [Ki.ls, List.getElem?_cons_succ] at hk
       simp only [X.den, tupOf_t, List.getElem?_cons_succ] at hc
       exact h2 j k' c hk hone hc
   | _ => cases h
 | _ => intro x h; cases x <;> cases h
theorem row_get {cs : Ki} (h : cs.flat = true) : ∀ {r : List D} {j : Nat} {k : Ki}, cs.ls[j]? = some k → (cs.row r)[j]? = some (k.force (r.getD j dz)) := by
 induction cs with
 | cons a b _ ih =>
   intro r j k hk
   simp only [Ki.flat, Bool.and_eq_true] at h
   rw [row_cons h.1]
   cases j with
   | zero => simp only [Ki.ls, List.getElem?_cons_zero, Option.some.injEq] at hk; subst hk; cases r <;> rfl
   | succ j =>
     simp only [Ki.ls, List.getElem?_cons_succ] at hk ⊢
     rw [ih h.2 hk]
     cases r <;> simp
 | _ => intro r j k hk; simp [Ki.ls] at hk
theorem ok_ls {cs : Ki} (h : cs.ok = true) : ∀ {j : Nat} {k : Ki}, cs.ls[j]? = some k → k.ok = true := by
 induction cs with
 | cons a b _ ih =>
   intro j k hk
   simp only [Ki.ok, Bool.and_eq_true] at h
   cases j with
   | zero => simp only [Ki.ls, List.getElem?_cons_zero, Option.some.injEq] at hk; subst hk; exact h.1
   | succ j => exact ih h.2 (by simpa [Ki.ls] using hk)
 | _ => intro j k hk; simp [Ki.ls] at hk
theorem row_rowK {cs : Ki} (h1 : cs.flat = true) (h2 : cs.ok = true) (r : List D) : RowK cs ((cs.row r).map .d) := by
 refine ⟨by rw [List.length_map, row_len h1], fun j k c hk hone hc => ?_⟩
 rw [List.getElem?_map, row_get h1 hk] at hc
 simp only [Option.map_some, Option.some.injEq] at hc
 subst hc
 rw [dOf_d, (force_idem (ok_ls h2 hk)).1 _ hone]
theorem rkIs_ok {e : Env} {cs : Ki} {x : X} (h : rkIs cs x = true) : ∀ r ∈ rowsC (x.den e), RowK cs r := by
 induction x with
 | nil => intro r hr; cases hr
 | cons a b _ ih =>
   simp only [rkIs, Bool.and_eq_true] at h
   intro r hr
   simp only [rowsC, X.den, tupOf_t, List.map_cons, List.mem_cons] at hr
   rcases hr with rfl | hr
   · exact rowIs_ok h.1
   · exact ih h.2 r hr
 | rws cs' j az =>
   simp only [rkIs, Bool.and_eq_true, beq_iff_eq] at h
   obtain ⟨⟨rfl, h1⟩, h2⟩ := h
   intro r hr
   simp only [rowsC, X.den, tupOf_t, List.map_map, List.mem_map, Function.comp] at hr
   obtain ⟨r0, -, rfl⟩ := hr
   exact row_rowK h1 h2 r0
 | app a b iha ihb =>
   simp only [rkIs, Bool.and_eq_true] at h
   intro r hr
   simp only [rowsC, X.den, tupOf_t, List.map_append, List.mem_append] at hr
   exact hr.elim (iha h.1 r) (ihb h.2 r)
 | ite c x y _ ihx ihy =>
   simp only [rkIs, Bool.and_eq_true] at h
   simp only [X.den]
   split
   · exact ihx h.1
   · exact ihy h.2
 | rof x =>
   simp only [rkIs, beq_iff_eq] at h
   obtain ⟨k1, k2, k3, k4⟩ := kd_sl (e := e) h
   intro r hr
   simp only [rowsC, X.den, tupOf_t, List.map_map, List.mem_map, Function.comp] at hr
   obtain ⟨r0, h0, rfl⟩ := hr
   rw [← k4] at h0
   obtain ⟨r1, -, rfl⟩ := List.mem_map.1 h0
   exact row_rowK k1 k2 r1
 | upd r i j v ih _ _ =>
   simp only [rkIs, Bool.and_eq_true] at h
   intro q hq
   simp only [rowsC, X.den, tupOf_t, List.mem_map] at hq
   obtain ⟨q0, hq0, rfl⟩ := hq
   obtain ⟨n, hn, rfl⟩ := List.getElem_of_mem hq0
   rw [List.getElem_modify]
   have hm := ih h.1 _ (List.mem_map_of_mem (f := tupOf) (List.getElem_mem (show n < (tupOf (r.den e)).length by simpa using hn)))
   split
   · obtain ⟨m1, m2⟩ := hm
     refine ⟨by rw [tupOf_t, List.length_set]; exact m1, fun j' k c hk hone hc => ?_⟩
     rw [tupOf_t, List.getElem?_set] at hc
     split at hc
     · rename_i hj
       subst hj
       split at hc
       · cases hc
         have h2 := h.2
         rw [hk] at h2
         simp only [Bool.or_eq_true, beq_iff_eq] at h2
         rcases h2 with h2 | h2
         · subst h2; cases hone
         · exact (kd_ok h2).2.2
       · cases hc
     · exact m2 j' k c hk hone hc
   · exact hm
 | _ => cases h
def nthX : X → Nat → Option X
 | .cons a _, 0 => some a
 | .cons _ b, n + 1 => nthX b n
 | _, _ => none
def setNth : X → Nat → X → X
 | .cons _ b, 0, v => .cons v b
 | .cons a b, n + 1, v => .cons a (setNth b n v)
 | x, _, _ => x
theorem nthX_den {e : Env} : ∀ {x : X} {n : Nat} {y : X}, nthX x n = some y → (tupOf (x.den e))[n]? = some (y.den e) := by
 intro x
 induction x with
 | cons a b _ ih =>
   intro n y h
   cases n with
   | zero => cases h; rfl
   | succ n => exact ih h
 | _ => intro n y h; cases h
theorem setNth_den {e : Env} : ∀ {x : X} {n : Nat} {y v : X}, nthX x n = some y → tupOf ((setNth x n v).den e) = (tupOf (x.den e)).set n (v.den e) := by
 intro x
 induction x with
 | cons a b _ ih =>
   intro n y v h
   cases n with
   | zero => cases h; rfl
   | succ n => simp only [setNth, X.den, tupOf_t, List.set_cons_succ, ih h]
 | _ => intro n y v h; cases h
def litI : X → Option Nat
 | .int _ n => if 0 ≤ n then some n.toNat else none
 | _ => none
theorem litI_den {e : Env} {x : X} {n : Nat} (h : litI x = some n) : (intOf (x.den e)).toNat = n := by
 unfold litI at h
 split at h
 · split at h
   · cases h; rfl
   · cases h
 · cases h
def X.isD (x : X) : Bool := x.kd != none
theorem X.isD_den {e : Env} {x : X} (h : x.isD = true) : .d (dOf (x.den e)) = x.den e := by
 unfold X.isD at h
 cases hk : x.kd with
 | none => rw [hk] at h; cases h
 | some k => have := (kd_ok (e := e) hk).2.2; rw [this]; rfl
def rgtX (rows i : X) (ks : List Ki) : Nat → Nat → Option (List X)
 | _, 0 => some []
 | j, n + 1 => match ks[j]? with
   | some k => if k.one then (rgtX rows i ks (j + 1) n).map (.rgt k rows i j :: ·) else none
   | none => none
theorem rgtX_den {e : Env} {rows i : X} {cs : Ki} {row : List C} (hr : (rowsC (rows.den e))[(intOf (i.den e)).toNat]? = some row) (hk : RowK cs row) : ∀ {n j : Nat} {l : List X}, rgtX rows i cs.ls j n = some l → (0 < n → j + n ≤ row.length) ∧ l.map (X.den e) = (row.drop j).take n := by
 have hlen : cs.ls.length = row.length := by rw [ls_len, hk.1]
 intro n
 induction n with
 | zero =>
   intro j l h
   cases h
   exact ⟨fun h => absurd h (Nat.lt_irrefl 0), rfl⟩
 | succ n ih =>
   intro j l h
   simp only [rgtX] at h
   split at h
   · rename_i k hkj
     split at h
     · rename_i hone
       rw [Option.map_eq_some_iff] at h
       obtain ⟨l', h1, rfl⟩ := h
       have hj : j < row.length := by rw [← hlen]; exact (List.getElem?_eq_some_iff.1 hkj).1
       obtain ⟨a1, a2⟩ := ih h1
       refine ⟨fun _ => by cases n with | zero => omega | succ n => have := a1 (Nat.succ_pos n); omega, ?_⟩
       have hc := hk.2 j k row[j] hkj hone (List.getElem?_eq_getElem hj)
       rw [List.map_cons, a2, List.drop_eq_getElem_cons hj, List.take_succ_cons]
       congr 1
       simp only [X.den]
       rw [hc]
       have h3 : (tupOf ((tupOf (rows.den e)).getD (intOf (i.den e)).toNat .dead)) = row := by
        simp only [rowsC, List.getElem?_map, Option.map_eq_some_iff] at hr
        obtain ⟨q, hq, rfl⟩ := hr
        rw [List.getD_eq_getElem?_getD, hq]; rfl
       rw [h3, List.getD_eq_getElem?_getD, List.getElem?_eq_getElem hj]; rfl
     · cases h
   · cases h
def ldX (tab : Tab) (s : Sx) (t : TypeId) (x : X) : OX := match lookT t tab.ag, lookT t tab.sz with
 | some ag, some n => match x with
   | .ep xs => if isL xs then (match ag with
      | false => (match toL xs with | y :: _ => if y.isD then .val (.bool true) y [] else .no | [] => .no)
      | true => if n ≤ (toL xs).length ∧ ((toL xs).take n).all X.isD = true then .val (.bool true) (.agg (ofL ((toL xs).take n))) [] else .no) else .no
   | .ptr l sz i j => match getX s.H l with
     | some b => if b.cs.len = sz then (match (litI i).bind (nthX b.rows) with
        | some row => if isL row then (match ag with
           | false => (match (toL row)[j]? with | some y => .val (.bool true) y [l] | none => .no)
           | true => if j + n ≤ (toL row).length then .val (.bool true) (.agg (ofL (((toL row).drop j).take n))) [l] else .no) else .no
        | none => if rkIs b.cs b.rows then (match rgtX b.rows i b.cs.ls j n with
           | some ys => (match ag, ys with
             | false, [y] => .val (X.mkAnd (mkCmp .leq (.int .i64 0) i) (mkCmp .lss i (.rln b.rows))) y [l]
             | true, y :: ys => .val (X.mkAnd (mkCmp .leq (.int .i64 0) i) (mkCmp .lss i (.rln b.rows))) (.agg (ofL (y :: ys))) [l]
             | _, _ => .no)
           | none => .no) else .no) else .no
     | none => .no
   | _ => .no
 | _, _ => .no
section
variable {P : Program} {e : Env} {tab : Tab} {s : Sx} {c r : X} {pre : List Nat} {o : Oper}
theorem getX_H {l : Nat} {b : XB} (h : getX s.H l = some b) : (s.den e).H.get l = some (.c b.cs.len (rowsC (b.rows.den e))) := by
 show Hp.get (s.H.map (XB.den e)) l = _
 rw [getX_den, h]; rfl
theorem OpT.loadC {o : Oper} {ev : Operand → C} {H : Hp} {t : TypeId} {x : Operand} {c : C} (ho : o.op = .load t x) (h : Ow.loadC P H.get t (ev x) = some c) : OpT P o ev ⟨H, [], [], c⟩ :=
 .read _ _ fun ρ F RO w a hs hr => by
  have h1 := hr x (by rw [ho]; simp [Op.operands])
  obtain ⟨ad, u, e1, e2, e3⟩ := loadC_run hs h1 h
  exact ⟨u, by unfold execOp; rw [ho]; simp [e1, Instr.loadAt, Instr.sureAddr, e2], e3⟩
theorem ldX_load (ht : TabOk P tab) {t : TypeId} {x : X} (h : ldX tab s t x = .val c r pre) (hc : c.tr e) : ∃ pre' : Hp, Ow.loadC P pre'.get t (x.den e) = some (r.den e) ∧ (∀ l B, pre'.get l = some B → (s.den e).H.get l = some B) ∧ pre'.map (·.1) = pre := by
 revert hc
 generalize hx0 : x = x0 at h
 unfold ldX at h
 split at h
 · rename_i ag n hag hsz
   have hag := ht.ag t ag hag
   have hsz := ht.sz t n hsz
   split at h
   · rename_i xs
     have hx := hx0
     split at h
     · rename_i hl
       have hx' : (X.ep xs).den e = .d (.ep (((toL xs).map (X.den e)).map dOf)) := by simp only [X.den, toL_den hl]
       split at h
       · split at h
         · rename_i y ys hy
           split at h
           · rename_i hd
             cases h
             refine fun _ => ⟨[], ?_, (fun l B h => by cases h), rfl⟩
             rw [hx', hy]
             simp only [Ow.loadC, hag, List.map_cons, List.getElem?_cons_zero, Option.map_some, X.isD_den hd]
           · cases h
         · cases h
       · split at h
         · rename_i hn
           cases h
           refine fun _ => ⟨[], ?_, (fun l B h => by cases h), rfl⟩
           rw [hx']
           simp only [Ow.loadC, hag, hsz, List.length_map, hn.1, if_true, X.den, ofL_den]
           congr 2
           rw [← List.map_take, ← List.map_take, List.map_map, List.map_map]
           refine List.map_congr_left fun y hy => ?_
           exact X.isD_den (List.all_eq_true.1 hn.2 y hy)
         · cases h
     · cases h
   · rename_i l sz i j
     have hx := hx0
     split at h
     · rename_i b hb
       split at h
       · rename_i hbs
         subst hbs
         have hx' : (X.ptr l b.cs.len i j).den e = .ptr l b.cs.len (intOf (i.den e)).toNat j := rfl
         have sub : ∀ l' B, Hp.get [(l, .c b.cs.len (rowsC (b.rows.den e)))] l' = some B → (s.den e).H.get l' = some B := fun l' B hB => by
          rw [Hp.get_cons] at hB
          split at hB
          · rename_i hl; rw [hl, getX_H hb]; exact hB
          · cases hB
         have g0 : Hp.get [(l, .c b.cs.len (rowsC (b.rows.den e)))] l = some (.c b.cs.len (rowsC (b.rows.den e))) := by rw [Hp.get_cons, if_pos rfl]
         split at h
         · rename_i row hrow
           rw [Option.bind_eq_some_iff] at hrow
           obtain ⟨n', hn', hrow⟩ := hrow
           have hR : (rowsC (b.rows.den e))[(intOf (i.den e)).toNat]? = some (tupOf (row.den e)) := by
            rw [litI_den hn', rowsC, List.getElem?_map, nthX_den hrow]; rfl
           split at h
           · rename_i hl
             rw [toL_den hl] at hR
             split at h
             · split at h
               · rename_i y hy
                 cases h
                 refine fun _ => ⟨[(l, .c b.cs.len (rowsC (b.rows.den e)))], ?_, sub, rfl⟩
                 rw [hx']
                 simp only [Ow.loadC, g0, if_true, hag, at2, hR, Option.bind_some, List.getElem?_map, hy, Option.map_some]
               · cases h
             · split at h
               · rename_i hj
                 cases h
                 refine fun _ => ⟨[(l, .c b.cs.len (rowsC (b.rows.den e)))], ?_, sub, rfl⟩
                 rw [hx']
                 simp only [Ow.loadC, g0, if_true, hag, hsz, hR, List.length_map, hj, X.den, ofL_den, List.map_take, List.map_drop]
               · cases h
           · cases h
         · split at h
           · rename_i hk
             split at h
             · rename_i ys hys
               have go : c.tr e → (∀ y0, ys = [y0] → True) → True := fun _ _ => trivial
               have hrow : (X.mkAnd (mkCmp .leq (.int .i64 0) i) (mkCmp .lss i (.rln b.rows))).tr e → ∃ row, (rowsC (b.rows.den e))[(intOf (i.den e)).toNat]? = some row ∧ RowK b.cs row := by
                intro hc
                rw [X.tr_and, mkCmp_tr, mkCmp_tr] at hc
                have c1 : (0 : Int) ≤ intOf (i.den e) := of_decide_eq_true hc.1
                have c2 : intOf (i.den e) < (((tupOf (b.rows.den e)).length : Nat) : Int) := of_decide_eq_true hc.2
                have hi : (intOf (i.den e)).toNat < (rowsC (b.rows.den e)).length := by simp only [rowsC, List.length_map]; omega
                exact ⟨_, List.getElem?_eq_getElem hi, rkIs_ok hk _ (List.getElem_mem hi)⟩
               split at h
               · cases h
                 refine fun hc => ⟨[(l, .c b.cs.len (rowsC (b.rows.den e)))], ?_, sub, rfl⟩
                 obtain ⟨row, h1, h2⟩ := hrow hc
                 obtain ⟨a1, a2⟩ := rgtX_den h1 h2 hys
                 rw [hx']
                 have hn1 : n = 1 := by
                  have := congrArg List.length a2
                  simp only [List.length_map, List.length_cons, List.length_nil, List.length_take, List.length_drop] at this
                  cases n with
                  | zero => simp at this
                  | succ n => have := a1 (Nat.succ_pos n); omega
                 subst hn1
                 have := a1 (by decide)
                 rw [List.take_one, List.head?_drop, List.getElem?_eq_getElem (by omega)] at a2
                 simp only [Option.toList_some, List.map_cons, List.map_nil, List.cons.injEq, and_true] at a2
                 simp only [Ow.loadC, g0, if_true, hag, at2, h1, Option.bind_some, List.getElem?_eq_getElem (show j < row.length by omega), a2]
               · cases h
                 refine fun hc => ⟨[(l, .c b.cs.len (rowsC (b.rows.den e)))], ?_, sub, rfl⟩
                 obtain ⟨row, h1, h2⟩ := hrow hc
                 obtain ⟨a1, a2⟩ := rgtX_den h1 h2 hys
                 rw [hx']
                 have hpos : 0 < n := by
                  cases n with
                  | zero => simp at a2
                  | succ n => exact Nat.succ_pos n
                 simp only [Ow.loadC, g0, if_true, hag, hsz, h1, a1 hpos, X.den, ofL_den, a2]
               · cases h
             · cases h
           · cases h
       · cases h
     · cases h
   · cases h
 · cases h
theorem ldX_ok (ht : TabOk P tab) {t : TypeId} {x : Operand} (ho : o.op = .load t x) (h : ldX tab s t (evX s.T x) = .val c r pre) : OvOk P e o s c r pre := fun hc => by
 obtain ⟨pre', h1, h2, h3⟩ := ldX_load (e := e) ht h hc
 exact ⟨pre', OpT.loadC ho h1, h2, h3⟩
theorem loadC_mono {H H' : Nat → Option Blk} (hs : ∀ l B, H l = some B → H' l = some B) {t : TypeId} {x c : C} (h : Ow.loadC P H t x = some c) : Ow.loadC P H' t x = some c := by
 unfold Ow.loadC at h ⊢
 split at h
 · rename_i l sz i j
   split at h
   · rename_i sz' rows hB
     rw [hs l _ hB]; exact h
   · cases h
 · exact h
 · cases h
end
end Ow
namespace Ow
open Go Go.RowKit Go.Deep
def X.isR : X → Bool
 | .ptr _ _ _ _ => true | .osl _ _ _ _ => true | .fn _ _ _ => true | .ifc _ _ => true | .nilI => true | .nilF => true | .nilS => true | .nilP => true
 | x => x.isD
def cellY : X → Option (List X)
 | .agg xs => if isL xs then some (toL xs) else none
 | x => if x.isR then some [x] else none
theorem cellY_den {e : Env} {y : X} {ys : List X} (h : cellY y = some ys) : cellsC (y.den e) = some (ys.map (X.den e)) := by
 unfold cellY at h
 split at h
 · split at h
   · rename_i hl; cases h; simp only [X.den, toL_den hl]; rfl
   · cases h
 · split at h
   · rename_i hr
     cases h
     have hd : y.isD = true → cellsC (y.den e) = some ([y].map (X.den e)) := by
      intro hd
      unfold X.isD at hd
      cases hk : y.kd with
      | none => rw [hk] at hd; cases hd
      | some k =>
        obtain ⟨h1, -, h3⟩ := kd_ok (e := e) hk
        rw [List.map_cons, List.map_nil]
        generalize y.den e = u at h3
        rw [h3]
        cases k <;> first | rfl | cases h1
     cases y <;> first | rfl | exact hd hr
   · cases h
def anyK : Nat → Ki | 0 => .nil | n + 1 => .cons .any (anyK n)
theorem anyK_len (n : Nat) : (anyK n).len = n := by induction n <;> simp_all [anyK, Ki.len]
def OmOk (P : Program) (e : Env) (o : Oper) (s : Sx) (c x : X) (t : Tch) (H : List XB) (n : Nat) : Prop :=
 c.tr e → ∃ r, Does P o (s.den e) r n ∧ ((⟨setX s.T o.dst x, H, n⟩ : Sx).den e).ab = (s.den e).ab.app o.dst (some r) ∧ (r.dom, r.chg) = t
section
variable {P : Program} {e : Env} {tab : Tab} {s : Sx} {c x : X} {t : Tch} {H : List XB} {n : Nat} {o : Oper}
theorem OmOk.of {pre : Hp} {chg : List Nat} {post : Hp} (ht : (pre.map (·.1) ++ chg, chg) = t) (hop : c.tr e → OpT P o (fun y => (evX s.T y).den e) ⟨pre, chg, post, x.den e⟩) (hsub : ∀ l B, pre.get l = some B → (s.den e).H.get l = some B)
 (hnew : ∀ l ∈ chg, pre.get l = none → s.n ≤ l) (hlt : ∀ l ∈ chg, l < n) (hle : s.n ≤ n) (hpost : ∀ l B, post.get l = some B → l ∈ chg)
 (hH : ∀ l, Hp.get (H.map (XB.den e)) l = if chg.contains l then post.get l else (s.den e).H.get l) : OmOk P e o s c x t H n := fun hc => by
 refine ⟨⟨pre, chg, post, x.den e⟩, ⟨(hop hc).of_dead (fun x => evX_den), hsub, hnew, hlt, hle, hpost⟩, ?_, ht⟩
 have : (Hp.get (H.map (XB.den e))) = fun l => if chg.contains l then post.get l else (s.den e).H.get l := funext hH
 simp only [St.ab, Ab.app, Sx.den, setX_den]
 rw [this]; rfl
theorem OmOk.new {cs : Ki} {rows : X} (hop : c.tr e → OpT P o (fun y => (evX s.T y).den e) ⟨[], [s.n], [(s.n, .c cs.len (rowsC (rows.den e)))], x.den e⟩) : OmOk P e o s c x ([s.n], [s.n]) (⟨s.n, cs, rows⟩ :: s.H) (s.n + 1) := by
 refine .of (pre := []) rfl hop (fun l B h => by cases h) (fun l hl _ => by simp at hl; omega) (fun l hl => by simp at hl; omega) (Nat.le_succ _) (fun l B h => ?_) (fun l => ?_)
 · rw [Hp.get_cons] at h
   split at h
   · rename_i hl; simp [hl]
   · cases h
 · rw [List.map_cons, Hp.get_cons]
   show (if l = s.n then _ else _) = _
   by_cases hl : l = s.n
   · rw [if_pos hl, hl]; simp [Hp.get_cons, XB.den]
   · rw [if_neg hl, if_neg (by simpa using hl)]; rfl
def putX : List XB → Nat → X → List XB
 | [], _, _ => []
 | b :: H, l, r => if l = b.l then ⟨b.l, b.cs, r⟩ :: H else b :: putX H l r
theorem putX_get {b : XB} {r : X} : ∀ {H : List XB} {l : Nat}, getX H l = some b → ∀ y, Hp.get ((putX H l r).map (XB.den e)) y = if y = l then some (.c b.cs.len (rowsC (r.den e))) else Hp.get (H.map (XB.den e)) y := by
 intro H
 induction H with
 | nil => intro l h; cases h
 | cons b' H ih =>
   intro l h y
   simp only [getX] at h
   simp only [putX]
   by_cases hl : l = b'.l
   · rw [if_pos hl] at h ⊢
     cases h
     rw [List.map_cons, List.map_cons, Hp.get_cons, Hp.get_cons]
     show (if y = b.l then _ else _) = if y = l then _ else if y = b.l then _ else _
     rw [hl]
     by_cases hy : y = b.l
     · rw [if_pos hy, if_pos hy]; rfl
     · rw [if_neg hy, if_neg hy, if_neg hy]
   · rw [if_neg hl] at h ⊢
     rw [List.map_cons, List.map_cons, Hp.get_cons, Hp.get_cons, ih h]
     show (if y = b'.l then _ else _) = if y = l then _ else if y = b'.l then _ else _
     by_cases hy : y = b'.l
     · rw [if_pos hy, if_pos hy, if_neg (fun e => hl (by rw [← e, hy]))]
     · rw [if_neg hy, if_neg hy]
theorem OmOk.upd {l : Nat} {b : XB} {rows : X} (hb : getX s.H l = some b) (hl : l < s.n) (hop : c.tr e → OpT P o (fun y => (evX s.T y).den e) ⟨[(l, .c b.cs.len (rowsC (b.rows.den e)))], [l], [(l, .c b.cs.len (rowsC (rows.den e)))], x.den e⟩) :
 OmOk P e o s c x ([l, l], [l]) (putX s.H l rows) s.n := by
 refine .of (pre := [(l, .c b.cs.len (rowsC (b.rows.den e)))]) rfl hop (fun l' B h => ?_) (fun l' hl' hn => ?_) (fun l' hl' => ?_) (Nat.le_refl _) (fun l' B h => ?_) (fun l' => ?_)
 · rw [Hp.get_cons] at h
   split at h
   · rename_i e1; rw [e1, getX_H hb]; exact h
   · cases h
 · simp only [List.mem_singleton] at hl'
   rw [hl', Hp.get_cons, if_pos rfl] at hn; cases hn
 · simp only [List.mem_singleton] at hl'; rw [hl']; exact hl
 · rw [Hp.get_cons] at h
   split at h
   · rename_i e1; simp [e1]
   · cases h
 · rw [putX_get hb]
   by_cases h1 : l' = l
   · rw [if_pos h1, if_pos (by simp [h1]), Hp.get_cons, if_pos h1]
   · rw [if_neg h1, if_neg (by simpa using h1)]; rfl
def newX (s : Sx) (ys : List X) : OX := .mem (.bool true) (.ptr s.n ys.length (.int .i64 0) 0) ([s.n], [s.n]) (⟨s.n, anyK ys.length, .cons (ofL ys) .nil⟩ :: s.H) (s.n + 1)
def boxX (s : Sx) (y : X) : OX := match cellY y with | some ys => newX s ys | none => .no
abbrev Zrs := Tb (List X)
def ZrOk (P : Program) (zr : Zrs) : Prop := ∀ t zs, lookT t zr = some zs → ∀ e : Env, zeroC P t = some (zs.map (X.den e))
theorem boxX_ok {u : TypeId} {y : Operand} (ho : o.op = .box u y) (h : boxX s (evX s.T y) = .mem c x t H n) : OmOk P e o s c x t H n := by
 unfold boxX at h
 split at h
 · rename_i ys hy
   unfold newX at h
   cases h
   refine .new fun _ => ?_
   have := OpT.box (P := P) (o := o) (ev := fun y => (evX s.T y).den e) s.n ho (cellY_den hy)
   simpa [anyK_len, X.den, rowsC, tupOf_t, ofL_den, intOf_i] using this
 · cases h
theorem alX_ok {zr : Zrs} (hz : ZrOk P zr) {u : TypeId} {zs : List X} (ho : o.op = .alloc u) (hl : lookT u zr = some zs) (h : newX s zs = .mem c x t H n) : OmOk P e o s c x t H n := by
 unfold newX at h
 cases h
 refine .new fun _ => ?_
 have hz := hz u zs hl e
 unfold zeroC at hz
 cases hi : (P.info? u).bind (·.zero) with
 | none => rw [hi] at hz; cases hz
 | some z =>
   rw [hi] at hz
   have := OpT.alloc (P := P) (o := o) (ev := fun y => (evX s.T y).den e) s.n ho hi hz
   simpa [anyK_len, X.den, rowsC, tupOf_t, ofL_den, intOf_i] using this
def putRowX (row : List X) (j : Nat) (ys : List X) : List X := row.take j ++ ys ++ row.drop (j + ys.length)
def updX (i : X) (cs : List Ki) : X → Nat → List X → Option X
 | r, _, [] => some r
 | r, j, y :: ys => match cs[j]? with
   | some k => if k == .any || y.kd == some k then updX i cs (.upd r i j y) (j + 1) ys else none
   | none => none
def stX (tab : Tab) (s : Sx) (u : TypeId) (x y : X) : OX := match lookT u tab.sz, x, cellY y with
 | some n, .ptr l sz i j, some ys => if ys.length = n ∧ l < s.n ∧ 0 < n then (match getX s.H l with
   | some b => if b.cs.len = sz then (match (litI i).bind (fun i => (nthX b.rows i).map (i, ·)) with
     | some (i', row) => if isL row = true ∧ j + ys.length ≤ (toL row).length then .mem (.bool true) .dead ([l, l], [l]) (putX s.H l (setNth b.rows i' (ofL (putRowX (toL row) j ys)))) s.n else .no
     | none => if rkIs b.cs b.rows then (match updX i b.cs.ls b.rows j ys with
       | some r => .mem (X.mkAnd (mkCmp .leq (.int .i64 0) i) (mkCmp .lss i (.rln b.rows))) .dead ([l, l], [l]) (putX s.H l r) s.n
       | none => .no) else .no) else .no
   | none => .no) else .no
 | _, _, _ => .no
theorem modify_set {α : Type} (l : List α) (i : Nat) (f : α → α) {x : α} (h : l[i]? = some x) : l.modify i f = l.set i (f x) := by
 obtain ⟨hl, rfl⟩ := List.getElem?_eq_some_iff.1 h
 apply List.ext_getElem?
 intro k
 rw [List.getElem?_modify, List.getElem?_set]
 by_cases hk : i = k
 · subst hk
   simp [hl]
 · simp [hk]
theorem putRow_cons {row : List C} {j : Nat} {y : C} {ys : List C} (h : j + (ys.length + 1) ≤ row.length) : putRow row j (y :: ys) = putRow (row.set j y) (j + 1) ys := by
 apply List.ext_getElem?
 intro k
 rw [putRow_get (by simpa using h), putRow_get (by rw [List.length_set]; omega), List.length_cons]
 by_cases h1 : k < j
 · rw [if_pos h1, if_pos (by omega), List.getElem?_set_ne (by omega)]
 · by_cases h2 : k = j
   · subst h2
     rw [if_neg h1, if_pos (by omega), if_pos (by omega), Nat.sub_self, List.getElem?_cons_zero, List.getElem?_set_self (by omega)]
   · rw [if_neg h1, if_neg (show ¬ k < j + 1 by omega)]
     by_cases h3 : k < j + (ys.length + 1)
     · rw [if_pos h3, if_pos (by omega), show k - j = (k - (j + 1)) + 1 by omega, List.getElem?_cons_succ]
     · rw [if_neg h3, if_neg (by omega), List.getElem?_set_ne (by omega)]
theorem updX_den {cs : Ki} {i : X} : ∀ {ys : List X} {r r' : X} {j : Nat} {row : List C}, updX i cs.ls r j ys = some r' → (rowsC (r.den e))[(intOf (i.den e)).toNat]? = some row → row.length = cs.len →
 j + ys.length ≤ row.length ∨ ys = [] → rowsC (r'.den e) = (rowsC (r.den e)).set (intOf (i.den e)).toNat (putRow row j (ys.map (X.den e))) := by
 intro ys
 induction ys with
 | nil =>
   intro r r' j row h hr _ _
   simp only [updX, Option.some.injEq] at h
   subst h
   have e1 : putRow row j (([] : List X).map (X.den e)) = row := by simp [putRow]
   rw [e1]
   obtain ⟨hi, rfl⟩ := List.getElem?_eq_some_iff.1 hr
   exact (List.set_getElem_self hi).symm
 | cons y ys ih =>
   intro r r' j row h hr hl hj
   have hj : j + (ys.length + 1) ≤ row.length := by rcases hj with hj | hj; exact hj; cases hj
   simp only [updX] at h
   split at h
   · split at h
     · have hm : rowsC ((X.upd r i j y).den e) = (rowsC (r.den e)).set (intOf (i.den e)).toNat (row.set j (y.den e)) := by
        simp only [rowsC, List.getElem?_map, Option.map_eq_some_iff] at hr
        obtain ⟨q, hq, rfl⟩ := hr
        simp only [rowsC, X.den, tupOf_t]
        rw [modify_set _ _ _ hq, List.map_set]; rfl
       have hi : (intOf (i.den e)).toNat < (rowsC (r.den e)).length := (List.getElem?_eq_some_iff.1 hr).1
       have := ih h (row := row.set j (y.den e)) (by rw [hm, List.getElem?_set_self hi]) (by rw [List.length_set]; exact hl) (by rw [List.length_set]; exact .inl (by omega))
       rw [this, hm, List.set_set, List.map_cons, putRow_cons (by simpa using hj)]
     · cases h
   · cases h
theorem updX_len {cs : List Ki} {i : X} : ∀ {ys : List X} {r r' : X} {j : Nat}, updX i cs r j ys = some r' → ys ≠ [] → j + ys.length ≤ cs.length := by
 intro ys
 induction ys with
 | nil => intro r r' j _ h; exact absurd rfl h
 | cons y ys ih =>
   intro r r' j h _
   simp only [updX] at h
   split at h
   · rename_i k hk
     split at h
     · have hj := (List.getElem?_eq_some_iff.1 hk).1
       cases ys with
       | nil => simp only [List.length_cons, List.length_nil]; omega
       | cons y' ys => have := ih h (by simp); simp only [List.length_cons] at this ⊢; omega
     · cases h
   · cases h
theorem stX_ok (ht : TabOk P tab) {u : TypeId} {y z : Operand} (ho : o.op = .store u y z) (h : stX tab s u (evX s.T y) (evX s.T z) = .mem c x t H n) : OmOk P e o s c x t H n := by
 unfold stX at h
 split at h
 · rename_i n0 l sz i j ys hsz hx hy
   split at h
   · rename_i hc0
     split at h
     · rename_i b hb
       split at h
       · rename_i hbs
         subst hbs
         have hx' : (evX s.T y).den e = .ptr l b.cs.len (intOf (i.den e)).toNat j := by rw [hx]; rfl
         have key := fun (row : List C) (hr : (rowsC (b.rows.den e))[(intOf (i.den e)).toNat]? = some row) (hj : j + ys.length ≤ row.length) =>
          OpT.store (P := P) (o := o) (ev := fun y => (evX s.T y).den e) ho hx' (cellY_den hy) (ht.sz u n0 hsz) (by rw [List.length_map]; exact hc0.1) hr (by rw [List.length_map]; exact hj)
         split at h
         · rename_i i' row hrow
           rw [Option.bind_eq_some_iff] at hrow
           obtain ⟨i0, hi0, hrow⟩ := hrow
           rw [Option.map_eq_some_iff] at hrow
           obtain ⟨row', hrow, hpair⟩ := hrow
           cases hpair
           split at h
           · rename_i hl
             cases h
             refine .upd hb hc0.2.1 fun _ => ?_
             have hi := litI_den (e := e) hi0
             have hR : (rowsC (b.rows.den e))[(intOf (i.den e)).toNat]? = some ((toL row).map (X.den e)) := by
              rw [hi, rowsC, List.getElem?_map, nthX_den hrow, Option.map_some, toL_den hl.1]
             have := key _ hR (by rw [List.length_map]; exact hl.2)
             have e2 : rowsC ((setNth b.rows i' (ofL (putRowX (toL row) j ys))).den e) = (rowsC (b.rows.den e)).set (intOf (i.den e)).toNat (putRow ((toL row).map (X.den e)) j (ys.map (X.den e))) := by
              rw [hi, rowsC, setNth_den hrow, List.map_set, ofL_den]
              congr 1
              simp [putRowX, putRow, List.map_take, List.map_drop]
             rw [e2]; exact this
           · cases h
         · split at h
           · rename_i hk
             split at h
             · rename_i r hr
               cases h
               refine .upd hb hc0.2.1 fun hc => ?_
               rw [X.tr_and, mkCmp_tr, mkCmp_tr] at hc
               have c1 : (0 : Int) ≤ intOf (i.den e) := of_decide_eq_true hc.1
               have c2 : intOf (i.den e) < (((tupOf (b.rows.den e)).length : Nat) : Int) := of_decide_eq_true hc.2
               have hi : (intOf (i.den e)).toNat < (rowsC (b.rows.den e)).length := by simp only [rowsC, List.length_map]; omega
               have hrl := (rkIs_ok hk _ (List.getElem_mem hi)).1
               have hys : ys ≠ [] := fun h => by have := hc0.1; have := hc0.2.2; rw [h] at *; simp at *; omega
               have hjl : j + ys.length ≤ (rowsC (b.rows.den e))[(intOf (i.den e)).toNat].length := by rw [hrl, ← ls_len]; exact updX_len hr hys
               have := key _ (List.getElem?_eq_getElem hi) hjl
               rw [updX_den hr (List.getElem?_eq_getElem hi) hrl (.inl hjl)]
               exact this
             · cases h
           · cases h
       · cases h
     · cases h
   · cases h
 · cases h
end
end Ow
