/-
  Plain words on lines: words at spaces, numerals, bytes of two digits; what a line says, as the program has it and as the reference has it, and that both are one. No program in sight.
-/
import Derived.Lib.AtoiTie
import Derived.Lib.ItoaNum
import Derived.Lib.DecodeNEq
namespace Ow
open Go Go.Lib
abbrev Bs := List UInt8

/-! ### words -/
def wordsFrom : Bs → Bs → List Bs
  | acc, [] => [acc]
  | acc, c :: r => if c = 32 then acc :: wordsFrom [] r else wordsFrom (acc ++ [c]) r
def words (l : Bs) : List Bs := wordsFrom [] l
def joinSp : List Bs → Bs
  | [] => []
  | [a] => a
  | a :: b :: r => a ++ 32 :: joinSp (b :: r)

theorem wordsFrom_ne (acc l : Bs) : wordsFrom acc l ≠ [] := by
  induction l generalizing acc with
  | nil => simp [wordsFrom]
  | cons c r ih =>
    unfold wordsFrom
    split
    · simp
    · exact ih _
theorem join_wordsFrom (acc l : Bs) : joinSp (wordsFrom acc l) = acc ++ l := by
  induction l generalizing acc with
  | nil => simp [wordsFrom, joinSp]
  | cons c r ih =>
    unfold wordsFrom
    split
    · rename_i h
      have h1 := ih []
      have h2 := wordsFrom_ne [] r
      rcases h3 : wordsFrom [] r with _ | ⟨a, t⟩
      · exact absurd h3 h2
      · rw [h3] at h1
        simp only [joinSp, h1, h, List.nil_append]
    · rw [ih]; simp
theorem join_words (l : Bs) : joinSp (words l) = l := by rw [words, join_wordsFrom]; rfl
theorem wordsFrom_app (a acc l : Bs) (h : (32 : UInt8) ∉ a) : wordsFrom acc (a ++ l) = wordsFrom (acc ++ a) l := by
  induction a generalizing acc with
  | nil => simp
  | cons c r ih =>
    simp only [List.mem_cons, not_or] at h
    rw [List.cons_append, wordsFrom, if_neg (fun e => h.1 e.symm), ih _ h.2]
    simp
theorem words_join : ∀ (ws : List Bs), ws ≠ [] → (∀ w ∈ ws, (32 : UInt8) ∉ w) → words (joinSp ws) = ws
  | [], h, _ => absurd rfl h
  | [a], _, h => by
    have := wordsFrom_app a [] [] (h a (by simp))
    simp only [List.append_nil, List.nil_append] at this
    rw [words, joinSp, this, wordsFrom]
  | a :: b :: r, _, h => by
    have ih := words_join (b :: r) (by simp) (fun w hw => h w (by simp only [List.mem_cons] at hw ⊢; exact Or.inr hw))
    rw [words, joinSp, wordsFrom_app a [] _ (h a (by simp)), wordsFrom, if_pos rfl, List.nil_append]
    rw [words] at ih
    rw [ih]
theorem words_length_app (l k : Bs) : (words (l ++ 32 :: k)).length = (words l).length + (words k).length := by
  have key : ∀ (l acc : Bs), (wordsFrom acc (l ++ 32 :: k)).length = (wordsFrom acc l).length + (words k).length := by
    intro l
    induction l with
    | nil => intro acc; simp only [List.nil_append, wordsFrom, if_true, List.length_cons, List.length_nil, words]; omega
    | cons c r ih =>
      intro acc
      rw [List.cons_append, wordsFrom, wordsFrom]
      split
      · simp only [List.length_cons, ih]; omega
      · exact ih _
  exact key l []

theorem words_len (l : Bs) : ∀ x ∈ words l, x.length ≤ l.length := by
  have key : ∀ (l acc : Bs), ∀ x ∈ wordsFrom acc l, x.length ≤ acc.length + l.length := by
    intro l
    induction l with
    | nil => intro acc x hx; simp only [wordsFrom, List.mem_singleton] at hx; subst hx; simp
    | cons c r ih =>
      intro acc x hx
      rw [wordsFrom] at hx
      split at hx
      · simp only [List.mem_cons] at hx
        rcases hx with rfl | hx
        · omega
        · have := ih [] x hx; simp only [List.length_nil, List.length_cons] at *; omega
      · have := ih _ x hx; simp only [List.length_append, List.length_cons, List.length_nil] at *; omega
  intro x hx
  have := key l [] x hx
  simpa using this

theorem words_count (l : Bs) : (words l).length ≤ l.length + 1 := by
  have key : ∀ (l acc : Bs), (wordsFrom acc l).length ≤ l.length + 1 := by
    intro l
    induction l with
    | nil => intro acc; simp [wordsFrom]
    | cons c r ih =>
      intro acc
      rw [wordsFrom]
      split
      · have := ih []; simp only [List.length_cons]; omega
      · have := ih (acc ++ [c]); simp only [List.length_cons]; omega
  exact key l []

/-! ### numerals -/
theorem dig_mem (m : Nat) : ∀ c ∈ decDigits m, 48 ≤ c.toNat ∧ c.toNat ≤ 57 := by
  induction m using Nat.strongRecOn with
  | _ m ih =>
    intro c hc
    rw [decDigits] at hc
    split at hc
    · simp only [List.mem_singleton] at hc
      subst hc
      rw [UInt8.toNat_ofNat', Nat.mod_eq_of_lt (by omega)]
      omega
    · rw [List.mem_append] at hc
      rcases hc with hc | hc
      · exact ih (m / 10) (by omega) c hc
      · simp only [List.mem_singleton] at hc
        subst hc
        rw [UInt8.toNat_ofNat', Nat.mod_eq_of_lt (by omega)]
        omega
theorem decDigits_ne (m : Nat) : decDigits m ≠ [] := by
  rw [decDigits]; split <;> simp
theorem decFrom_app (a b : Bs) (acc : Nat) : decFrom acc (a ++ b) = (decFrom acc a).bind fun n => decFrom n b := by
  induction a generalizing acc with
  | nil => rfl
  | cons c r ih =>
    rw [List.cons_append, decFrom, decFrom]
    cases digitVal c with
    | none => rfl
    | some d => exact ih _
theorem digitVal_of (d : Nat) (h : d < 10) : digitVal (UInt8.ofNat (48 + d)) = some d := by
  unfold digitVal
  rw [UInt8.toNat_ofNat', Nat.mod_eq_of_lt (by omega), if_pos (by omega)]
  congr 1; omega
theorem decFrom_digits (m : Nat) : decFrom 0 (decDigits m) = some m := by
  induction m using Nat.strongRecOn with
  | _ m ih =>
    rw [decDigits]
    split
    · rename_i h
      rw [decFrom, digitVal_of m h]
      simp [decFrom]
    · rw [decFrom_app, ih (m / 10) (by omega)]
      simp only [Option.bind_some, decFrom, digitVal_of (m % 10) (Nat.mod_lt _ (by decide))]
      congr 1; omega
theorem digits_length (m : Nat) (h : m < 1000000) : (decDigits m).length ≤ 6 := by
  rw [decDigits_length]
  rcases Nat.lt_or_ge m 1 with h0 | h0
  · rw [nDigits_small (by omega)]; omega
  · have h1 : 10 ^ (nDigits m - 1) ≤ m := by
      clear h
      induction m using Nat.strongRecOn with
      | _ m ih =>
        by_cases hm : m < 10
        · rw [nDigits_small hm]; simpa using h0
        · rw [nDigits_big hm]
          have h2 := ih (m / 10) (by omega) (by omega)
          have h3 := nDigits_pos (m / 10)
          have h4 : nDigits (m / 10) + 1 - 1 = (nDigits (m / 10) - 1) + 1 := by omega
          rw [h4, Nat.pow_succ]
          omega
    rcases Nat.lt_or_ge 6 (nDigits m) with h2 | h2
    · have : 10 ^ 6 ≤ 10 ^ (nDigits m - 1) := Nat.pow_le_pow_right (by decide) (by omega)
      omega
    · exact h2

def numText (n : Int) : Bs := if -32768 ≤ n ∧ n ≤ 32767 then itoa n else []
theorem itoa_ne (n : Int) : itoa n ≠ [] := by
  unfold itoa; split
  · simp
  · exact decDigits_ne _
/-- what a word says, as the program reads it .. -/
def numRead (s : Bs) : Option Int :=
  match atoiAll s with
  | .ok n => if numText n = s then some n else none
  | _ => none
/-- .. and as the reference does -/
def numValue (s : Bs) : Option Nat := if s = [] ∨ 6 < s.length then none else decFrom 0 s
def unsigned (s : Bs) : Bs := if s.head? = some 45 then s.tail else s
def numReadS (s : Bs) : Option Int :=
  match numValue (unsigned s) with
  | none => none
  | some m =>
    let n : Int := if (unsigned s).length < s.length then -(m : Int) else m
    if numText n = s then some n else none

theorem digits_head (m : Nat) : ∃ c r, decDigits m = c :: r ∧ 48 ≤ c.toNat ∧ c.toNat ≤ 57 := by
  rcases h : decDigits m with _ | ⟨c, r⟩
  · exact absurd h (decDigits_ne m)
  · exact ⟨c, r, rfl, dig_mem m c (by rw [h]; simp)⟩
theorem atoiAll_itoa (n : Int) (h0 : -32768 ≤ n) (h1 : n ≤ 32767) : atoiAll (itoa n) = .ok n := by
  unfold itoa
  split
  · rename_i hn
    have hm : n.natAbs < 1000000 := by omega
    have hl := digits_length _ hm
    rw [atoiAll_short _ (by simp only [List.length_cons]; omega)]
    have hz : decNat (decDigits n.natAbs) = some n.natAbs := by
      unfold decNat
      rw [if_neg (by simp [decDigits_ne]), decFrom_digits]
    have c45 : ((45 : UInt8) == 45) = true := by decide
    simp only [atoi, c45, if_true, hz, Option.map_some, NumEnd.ofOption]
    congr 1; omega
  · rename_i hn
    have hm : n.toNat < 1000000 := by omega
    have hl := digits_length _ hm
    rw [atoiAll_short _ (by omega)]
    have hz : decNat (decDigits n.toNat) = some n.toNat := by
      unfold decNat
      rw [if_neg (by simp [decDigits_ne]), decFrom_digits]
    obtain ⟨c, r, he, hc⟩ := digits_head n.toNat
    have c1 : (c == 45) = false := by
      rw [beq_eq_false_iff_ne]; intro e; subst e; simp at hc
    have c2 : (c == 43) = false := by
      rw [beq_eq_false_iff_ne]; intro e; subst e; simp at hc
    rw [he] at hz ⊢
    simp only [atoi, c1, c2, hz, Option.map_some, NumEnd.ofOption, Bool.false_eq_true, if_false]
    congr 1; omega
theorem numRead_iff (s : Bs) (n : Int) : numRead s = some n ↔ (-32768 ≤ n ∧ n ≤ 32767) ∧ s = itoa n := by
  constructor
  · intro h
    unfold numRead at h
    split at h
    · rename_i v hv
      split at h
      · rename_i ht
        cases h
        unfold numText at ht
        split at ht
        · rename_i hr; exact ⟨hr, ht.symm⟩
        · subst ht; simp [atoiAll] at hv
      · cases h
    · cases h
  · rintro ⟨⟨h0, h1⟩, rfl⟩
    unfold numRead
    rw [atoiAll_itoa n h0 h1]
    simp [numText, h0, h1]
theorem unsigned_itoa (n : Int) : unsigned (itoa n) = decDigits n.natAbs ∧ ((decDigits n.natAbs).length < (itoa n).length ↔ n < 0) := by
  by_cases hn : n < 0
  · have e : itoa n = 45 :: decDigits n.natAbs := by unfold itoa; rw [if_pos hn]
    rw [e]
    exact ⟨by simp [unsigned], by simp [hn]⟩
  · have e : itoa n = decDigits n.natAbs := by unfold itoa; rw [if_neg hn]; congr 1; omega
    rw [e]
    obtain ⟨c, r, he, hc⟩ := digits_head n.natAbs
    refine ⟨?_, by simp; omega⟩
    rw [he, unsigned, List.head?_cons, if_neg]
    intro h; injection h with h; subst h; simp at hc
theorem numReadS_iff (s : Bs) (n : Int) : numReadS s = some n ↔ (-32768 ≤ n ∧ n ≤ 32767) ∧ s = itoa n := by
  constructor
  · intro h
    unfold numReadS at h
    split at h
    · cases h
    · rename_i m hm
      simp only at h
      generalize (if (unsigned s).length < s.length then -(m : Int) else (m : Int)) = k at h
      split at h
      · rename_i ht
        cases h
        unfold numText at ht
        split at ht
        · rename_i hr; exact ⟨hr, ht.symm⟩
        · subst ht; simp [numValue, unsigned] at hm
      · cases h
  · rintro ⟨⟨h0, h1⟩, rfl⟩
    obtain ⟨e1, e2⟩ := unsigned_itoa n
    have hl := digits_length n.natAbs (by omega)
    unfold numReadS
    rw [e1]
    have hv : numValue (decDigits n.natAbs) = some n.natAbs := by
      unfold numValue
      rw [if_neg (by simp only [decDigits_ne, false_or]; omega), decFrom_digits]
    rw [hv]
    have hk : (if (decDigits n.natAbs).length < (itoa n).length then -(n.natAbs : Int) else (n.natAbs : Int)) = n := by
      by_cases hn : n < 0
      · rw [if_pos (e2.2 hn)]; omega
      · rw [if_neg (fun h => hn (e2.1 h))]; omega
    simp only [hk]
    rw [if_pos (by simp [numText, h0, h1])]
theorem numReadS_eq (s : Bs) : numReadS s = numRead s := by
  rcases h : numRead s with _ | n
  · rcases h2 : numReadS s with _ | m
    · rfl
    · rw [(numRead_iff s m).2 ((numReadS_iff s m).1 h2)] at h; cases h
  · exact (numReadS_iff s n).2 ((numRead_iff s n).1 h)
theorem itoa_noSp (n : Int) : (32 : UInt8) ∉ itoa n := by
  have h (m : Nat) : (32 : UInt8) ∉ decDigits m := fun hm => by have := dig_mem m 32 hm; simp at this
  unfold itoa
  split
  · simp only [List.mem_cons, not_or]; exact ⟨by decide, h _⟩
  · exact h _
/-- a number that is not below 0 -/
def nat? (s : Bs) : Option Int := (numRead s).filter (fun n => decide (0 ≤ n))

/-! ### bytes of two digits each -/
def hexD (c : Nat) : Int := if 48 ≤ c ∧ c ≤ 57 then (c : Int) - 48 else if 97 ≤ c ∧ c ≤ 102 then (c : Int) - 97 + 10 else -1
theorem hexD_lt (c : Nat) : -1 ≤ hexD c ∧ hexD c ≤ 15 := by
  unfold hexD
  split
  · omega
  · split <;> omega
theorem hexD_big (c : Nat) (h : 128 ≤ c) : hexD c = -1 := by unfold hexD; rw [if_neg (by omega), if_neg (by omega)]
def pairs : List Int → Bs
  | a :: b :: r => UInt8.ofNat (16 * a + b).toNat :: pairs r
  | _ => []
def digs (w : Bs) : List Int := w.map fun c => hexD c.toNat
def hexB (w : Bs) : Option Bs := if (∀ d ∈ digs w, 0 ≤ d) ∧ w.length % 2 = 0 ∧ w.length ≤ 4008 then some (pairs (digs w)) else none

/-! ### what a line says -/
structure Ev where
  kind : Int
  at_ : Int
  pos : Int
  v : Int
  bytes : Bs
  deriving DecidableEq
def ev0 : Ev := ⟨0, 0, 0, 0, []⟩
def nGive : Bs := [103, 105, 118, 101]
def nWork : Bs := [119, 111, 114, 107]
def nHear : Bs := [104, 101, 97, 114]
def nLose : Bs := [108, 111, 115, 101]
def nTwice : Bs := [116, 119, 105, 99, 101]
def nBend : Bs := [98, 101, 110, 100]
def nMade : Bs := [109, 97, 100, 101]
def nTick : Bs := [116, 105, 99, 107]
def nFall : Bs := [102, 97, 108, 108]
def nTorn : Bs := [116, 111, 114, 110]
def nRise : Bs := [114, 105, 115, 101]
def nDown : Bs := [100, 111, 119, 110]
def nUp : Bs := [117, 112]
def evNames : List Bs := [[], nGive, nWork, nHear, nLose, nTwice, nBend, nMade, nTick, nFall, nTorn, nRise, nDown, nUp]
/-- the kind by its word, from 1; 0: none -/
def kindFrom (s : Bs) : Nat → List Bs → Nat
  | _, [] => 0
  | k, n :: r => if n = s then k else kindFrom s (k + 1) r
def kindOf (s : Bs) : Nat := kindFrom s 1 evNames.tail
/-- how many numbers stand behind the word -/
def fieldsOf (k : Nat) : Nat := if k = 8 ∨ k = 9 ∨ k = 11 then 0 else if k = 6 then 3 else if k = 10 then 2 else 1

theorem fieldsOf_le (k : Nat) : fieldsOf k ≤ 3 := by
  unfold fieldsOf
  split
  · omega
  · split
    · omega
    · split <;> omega
theorem kindFrom_spec (s : Bs) : ∀ (l : List Bs) (k : Nat), 0 < k → (kindFrom s k l = 0 ∧ s ∉ l) ∨ (∃ i, i < l.length ∧ kindFrom s k l = k + i ∧ l[i]? = some s)
  | [], k, _ => Or.inl ⟨rfl, by simp⟩
  | n :: r, k, hk => by
    by_cases h : n = s
    · exact Or.inr ⟨0, by simp, by simp [kindFrom, h], by simp [h]⟩
    · rcases kindFrom_spec s r (k + 1) (by omega) with ⟨h1, h2⟩ | ⟨i, h1, h2, h3⟩
      · exact Or.inl ⟨by simp [kindFrom, h, h1], by simp [h2, Ne.symm h]⟩
      · exact Or.inr ⟨i + 1, by simp [h1], by simp [kindFrom, h, h2]; omega, by simp [h3]⟩
theorem kindOf_lt (s : Bs) : kindOf s ≤ 13 := by
  rcases kindFrom_spec s evNames.tail 1 (by decide) with ⟨h, _⟩ | ⟨i, h1, h2, _⟩
  · rw [kindOf, h]; omega
  · rw [kindOf, h2]; have : evNames.tail.length = 13 := rfl; omega
theorem kindOf_name (s : Bs) (h : kindOf s ≠ 0) : evNames[kindOf s]? = some s := by
  rcases kindFrom_spec s evNames.tail 1 (by decide) with ⟨h1, _⟩ | ⟨i, h1, h2, h3⟩
  · exact absurd h1 h
  · rw [kindOf, h2]
    have : evNames = [] :: evNames.tail := rfl
    rw [this, Nat.add_comm, List.getElem?_cons_succ]
    exact h3

/-- all words as numbers that are not below 0 -/
def nats : List Bs → Option (List Int)
  | [] => some []
  | a :: r => match nat? a with
    | none => none
    | some n => (nats r).map (n :: ·)

/-- as the program has it -/
def dskI (line : Bs) : Option Ev :=
  let ws := words line
  let h := ws.headD []
  if h = nMade then
    if ws.length ≠ 3 then none
    else match nat? (ws.getD 1 []), hexB (ws.getD 2 []) with
      | some n, some b => some ⟨7, n, 0, 0, b⟩
      | _, _ => none
  else if kindOf h = 0 ∨ 60 < line.length ∨ ws.length ≠ 1 + fieldsOf (kindOf h) then none
  else match nats ws.tail with
    | none => none
    | some ns => some ⟨kindOf h, ns.getD 0 0, ns.getD 1 0, ns.getD 2 0, []⟩

/-- as the reference has it -/
def numS (s : Bs) : Int := (numReadS s).getD (-1)
def textS (k : Nat) (a p v : Int) : Bs :=
  let s := evNames.getD k []
  if k = 8 ∨ k = 9 ∨ k = 11 then s
  else if k = 6 then s ++ 32 :: itoa a ++ 32 :: itoa p ++ 32 :: itoa v
  else if k = 10 then s ++ 32 :: itoa a ++ 32 :: itoa p
  else s ++ 32 :: itoa a
def dskS (line : Bs) : Option Ev :=
  let ws := words line
  let k := kindOf (ws.headD [])
  if k = 0 then none
  else if k = 7 then
    match hexB (ws.getD 2 []), numReadS (ws.getD 1 []) with
    | some b, some n => if n < 0 ∨ ws.length ≠ 3 then none else some ⟨7, n, 0, 0, b⟩
    | _, _ => none
  else if 60 < line.length then none
  else
    let a := if 1 < ws.length then numS (ws.getD 1 []) else 0
    let p := if 2 < ws.length then numS (ws.getD 2 []) else 0
    let v := if 3 < ws.length then numS (ws.getD 3 []) else 0
    if a < 0 ∨ p < 0 ∨ v < 0 ∨ textS k a p v ≠ line then none else some ⟨k, a, p, v, []⟩

theorem nat?_some {s : Bs} {n : Int} : nat? s = some n ↔ numRead s = some n ∧ 0 ≤ n := by
  unfold nat?
  cases h : numRead s with
  | none => simp
  | some m =>
    simp only [Option.filter, decide_eq_true_eq]
    split
    · rename_i h0; constructor
      · intro e; cases e; exact ⟨rfl, h0⟩
      · rintro ⟨e, _⟩; exact e
    · rename_i h0
      constructor
      · intro e; cases e
      · rintro ⟨e, h1⟩; cases e; exact absurd h1 h0
theorem numS_nat {s : Bs} {n : Int} (h : nat? s = some n) : numS s = n := by
  unfold numS; rw [numReadS_eq, (nat?_some.1 h).1]; rfl
theorem numS_none {s : Bs} (h : nat? s = none) : numS s < 0 := by
  unfold numS
  rw [numReadS_eq]
  cases h1 : numRead s with
  | none => simp
  | some m =>
    by_cases h2 : m < 0
    · simpa using h2
    · rw [nat?_some.2 ⟨h1, by omega⟩] at h; cases h
theorem nat?_text {s : Bs} {n : Int} (h : nat? s = some n) : s = itoa n := ((numRead_iff s n).1 (nat?_some.1 h).1).2

theorem made_kind (s : Bs) : kindOf s = 7 ↔ s = nMade := by
  constructor
  · intro h
    have := kindOf_name s (by omega)
    rw [h] at this
    exact (Option.some.inj this).symm
  · rintro rfl; decide

/-- a text that says a line is made of just so many words -/
theorem words_text (k : Nat) (a p v : Int) (h1 : 1 ≤ k) (h2 : k ≤ 13) :
    words (textS k a p v) = evNames.getD k [] :: [itoa a, itoa p, itoa v].take (fieldsOf k) := by
  have hn : ∀ k, k ≤ 13 → (32 : UInt8) ∉ evNames.getD k [] := by
    intro k hk
    have : ∀ k : Fin 14, (32 : UInt8) ∉ evNames.getD k.val [] := by decide
    exact this ⟨k, by omega⟩
  have hn := hn k h2
  have ha := itoa_noSp a
  have hp := itoa_noSp p
  have hv := itoa_noSp v
  have key : textS k a p v = joinSp (evNames.getD k [] :: [itoa a, itoa p, itoa v].take (fieldsOf k)) := by
    unfold textS fieldsOf
    by_cases c1 : k = 8 ∨ k = 9 ∨ k = 11
    · simp only [c1, if_true, List.take_zero, joinSp]
    · simp only [c1, if_false]
      by_cases c2 : k = 6
      · simp only [c2, if_true, List.take_succ_cons, List.take_zero, joinSp, List.append_assoc, List.cons_append]
      · simp only [c2, if_false]
        by_cases c3 : k = 10
        · simp only [c3, if_true, List.take_succ_cons, List.take_zero, joinSp, List.append_assoc, List.cons_append]
        · simp only [c3, if_false, List.take_succ_cons, List.take_zero, joinSp]
  rw [key]
  refine words_join _ (by simp) ?_
  intro w hw
  simp only [List.mem_cons] at hw
  rcases hw with rfl | hw
  · exact hn
  · have := List.mem_of_mem_take hw
    simp only [List.mem_cons, List.not_mem_nil, or_false] at this
    rcases this with rfl | rfl | rfl
    · exact ha
    · exact hp
    · exact hv

theorem dsk_eq (line : Bs) : dskS line = dskI line := by
  have hj := join_words line
  have hne := wordsFrom_ne [] line
  unfold dskS dskI
  rcases hw : words line with _ | ⟨w0, rest⟩
  · exact absurd hw hne
  simp only [List.headD_cons, List.length_cons, List.tail_cons]
  by_cases hm : w0 = nMade
  · subst hm
    have hk : kindOf nMade = 7 := by decide
    simp only [hk, if_true, show ((7 : Nat) = 0) ↔ False by decide, if_false]
    by_cases hl : rest.length = 2
    · have h3 : ¬ (rest.length + 1 ≠ 3) := by omega
      simp only [h3, if_false, or_false]
      rcases hb : hexB ((nMade :: rest).getD 2 []) with _ | b
      · cases nat? ((nMade :: rest).getD 1 []) <;> rfl
      · rw [numReadS_eq]
        rcases hn : numRead ((nMade :: rest).getD 1 []) with _ | n
        · have : nat? ((nMade :: rest).getD 1 []) = none := by unfold nat?; rw [hn]; rfl
          rw [this]
        · by_cases h0 : n < 0
          · have : nat? ((nMade :: rest).getD 1 []) = none := by unfold nat?; rw [hn]; simp only [Option.filter]; rw [if_neg (by simp; omega)]
            rw [this]; simp [h0]
          · have : nat? ((nMade :: rest).getD 1 []) = some n := nat?_some.2 ⟨hn, by omega⟩
            rw [this]; simp [h0]
    · have h3 : rest.length + 1 ≠ 3 := by omega
      simp only [h3, ne_eq, not_false_eq_true, if_true, or_true]
      split <;> rfl
  · have hk7 : kindOf w0 ≠ 7 := fun h => hm ((made_kind w0).1 h)
    by_cases hk0 : kindOf w0 = 0
    · simp [hm, hk0]
    simp only [hm, hk0, hk7, if_false, false_or]
    by_cases h60 : 60 < line.length
    · simp [h60]
    simp only [h60, if_false, false_or]
    have hk13 := kindOf_lt w0
    have hname := kindOf_name w0 hk0
    have hgetD : evNames.getD (kindOf w0) [] = w0 := by rw [List.getD_eq_getElem?_getD, hname]; rfl
    obtain ⟨k, hkk⟩ : ∃ k, kindOf w0 = k := ⟨_, rfl⟩
    simp only [hkk] at hk7 hk0 hk13 hname hgetD ⊢
    have hwt : ∀ a p v, textS k a p v = line → 1 + rest.length = 1 + fieldsOf k := by
      intro a p v ht
      have h1 := words_text k a p v (by omega) hk13
      rw [ht, hw] at h1
      have h2 := congrArg List.length h1
      simp only [List.length_cons, List.length_take, List.length_nil] at h2
      have := fieldsOf_le k
      omega
    by_cases hlen : rest.length = fieldsOf k
    · have hl2 : ¬ (rest.length + 1 ≠ 1 + fieldsOf k) := by omega
      simp only [hl2, if_false]
      have htx : ∀ a p v, rest = [itoa a, itoa p, itoa v].take (fieldsOf k) → textS k a p v = line := by
        intro a p v hr
        rw [← join_words (textS k a p v), words_text k a p v (by omega) hk13, hgetD, ← hr, ← hw, join_words]
      unfold fieldsOf at hlen htx
      match rest, hlen, htx with
      | [], hlen, htx =>
        have hf : (if k = 8 ∨ k = 9 ∨ k = 11 then 0 else if k = 6 then 3 else if k = 10 then 2 else 1) = 0 := by simpa using hlen.symm
        rw [hf] at htx
        have h1 := htx 0 0 0 rfl
        simp [nats, h1]
      | [x], hlen, htx =>
        have hf : (if k = 8 ∨ k = 9 ∨ k = 11 then 0 else if k = 6 then 3 else if k = 10 then 2 else 1) = 1 := by simpa using hlen.symm
        rw [hf] at htx
        simp only [nats, List.length_cons, List.length_nil]
        rcases hx : nat? x with _ | n
        · have := numS_none hx
          simp [this]
        · have e1 := numS_nat hx
          have e2 := (nat?_some.1 hx).2
          have h1 := htx n 0 0 (by rw [nat?_text hx]; rfl)
          simp [e1, e2, h1]
      | [x, y], hlen, htx =>
        have hf : (if k = 8 ∨ k = 9 ∨ k = 11 then 0 else if k = 6 then 3 else if k = 10 then 2 else 1) = 2 := by simpa using hlen.symm
        rw [hf] at htx
        simp only [nats, List.length_cons, List.length_nil]
        rcases hx : nat? x with _ | n
        · have := numS_none hx
          simp [this]
        · have e1 := numS_nat hx
          have e2 := (nat?_some.1 hx).2
          rcases hy : nat? y with _ | m
          · have := numS_none hy
            simp [this]
          · have e3 := numS_nat hy
            have e4 := (nat?_some.1 hy).2
            have h1 := htx n m 0 (by rw [nat?_text hx, nat?_text hy]; rfl)
            simp [e1, e2, e3, e4, h1]
      | [x, y, z], hlen, htx =>
        have hf : (if k = 8 ∨ k = 9 ∨ k = 11 then 0 else if k = 6 then 3 else if k = 10 then 2 else 1) = 3 := by simpa using hlen.symm
        rw [hf] at htx
        simp only [nats, List.length_cons, List.length_nil]
        rcases hx : nat? x with _ | n
        · have := numS_none hx
          simp [this]
        · have e1 := numS_nat hx
          have e2 := (nat?_some.1 hx).2
          rcases hy : nat? y with _ | m
          · have := numS_none hy
            simp [this]
          · have e3 := numS_nat hy
            have e4 := (nat?_some.1 hy).2
            rcases hz : nat? z with _ | q
            · have := numS_none hz
              simp [this]
            · have e5 := numS_nat hz
              have e6 := (nat?_some.1 hz).2
              have h1 := htx n m q (by rw [nat?_text hx, nat?_text hy, nat?_text hz]; rfl)
              simp [e1, e2, e3, e4, e5, e6, h1]
      | _ :: _ :: _ :: _ :: _, hlen, _ =>
        exfalso
        simp only [List.length_cons] at hlen
        split at hlen
        · omega
        · split at hlen
          · omega
          · split at hlen <;> omega
    · have hl2 : rest.length + 1 ≠ 1 + fieldsOf k := by omega
      simp only [hl2, ne_eq, not_false_eq_true, if_true]
      rw [if_pos]
      refine Or.inr (Or.inr (Or.inr fun ht => ?_))
      have := hwt _ _ _ ht
      omega

/-! ### the numbers, one by one -/
theorem nats_app : ∀ (a b : List Bs), nats (a ++ b) = (nats a).bind fun x => (nats b).map (x ++ ·)
  | [], b => by simp [nats]
  | w :: a, b => by
    have ih := nats_app a b
    rw [List.cons_append, nats, nats]
    rcases nat? w with _ | n
    · rfl
    · simp only [ih]
      rcases nats a with _ | x
      · rfl
      · rcases nats b with _ | y <;> rfl
theorem nats_take {ws : List Bs} {j : Nat} {ns : List Int} {n : Int} (hj : j < ws.length) (h : nats (ws.take j) = some ns) (hn : nat? (ws.getD j []) = some n) : nats (ws.take (j + 1)) = some (ns ++ [n]) := by
  have e : ws.getD j [] = ws[j] := by rw [List.getD_eq_getElem?_getD, List.getElem?_eq_getElem hj]; rfl
  rw [e] at hn
  rw [List.take_add_one, List.getElem?_eq_getElem hj, nats_app, h]
  simp [nats, hn]
theorem nats_bad {ws : List Bs} {j : Nat} (hj : j < ws.length) (hn : nat? (ws.getD j []) = none) : nats ws = none := by
  have e : ws.getD j [] = ws[j] := by rw [List.getD_eq_getElem?_getD, List.getElem?_eq_getElem hj]; rfl
  rw [e] at hn
  rw [← List.take_append_drop j ws, nats_app, List.drop_eq_getElem_cons hj]
  have : nats (ws[j] :: ws.drop (j + 1)) = none := by rw [nats, hn]
  rw [this]
  cases nats (ws.take j) <;> rfl

/-! ### what may be said of it -/
theorem nats_nonneg : ∀ (ws : List Bs) (ns : List Int), nats ws = some ns → ∀ i, 0 ≤ ns.getD i 0
  | [], ns, h, i => by cases h; simp
  | a :: r, ns, h, i => by
    simp only [nats] at h
    rcases hx : nat? a with _ | n
    · rw [hx] at h; cases h
    · rw [hx] at h
      rcases hr : nats r with _ | ms
      · rw [hr] at h; cases h
      · rw [hr] at h
        cases h
        cases i with
        | zero => simpa using (nat?_some.1 hx).2
        | succ i => simpa using nats_nonneg r ms hr i
theorem dskI_some {line : Bs} {e : Ev} (h : dskI line = some e) : 1 ≤ e.kind ∧ e.kind ≤ 13 ∧ 0 ≤ e.at_ ∧ 0 ≤ e.pos ∧ (words line).length ≤ 4 := by
  unfold dskI at h
  simp only at h
  split at h
  · split at h
    · cases h
    · rename_i h3
      split at h
      · rename_i n b hn hb
        cases h
        have := (nat?_some.1 hn).2
        simp only [ne_eq, Decidable.not_not] at h3
        exact ⟨by simp, by simp, this, by simp, by omega⟩
      · cases h
  · split at h
    · cases h
    · rename_i h3
      split at h
      · cases h
      · rename_i ns hns
        cases h
        have h4 := nats_nonneg _ _ hns
        have h5 := kindOf_lt ((words line).headD [])
        have h6 := fieldsOf_le (kindOf ((words line).headD []))
        simp only [not_or] at h3
        exact ⟨by simp only; omega, by simp only; omega, h4 0, h4 1, by omega⟩
/-- with four numbers more behind it no line is one -/
theorem dskI_more (line : Bs) : dskI (line ++ [32, 49, 32, 49, 32, 49, 32, 49]) = none := by
  rcases h : dskI (line ++ [32, 49, 32, 49, 32, 49, 32, 49]) with _ | e
  · rfl
  · have h1 := (dskI_some h).2.2.2.2
    have h2 := words_length_app line [49, 32, 49, 32, 49, 32, 49]
    have h3 : (words [49, 32, 49, 32, 49, 32, 49]).length = 4 := by decide
    have h4 : 1 ≤ (words line).length := by
      rcases h5 : words line with _ | ⟨a, r⟩
      · exact absurd h5 (wordsFrom_ne [] line)
      · simp
    rw [h2, h3] at h1
    omega
#print axioms dsk_eq
end Ow
