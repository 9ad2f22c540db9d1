/- Tokens: what the lexer computes, in plain Lean. -/
import Derived.Lib.Bytealg
import Derived.Lib.Fields
set_option linter.all false
namespace LexF
open Go

def isSp (c : UInt8) : Bool := decide (0 ≤ Lib.indexByte [32, 9, 10, 13] c)
def notNL (c : UInt8) : Bool := c != 10
def isLet (c : UInt8) : Bool := (decide (97 ≤ c.toNat) && decide (c.toNat ≤ 122)) || (decide (65 ≤ c.toNat) && decide (c.toNat ≤ 90)) || c.toNat == 95
def isDig (c : UInt8) : Bool := decide (48 ≤ c.toNat) && decide (c.toNat ≤ 57)
def isWord (c : UInt8) : Bool := isLet c || isDig c
def scanN (p : UInt8 → Bool) (l : List UInt8) : Nat := (l.takeWhile p).length
def kwText : List UInt8 := [117, 115, 101, 32, 112, 117, 98, 32, 97, 115, 32, 102, 110, 32, 115, 116, 114, 117, 99, 116, 32, 101, 110, 117, 109, 32, 116, 114, 97, 105, 116, 32, 105, 109, 112, 108, 32, 102, 111, 114, 32, 99, 111, 110, 115, 116, 32, 109, 97, 99, 114, 111, 32, 108, 101, 116, 32, 109, 117, 116, 32, 119, 104, 105, 108, 101, 32, 114, 101, 116, 117, 114, 110, 32, 109, 97, 116, 99, 104, 32, 105, 102, 32, 101, 108, 115, 101, 32, 110, 101, 119, 32, 116, 114, 117, 101, 32, 102, 97, 108, 115, 101, 32, 116, 121, 112, 101]
def twoText : List UInt8 := [58, 58, 32, 61, 62, 32, 45, 62, 32, 61, 61, 32, 38, 38, 32, 124, 124]
def punct : List UInt8 := [40, 41, 123, 125, 91, 93, 60, 62, 44, 59, 58, 46, 61, 43, 45, 42, 47, 33, 38, 124]
def kw : List (List UInt8) := Lib.fields kwText
def two : List (List UInt8) := Lib.fields twoText

/-- Behind the opening quote: where the string ends. -/
def sc : List UInt8 → Nat → Option Nat
  | [], _ => none
  | [b], i => if b = 34 then some (i + 1) else none
  | b :: c :: r, i => if b = 10 then none else if b = 34 then some (i + 1) else if b = 92 ∧ c ≠ 10 then sc r (i + 2) else sc (c :: r) (i + 1)
def scanStr (l : List UInt8) : Nat × Nat := match sc (l.drop 1) 1 with
  | some n => (n, 106)
  | none => (1 + scanN notNL (l.drop 1), 108)

/-- The first token: its length, its kind. -/
def first : List UInt8 → Nat × Nat
  | [] => (0, 0)
  | c :: r =>
    if isSp c = true then (scanN isSp (c :: r), 101)
    else if Lib.hasPrefix (c :: r) [47, 47] = true then (scanN notNL (c :: r), 102)
    else if isLet c = true then (if ((c :: r).take (scanN isWord (c :: r))) ∈ kw then (scanN isWord (c :: r), 104) else (scanN isWord (c :: r), 103))
    else if isDig c = true then (scanN isDig (c :: r), 105)
    else if c = 34 then scanStr (c :: r)
    else if 1 < (c :: r).length ∧ (c :: r).take 2 ∈ two then (2, 107)
    else if 0 ≤ Lib.indexByte punct c then (1, 107) else (1, 108)

abbrev Tok := Nat × List UInt8
def toks : Nat → List UInt8 → List Tok
  | 0, _ => []
  | f + 1, l => if l = [] then [] else ((first l).2, l.take (first l).1) :: toks f (l.drop (first l).1)
def tokz (l : List UInt8) : List Tok := toks l.length l

/-! ### Laws -/

theorem scanN_le (p : UInt8 → Bool) (l : List UInt8) : scanN p l ≤ l.length := by
  unfold scanN
  induction l with
  | nil => simp
  | cons b r ih => rw [List.takeWhile_cons]; split <;> simp; omega
theorem scanN_pos {p : UInt8 → Bool} {c : UInt8} {r : List UInt8} (h : p c = true) : 1 ≤ scanN p (c :: r) := by simp [scanN, List.takeWhile_cons, h]
theorem sc_bounds : ∀ (l : List UInt8) (i n : Nat), sc l i = some n → i + 1 ≤ n ∧ n ≤ i + l.length
  | [], i, n, h => by simp [sc] at h
  | [b], i, n, h => by
    unfold sc at h; split at h
    · cases h; simp
    · cases h
  | b :: c :: r, i, n, h => by
    unfold sc at h
    split at h
    · cases h
    · split at h
      · cases h; simp
      · split at h
        · have := sc_bounds r _ _ h; simp; omega
        · have := sc_bounds (c :: r) _ _ h; simp at this ⊢; omega

theorem first_bounds (l : List UInt8) (h : l ≠ []) : 1 ≤ (first l).1 ∧ (first l).1 ≤ l.length := by
  cases l with
  | nil => exact absurd rfl h
  | cons c r =>
    rw [first]
    split
    · rename_i h; exact ⟨scanN_pos h, scanN_le _ _⟩
    · split
      · rename_i h
        refine ⟨scanN_pos ?_, scanN_le _ _⟩
        simp [Lib.hasPrefix, List.isPrefixOf] at h
        simp [notNL, ← h.1]
      · split
        · rename_i h
          have hw : isWord c = true := by simp [isWord, h]
          split <;> exact ⟨scanN_pos hw, scanN_le _ _⟩
        · split
          · rename_i h; exact ⟨scanN_pos h, scanN_le _ _⟩
          · split
            · unfold scanStr
              split
              · rename_i h
                have := sc_bounds _ _ _ h
                simp at this ⊢
                omega
              · have := scanN_le notNL ((c :: r).drop 1)
                simp at this ⊢
                omega
            · split
              · rename_i h; exact ⟨by simp, h.1⟩
              · split <;> simp

theorem toks_more : ∀ (f : Nat) (l : List UInt8), l.length ≤ f → toks f l = tokz l := by
  have key : ∀ (f g : Nat) (l : List UInt8), l.length ≤ f → l.length ≤ g → toks f l = toks g l := by
    intro f
    induction f with
    | zero =>
      intro g l h1 h2
      have : l = [] := List.length_eq_zero_iff.1 (by omega)
      subst this
      cases g <;> simp [toks]
    | succ f ih =>
      intro g l h1 h2
      by_cases hl : l = []
      · subst hl; cases g <;> simp [toks]
      · obtain ⟨g, rfl⟩ : ∃ q, g = q + 1 := ⟨g - 1, by have := List.length_pos_iff.2 hl; omega⟩
        have hb := first_bounds l hl
        unfold toks
        rw [if_neg hl, if_neg hl, ih g (l.drop (first l).1) (by simp; omega) (by simp; omega)]
  intro f l h
  exact key f l.length l h (Nat.le_refl _)

theorem tokz_nil : tokz [] = [] := rfl
theorem tokz_cons {l : List UInt8} (h : l ≠ []) : tokz l = ((first l).2, l.take (first l).1) :: tokz (l.drop (first l).1) := by
  have hb := first_bounds l h
  obtain ⟨f, hf⟩ : ∃ f, l.length = f + 1 := ⟨l.length - 1, by have := List.length_pos_iff.2 h; omega⟩
  have : tokz l = toks (f + 1) l := by rw [tokz, hf]
  rw [this, toks, if_neg h, toks_more f _ (by simp; omega)]

def srcOfT (ts : List Tok) : List UInt8 := (ts.map (·.2)).flatten
theorem tokz_src : ∀ (n : Nat) (l : List UInt8), l.length ≤ n → srcOfT (tokz l) = l := by
  intro n
  induction n with
  | zero =>
    intro l h
    have : l = [] := List.length_eq_zero_iff.1 (by omega)
    subst this; rfl
  | succ n ih =>
    intro l h
    by_cases hl : l = []
    · subst hl; rfl
    · have hb := first_bounds l hl
      rw [tokz_cons hl]
      show l.take _ ++ srcOfT (tokz _) = l
      rw [ih _ (by simp; omega), List.take_append_drop]
theorem tokz_text : ∀ (n : Nat) (l : List UInt8), l.length ≤ n → ∀ t ∈ tokz l, t.2 ≠ [] := by
  intro n
  induction n with
  | zero =>
    intro l h
    have : l = [] := List.length_eq_zero_iff.1 (by omega)
    subst this
    intro t ht; simp [tokz, toks] at ht
  | succ n ih =>
    intro l h t ht
    by_cases hl : l = []
    · subst hl; simp [tokz, toks] at ht
    · have hb := first_bounds l hl
      rw [tokz_cons hl] at ht
      rcases List.mem_cons.1 ht with rfl | ht
      · intro e
        have := congrArg List.length e
        rw [List.length_take, List.length_nil] at this
        omega
      · exact ih _ (by simp; omega) t ht
theorem tokz_length (l : List UInt8) : (tokz l).length ≤ l.length := by
  have key : ∀ (n : Nat) (l : List UInt8), l.length ≤ n → (tokz l).length ≤ l.length := by
    intro n
    induction n with
    | zero =>
      intro l h
      have : l = [] := List.length_eq_zero_iff.1 (by omega)
      subst this; simp [tokz, toks]
    | succ n ih =>
      intro l h
      by_cases hl : l = []
      · subst hl; simp [tokz, toks]
      · have hb := first_bounds l hl
        have := ih (l.drop (first l).1) (by simp; omega)
        rw [tokz_cons hl]
        simp at this ⊢
        omega
  exact key _ l (Nat.le_refl _)

/-- Tokens from a boundary on are the tokens of the rest. -/
theorem tokz_drop (k : Nat) : ∀ (l : List UInt8), tokz (srcOfT ((tokz l).drop k)) = (tokz l).drop k := by
  induction k with
  | zero => intro l; rw [List.drop_zero, tokz_src _ l (Nat.le_refl _)]
  | succ k ih =>
    intro l
    by_cases hl : l = []
    · subst hl; rfl
    · rw [tokz_cons hl, List.drop_succ_cons]
      exact ih _
theorem srcOfT_drop (l : List UInt8) (k : Nat) : (srcOfT ((tokz l).drop k)).length ≤ l.length := by
  have h := congrArg List.length (tokz_src _ l (Nat.le_refl _))
  have e : (tokz l) = (tokz l).take k ++ (tokz l).drop k := (List.take_append_drop _ _).symm
  rw [e] at h
  simp only [srcOfT, List.map_append, List.flatten_append, List.length_append] at h ⊢
  omega

def sig (ts : List Tok) : List Tok := ts.filter fun t => t.1 != 101
end LexF
