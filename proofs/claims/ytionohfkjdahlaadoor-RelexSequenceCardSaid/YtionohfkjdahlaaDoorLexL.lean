/- Tokens of two sources with a line feed between them, in plain Lean. -/
import Derived.Test.YtionohfkjdahlaaDoorLexT
set_option linter.all false
namespace LexF
open Go

theorem scanN_nl {p : UInt8 → Bool} (hp : p 10 = false) (b : List UInt8) : ∀ l : List UInt8, scanN p (l ++ 10 :: b) = scanN p l
  | [] => by simp [scanN, List.takeWhile_cons, hp]
  | c :: r => by
    have ih := scanN_nl hp b r
    unfold scanN at ih ⊢
    rw [List.cons_append, List.takeWhile_cons, List.takeWhile_cons]
    split
    · simp only [List.length_cons, ih]
    · rfl

theorem sc_nl (b : List UInt8) : ∀ (l : List UInt8) (i : Nat), sc (l ++ 10 :: b) i = sc l i
  | [], i => by
    cases b with
    | nil => simp [sc]
    | cons c r => simp [sc]
  | [x], i => by
    show sc (x :: 10 :: b) i = sc [x] i
    rw [sc, sc]
    by_cases h1 : x = 10
    · subst h1; simp
    · rw [if_neg h1]
      by_cases h2 : x = 34
      · rw [if_pos h2, if_pos h2]
      · rw [if_neg h2, if_neg h2, if_neg (by simp)]
        have := sc_nl b [] (i + 1)
        rw [List.nil_append] at this
        rw [this, sc]
  | x :: y :: r, i => by
    show sc (x :: y :: (r ++ 10 :: b)) i = _
    rw [sc, sc, sc_nl b r (i + 2), show y :: (r ++ 10 :: b) = (y :: r) ++ 10 :: b from rfl, sc_nl b (y :: r) (i + 1)]

theorem two_free : ∀ w ∈ two, (10 : UInt8) ∉ w := by decide +kernel
theorem nl_facts : notNL 10 = false ∧ isWord 10 = false ∧ isDig 10 = false ∧ isSp 10 = true := by decide +kernel

theorem first_nl (c : UInt8) (r b : List UInt8) (hc : ¬ isSp c = true) : first ((c :: r) ++ 10 :: b) = first (c :: r) := by
  obtain ⟨f1, f2, f3, _⟩ := nl_facts
  have hp : Lib.hasPrefix ((c :: r) ++ 10 :: b) [47, 47] = Lib.hasPrefix (c :: r) [47, 47] := by
    cases r with
    | nil => simp [Lib.hasPrefix, List.isPrefixOf]
    | cons d r => simp [Lib.hasPrefix, List.isPrefixOf]
  have hw : scanN isWord ((c :: r) ++ 10 :: b) = scanN isWord (c :: r) := scanN_nl f2 b _
  have ht : ((c :: r) ++ 10 :: b).take (scanN isWord (c :: r)) = (c :: r).take (scanN isWord (c :: r)) := List.take_append_of_le_length (scanN_le _ _)
  have hs : scanStr ((c :: r) ++ 10 :: b) = scanStr (c :: r) := by
    unfold scanStr
    show (match sc (r ++ 10 :: b) 1 with | some n => (n, 106) | none => (1 + scanN notNL (r ++ 10 :: b), 108)) = _
    rw [sc_nl, scanN_nl f1]
    rfl
  have h2 : (1 < ((c :: r) ++ 10 :: b).length ∧ ((c :: r) ++ 10 :: b).take 2 ∈ two) ↔ (1 < (c :: r).length ∧ (c :: r).take 2 ∈ two) := by
    cases r with
    | nil =>
      constructor
      · rintro ⟨_, h⟩
        exact absurd (by simp) (two_free _ h)
      · rintro ⟨h, _⟩; simp at h
    | cons d r =>
      constructor
      · rintro ⟨_, h⟩; exact ⟨by simp, by simpa using h⟩
      · rintro ⟨_, h⟩; exact ⟨by simp, by simpa using h⟩
  have e : (c :: r) ++ 10 :: b = c :: (r ++ 10 :: b) := rfl
  rw [e] at hp hw ht hs h2 ⊢
  rw [first, first, if_neg hc, if_neg hc, hp, hw, ht, hs]
  have n1 : scanN notNL (c :: (r ++ 10 :: b)) = scanN notNL (c :: r) := scanN_nl f1 b (c :: r)
  have n2 : scanN isDig (c :: (r ++ 10 :: b)) = scanN isDig (c :: r) := scanN_nl f3 b (c :: r)
  rw [n1, n2]
  by_cases k : 1 < (c :: r).length ∧ (c :: r).take 2 ∈ two
  · rw [if_pos k, if_pos (h2.2 k)]
  · rw [if_neg k, if_neg (fun h => k (h2.1 h))]

theorem drop_scan (p : UInt8 → Bool) : ∀ l : List UInt8, l.drop (scanN p l) = l.dropWhile p
  | [] => rfl
  | c :: r => by
    have ih := drop_scan p r
    unfold scanN at ih ⊢
    rw [List.takeWhile_cons, List.dropWhile_cons]
    split
    · simpa using ih
    · rfl

/-- White space ahead does not matter. -/
theorem sig_space (l : List UInt8) : sig (tokz l) = sig (tokz (l.dropWhile isSp)) := by
  cases l with
  | nil => rfl
  | cons c r =>
    by_cases h : isSp c = true
    · rw [tokz_cons (by simp)]
      have hf : first (c :: r) = (scanN isSp (c :: r), 101) := by rw [first, if_pos h]
      rw [hf]
      show sig ((101, _) :: tokz ((c :: r).drop (scanN isSp (c :: r)))) = _
      rw [drop_scan, sig, sig, List.filter_cons, if_neg (by simp)]
    · rw [List.dropWhile_cons, if_neg h]

theorem dropWhile_nl (b : List UInt8) : ∀ a : List UInt8, (a ++ 10 :: b).dropWhile isSp = if a.dropWhile isSp = [] then b.dropWhile isSp else a.dropWhile isSp ++ 10 :: b
  | [] => by simp [List.dropWhile_cons, nl_facts.2.2.2]
  | c :: r => by
    rw [List.cons_append, List.dropWhile_cons, List.dropWhile_cons]
    split
    · exact dropWhile_nl b r
    · simp

theorem sig_lines (b : List UInt8) : ∀ (n : Nat) (a : List UInt8), a.length ≤ n → sig (tokz (a ++ 10 :: b)) = sig (tokz a) ++ sig (tokz b) := by
  have base : sig (tokz (10 :: b)) = sig (tokz b) := by
    rw [sig_space, List.dropWhile_cons, if_pos nl_facts.2.2.2, ← sig_space]
  intro n
  induction n with
  | zero =>
    intro a ha
    have : a = [] := List.length_eq_zero_iff.1 (by omega)
    subst this
    rw [List.nil_append, base, tokz_nil]; rfl
  | succ n ih =>
    intro a ha
    cases a with
    | nil => rw [List.nil_append, base, tokz_nil]; rfl
    | cons c r =>
      by_cases h : isSp c = true
      · rw [sig_space, sig_space (c :: r), dropWhile_nl]
        by_cases hd : (c :: r).dropWhile isSp = []
        · rw [if_pos hd, hd, ← sig_space, tokz_nil]; rfl
        · rw [if_neg hd]
          refine ih _ ?_
          rw [List.dropWhile_cons, if_pos h]
          have : (r.dropWhile isSp).length ≤ r.length := by
            have := congrArg List.length (List.takeWhile_append_dropWhile (p := isSp) (l := r))
            rw [List.length_append] at this
            omega
          simp only [List.length_cons] at ha
          omega
      · have hb := first_bounds (c :: r) (by simp)
        rw [tokz_cons (l := (c :: r) ++ 10 :: b) (by simp), first_nl c r b h, tokz_cons (l := c :: r) (by simp),
          List.take_append_of_le_length hb.2, List.drop_append_of_le_length hb.2]
        have := ih ((c :: r).drop (first (c :: r)).1) (by rw [List.length_drop]; omega)
        unfold sig at this ⊢
        rw [List.filter_cons, List.filter_cons, this]
        split
        · rfl
        · rfl
end LexF
