/- Relexing: the plain law. -/
import Derived.Test.YtionohfkjdahlaaDoorLexL
set_option linter.all false
namespace LexF
open Go

theorem scan_look {p : UInt8 → Bool} (rest : List UInt8) : ∀ (l : List UInt8) (q : Nat), scanN p l < q → q ≤ l.length → scanN p (l.take q ++ rest) = scanN p l
  | [], q, h, hq => by simp at hq; omega
  | c :: r, 0, h, _ => by omega
  | c :: r, q + 1, h, hq => by
    rw [List.take_succ_cons, List.cons_append]
    unfold scanN at h ⊢
    rw [List.takeWhile_cons] at h
    rw [List.takeWhile_cons, List.takeWhile_cons]
    cases hc : p c with
    | true =>
      rw [hc] at h
      simp only [if_true, List.length_cons] at h ⊢
      have := scan_look (p := p) rest r q (by unfold scanN; omega) (by simpa using hq)
      unfold scanN at this
      rw [this]
    | false => simp

theorem sc_look (rest : List UInt8) : ∀ (l : List UInt8) (i n q : Nat), sc l i = some n → n ≤ i + q → q ≤ l.length → sc (l.take q ++ rest) i = some n
  | [], i, n, q, h, _, _ => by simp [sc] at h
  | [b], i, n, q, h, hn, hq => by
    have hb := sc_bounds _ _ _ h
    unfold sc at h
    split at h
    · rename_i hb34
      cases h
      have : q = 1 := by simp at hq; omega
      subst this
      subst hb34
      cases rest with
      | nil => rfl
      | cons c r => simp [sc]
    · cases h
  | b :: c :: r, i, n, q, h, hn, hq => by
    have hb := sc_bounds _ _ _ h
    rw [sc] at h
    obtain ⟨q, rfl⟩ : ∃ k, q = k + 1 := ⟨q - 1, by omega⟩
    split at h
    · cases h
    rename_i h1
    split at h
    · rename_i h2
      cases h
      rw [List.take_succ_cons, List.cons_append]
      subst h2
      generalize List.take q (c :: r) ++ rest = m
      cases m with
      | nil => rfl
      | cons d m => simp [sc]
    rename_i h2
    obtain ⟨q, rfl⟩ : ∃ k, q = k + 1 := ⟨q - 1, by
      have hge : i + 2 ≤ n := by
        split at h
        · have := (sc_bounds _ _ _ h).1; omega
        · have := (sc_bounds _ _ _ h).1; omega
      omega⟩
    rw [List.take_succ_cons, List.take_succ_cons, List.cons_append, List.cons_append, sc, if_neg h1, if_neg h2]
    split at h
    · rename_i h3
      rw [if_pos h3]
      have := (sc_bounds _ _ _ h).1
      exact sc_look rest r (i + 2) n q h (by omega) (by simp at hq; omega)
    · rename_i h3
      rw [if_neg h3]
      have := sc_look rest (c :: r) (i + 1) n (q + 1) h (by omega) (by simp at hq ⊢; omega)
      rw [List.take_succ_cons, List.cons_append] at this
      exact this

theorem scan_cut {l : List UInt8} (h : scanN notNL l < l.length) : l = l.take (scanN notNL l) ++ 10 :: l.drop (scanN notNL l + 1) := by
  have hd := drop_scan notNL l
  have hne : l.drop (scanN notNL l) ≠ [] := by
    intro e
    have := congrArg List.length e
    simp at this
    omega
  have hh : l.drop (scanN notNL l) = 10 :: l.drop (scanN notNL l + 1) := by
    rw [List.drop_eq_getElem_cons h]
    congr 1
    have : ¬ notNL l[scanN notNL l] = true := by
      have e : l.dropWhile notNL = l[scanN notNL l] :: l.drop (scanN notNL l + 1) := by rw [← hd, List.drop_eq_getElem_cons h]
      have := List.head?_dropWhile_not (p := notNL) (l := l)
      rw [e] at this
      have this : notNL l[scanN notNL l] = false := this
      rw [this]
      simp
    simpa [notNL] using this
  rw [← hh, List.take_append_drop]

/-- A token depends on its own bytes and one more. -/
theorem first_look (l rest : List UInt8) (p : Nat) (hl : l ≠ []) (h : (first l).1 < p) (hp : p ≤ l.length) : first (l.take p ++ rest) = first l := by
  have hb := (first_bounds l hl).1
  obtain ⟨c, d, r, rfl⟩ : ∃ c d r, l = c :: d :: r := by
    match l, hp with
    | [], hp => simp at hp; omega
    | [c], hp => simp at hp; omega
    | c :: d :: r, _ => exact ⟨c, d, r, rfl⟩
  obtain ⟨q, rfl⟩ : ∃ q, p = q + 2 := ⟨p - 2, by omega⟩
  have e : (c :: d :: r).take (q + 2) ++ rest = c :: d :: (r.take q ++ rest) := by simp
  have look : ∀ f : UInt8 → Bool, scanN f (c :: d :: r) < q + 2 → scanN f (c :: d :: (r.take q ++ rest)) = scanN f (c :: d :: r) := fun f hf => by
    have := scan_look (p := f) rest (c :: d :: r) (q + 2) hf hp
    rwa [e] at this
  rw [e]
  rw [first] at h
  rw [first, first]
  by_cases c1 : isSp c = true
  · rw [if_pos c1] at h
    rw [if_pos c1, if_pos c1, look _ h]
  rw [if_neg c1] at h
  rw [if_neg c1, if_neg c1]
  have e2 : Lib.hasPrefix (c :: d :: (r.take q ++ rest)) [47, 47] = Lib.hasPrefix (c :: d :: r) [47, 47] := by simp [Lib.hasPrefix, List.isPrefixOf]
  rw [e2]
  by_cases c2 : Lib.hasPrefix (c :: d :: r) [47, 47] = true
  · rw [if_pos c2] at h
    rw [if_pos c2, if_pos c2, look _ h]
  rw [if_neg c2] at h
  rw [if_neg c2, if_neg c2]
  by_cases c3 : isLet c = true
  · rw [if_pos c3] at h
    have hw : scanN isWord (c :: d :: r) < q + 2 := by split at h <;> exact h
    have ht : (c :: d :: (r.take q ++ rest)).take (scanN isWord (c :: d :: r)) = (c :: d :: r).take (scanN isWord (c :: d :: r)) := by
      rw [← e, List.take_append_of_le_length (by rw [List.length_take]; omega), List.take_take, Nat.min_eq_left (by omega)]
    rw [if_pos c3, if_pos c3, look _ hw, ht]
  rw [if_neg c3] at h
  rw [if_neg c3, if_neg c3]
  by_cases c4 : isDig c = true
  · rw [if_pos c4] at h
    rw [if_pos c4, if_pos c4, look _ h]
  rw [if_neg c4] at h
  rw [if_neg c4, if_neg c4]
  by_cases c5 : c = 34
  · rw [if_pos c5] at h
    rw [if_pos c5, if_pos c5]
    unfold scanStr at h ⊢
    simp only [List.drop_succ_cons, List.drop_zero] at h ⊢
    have hq : q + 1 ≤ (d :: r).length := by simp at hp ⊢; omega
    have e3 : (d :: r).take (q + 1) ++ rest = d :: (r.take q ++ rest) := by simp
    cases hs : sc (d :: r) 1 with
    | some n =>
      rw [hs] at h
      simp only at h
      have := sc_look rest (d :: r) 1 n (q + 1) hs (by omega) hq
      rw [e3] at this
      rw [this]
    | none =>
      rw [hs] at h
      simp only at h
      have hlt : scanN notNL (d :: r) < q + 1 := by omega
      have hlook := scan_look (p := notNL) rest (d :: r) (q + 1) hlt hq
      rw [e3] at hlook
      have k1 := scan_cut (l := d :: r) (by omega)
      have k2 := scan_cut (l := d :: (r.take q ++ rest)) (by
        rw [hlook, ← e3, List.length_append, List.length_take]; omega)
      rw [hlook] at k2
      have ht : (d :: (r.take q ++ rest)).take (scanN notNL (d :: r)) = (d :: r).take (scanN notNL (d :: r)) := by
        rw [← e3, List.take_append_of_le_length (by rw [List.length_take]; omega), List.take_take, Nat.min_eq_left (by omega)]
      rw [ht] at k2
      have s1 : sc (d :: r) 1 = sc ((d :: r).take (scanN notNL (d :: r))) 1 := by
        conv => lhs; rw [k1]
        exact sc_nl _ _ _
      have s2 : sc (d :: (r.take q ++ rest)) 1 = sc ((d :: r).take (scanN notNL (d :: r))) 1 := by
        conv => lhs; rw [k2]
        exact sc_nl _ _ _
      rw [s2, ← s1, hs, hlook]
  · rw [if_neg c5, if_neg c5]
    have e4 : (1 < (c :: d :: (r.take q ++ rest)).length ∧ (c :: d :: (r.take q ++ rest)).take 2 ∈ two) ↔ (1 < (c :: d :: r).length ∧ (c :: d :: r).take 2 ∈ two) := by
      constructor <;> rintro ⟨_, h⟩ <;> exact ⟨by simp, by simpa using h⟩
    by_cases k : 1 < (c :: d :: r).length ∧ (c :: d :: r).take 2 ∈ two
    · rw [if_pos k, if_pos (e4.2 k)]
    · rw [if_neg k, if_neg (fun h => k (e4.1 h))]

/-! ### Boundaries -/
def ends : Nat → List Tok → List Nat
  | _, [] => []
  | o, t :: r => (o + t.2.length) :: ends (o + t.2.length) r
theorem ends_length : ∀ (ts : List Tok) (o : Nat), (ends o ts).length = ts.length
  | [], _ => rfl
  | t :: r, o => by simp [ends, ends_length r]
theorem ends_at : ∀ (ts : List Tok) (o i : Nat), i < ts.length → (ends o ts)[i]? = some (o + (srcOfT (ts.take (i + 1))).length)
  | [], o, i, h => by simp at h
  | t :: r, o, 0, h => by simp [ends, srcOfT]
  | t :: r, o, i + 1, h => by
    have := ends_at r (o + t.2.length) i (by simpa using h)
    simp only [ends, List.getElem?_cons_succ, this, List.take_succ_cons]
    simp [srcOfT]
    omega

/-- The tokens that end before a. -/
def keep (a : Nat) : Nat → List Tok → Nat
  | _, [] => 0
  | o, t :: r => if o + t.2.length < a then keep a (o + t.2.length) r + 1 else 0
theorem keep_le (a : Nat) : ∀ (ts : List Tok) (o : Nat), keep a o ts ≤ ts.length
  | [], _ => Nat.le_refl _
  | t :: r, o => by unfold keep; split <;> simp; exact keep_le a r _
def offOf (ts : List Tok) (k : Nat) : Nat := (srcOfT (ts.take k)).length

theorem src_split (l : List UInt8) (k : Nat) : l.drop (offOf (tokz l) k) = srcOfT ((tokz l).drop k) := by
  have h := tokz_src _ l (Nat.le_refl _)
  have e : srcOfT (tokz l) = srcOfT ((tokz l).take k) ++ srcOfT ((tokz l).drop k) := by
    rw [srcOfT, srcOfT, srcOfT, ← List.flatten_append, ← List.map_append, List.take_append_drop]
  rw [h] at e
  have : l.drop (offOf (tokz l) k) = (srcOfT ((tokz l).take k) ++ srcOfT ((tokz l).drop k)).drop (offOf (tokz l) k) := by rw [← e]
  rw [this, offOf, List.drop_left]
theorem tokz_from (l : List UInt8) (k : Nat) : tokz (l.drop (offOf (tokz l) k)) = (tokz l).drop k := by rw [src_split, tokz_drop]
theorem offOf_le (l : List UInt8) (k : Nat) : offOf (tokz l) k ≤ l.length := by
  have h := congrArg List.length (tokz_src _ l (Nat.le_refl _))
  have e : tokz l = (tokz l).take k ++ (tokz l).drop k := (List.take_append_drop _ _).symm
  rw [e] at h
  simp only [srcOfT, List.map_append, List.flatten_append, List.length_append] at h
  unfold offOf srcOfT
  omega

/-- What ends before the edit stays. -/
theorem keep_tokz (rest : List UInt8) (a : Nat) : ∀ (n : Nat) (l : List UInt8) (o : Nat), l.length ≤ n → o ≤ a → a - o ≤ l.length → ∀ k, k ≤ keep a o (tokz l) →
    tokz (l.take (a - o) ++ rest) = (tokz l).take k ++ tokz ((l.take (a - o) ++ rest).drop (offOf (tokz l) k)) ∧ o + offOf (tokz l) k ≤ a
  | _, l, o, _, ho, _, 0, _ => by simp [offOf, srcOfT, ho]
  | 0, l, o, hn, ho, ha, k + 1, hk => by
    have : l = [] := List.length_eq_zero_iff.1 (by omega)
    subst this
    simp [tokz, toks, keep] at hk
  | n + 1, l, o, hn, ho, ha, k + 1, hk => by
    by_cases hl : l = []
    · subst hl; simp [tokz, toks, keep] at hk
    · have hb := first_bounds l hl
      rw [tokz_cons hl] at hk ⊢
      simp only [keep] at hk
      have hlen : (l.take (first l).1).length = (first l).1 := by rw [List.length_take]; omega
      rw [hlen] at hk
      split at hk
      · rename_i hlt
        have hf := first_look l rest (a - o) hl (by omega) ha
        have hne : l.take (a - o) ++ rest ≠ [] := by
          intro e
          have := congrArg List.length e
          rw [List.length_append, List.length_take, List.length_nil] at this
          omega
        obtain ⟨i1, i2⟩ := keep_tokz rest a n (l.drop (first l).1) (o + (first l).1) (by rw [List.length_drop]; omega) (by omega) (by rw [List.length_drop]; omega) k (by omega)
        have hd : (l.take (a - o) ++ rest).drop (first l).1 = (l.drop (first l).1).take (a - (o + (first l).1)) ++ rest := by
          rw [List.drop_append_of_le_length (by rw [List.length_take]; omega), List.drop_take]
          congr 2
          omega
        have ht : (l.take (a - o) ++ rest).take (first l).1 = l.take (first l).1 := by
          rw [List.take_append_of_le_length (by rw [List.length_take]; omega), List.take_take, Nat.min_eq_left (by omega)]
        have ho' : offOf (((first l).2, l.take (first l).1) :: tokz (l.drop (first l).1)) (k + 1) = (first l).1 + offOf (tokz (l.drop (first l).1)) k := by
          simp only [offOf, srcOfT, List.take_succ_cons, List.map_cons, List.flatten_cons, List.length_append, hlen]
        refine ⟨?_, by rw [ho']; omega⟩
        rw [tokz_cons hne, hf, hd, ht, i1, ho', List.take_succ_cons, List.cons_append, ← List.drop_drop, hd]
      · omega

/-- Where an offset stands among the boundaries. -/
def resume (es : List Nat) (q : Int) : Int := if q = 0 then 0 else if (q.toNat ∈ es ∧ 0 ≤ q) then (es.countP (· < q.toNat) : Nat) + 1 else -1

theorem ends_mono : ∀ (ts : List Tok) (o : Nat), (∀ t ∈ ts, t.2 ≠ []) → (ends o ts).Pairwise (· < ·) ∧ ∀ x ∈ ends o ts, o < x
  | [], o, _ => ⟨.nil, fun x hx => by simp [ends] at hx⟩
  | t :: r, o, h => by
    have ht : 0 < t.2.length := List.length_pos_iff.2 (h t (by simp))
    obtain ⟨h1, h2⟩ := ends_mono r (o + t.2.length) fun x hx => h x (by simp [hx])
    refine ⟨List.pairwise_cons.2 ⟨h2, h1⟩, fun x hx => ?_⟩
    rcases List.mem_cons.1 hx with rfl | hx
    · omega
    · have := h2 x hx; omega
theorem count_at : ∀ (es : List Nat) (i x : Nat), es.Pairwise (· < ·) → es[i]? = some x → es.countP (· < x) = i
  | [], i, x, _, h => by simp at h
  | e :: es, 0, x, hp, h => by
    simp at h; subst h
    rw [List.countP_eq_zero]
    intro y hy
    rcases List.mem_cons.1 hy with rfl | hy
    · simp
    · have := (List.pairwise_cons.1 hp).1 y hy; simp; omega
  | e :: es, i + 1, x, hp, h => by
    simp at h
    have hm := (List.pairwise_cons.1 hp).1 x (List.mem_of_getElem? h)
    rw [List.countP_cons, count_at es i x (List.pairwise_cons.1 hp).2 h, if_pos (by simpa using hm)]

/-- A boundary that is found is one. -/
theorem resume_ok {l : List UInt8} {q : Int} (h : 0 ≤ resume (ends 0 (tokz l)) q) : ∃ i : Nat, resume (ends 0 (tokz l)) q = i ∧ i ≤ (tokz l).length ∧ q = offOf (tokz l) i := by
  unfold resume at h ⊢
  split at h
  · rename_i hq
    rw [if_pos hq]
    exact ⟨0, rfl, Nat.zero_le _, by simp [offOf, srcOfT, hq]⟩
  · rename_i hq
    rw [if_neg hq]
    split at h
    · rename_i hm
      rw [if_pos hm]
      obtain ⟨i, hi⟩ := List.mem_iff_getElem?.1 hm.1
      have hlt : i < (tokz l).length := by
        have := (List.getElem?_eq_some_iff.1 hi).1
        rwa [ends_length] at this
      have hc := count_at _ i _ (ends_mono (tokz l) 0 (tokz_text _ l (Nat.le_refl _))).1 hi
      rw [hc]
      rw [ends_at _ _ _ hlt] at hi
      refine ⟨i + 1, by simp, hlt, ?_⟩
      have := Option.some.inj hi
      unfold offOf
      omega
    · omega
end LexF
