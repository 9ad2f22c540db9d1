/- Positions: what the position package computes, in plain Lean. -/
import Derived.Lib.Bytealg
import Derived.Shelf.Unicode.DecodeAny
import Derived.Shelf.Strings.LastIndex
set_option linter.all false
namespace PosF
open Go

def dec (l : List UInt8) : Nat × Nat := Lib.decodeGo ⟨l.toArray⟩
theorem dec_bounds (l : List UInt8) (h : l ≠ []) : 1 ≤ (dec l).2 ∧ (dec l).2 ≤ 4 := by
  have hs : (⟨l.toArray⟩ : ByteArray).size ≠ 0 := by
    show l.toArray.size ≠ 0
    simpa using h
  unfold dec Lib.decodeGo
  rw [if_neg hs, Lib.decode_at]
  generalize (⟨l.toArray⟩ : ByteArray).size - 0 = a
  unfold Lib.decodeN
  repeat' split
  all_goals exact ⟨by simp, by simp⟩
def wid (u : Bool) (r : Nat) : Nat := if u = true ∧ 65535 < r then 2 else 1
theorem wid_bounds (u : Bool) (r : Nat) : 1 ≤ wid u r ∧ wid u r ≤ 2 := by unfold wid; split <;> omega
theorem wid_le (r : Nat) : wid false r ≤ wid true r := by unfold wid; simp; split <;> omega

/-- From i on, to off or beyond: where, and at what column. -/
def go (u : Bool) (src : List UInt8) (off : Nat) : Nat → Nat → Nat → Nat × Nat
  | 0, i, c => (i, c)
  | f + 1, i, c => if i < off then go u src off f (i + (dec (src.drop i)).2) (c + wid u (dec (src.drop i)).1) else (i, c)

def lastNL (l : List UInt8) : Int := Lib.lastIndexByte ⟨l.toArray⟩ 10
theorem lastNL_spec (l : List UInt8) : (lastNL l = -1 ∧ ∀ j : Nat, l[j]? ≠ some 10) ∨ ∃ i : Nat, lastNL l = i ∧ l[i]? = some 10 ∧ ∀ j, i < j → l[j]? ≠ some 10 := by
  have size : (⟨l.toArray⟩ : ByteArray).size = l.length := by show l.toArray.size = _; simp
  have at' : ∀ j, j < l.length → ((((⟨l.toArray⟩ : ByteArray).data[j]!).toNat : Int) = 10 ↔ (j < l.length ∧ l[j]? = some 10)) := by
    intro j hj
    have e : (⟨l.toArray⟩ : ByteArray).data[j]! = l[j] := by
      show l.toArray[j]! = l[j]
      rw [getElem!_pos l.toArray j (by simpa using hj)]
      simp
    rw [e, List.getElem?_eq_getElem hj]
    constructor
    · intro h
      refine ⟨hj, ?_⟩
      congr 1
      apply UInt8.toNat_inj.1
      have : (10 : UInt8).toNat = 10 := rfl
      omega
    · rintro ⟨_, h⟩
      rw [Option.some.inj h]; rfl
  rcases Lib.lastIndexByte_spec ⟨l.toArray⟩ 10 with ⟨h1, h2⟩ | ⟨i, h1, h2, h3, h4⟩
  · refine .inl ⟨h1, fun j hj => ?_⟩
    have hlt := (List.getElem?_eq_some_iff.1 hj).1
    exact h2 j (by rw [size]; exact hlt) ((at' j hlt).2 ⟨hlt, hj⟩)
  · rw [size] at h1
    refine .inr ⟨i, h2, ((at' i h1).1 h3).2, fun j hij hj => ?_⟩
    have hlt := (List.getElem?_eq_some_iff.1 hj).1
    exact h4 j hij (by rw [size]; exact hlt) ((at' j hlt).2 ⟨hlt, hj⟩)

/-- Where the line of this offset begins. -/
def start (src : List UInt8) (off : Nat) : Nat := (lastNL (src.take off) + 1).toNat
def line (src : List UInt8) (off : Nat) : Nat := Lib.countByte (src.take off) 10

/-- line, column, error -/
def toPos (u : Bool) (src : List UInt8) (off : Int) : Nat × Nat × Nat :=
  if off < 0 ∨ (src.length : Int) < off then (0, 0, 1)
  else if off.toNat < (go u src off.toNat off.toNat (start src off.toNat) 0).1 then (0, 0, 3)
  else (line src off.toNat, (go u src off.toNat off.toNat (start src off.toNat) 0).2, 0)

def lsFrom : List UInt8 → Nat → List Nat
  | [], _ => []
  | b :: r, k => if b = 10 then (k + 1) :: lsFrom r (k + 1) else lsFrom r (k + 1)
def starts (src : List UInt8) : List Nat := 0 :: lsFrom src 0
theorem lsFrom_length (l : List UInt8) : ∀ k, (lsFrom l k).length ≤ l.length := by
  induction l with
  | nil => intro k; simp [lsFrom]
  | cons b r ih => intro k; simp only [lsFrom]; have := ih (k + 1); split <;> simp <;> omega

/-- From i on, to column pc or beyond, or to the line's end. -/
def og (u : Bool) (src : List UInt8) (pc : Int) : Nat → Nat → Nat → Nat × Nat
  | 0, i, c => (i, c)
  | f + 1, i, c => if (c : Int) < pc ∧ i < src.length ∧ src[i]? ≠ some 10 then og u src pc f (i + (dec (src.drop i)).2) (c + wid u (dec (src.drop i)).1) else (i, c)
def ogEnd (pc : Int) (x : Nat × Nat) : Nat × Nat := if pc < 0 ∨ (x.2 : Int) < pc then (0, 1) else if pc < (x.2 : Int) then (0, 3) else (x.1, 0)
/-- offset, error -/
def toOff (u : Bool) (src : List UInt8) (ln pc : Int) : Nat × Nat :=
  if ln < 0 ∨ ((starts src).length : Int) ≤ ln then (0, 5) else ogEnd pc (og u src pc src.length ((starts src).getD ln.toNat 0) 0)

/-! ### Laws -/

theorem start_le (src : List UInt8) (off : Nat) : start src off ≤ off := by
  unfold start
  rcases lastNL_spec (src.take off) with ⟨h, _⟩ | ⟨i, h, h2, _⟩
  · rw [h]; simp
  · have := (List.getElem?_eq_some_iff.1 h2).1
    simp at this
    rw [h]; omega
theorem start_free (src : List UInt8) (off : Nat) : ∀ j, start src off ≤ j → j < off → src[j]? ≠ some 10 := by
  intro j h1 h2 hj
  have ht : (src.take off)[j]? = some 10 := by rw [List.getElem?_take_of_lt h2, hj]
  unfold start at h1
  rcases lastNL_spec (src.take off) with ⟨h, k⟩ | ⟨i, h, _, k⟩
  · exact k j ht
  · rw [h] at h1; exact k j (by omega) ht

/-- The line's number tells where it begins. -/
theorem starts_at (src : List UInt8) (off : Nat) (h : off ≤ src.length) : (starts src)[line src off]? = some (start src off) := by
  have key : ∀ (l : List UInt8) (k off s0 : Nat), off ≤ l.length → s0 ≤ k → (s0 :: lsFrom l k)[Lib.countByte (l.take off) 10]? = some (if lastNL (l.take off) = -1 then s0 else k + (lastNL (l.take off) + 1).toNat) := by
    intro l
    induction l with
    | nil =>
      intro k off s0 h _
      simp at h
      subst h
      rcases lastNL_spec (([] : List UInt8).take 0) with ⟨h, _⟩ | ⟨i, _, h, _⟩
      · simp [Lib.countByte]; simp at h; simp [h]
      · simp at h
    | cons b r ih =>
      intro k off s0 h hs
      cases off with
      | zero =>
        rcases lastNL_spec ((b :: r).take 0) with ⟨h, _⟩ | ⟨i, _, h, _⟩
        · simp at h; simp [Lib.countByte, h]
        · simp at h
      | succ off =>
        simp only [List.length_cons, Nat.add_le_add_iff_right] at h
        have hlast : lastNL (b :: r.take off) = if lastNL (r.take off) = -1 then (if b = 10 then 0 else -1) else lastNL (r.take off) + 1 := by
          rcases lastNL_spec (r.take off) with ⟨h1, h2⟩ | ⟨i, h1, h2, h3⟩
          · rw [if_pos h1]
            rcases lastNL_spec (b :: r.take off) with ⟨g1, g2⟩ | ⟨i, g1, g2, g3⟩
            · have := g2 0
              rw [g1, if_neg]; simpa using this
            · cases i with
              | zero => simp at g2; subst g2; rw [g1]; simp
              | succ i => simp at g2; exact absurd g2 (h2 i)
          · rw [if_neg (by rw [h1]; omega), h1]
            rcases lastNL_spec (b :: r.take off) with ⟨g1, g2⟩ | ⟨j, g1, g2, g3⟩
            · exact absurd (by simpa using h2) (g2 (i + 1))
            · rw [g1]
              rcases Nat.lt_trichotomy j (i + 1) with e | e | e
              · exact absurd (by simpa using h2) (g3 (i + 1) e)
              · omega
              · exfalso
                obtain ⟨j, rfl⟩ : ∃ q, j = q + 1 := ⟨j - 1, by omega⟩
                simp at g2
                exact h3 j (by omega) g2
        have hge : -1 ≤ lastNL (r.take off) := by rcases lastNL_spec (r.take off) with ⟨h1, _⟩ | ⟨i, h1, _⟩ <;> omega
        simp only [List.take_succ_cons, lsFrom, hlast]
        by_cases hb : b = 10
        · subst hb
          have := ih (k + 1) off (k + 1) h (Nat.le_refl _)
          rw [if_pos rfl]
          have hc : Lib.countByte (10 :: r.take off) 10 = Lib.countByte (r.take off) 10 + 1 := by simp [Lib.countByte]
          rw [hc, List.getElem?_cons_succ, this]
          by_cases hl : lastNL (r.take off) = -1
          · simp [hl]
          · have hn : ¬ (lastNL (r.take off) + 1 = -1) := by omega
            rw [if_neg hl, if_neg hl, if_neg hn]
            congr 1
            omega
        · have hc : Lib.countByte (b :: r.take off) 10 = Lib.countByte (r.take off) 10 := by simp [Lib.countByte, List.count_cons, hb]
          rw [if_neg hb, hc, ih (k + 1) off s0 h (by omega)]
          by_cases hl : lastNL (r.take off) = -1
          · simp [hl, hb]
          · have hn : ¬ (lastNL (r.take off) + 1 = -1) := by omega
            rw [if_neg hl, if_neg hl, if_neg hn]
            congr 1
            omega
  have := key src 0 off 0 h (Nat.le_refl _)
  unfold starts line start
  rw [this]
  split
  · rename_i e; rw [e]; rfl
  · simp

/-- Both walks go the same way, until the column is reached. -/
theorem go_col (u : Bool) (src : List UInt8) (off : Nat) : ∀ f i c, c ≤ (go u src off f i c).2 ∧ (i < off → 0 < f → c < (go u src off f i c).2)
  | 0, i, c => ⟨Nat.le_refl _, fun _ h => absurd h (by omega)⟩
  | f + 1, i, c => by
    unfold go
    split
    · have h := (go_col u src off f (i + (dec (src.drop i)).2) (c + wid u (dec (src.drop i)).1)).1
      have := (wid_bounds u (dec (src.drop i)).1).1
      exact ⟨by omega, fun _ _ => by omega⟩
    · rename_i hn
      exact ⟨Nat.le_refl _, fun h => absurd h hn⟩

theorem drop_ne {src : List UInt8} {i : Nat} (h : i < src.length) : src.drop i ≠ [] := by
  intro e
  have := congrArg List.length e
  simp at this
  omega

theorem og_go (u : Bool) (src : List UInt8) (off : Nat) (ho : off ≤ src.length) : ∀ f i c f', off - i ≤ f → off - i ≤ f' → (∀ j, i ≤ j → j < off → src[j]? ≠ some 10) → (go u src off f i c).1 = off →
    og u src (go u src off f i c).2 f' i c = (off, (go u src off f i c).2)
  | f, i, c, f', hf, hf', hfree, hend => by
    by_cases hi : i < off
    · obtain ⟨f, rfl⟩ : ∃ q, f = q + 1 := ⟨f - 1, by omega⟩
      obtain ⟨f', rfl⟩ : ∃ q, f' = q + 1 := ⟨f' - 1, by omega⟩
      have hlt := (go_col u src off (f + 1) i c).2 hi (by omega)
      have hb := dec_bounds (src.drop i) (drop_ne (by omega))
      have e : go u src off (f + 1) i c = go u src off f (i + (dec (src.drop i)).2) (c + wid u (dec (src.drop i)).1) := by rw [go, if_pos hi]
      rw [e] at hend hlt ⊢
      unfold og
      rw [if_pos ⟨by omega, by omega, hfree i (Nat.le_refl _) hi⟩]
      exact og_go u src off ho f _ _ f' (by omega) (by omega) (fun j h1 h2 => hfree j (by omega) h2) hend
    · have e : go u src off f i c = (i, c) := by cases f with
        | zero => rfl
        | succ f => rw [go, if_neg hi]
      rw [e] at hend ⊢
      simp only at hend ⊢
      subst hend
      cases f' with
      | zero => rfl
      | succ f' => unfold og; rw [if_neg (by omega)]
  termination_by f => f

theorem toPos_ok {u : Bool} {src : List UInt8} {off : Int} (h : (toPos u src off).2.2 = 0) : 0 ≤ off ∧ off ≤ src.length ∧ (go u src off.toNat off.toNat (start src off.toNat) 0).1 = off.toNat ∧
    toPos u src off = (line src off.toNat, (go u src off.toNat off.toNat (start src off.toNat) 0).2, 0) := by
  unfold toPos at h ⊢
  split at h
  · cases h
  rename_i h1
  rw [if_neg h1]
  split at h
  · cases h
  rename_i h2
  rw [if_neg h2]
  refine ⟨by omega, by omega, ?_, rfl⟩
  have : ∀ f i c, off.toNat - i ≤ f → off.toNat ≤ (go u src off.toNat f i c).1 := by
    intro f
    induction f with
    | zero => intro i c h; simp only [go]; omega
    | succ f ih =>
      intro i c h
      unfold go
      split
      · rename_i hi
        have hb := dec_bounds (src.drop i) (drop_ne (by omega))
        exact ih _ _ (by omega)
      · show off.toNat ≤ i; omega
  have := this off.toNat (start src off.toNat) 0 (by omega)
  omega

/-- There and back. -/
theorem round_trip {u : Bool} {src : List UInt8} {off : Int} (h : (toPos u src off).2.2 = 0) : toOff u src (toPos u src off).1 (toPos u src off).2.1 = (off.toNat, 0) := by
  obtain ⟨h0, h1, h2, e⟩ := toPos_ok h
  have hs := starts_at src off.toNat (by omega)
  have hlt := (List.getElem?_eq_some_iff.1 hs).1
  rw [e]
  unfold toOff
  simp only
  rw [if_neg (by omega), Int.toNat_natCast, List.getD_eq_getElem?_getD, hs]
  simp only [Option.getD_some]
  rw [og_go u src off.toNat (by omega) off.toNat _ 0 src.length (by omega) (by have := start_le src off.toNat; omega) (start_free src off.toNat) h2]
  unfold ogEnd
  rw [if_neg (by omega), if_neg (by omega)]

theorem go_both (src : List UInt8) (off : Nat) : ∀ f i c c', c' ≤ c → (go true src off f i c).1 = (go false src off f i c').1 ∧ (go false src off f i c').2 ≤ (go true src off f i c).2
  | 0, i, c, c', h => ⟨rfl, h⟩
  | f + 1, i, c, c', h => by
    unfold go
    split
    · have := wid_le (dec (src.drop i)).1
      exact go_both src off f _ _ _ (by omega)
    · exact ⟨rfl, h⟩

theorem both (src : List UInt8) (off : Int) : (toPos true src off).2.2 = (toPos false src off).2.2 ∧ (toPos true src off).1 = (toPos false src off).1 ∧ (toPos false src off).2.1 ≤ (toPos true src off).2.1 := by
  unfold toPos
  split
  · exact ⟨rfl, rfl, Nat.le_refl _⟩
  · obtain ⟨h1, h2⟩ := go_both src off.toNat off.toNat (start src off.toNat) 0 0 (Nat.le_refl _)
    rw [h1]
    split
    · exact ⟨rfl, rfl, Nat.le_refl _⟩
    · exact ⟨rfl, rfl, h2⟩
theorem toPos_err (u : Bool) (src : List UInt8) (off : Int) (h : (toPos u src off).2.2 ≠ 0) : (toPos u src off).1 = 0 ∧ (toPos u src off).2.1 = 0 := by
  unfold toPos at h ⊢
  repeat' split
  all_goals first | exact ⟨rfl, rfl⟩ | skip
  rename_i h1 h2
  rw [if_neg h1, if_neg h2] at h
  exact absurd rfl h

/-- A walk to b that comes by a. -/
theorem go_via (u : Bool) (src : List UInt8) (a b : Nat) (hab : a < b) : ∀ f f' i c, a - i ≤ f → f < f' → (go u src a f i c).1 = a → (go u src a f i c).2 < (go u src b f' i c).2
  | f, f', i, c, hf, hf', hend => by
    obtain ⟨f', rfl⟩ : ∃ q, f' = q + 1 := ⟨f' - 1, by omega⟩
    by_cases hi : i < a
    · obtain ⟨f, rfl⟩ : ∃ q, f = q + 1 := ⟨f - 1, by omega⟩
      by_cases hz : (dec (src.drop i)).2 = 0
      · have e : go u src a (f + 1) i c = go u src a f (i + (dec (src.drop i)).2) (c + wid u (dec (src.drop i)).1) := by rw [go, if_pos hi]
        have e' : go u src b (f' + 1) i c = go u src b f' (i + (dec (src.drop i)).2) (c + wid u (dec (src.drop i)).1) := by rw [go, if_pos (by omega)]
        exfalso
        -- without a step the walk never ends
        have stuck : ∀ f c, (go u src a f i c).1 = i := by
          intro f
          induction f with
          | zero => intro c; rfl
          | succ f ih => intro c; unfold go; rw [if_pos hi, hz]; exact ih _
        rw [stuck] at hend
        omega
      · have e : go u src a (f + 1) i c = go u src a f (i + (dec (src.drop i)).2) (c + wid u (dec (src.drop i)).1) := by rw [go, if_pos hi]
        have e' : go u src b (f' + 1) i c = go u src b f' (i + (dec (src.drop i)).2) (c + wid u (dec (src.drop i)).1) := by rw [go, if_pos (by omega)]
        rw [e] at hend
        rw [e, e']
        exact go_via u src a b hab f f' _ _ (by omega) (by omega) hend
    · have e : go u src a f i c = (i, c) := by cases f with
        | zero => rfl
        | succ f => rw [go, if_neg hi]
      rw [e] at hend ⊢
      simp only at hend
      exact (go_col u src b (f' + 1) i c).2 (by omega) (by omega)
  termination_by f => f

theorem countByte_take (src : List UInt8) {a b : Nat} (h : a ≤ b) : Lib.countByte (src.take b) 10 = Lib.countByte (src.take a) 10 + Lib.countByte ((src.take b).drop a) 10 := by
  have e : src.take a ++ (src.take b).drop a = src.take b := by
    have := List.take_append_drop a (src.take b)
    rwa [List.take_take, Nat.min_eq_left h] at this
  have e2 : Lib.countByte (src.take a ++ (src.take b).drop a) 10 = Lib.countByte (src.take a) 10 + Lib.countByte ((src.take b).drop a) 10 := by
    simp only [Lib.countByte, List.count_append]
  rw [e] at e2
  exact e2

/-- A larger offset has a later position. -/
theorem mono {u : Bool} {src : List UInt8} {a b : Int} (hab : a < b) (ha : (toPos u src a).2.2 = 0) (hb : (toPos u src b).2.2 = 0) :
    (toPos u src a).1 < (toPos u src b).1 ∨ (toPos u src a).1 = (toPos u src b).1 ∧ (toPos u src a).2.1 < (toPos u src b).2.1 := by
  obtain ⟨a0, a1, a2, ea⟩ := toPos_ok ha
  obtain ⟨b0, b1, b2, eb⟩ := toPos_ok hb
  rw [ea, eb]
  simp only
  have hc := countByte_take src (a := a.toNat) (b := b.toNat) (by omega)
  unfold line
  by_cases hz : Lib.countByte ((src.take b.toNat).drop a.toNat) 10 = 0
  · right
    rw [hz] at hc
    refine ⟨hc.symm, ?_⟩
    have hs : start src a.toNat = start src b.toNat := by
      have h1 := starts_at src a.toNat (by omega)
      have h2 := starts_at src b.toNat (by omega)
      unfold line at h1 h2
      rw [hc, Nat.add_zero, h1] at h2
      exact Option.some.inj h2
    rw [← hs]
    have := start_le src a.toNat
    exact go_via u src a.toNat b.toNat (by omega) a.toNat b.toNat _ 0 (by omega) (by omega) a2
  · left
    omega
end PosF
