/- Trees of text: what the rope package computes, in plain Lean. -/
set_option linter.all false
namespace RopeF

inductive T where
  | leaf (s : List UInt8)
  | node (l r : T)

namespace T
def str : T → List UInt8
  | leaf s => s
  | node l r => l.str ++ r.str
def h : T → Nat
  | leaf _ => 0
  | node l r => max l.h r.h + 1
def lv : T → Nat
  | leaf _ => 1
  | node l r => l.lv + r.lv
def size : T → Nat
  | leaf _ => 1
  | node l r => l.size + r.size + 1
/-- leaves are not empty and not long; the heights of siblings differ by one at most -/
def WF : T → Prop
  | leaf s => s ≠ [] ∧ s.length ≤ 32
  | node l r => l.WF ∧ r.WF ∧ l.h ≤ r.h + 1 ∧ r.h ≤ l.h + 1

def left : T → T
  | leaf s => leaf s
  | node l _ => l
def right : T → T
  | leaf s => leaf s
  | node _ r => r

def rebalance (l r : T) : T :=
  if l.h > r.h + 1 ∧ l.left.h ≥ l.right.h then node l.left (node l.right r)
  else if l.h > r.h + 1 then node (node l.left l.right.left) (node l.right.right r)
  else if r.h > l.h + 1 ∧ r.right.h ≥ r.left.h then node (node l r.left) r.right
  else if r.h > l.h + 1 then node (node l r.left.left) (node r.left.right r.right)
  else node l r

theorem left_size {t : T} (ht : t.h > 0) : t.left.size < t.size := by cases t <;> simp_all [h, left, size]; omega
theorem right_size {t : T} (ht : t.h > 0) : t.right.size < t.size := by cases t <;> simp_all [h, right, size]; omega

def concat (l r : T) : T :=
  if l.h = 0 ∧ r.h = 0 ∧ l.str.length + r.str.length ≤ 32 then leaf (l.str ++ r.str)
  else if hl : l.h > r.h + 1 then rebalance l.left (concat l.right r)
  else if hr : r.h > l.h + 1 then rebalance (concat l r.left) r.right
  else node l r
  termination_by l.size + r.size
  decreasing_by
  · have := right_size (t := l) (by omega); omega
  · have := left_size (t := r) (by omega); omega

theorem h0 {t : T} (ht : t.h = 0) : ∃ s, t = leaf s := by cases t with
  | leaf s => exact ⟨s, rfl⟩
  | node l r => simp [h] at ht
theorem hpos {t : T} (ht : t.h > 0) : ∃ l r, t = node l r := by cases t with
  | leaf s => simp [h] at ht
  | node l r => exact ⟨l, r, rfl⟩

theorem WF.str_pos {t : T} (w : t.WF) : 0 < t.str.length := by
  induction t with
  | leaf s => simp [str]; exact List.length_pos_iff.2 w.1
  | node l r ihl ihr => simp [str]; have := ihl w.1; omega

theorem lv_pos (t : T) : 0 < t.lv := by induction t with
  | leaf s => simp [lv]
  | node l r ihl ihr => simp [lv]; omega
theorem WF.lv_le {t : T} (w : t.WF) : t.lv ≤ t.str.length := by
  induction t with
  | leaf s => simp [lv, str]; exact List.length_pos_iff.2 w.1
  | node l r ihl ihr => simp [lv, str]; have := ihl w.1; have := ihr w.2.1; omega
theorem h_lt_lv (t : T) : t.h < t.lv := by induction t with
  | leaf s => simp [h, lv]
  | node l r ihl ihr => simp only [h, lv]; have := lv_pos l; have := lv_pos r; omega

theorem rebalance_near {l r : T} (h1 : l.h ≤ r.h + 1) (h2 : r.h ≤ l.h + 1) : rebalance l r = node l r := by
  unfold rebalance
  rw [if_neg (by omega), if_neg (by omega), if_neg (by omega), if_neg (by omega)]

/-- Joining trees whose heights differ by two at most: the text, the shape, the height. -/
theorem rebalance_ok {l r : T} (wl : l.WF) (wr : r.WF) (h1 : l.h ≤ r.h + 2) (h2 : r.h ≤ l.h + 2) :
    (rebalance l r).WF ∧ (rebalance l r).str = l.str ++ r.str ∧ (rebalance l r).h ≤ max l.h r.h + 1 ∧ max l.h r.h ≤ (rebalance l r).h := by
  unfold rebalance
  split
  · rename_i c
    obtain ⟨a, b, rfl⟩ := hpos (t := l) (by omega)
    simp only [left, right, h, WF, str] at *
    refine ⟨⟨wl.1, ⟨wl.2.1, wr, ?_, ?_⟩, ?_, ?_⟩, by simp, ?_, ?_⟩ <;> omega
  · split
    · rename_i c d
      obtain ⟨a, b, rfl⟩ := hpos (t := l) (by omega)
      simp only [left, right] at c
      have : b.h > 0 := by simp only [h] at *; omega
      obtain ⟨x, y, rfl⟩ := hpos this
      simp only [left, right, h, WF, str] at *
      refine ⟨⟨⟨wl.1, wl.2.1.1, ?_, ?_⟩, ⟨wl.2.1.2.1, wr, ?_, ?_⟩, ?_, ?_⟩, by simp, ?_, ?_⟩ <;> omega
    · split
      · rename_i c
        obtain ⟨a, b, rfl⟩ := hpos (t := r) (by omega)
        simp only [left, right, h, WF, str] at *
        refine ⟨⟨⟨wl, wr.1, ?_, ?_⟩, wr.2.1, ?_, ?_⟩, by simp, ?_, ?_⟩ <;> omega
      · split
        · rename_i c d
          obtain ⟨a, b, rfl⟩ := hpos (t := r) (by omega)
          simp only [left, right] at c
          have : a.h > 0 := by simp only [h] at *; omega
          obtain ⟨x, y, rfl⟩ := hpos this
          simp only [left, right, h, WF, str] at *
          refine ⟨⟨⟨wl, wr.1.1, ?_, ?_⟩, ⟨wr.1.2.1, wr.2.1, ?_, ?_⟩, ?_, ?_⟩, by simp, ?_, ?_⟩ <;> omega
        · simp only [h, WF, str]
          refine ⟨⟨wl, wr, ?_, ?_⟩, trivial, ?_, ?_⟩ <;> omega

theorem concat_ok : ∀ (n : Nat) (l r : T), l.size + r.size ≤ n → l.WF → r.WF →
    (concat l r).WF ∧ (concat l r).str = l.str ++ r.str ∧ (concat l r).h ≤ max l.h r.h + 1 ∧ max l.h r.h ≤ (concat l r).h := by
  intro n
  induction n with
  | zero => intro l r hn; cases l <;> cases r <;> simp [size] at hn
  | succ n ih =>
    intro l r hn wl wr
    unfold concat
    split
    · rename_i c
      have := wl.str_pos
      simp only [WF, str, h, List.length_append]
      refine ⟨⟨?_, by omega⟩, trivial, by omega, by omega⟩
      intro e
      have := congrArg List.length e
      simp at this
      simp [this] at *
    · split
      · rename_i c
        obtain ⟨a, b, rfl⟩ := hpos (t := l) (by omega)
        simp only [left, right, size] at *
        obtain ⟨i1, i2, i3, i4⟩ := ih b r (by omega) wl.2.1 wr
        have hw := wl
        simp only [WF, h] at hw c
        obtain ⟨k1, k2, k3, k4⟩ := rebalance_ok wl.1 i1 (by omega) (by omega)
        have near : a.h ≤ (concat b r).h + 1 → (concat b r).h ≤ a.h + 1 → (rebalance a (concat b r)).h = max a.h (concat b r).h + 1 := fun p q => by rw [rebalance_near p q, h]
        refine ⟨k1, by rw [k2, i2]; simp [str], ?_, ?_⟩ <;> simp only [h] <;> omega
      · split
        · rename_i c
          obtain ⟨a, b, rfl⟩ := hpos (t := r) (by omega)
          simp only [left, right, size] at *
          obtain ⟨i1, i2, i3, i4⟩ := ih l a (by omega) wl wr.1
          have hw := wr
          simp only [WF, h] at hw c
          obtain ⟨k1, k2, k3, k4⟩ := rebalance_ok i1 wr.2.1 (by omega) (by omega)
          have near : (l.concat a).h ≤ b.h + 1 → b.h ≤ (l.concat a).h + 1 → (rebalance (l.concat a) b).h = max (l.concat a).h b.h + 1 := fun p q => by rw [rebalance_near p q, h]
          refine ⟨k1, by rw [k2, i2]; simp [str], ?_, ?_⟩ <;> simp only [h] <;> omega
        · simp only [h, WF, str]
          refine ⟨⟨wl, wr, ?_, ?_⟩, trivial, ?_, ?_⟩ <;> omega
end T

/-- Ropes: nothing, or a tree. -/
abbrev R := Option T
def R.str : R → List UInt8
  | none => []
  | some t => t.str
def R.WF : R → Prop
  | none => True
  | some t => t.WF
def R.concat : R → R → R
  | none, r => r
  | l, none => l
  | some l, some r => some (l.concat r)
theorem R.concat_ok {l r : R} (wl : l.WF) (wr : r.WF) : (l.concat r).WF ∧ (l.concat r).str = l.str ++ r.str := by
  cases l with
  | none => exact ⟨wr, rfl⟩
  | some l => cases r with
    | none => exact ⟨wl, (List.append_nil _).symm⟩
    | some r =>
      obtain ⟨h1, h2, _⟩ := T.concat_ok _ l r (Nat.le_refl _) wl wr
      exact ⟨h1, h2⟩
end RopeF
