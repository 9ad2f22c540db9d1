/- Balanced trees have many leaves. -/
import Derived.Test.YtionohfkjdahlaaRopeT
set_option linter.all false
namespace RopeF

/-- At height 0, 1, 2 ..: 1, 2, 3, 5, 8 .. -/
def fibs : Nat → Nat
  | 0 => 1
  | 1 => 2
  | n + 2 => fibs (n + 1) + fibs n
theorem fibs_pos : ∀ n, 0 < fibs n
  | 0 => by decide
  | 1 => by decide
  | n + 2 => by have := fibs_pos n; simp only [fibs]; omega
theorem fibs_step : ∀ n, fibs n ≤ fibs (n + 1)
  | 0 => by decide
  | n + 1 => by simp only [fibs]; omega
theorem fibs_mono {m n : Nat} (h : m ≤ n) : fibs m ≤ fibs n := by
  induction n with
  | zero => have : m = 0 := by omega
            subst this; exact Nat.le_refl _
  | succ n ih =>
    by_cases e : m = n + 1
    · subst e; exact Nat.le_refl _
    · exact Nat.le_trans (ih (by omega)) (fibs_step n)

theorem T.WF.leaves {t : T} (w : t.WF) : fibs t.h ≤ t.lv := by
  induction t with
  | leaf s => simp [T.h, T.lv, fibs]
  | node l r ihl ihr =>
    obtain ⟨wl, wr, h1, h2⟩ := w
    have hl := ihl wl
    have hr := ihr wr
    simp only [T.h, T.lv]
    rcases Nat.lt_trichotomy l.h r.h with h | h | h
    · have e : r.h = l.h + 1 := by omega
      rw [show max l.h r.h + 1 = l.h + 2 by omega]
      simp only [fibs]
      rw [e] at hr
      omega
    · rw [show max l.h r.h + 1 = l.h + 1 by omega]
      rw [← h] at hr
      cases hh : l.h with
      | zero => rw [hh] at hl hr; simp only [fibs] at *; omega
      | succ k =>
        rw [hh] at hl hr
        have := fibs_step k
        simp only [fibs]
        omega
    · have e : l.h = r.h + 1 := by omega
      rw [show max l.h r.h + 1 = r.h + 2 by omega]
      simp only [fibs]
      rw [e] at hl
      omega

theorem fibs60 : 1000000000000 < fibs 60 := by
  have h : ∀ n, fibs (n + 2) = fibs (n + 1) + fibs n := fun n => rfl
  decide +kernel
theorem T.WF.low {t : T} (w : t.WF) (h : t.str.length < 1000000000) : t.h < 60 := by
  have h1 := w.leaves
  have h2 := T.WF.lv_le w
  have h3 := fibs60
  by_cases e : t.h < 60
  · exact e
  · have := fibs_mono (m := 60) (n := t.h) (by omega)
    omega
end RopeF
