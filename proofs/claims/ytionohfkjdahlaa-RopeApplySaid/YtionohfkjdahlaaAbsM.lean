/- A statement that draws its order: where no two of its operations disturb each other, every order comes to what the text's order comes to. -/
import Derived.Test.YtionohfkjdahlaaAbsL
namespace Go.Abs
open Go

inductive Kind where
  | silent | reader | writer
  deriving DecidableEq

def compat : Kind → Kind → Bool
  | .silent, _ => true
  | _, .silent => true
  | .reader, .reader => true
  | _, _ => false

def kindV (rf tk : Bool) (o : Op) (ρ : Operand → AV) : Kind :=
  match o with
  | .alloc _ => .writer
  | .box _ _ => if rf then .writer else .silent
  | .store _ _ _ => .writer
  | .load _ a => match ρ a with
    | .box _ _ => .silent
    | _ => if tk then .writer else .reader
  | .call c => match c.callee with
    | .builtin _ => .silent
    | .value x => match ρ x with
      | .fn _ first captured => if noRefL ((first ++ c.args.toList.map ρ ++ captured).map AV.strip) then .silent else .writer
      | _ => .writer
    | .invoke _ _ => .writer
  | _ => .silent

theorem kind_silent {C : Cfg} {D : Den} {rf tk : Bool} {o : Op} {ρ : Operand → AV} (hk : kindV rf tk o ρ = .silent) {s s' : Heap} {r : AV} (h : opV C D rf tk o ρ s = some (r, s')) (s2 : Heap) : s' = s ∧ opV C D rf tk o ρ s2 = some (r, s2) := by
  have mp : ∀ {x : Option AV} {s s' : Heap} {r : AV}, (x.map fun r => (r, s)) = some (r, s') → s' = s ∧ (x.map fun r => (r, s2)) = some (r, s2) := by
    intro x s s' r e
    obtain ⟨h1, h2⟩ := map_snd e
    exact ⟨h2, by rw [h1]; rfl⟩
  unfold opV at h ⊢
  split at h
  case h_1 => cases h; exact ⟨rfl, rfl⟩
  case h_2 => cases h; exact ⟨rfl, rfl⟩
  case h_3 => exact mp h
  case h_4 => simp [kindV] at hk
  case h_5 =>
    simp only [kindV] at hk
    split at hk
    · cases hk
    · rename_i hrf
      unfold aBox at h ⊢
      split at h
      · rename_i hs
        simp only [hrf, Bool.false_eq_true, if_false] at h ⊢
        cases h
        exact ⟨rfl, by rw [if_pos hs]⟩
      · cases h
  case h_6 => exact mp h
  case h_7 => exact mp h
  case h_8 t a =>
    simp only [kindV] at hk
    split at hk
    · rename_i cs off hb
      rw [hb] at h ⊢
      split at h
      · exact mp h
      · cases h
    · split at hk <;> cases hk
  case h_9 => simp [kindV] at hk
  case h_14 t x lo hi mx =>
    split at h
    · split at h
      · exact mp h
      · cases h
    · exact mp h
  case h_15 =>
    split at h
    · exact mp h
    · cases h
  case h_20 => cases h; exact ⟨rfl, rfl⟩
  case h_21 c =>
    simp only [kindV] at hk
    split at h
    · exact mp h
    · rename_i x hx
      rw [hx] at hk
      simp only at hk
      split at h
      · rename_i g first captured hf
        rw [hf] at hk
        simp only at hk
        split at hk
        · rename_i hn
          unfold aCall at h ⊢
          rw [if_pos hn] at h ⊢
          split at h
          · split at h
            · split at h
              · rename_i hv
                cases h
                refine ⟨rfl, ?_⟩
                simp_all
              · cases h
            · cases h
          · cases h
        · cases hk
      · cases h
    · cases h
  case h_22 => cases h
  all_goals exact mp h

theorem kind_reader {C : Cfg} {D : Den} {rf tk : Bool} {o : Op} {ρ : Operand → AV} (hk : kindV rf tk o ρ = .reader) {s s' : Heap} {r : AV} (h : opV C D rf tk o ρ s = some (r, s')) : s' = s := by
  cases o <;> simp only [kindV, reduceCtorEq] at hk
  case box => split at hk <;> cases hk
  case load t a =>
    split at hk
    · cases hk
    · rename_i hnb
      split at hk
      · cases hk
      · rename_i htk
        simp only [opV] at h
        split at h
        · unfold aLoad at h
          split at h
          · exact (map_snd h).2
          · simp only [htk, Bool.false_and, Bool.false_eq_true, if_false] at h
            exact (map_snd h).2
          · cases h
        · cases h
  case call c =>
    split at hk
    · cases hk
    · split at hk
      · split at hk <;> cases hk
      · cases hk
    · cases hk

theorem opV_congr {C : Cfg} {D : Den} {rf tk : Bool} {o : Op} {ρ ρ' : Operand → AV} (h : ∀ x ∈ o.operands, ρ x = ρ' x) (s : Heap) : opV C D rf tk o ρ s = opV C D rf tk o ρ' s ∧ kindV rf tk o ρ = kindV rf tk o ρ' := by
  cases o <;> simp only [Op.operands] at h
  case build t ps =>
    have : (ps.toList.map fun p => (p.1, ρ p.2)) = ps.toList.map fun p => (p.1, ρ' p.2) := List.map_congr_left fun p hp => by rw [h p.2 (by simp only [List.mem_toArray, List.mem_map]; exact ⟨p, hp, rfl⟩)]
    exact ⟨by simp only [opV, this], rfl⟩
  case buildSlice t n ps =>
    have : (ps.toList.map fun p => (p.1, ρ p.2)) = ps.toList.map fun p => (p.1, ρ' p.2) := List.map_congr_left fun p hp => by rw [h p.2 (by simp only [List.mem_toArray, List.mem_map]; exact ⟨p, hp, rfl⟩)]
    exact ⟨by simp only [opV, this], rfl⟩
  case makeFunc fn first captured =>
    have h1 : first.toList.map ρ = first.toList.map ρ' := List.map_congr_left fun x hx => h x (by simp [Array.mem_append]; exact .inl (by simpa using hx))
    have h2 : captured.toList.map ρ = captured.toList.map ρ' := List.map_congr_left fun x hx => h x (by simp [Array.mem_append]; exact .inr (by simpa using hx))
    refine ⟨?_, rfl⟩
    cases fn <;> simp only [opV, h1, h2]
  case call c =>
    have h1 : c.args.toList.map ρ = c.args.toList.map ρ' := List.map_congr_left fun x hx => h x (by simp only [Call.operands]; exact Array.mem_append.2 (.inr (by simpa using hx)))
    cases hc : c.callee with
    | builtin b => exact ⟨by simp only [opV, hc, h1], by simp only [kindV, hc]⟩
    | value x =>
      have hx : ρ x = ρ' x := h x (by simp [Call.operands, hc])
      exact ⟨by simp only [opV, hc, h1, hx], by simp only [kindV, hc, h1, hx]⟩
    | invoke x m => exact ⟨by simp only [opV, hc], by simp only [kindV, hc]⟩
  case slice t x lo hi mx =>
    have hx : ρ x = ρ' x := h x (by simp)
    have hl : lo.map ρ = lo.map ρ' := by cases lo with | none => rfl | some y => simp [h y (by simp)]
    have hh : hi.map ρ = hi.map ρ' := by cases hi with | none => rfl | some y => simp [h y (by simp)]
    have hm : mx.map ρ = mx.map ρ' := by cases mx with | none => rfl | some y => simp [h y (by simp)]
    exact ⟨by simp only [opV, hx, hl, hh, hm], rfl⟩
  case store t a v =>
    have ha : ρ a = ρ' a := h a (by simp)
    have hv : ρ v = ρ' v := h v (by simp)
    exact ⟨by cases v <;> simp only [opV, ha, hv], rfl⟩
  case assign x =>
    have hx : ρ x = ρ' x := h x (by simp)
    exact ⟨by cases x <;> simp only [opV, hx], rfl⟩
  all_goals first
    | exact ⟨rfl, rfl⟩
    | (constructor <;> simp_all [opV, kindV])

end Go.Abs
