/- A statement that draws its order: where no two of its operations disturb each other, every order comes to what the text's order comes to. -/
import Derived.Test.YtionohfkjdahlaaDoorAbsL
namespace Go.Abs
open Go

inductive Kind where
  | silent | reader | writer | alloc
  deriving DecidableEq

def compat : Kind → Kind → Bool
  | .silent, _ => true
  | _, .silent => true
  | .reader, .reader => true
  | .reader, .alloc => true
  | .alloc, .alloc => true
  | _, _ => false

def kindV (rf tk : Bool) (o : Op) (ρ : Operand → AV) : Kind :=
  match o with
  | .alloc _ => .alloc
  | .box _ _ => if rf then .writer else .silent
  | .store _ _ _ => .writer
  | .load _ a => match ρ a with
    | .box _ _ => .silent
    | _ => if tk then .writer else .reader
  | .call c => match c.callee with
    | .builtin _ => .silent
    | .value x => match ρ x with
      | .fn _ first captured => if noRefL ((first ++ c.args.toList.map ρ ++ captured).map AV.strip) then .silent else .writer
      | _ => .writer
    | .invoke _ _ => .writer
  | _ => .silent

theorem kind_silent {C : Cfg} {D : Den} {rf tk : Bool} {o : Op} {ρ : Operand → AV} (hk : kindV rf tk o ρ = .silent) {s s' : Heap} {r : AV} (h : opV C D rf tk o ρ s = some (r, s')) (s2 : Heap) : s' = s ∧ opV C D rf tk o ρ s2 = some (r, s2) := by
  have mp : ∀ {x : Option AV} {s s' : Heap} {r : AV}, (x.map fun r => (r, s)) = some (r, s') → s' = s ∧ (x.map fun r => (r, s2)) = some (r, s2) := by
    intro x s s' r e
    obtain ⟨h1, h2⟩ := map_snd e
    exact ⟨h2, by rw [h1]; rfl⟩
  unfold opV at h ⊢
  split at h
  case h_1 => cases h; exact ⟨rfl, rfl⟩
  case h_2 => cases h; exact ⟨rfl, rfl⟩
  case h_3 => exact mp h
  case h_4 => simp [kindV] at hk
  case h_5 =>
    simp only [kindV] at hk
    split at hk
    · cases hk
    · rename_i hrf
      unfold aBox at h ⊢
      split at h
      · rename_i hs
        simp only [hrf, Bool.false_eq_true, if_false] at h ⊢
        cases h
        exact ⟨rfl, by rw [if_pos hs]⟩
      · cases h
  case h_6 => exact mp h
  case h_7 => exact mp h
  case h_8 t a =>
    simp only [kindV] at hk
    split at hk
    · rename_i cs off hb
      rw [hb] at h ⊢
      split at h
      · exact mp h
      · cases h
    · split at hk <;> cases hk
  case h_9 => simp [kindV] at hk
  case h_14 t x lo hi mx =>
    split at h
    · split at h
      · exact mp h
      · cases h
    · exact mp h
  case h_15 =>
    split at h
    · exact mp h
    · cases h
  case h_20 => cases h; exact ⟨rfl, rfl⟩
  case h_21 c =>
    simp only [kindV] at hk
    split at h
    · exact mp h
    · rename_i x hx
      rw [hx] at hk
      simp only at hk
      split at h
      · rename_i g first captured hf
        rw [hf] at hk
        simp only at hk
        split at hk
        · rename_i hn
          unfold aCall at h ⊢
          rw [if_pos hn] at h ⊢
          split at h
          · split at h
            · split at h
              · rename_i hv
                cases h
                refine ⟨rfl, ?_⟩
                simp_all
              · cases h
            · cases h
          · cases h
        · cases hk
      · cases h
    · cases h
  case h_22 => cases h
  all_goals exact mp h

theorem kind_reader {C : Cfg} {D : Den} {rf tk : Bool} {o : Op} {ρ : Operand → AV} (hk : kindV rf tk o ρ = .reader) {s s' : Heap} {r : AV} (h : opV C D rf tk o ρ s = some (r, s')) : s' = s := by
  cases o <;> simp only [kindV, reduceCtorEq] at hk
  case box => split at hk <;> cases hk
  case load t a =>
    split at hk
    · cases hk
    · rename_i hnb
      split at hk
      · cases hk
      · rename_i htk
        simp only [opV] at h
        split at h
        · unfold aLoad at h
          split at h
          · exact (map_snd h).2
          · simp only [htk, Bool.false_and, Bool.false_eq_true, if_false] at h
            exact (map_snd h).2
          · cases h
        · cases h
  case call c =>
    split at hk
    · cases hk
    · split at hk
      · split at hk <;> cases hk
      · cases hk
    · cases hk

theorem opV_congr {C : Cfg} {D : Den} {rf tk : Bool} {o : Op} {ρ ρ' : Operand → AV} (h : ∀ x ∈ o.operands, ρ x = ρ' x) (s : Heap) : opV C D rf tk o ρ s = opV C D rf tk o ρ' s ∧ kindV rf tk o ρ = kindV rf tk o ρ' := by
  cases o <;> simp only [Op.operands] at h
  case build t ps =>
    have : (ps.toList.map fun p => (p.1, ρ p.2)) = ps.toList.map fun p => (p.1, ρ' p.2) := List.map_congr_left fun p hp => by rw [h p.2 (by simp only [List.mem_toArray, List.mem_map]; exact ⟨p, hp, rfl⟩)]
    exact ⟨by simp only [opV, this], rfl⟩
  case buildSlice t n ps =>
    have : (ps.toList.map fun p => (p.1, ρ p.2)) = ps.toList.map fun p => (p.1, ρ' p.2) := List.map_congr_left fun p hp => by rw [h p.2 (by simp only [List.mem_toArray, List.mem_map]; exact ⟨p, hp, rfl⟩)]
    exact ⟨by simp only [opV, this], rfl⟩
  case makeFunc fn first captured =>
    have h1 : first.toList.map ρ = first.toList.map ρ' := List.map_congr_left fun x hx => h x (by simp [Array.mem_append]; exact .inl (by simpa using hx))
    have h2 : captured.toList.map ρ = captured.toList.map ρ' := List.map_congr_left fun x hx => h x (by simp [Array.mem_append]; exact .inr (by simpa using hx))
    refine ⟨?_, rfl⟩
    cases fn <;> simp only [opV, h1, h2]
  case call c =>
    have h1 : c.args.toList.map ρ = c.args.toList.map ρ' := List.map_congr_left fun x hx => h x (by simp only [Call.operands]; exact Array.mem_append.2 (.inr (by simpa using hx)))
    cases hc : c.callee with
    | builtin b => exact ⟨by simp only [opV, hc, h1], by simp only [kindV, hc]⟩
    | value x =>
      have hx : ρ x = ρ' x := h x (by simp [Call.operands, hc])
      exact ⟨by simp only [opV, hc, h1, hx], by simp only [kindV, hc, h1, hx]⟩
    | invoke x m => exact ⟨by simp only [opV, hc], by simp only [kindV, hc]⟩
  case slice t x lo hi mx =>
    have hx : ρ x = ρ' x := h x (by simp)
    have hl : lo.map ρ = lo.map ρ' := by cases lo with | none => rfl | some y => simp [h y (by simp)]
    have hh : hi.map ρ = hi.map ρ' := by cases hi with | none => rfl | some y => simp [h y (by simp)]
    have hm : mx.map ρ = mx.map ρ' := by cases mx with | none => rfl | some y => simp [h y (by simp)]
    exact ⟨by simp only [opV, hx, hl, hh, hm], rfl⟩
  case store t a v =>
    have ha : ρ a = ρ' a := h a (by simp)
    have hv : ρ v = ρ' v := h v (by simp)
    exact ⟨by cases v <;> simp only [opV, ha, hv], rfl⟩
  case assign x =>
    have hx : ρ x = ρ' x := h x (by simp)
    exact ⟨by cases x <;> simp only [opV, hx], rfl⟩
  all_goals first
    | exact ⟨rfl, rfl⟩
    | (constructor <;> simp_all [opV, kindV])

theorem kindA_silent {C : Cfg} {D : Den} {rf tk : Bool} {o : Op} {ρ : Operand → AV} (hk : kindV rf tk o ρ = .silent) {A : Nat} {s s' : Heap} {r : AV} (h : opA C D rf tk o ρ A s = some (r, s')) (s2 : Heap) : s' = s ∧ opA C D rf tk o ρ A s2 = some (r, s2) := by
  unfold opA at h ⊢
  split at h
  · simp [kindV] at hk
  · exact kind_silent hk h s2
theorem kindA_reader {C : Cfg} {D : Den} {rf tk : Bool} {o : Op} {ρ : Operand → AV} (hk : kindV rf tk o ρ = .reader) {A : Nat} {s s' : Heap} {r : AV} (h : opA C D rf tk o ρ A s = some (r, s')) : s' = s := by
  unfold opA at h
  split at h
  · simp [kindV] at hk
  · exact kind_reader hk h

/-- What is read stays as it is where a new entry comes. -/
theorem kindA_reader_put {C : Cfg} {D : Den} {rf tk : Bool} {o : Op} {ρ : Operand → AV} (hk : kindV rf tk o ρ = .reader) {A B : Nat} {s s' : Heap} {r : AV} (h : opA C D rf tk o ρ A s = some (r, s')) (hB : has s B = false) (x : TypeId × List AV) :
    opA C D rf tk o ρ A (putAt s B x) = some (r, putAt s B x) := by
  unfold opA at h ⊢
  split at h
  · simp [kindV] at hk
  · cases o <;> simp only [kindV, reduceCtorEq] at hk
    case box => split at hk <;> cases hk
    case load t a =>
      split at hk
      · cases hk
      · rename_i hnb
        split at hk
        · cases hk
        · rename_i htk
          simp only [opV] at h ⊢
          split at h
          · rename_i agg n h1 h2
            unfold aLoad at h ⊢
            split at h
            · exact absurd (by assumption) (hnb _ _)
            · rename_i id off he
              simp only [htk, Bool.false_and, Bool.false_eq_true, if_false] at h ⊢
              obtain ⟨hr, _⟩ := map_snd h
              unfold aLoadR at hr ⊢
              split at hr
              · rename_i cs hcs
                by_cases hne : cs.2 = []
                · by_cases hid : id = B
                  · rw [putAt_get, if_pos hid]
                    rw [hne] at hr
                    simp only
                    unfold aLoadC at hr ⊢
                    cases agg with
                    | true =>
                      simp only [if_true, List.length_nil] at hr ⊢
                      split at hr
                      · rename_i hle
                        have h0 : off = 0 := by omega
                        have hn : n = 0 := by omega
                        subst h0; subst hn
                        cases hr
                        simp
                      · cases hr
                    | false => simp at hr
                  · rw [putAt_get, if_neg hid, if_pos (List.getElem?_eq_some_iff.1 hcs).1, hcs]
                    simp only
                    rw [hr]; rfl
                · have hid : id ≠ B := by intro e; rw [e] at hcs; rw [has_of hcs hne] at hB; cases hB
                  rw [putAt_get, if_neg hid, if_pos (List.getElem?_eq_some_iff.1 hcs).1, hcs]
                  simp only
                  rw [hr]; rfl
              · cases hr
            · cases h
          · cases h
    case call c =>
      split at hk
      · cases hk
      · split at hk
        · split at hk <;> cases hk
        · cases hk
      · cases hk

theorem kindA_alloc {rf tk : Bool} {o : Op} {ρ : Operand → AV} (hk : kindV rf tk o ρ = .alloc) : ∃ t, o = .alloc t := by
  cases o <;> simp only [kindV, reduceCtorEq] at hk
  case alloc t => exact ⟨t, rfl⟩
  case box => split at hk <;> cases hk
  case load t a =>
    split at hk
    · cases hk
    · split at hk <;> cases hk
  case call c =>
    split at hk
    · cases hk
    · split at hk
      · split at hk <;> cases hk
      · cases hk
    · cases hk

theorem putAt_comm {s : Heap} {A B : Nat} (h : A ≠ B) (x y : TypeId × List AV) (hx : has s A = false ∨ s.length ≤ A) : putAt (putAt s A x) B y = putAt (putAt s B y) A x := by
  have hl : ∀ (s : Heap) (A : Nat) (x : TypeId × List AV), (putAt s A x).length = max s.length (A + 1) := by
    intro s A x
    unfold putAt
    split
    · simp; omega
    · simp; omega
  apply List.ext_getElem?
  intro k
  simp only [putAt_get, hl]
  by_cases h1 : k = A
  · subst h1
    rw [if_neg h, if_pos (by omega), if_pos rfl, if_pos rfl]
  · by_cases h2 : k = B
    · subst h2
      rw [if_pos rfl, if_neg h1, if_pos (by omega), if_pos rfl]
    · rw [if_neg h2, if_neg h1, if_neg h1, if_neg h2]
      by_cases h3 : k < s.length
      · rw [if_pos h3, if_pos h3, if_pos (by omega), if_pos (by omega)]
      · rw [if_neg h3, if_neg h3]
        by_cases h4 : k < A <;> by_cases h5 : k < B
        all_goals first
          | rw [if_pos h4] | rw [if_neg h4]
        all_goals first
          | rw [if_pos h5] | rw [if_neg h5]
        all_goals (repeat' split) <;> first | rfl | omega

/-- Two new variables, in whatever order. -/
theorem alloc_swap {P : Program} {t t' : TypeId} {A B : Nat} {s s1 s2 : Heap} {r r' : AV} (h1 : aAllocAt P t A s = some (r, s1)) (h2 : aAllocAt P t' B s1 = some (r', s2)) :
    ∃ s3, aAllocAt P t' B s = some (r', s3) ∧ aAllocAt P t A s3 = some (r, s2) := by
  unfold aAllocAt at h1 h2
  split at h1
  · rename_i a ha
    split at h1
    · rename_i hc
      cases h1
      split at h2
      · rename_i b hb
        split at h2
        · rename_i hd
          cases h2
          simp only [Bool.and_eq_true, Bool.not_eq_true', List.isEmpty_eq_false_iff] at hc hd
          have nea : (t, a.cells.map AV.strip).2 ≠ [] := by simpa using hc.1.2
          have neb : (t', b.cells.map AV.strip).2 ≠ [] := by simpa using hd.1.2
          have hd2 := hd.2
          rw [putAt_has nea] at hd2
          split at hd2
          · cases hd2
          rename_i hne
          refine ⟨putAt s B (t', b.cells.map AV.strip), ?_, ?_⟩
          · simp [aAllocAt, hb, hd.1.1, hd.1.2, hd2]
          · have : has (putAt s B (t', b.cells.map AV.strip)) A = false := by rw [putAt_has neb, if_neg (fun e => hne e.symm)]; exact hc.2
            simp only [aAllocAt, ha, hc.1.1, this, Bool.true_and, Bool.not_false, Bool.and_true]
            rw [if_pos (by simpa using hc.1.2), putAt_comm hne _ _ (.inl hd2)]
        · cases h2
      · cases h2
    · cases h1
  · cases h1

theorem opA_congr {C : Cfg} {D : Den} {rf tk : Bool} {o : Op} {ρ ρ' : Operand → AV} (h : ∀ x ∈ o.operands, ρ x = ρ' x) (A : Nat) (s : Heap) : opA C D rf tk o ρ A s = opA C D rf tk o ρ' A s ∧ kindV rf tk o ρ = kindV rf tk o ρ' := by
  obtain ⟨h1, h2⟩ := opV_congr (C := C) (D := D) (rf := rf) (tk := tk) h s
  refine ⟨?_, h2⟩
  cases o <;> first | rfl | exact h1

end Go.Abs
