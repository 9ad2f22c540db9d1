/- Orders: the theorem on statements that draw theirs. -/
import Derived.Test.YtionohfkjdahlaaDoorAbsM
namespace Go.Abs
open Go

def opSlots (o : Op) : List Nat := o.operands.toList.filterMap fun | .tmp t => some t | _ => none
def guardSlots (ops : List Oper) (o : Oper) : List Nat := match o.guard with
  | some (j, _) => ((ops[j]?).bind (·.dst)).toList
  | none => []

def wrSlots (C : Cfg) (f : FuncId) (ops : List Oper) (o : Oper) : List Nat := o.dst.toList ++ (takeOf (takes C f ops o) o.op).toList
def nmSlots (C : Cfg) (f : FuncId) (ops : List Oper) (o : Oper) : List Nat := opSlots o.op ++ guardSlots ops o ++ wrSlots C f ops o

def indep (C : Cfg) (f : FuncId) (ops : List Oper) (a b : Oper) : Bool :=
  (wrSlots C f ops a).all (fun t => !(nmSlots C f ops b).contains t) && (wrSlots C f ops b).all (fun t => !(nmSlots C f ops a).contains t)

theorem takeOf_mem {tk : Bool} {o : Op} {t : Nat} (h : takeOf tk o = some t) : t ∈ opSlots o := by
  unfold takeOf at h
  split at h
  · cases h; simp [opSlots, Op.operands]
  · split at h
    · cases h; simp [opSlots, Op.operands]
    · cases h
  · cases h; simp [opSlots, Op.operands]
  · rename_i c
    split at h
    · rename_i hb
      split at h
      · rename_i k hk
        cases h
        simp only [opSlots, Op.operands, Call.operands, hb, List.mem_filterMap]
        refine ⟨.tmp t, ?_, rfl⟩
        have : (.tmp t : Operand) ∈ c.args := Array.mem_of_getElem? hk
        simpa using this
      · cases h
    · cases h
  · cases h

/-- What an operation writes to the slots. -/
def putE (env : Env) (tk dst : Option Nat) (r : AV) : Env := setE (stripE env tk) dst r

theorem putE_out {env : Env} {tk dst : Option Nat} {r : AV} {t : Nat} (h : t ∉ dst.toList ++ tk.toList) : putE env tk dst r t = env t := by
  unfold putE setE stripE
  cases dst <;> cases tk <;> simp_all [upd]

theorem putE_congr {env env' : Env} {tk dst : Option Nat} {r : AV} {t : Nat} (h : env t = env' t) : putE env tk dst r t = putE env' tk dst r t := by
  unfold putE setE stripE
  cases dst <;> cases tk <;> simp only [upd] <;> (repeat' split) <;> simp_all

theorem putE_comm {env : Env} {tk dst tk' dst' : Option Nat} {r r' : AV} (h : ∀ t ∈ dst.toList ++ tk.toList, t ∉ dst'.toList ++ tk'.toList) :
    putE (putE env tk dst r) tk' dst' r' = putE (putE env tk' dst' r') tk dst r := by
  funext t
  by_cases h1 : t ∈ dst.toList ++ tk.toList
  · rw [putE_out (h t h1)]
    exact (putE_congr (putE_out (h t h1))).symm
  · rw [putE_out (env := putE env tk' dst' r') h1]
    exact putE_congr (putE_out h1)

def kind1 (C : Cfg) (f : FuncId) (ops : List Oper) (i : Nat) (st : Stt) : Kind :=
  match ops[i]? with
  | none => .silent
  | some o => match wantedA ops o st.1 with
    | some true => kindV (boxRef C f o) (takes C f ops o) o.op (evO C st.1)
    | _ => .silent

theorem wantedA_congr {ops : List Oper} {o : Oper} {env env' : Env} (h : ∀ t ∈ guardSlots ops o, env t = env' t) : wantedA ops o env = wantedA ops o env' := by
  unfold wantedA
  unfold guardSlots at h
  split
  · rfl
  · rename_i j want hg
    rw [hg] at h
    split
    · rename_i d hd
      simp only [hd] at h
      rw [h d (by simp)]
    · rfl

theorem evO_congr {C : Cfg} {o : Op} {env env' : Env} (h : ∀ t ∈ opSlots o, env t = env' t) : ∀ x ∈ o.operands, evO C env x = evO C env' x := by
  intro x hx
  cases x with
  | tmp t => exact h t (by simp only [opSlots, List.mem_filterMap]; exact ⟨.tmp t, by simpa using hx, rfl⟩)
  | _ => rfl

/-- Two operations that do not disturb each other may change places. -/
theorem swap {C : Cfg} {D : Den} {f : FuncId} {N : Nat} {ops : List Oper} {i j : Nat} {oi oj : Oper} (hi : ops[i]? = some oi) (hj : ops[j]? = some oj) (hind : indep C f ops oi oj = true) {A B : Nat} {st st1 st2 : Stt}
    (h1 : exec1A C D f N ops A i st = some st1) (h2 : exec1A C D f N ops B j st1 = some st2) (hc : compat (kind1 C f ops i st) (kind1 C f ops j st1) = true) :
    ∃ st1', exec1A C D f N ops B j st = some st1' ∧ exec1A C D f N ops A i st1' = some st2 ∧ kind1 C f ops j st = kind1 C f ops j st1 ∧ kind1 C f ops i st1' = kind1 C f ops i st := by
  obtain ⟨env, s⟩ := st
  simp only [indep, Bool.and_eq_true, List.all_eq_true, Bool.not_eq_true', List.contains_eq_mem, decide_eq_false_iff_not] at hind
  obtain ⟨hij, hji⟩ := hind
  -- what one writes the other does not see
  have nmj : ∀ t, t ∈ nmSlots C f ops oj → t ∉ wrSlots C f ops oi := fun t ht hw => hij t hw ht
  have nmi : ∀ t, t ∈ nmSlots C f ops oi → t ∉ wrSlots C f ops oj := fun t ht hw => hji t hw ht
  have wrdisj : ∀ t ∈ wrSlots C f ops oi, t ∉ wrSlots C f ops oj := fun t ht hw => nmi t (List.mem_append_right _ ht) hw
  have seen : ∀ (ox oy : Oper) (_ : ∀ t, t ∈ nmSlots C f ops oy → t ∉ wrSlots C f ops ox) (e e' : Env) (_ : ∀ t, t ∉ wrSlots C f ops ox → e' t = e t),
      wantedA ops oy e' = wantedA ops oy e ∧ (∀ A s, opA C D (boxRef C f oy) (takes C f ops oy) oy.op (evO C e') A s = opA C D (boxRef C f oy) (takes C f ops oy) oy.op (evO C e) A s) ∧
      kindV (boxRef C f oy) (takes C f ops oy) oy.op (evO C e') = kindV (boxRef C f oy) (takes C f ops oy) oy.op (evO C e) := by
    intro ox oy hn e e' he
    have hop := evO_congr (C := C) (o := oy.op) (env := e') (env' := e) (fun t ht => he t (hn t (List.mem_append_left _ (List.mem_append_left _ ht))))
    exact ⟨wantedA_congr fun t ht => he t (hn t (List.mem_append_left _ (List.mem_append_right _ ht))), fun A s => (opA_congr hop A s).1, (opA_congr (C := C) (D := D) hop 0 []).2⟩
  simp only [exec1A, hi] at h1
  split at h1
  case isFalse => cases h1
  rename_i hdi
  simp only [exec1A, hj] at h2
  split at h2
  case isFalse => cases h2
  rename_i hdj
  -- each operation's effect
  have ei : ∃ tki ri s1, st1 = (putE env tki oi.dst ri, s1) ∧ (∀ t, t ∈ oi.dst.toList ++ tki.toList → t ∈ wrSlots C f ops oi) ∧
      ((wantedA ops oi env = some true ∧ opA C D (boxRef C f oi) (takes C f ops oi) oi.op (evO C env) A s = some (ri, s1) ∧ tki = takeOf (takes C f ops oi) oi.op) ∨ (wantedA ops oi env = some false ∧ ri = .tup [] ∧ s1 = s ∧ tki = none)) := by
    split at h1
    · cases h1
    · rename_i hw
      split at h1
      · rename_i r s1 ho; cases h1
        exact ⟨_, r, s1, rfl, fun t ht => ht, .inl ⟨hw, ho, rfl⟩⟩
      · cases h1
    · rename_i hw; cases h1
      exact ⟨none, .tup [], s, rfl, fun t ht => by simp at ht; simp [wrSlots, ht], .inr ⟨hw, rfl, rfl, rfl⟩⟩
  obtain ⟨tki, ri, s1, rfl, hwi, hi'⟩ := ei
  have hout : ∀ t, t ∉ wrSlots C f ops oi → putE env tki oi.dst ri t = env t := fun t ht => putE_out fun h => ht (hwi t h)
  obtain ⟨q1, q2, q3⟩ := seen oi oj nmj env _ hout
  simp only [q1] at h2
  have ej : ∃ tkj rj s2, st2 = (putE (putE env tki oi.dst ri) tkj oj.dst rj, s2) ∧ (∀ t, t ∈ oj.dst.toList ++ tkj.toList → t ∈ wrSlots C f ops oj) ∧
      ((wantedA ops oj env = some true ∧ opA C D (boxRef C f oj) (takes C f ops oj) oj.op (evO C env) B s1 = some (rj, s2) ∧ tkj = takeOf (takes C f ops oj) oj.op) ∨ (wantedA ops oj env = some false ∧ rj = .tup [] ∧ s2 = s1 ∧ tkj = none)) := by
    split at h2
    · cases h2
    · rename_i hw
      split at h2
      · rename_i r s2 ho; cases h2
        exact ⟨_, r, s2, rfl, fun t ht => ht, .inl ⟨hw, by rw [← q2]; exact ho, rfl⟩⟩
      · cases h2
    · rename_i hw; cases h2
      exact ⟨none, .tup [], s1, rfl, fun t ht => by simp at ht; simp [wrSlots, ht], .inr ⟨hw, rfl, rfl, rfl⟩⟩
  obtain ⟨tkj, rj, s2, rfl, hwj, hj'⟩ := ej
  have hcomm : putE (putE env tki oi.dst ri) tkj oj.dst rj = putE (putE env tkj oj.dst rj) tki oi.dst ri :=
    putE_comm fun t ht h' => wrdisj t (hwi t ht) (hwj t h')
  have houtj : ∀ t, t ∉ wrSlots C f ops oj → putE env tkj oj.dst rj t = env t := fun t ht => putE_out fun h => ht (hwj t h)
  obtain ⟨p1, p2, p3⟩ := seen oj oi nmi env _ houtj
  have kj : kind1 C f ops j (env, s) = kind1 C f ops j (putE env tki oi.dst ri, s1) := by
    simp only [kind1, hj, q1, q3]
  have ki : ∀ s', kind1 C f ops i (putE env tkj oj.dst rj, s') = kind1 C f ops i (env, s) := by
    intro s'; simp only [kind1, hi, p1, p3]
  -- the two effects on the heap
  have heap : ∃ s1', (((wantedA ops oj env = some true ∧ opA C D (boxRef C f oj) (takes C f ops oj) oj.op (evO C env) B s = some (rj, s1') ∧ tkj = takeOf (takes C f ops oj) oj.op) ∨ (wantedA ops oj env = some false ∧ rj = .tup [] ∧ s1' = s ∧ tkj = none))) ∧
      ((wantedA ops oi env = some true ∧ opA C D (boxRef C f oi) (takes C f ops oi) oi.op (evO C env) A s1' = some (ri, s2) ∧ tki = takeOf (takes C f ops oi) oi.op) ∨ (wantedA ops oi env = some false ∧ ri = .tup [] ∧ s2 = s1' ∧ tki = none)) := by
    rw [← kj] at hc
    rcases hi' with ⟨wi, oiv, ti⟩ | ⟨wi, rfl, rfl, ti⟩
    · have kki : kind1 C f ops i (env, s) = kindV (boxRef C f oi) (takes C f ops oi) oi.op (evO C env) := by simp only [kind1, hi, wi]
      rcases hj' with ⟨wj, ojv, tj⟩ | ⟨wj, rfl, rfl, tj⟩
      · have kkj : kind1 C f ops j (env, s) = kindV (boxRef C f oj) (takes C f ops oj) oj.op (evO C env) := by simp only [kind1, hj, wj]
        rw [kki, kkj] at hc
        cases hki : kindV (boxRef C f oi) (takes C f ops oi) oi.op (evO C env) with
        | silent =>
          obtain ⟨e1, e2⟩ := kindA_silent hki oiv s2
          subst e1
          exact ⟨s2, .inl ⟨wj, ojv, tj⟩, .inl ⟨wi, e2, ti⟩⟩
        | reader =>
          have e1 := kindA_reader hki oiv
          subst e1
          cases hkj : kindV (boxRef C f oj) (takes C f ops oj) oj.op (evO C env) with
          | silent =>
            obtain ⟨e2, e3⟩ := kindA_silent hkj ojv s1
            subst e2
            exact ⟨s2, .inl ⟨wj, e3, tj⟩, .inl ⟨wi, oiv, ti⟩⟩
          | reader =>
            have e2 := kindA_reader hkj ojv
            subst e2
            exact ⟨s2, .inl ⟨wj, ojv, tj⟩, .inl ⟨wi, oiv, ti⟩⟩
          | writer => rw [hki, hkj] at hc; cases hc
          | alloc =>
            obtain ⟨t, ht⟩ := kindA_alloc hkj
            have hB : ∃ x, has s1 B = false ∧ s2 = putAt s1 B x := by
              rw [ht] at ojv
              simp only [opA, aAllocAt] at ojv
              split at ojv
              · split at ojv
                · rename_i hcc
                  cases ojv
                  simp only [Bool.and_eq_true, Bool.not_eq_true'] at hcc
                  exact ⟨_, hcc.2, rfl⟩
                · cases ojv
              · cases ojv
            obtain ⟨x, hB, rfl⟩ := hB
            exact ⟨_, .inl ⟨wj, ojv, tj⟩, .inl ⟨wi, kindA_reader_put hki oiv hB x, ti⟩⟩
        | alloc =>
          cases hkj : kindV (boxRef C f oj) (takes C f ops oj) oj.op (evO C env) with
          | silent =>
            obtain ⟨e2, e3⟩ := kindA_silent hkj ojv s
            subst e2
            exact ⟨s, .inl ⟨wj, e3, tj⟩, .inl ⟨wi, oiv, ti⟩⟩
          | reader => rw [hki, hkj] at hc; cases hc
          | writer => rw [hki, hkj] at hc; cases hc
          | alloc =>
            obtain ⟨t, ht⟩ := kindA_alloc hki
            obtain ⟨t', ht'⟩ := kindA_alloc hkj
            rw [ht] at oiv ⊢
            rw [ht'] at ojv ⊢
            simp only [opA] at oiv ojv ⊢
            obtain ⟨s3, h3, h4⟩ := alloc_swap oiv ojv
            exact ⟨s3, .inl ⟨wj, h3, tj ▸ (by rw [ht'])⟩, .inl ⟨wi, h4, ti ▸ (by rw [ht])⟩⟩
        | writer =>
          cases hkj : kindV (boxRef C f oj) (takes C f ops oj) oj.op (evO C env) with
          | silent =>
            obtain ⟨e2, e3⟩ := kindA_silent hkj ojv s
            subst e2
            exact ⟨s, .inl ⟨wj, e3, tj⟩, .inl ⟨wi, oiv, ti⟩⟩
          | reader => rw [hki, hkj] at hc; cases hc
          | writer => rw [hki, hkj] at hc; cases hc
          | alloc => rw [hki, hkj] at hc; cases hc
      · exact ⟨s, .inr ⟨wj, rfl, rfl, tj⟩, .inl ⟨wi, oiv, ti⟩⟩
    · rcases hj' with ⟨wj, ojv, tj⟩ | ⟨wj, rfl, rfl, tj⟩
      · exact ⟨s2, .inl ⟨wj, ojv, tj⟩, .inr ⟨wi, rfl, rfl, ti⟩⟩
      · exact ⟨_, .inr ⟨wj, rfl, rfl, tj⟩, .inr ⟨wi, rfl, rfl, ti⟩⟩
  obtain ⟨s1', gj, gi⟩ := heap
  refine ⟨(putE env tkj oj.dst rj, s1'), ?_, ?_, kj, ki s1'⟩
  · simp only [exec1A, hj]
    rw [if_pos hdj]
    rcases gj with ⟨wj, ojv, tj⟩ | ⟨wj, rfl, rfl, tj⟩
    · rw [wj]; simp only [ojv]; rw [tj]; rfl
    · rw [wj, tj]; rfl
  · simp only [exec1A, hi]
    rw [if_pos hdi, p1, hcomm]
    rcases gi with ⟨wi, oiv, ti⟩ | ⟨wi, rfl, rfl, ti⟩
    · rw [wi]; simp only [p2, oiv]; rw [ti]; rfl
    · rw [wi, ti]; rfl

end Go.Abs
