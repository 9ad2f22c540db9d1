/- A statement's operations, in whatever order Go takes them. -/
import Derived.Test.YtionohfkjdahlaaDoorAbsK
namespace Go.Abs
open Go

def feeds (ops : List Oper) (d : Nat) : Bool :=
  ops.any fun q => match q.op with
    | .call c => (match c.callee with
      | .builtin .append => (match (c.args[0]? : Option Operand) with
        | some (.tmp t) => t == d
        | _ => false)
      | _ => false)
    | _ => false

/-- Does this 'move' or 'load' hand on the room? -/
def takes (C : Cfg) (f : FuncId) (ops : List Oper) (o : Oper) : Bool :=
  match o.op, o.dst with
  | .move _, some d => C.own f d || feeds ops d
  | .load _ _, some d => C.own f d || feeds ops d
  | _, _ => false

def boxRef (C : Cfg) (f : FuncId) (o : Oper) : Bool :=
  match o.dst with
  | some d => C.ref f d
  | none => false

/-- Does the operation's guard let it run? -/
def wantedA (ops : List Oper) (o : Oper) (env : Env) : Option Bool :=
  match o.guard with
  | none => some true
  | some (j, want) => match (ops[j]?).bind (·.dst) with
    | some d => match env d with
      | .bool b => some (b == want)
      | .tup _ => some false
      | _ => none
    | none => none

def dstOK (N : Nat) (o : Oper) : Bool :=
  match o.dst with
  | some d => d < N
  | none => true

abbrev Stt := Env × Heap

def exec1 (C : Cfg) (D : Den) (f : FuncId) (N : Nat) (ops : List Oper) (i : Nat) (st : Stt) : Option Stt :=
  match ops[i]? with
  | none => some st
  | some o => if dstOK N o then
      match wantedA ops o st.1 with
      | none => none
      | some true => match opV C D (boxRef C f o) (takes C f ops o) o.op (evO C st.1) st.2 with
        | some (r, s') => some (setE (stripE st.1 (takeOf (takes C f ops o) o.op)) o.dst r, s')
        | none => none
      | some false => some (setE st.1 o.dst (.tup []), st.2)
    else none

theorem evO_const {C : Cfg} {env : Env} (x : Operand) (h : ∀ t, x ≠ .tmp t) : (evO C env x).isOwn = false := by
  cases x with
  | tmp t => exact absurd rfl (h t)
  | const v => exact ofConst_isOwn v
  | global g => simp only [evO]; split <;> rfl
  | func f => rfl

theorem evO_rel {C : Cfg} {W0 : World} {N : Nat} {L : Lay} {ow : Owns} {env : Env} {s : Heap} {a : Act} {w : World} (hg : GlobOK C L) (h : Fr W0 N L ow env s a w) (x : Operand) : Rel L (evO C env x) (a.eval x) := by
  cases x with
  | tmp t => exact h.rel t
  | const v => exact rel_ofConst L v
  | global g =>
    simp only [evO, Act.eval]
    split
    · rename_i cs e
      exact .box g 0 cs 0 (hg g cs e)
    · exact .undef _
  | func f => exact .fn f [] [] [] [] .nil .nil

/-- An operation; a new variable gets an entry of one's own choice. -/
def opA (C : Cfg) (D : Den) (rf tk : Bool) (o : Op) (ρ : Operand → AV) (A : Nat) (s : Heap) : Option (AV × Heap) :=
  match o with
  | .alloc t => aAllocAt C.P t A s
  | _ => opV C D rf tk o ρ s
theorem opA_of {C : Cfg} {D : Den} {rf tk : Bool} {o : Op} {ρ : Operand → AV} {s : Heap} {x : AV × Heap} (h : opV C D rf tk o ρ s = some x) : opA C D rf tk o ρ s.length s = some x := by
  unfold opA
  split
  · exact aAlloc_at h
  · exact h
theorem opA_ok {C : Cfg} {W0 : World} {L : Lay} {ow : Owns} {s s' : Heap} {w : World} {r : AV} (hgl : ∀ g cs, C.glob g = some cs → noRefL cs = true) {D : Den} (hD : DOK C W0 D) {rf tk : Bool} {o : Oper} {ρ : Operand → AV} {A : Nat} (hr : opA C D rf tk o.op ρ A s = some (r, s')) (hg : GlobOK C L) (hst : St W0 L ow s w)
    {σ : Operand → Value} (hρ : ∀ x ∈ o.op.operands, Rel L (ρ x) (σ x)) (hown : ∀ t, takeOf tk o.op = some t → OwnAt L ow w .arg (ρ (.tmp t)) (σ (.tmp t)))
    (hconst : ∀ x, (∀ t, x ≠ .tmp t) → (ρ x).isOwn = false) : OpW C.P o σ w (Res W0 L ow w r s') := by
  unfold opA at hr
  split at hr
  · rename_i t ho
    have he : execOp σ o = (do pure (.value (← Instr.alloc t true (.tuple #[]))) : Sem Next) := by unfold execOp; rw [ho]
    unfold aAllocAt at hr
    split at hr
    · rename_i a ha
      split at hr
      · rename_i hs
        cases hr
        simp only [Bool.and_eq_true, Bool.not_eq_true', List.isEmpty_eq_false_iff] at hs
        obtain ⟨u, w', h1, h2⟩ := alloc_ok (P := C.P) hst hs.2 ha hs.1.1 hs.1.2
        exact opW_val he h1 h2
      · cases hr
    · cases hr
  · exact opV_ok hgl hD hr hg hst hρ hown hconst

def exec1A (C : Cfg) (D : Den) (f : FuncId) (N : Nat) (ops : List Oper) (A i : Nat) (st : Stt) : Option Stt :=
  match ops[i]? with
  | none => some st
  | some o => if dstOK N o then
      match wantedA ops o st.1 with
      | none => none
      | some true => match opA C D (boxRef C f o) (takes C f ops o) o.op (evO C st.1) A st.2 with
        | some (r, s') => some (setE (stripE st.1 (takeOf (takes C f ops o) o.op)) o.dst r, s')
        | none => none
      | some false => some (setE st.1 o.dst (.tup []), st.2)
    else none
theorem exec1_A {C : Cfg} {D : Den} {f : FuncId} {N : Nat} {ops : List Oper} {i : Nat} {st st' : Stt} (h : exec1 C D f N ops i st = some st') : exec1A C D f N ops st.2.length i st = some st' := by
  unfold exec1 at h
  unfold exec1A
  split at h
  · exact h
  · split at h
    · rename_i hd
      simp only [hd, if_true]
      split at h
      · cases h
      · split at h
        · rename_i ho
          rw [opA_of ho]
          exact h
        · cases h
      · exact h
    · cases h

/-- Everything an operation needs, where it is known to be sound. -/
structure Env0 (C : Cfg) (W0 : World) (D : Den) : Prop where
  glob : ∀ g cs, C.glob g = some cs → noRefL cs = true
  den : DOK C W0 D

theorem exec1A_ok {C : Cfg} {W0 : World} {D : Den} (E : Env0 C W0 D) {f : FuncId} {N : Nat} {ops : List Oper} {A i : Nat} {st st' : Stt} (hr : exec1A C D f N ops A i st = some st') {L : Lay} {ow : Owns} {a : Act} {w : World} (hg : GlobOK C L)
    (h : Fr W0 N L ow st.1 st.2 a w) {K : Act → World → Prop} {Q : Exit → Act → World → Prop}
    (hk : ∀ L' ow' a' w', Fr W0 N L' ow' st'.1 st'.2 a' w' → Ext L ow w L' ow' w' → K a' w') : wpOp C.P ops.toArray Q i K a w := by
  unfold exec1A at hr
  unfold wpOp
  have hget : ops.toArray[i]? = ops[i]? := by simp
  split at hr
  · rename_i ho
    cases hr
    rw [hget, ho]
    exact hk L ow a w h (.refl _ _ _)
  · rename_i o ho
    rw [hget, ho]
    simp only
    split at hr
    · rename_i hd
      have hdN : ∀ d, o.dst = some d → d < N := by
        intro d e
        simpa [dstOK, e] using hd
      have hw : ∀ b, wantedA ops o st.1 = some b → Region.wanted o (yielded ops.toArray a.tmps) = b := by
        intro b hb
        unfold wantedA at hb
        unfold Region.wanted
        split at hb
        · rename_i hgd; cases hb; rw [hgd]
        · rename_i j want hgd
          rw [hgd]
          simp only
          split at hb
          · rename_i d hjd
            split at hb
            · rename_i q hq
              cases hb
              have hrel := h.rel d
              rw [hq] at hrel
              have hv : a.tmps.getD d undef = .bool q := by generalize a.tmps.getD d undef = v at hrel; cases hrel; rfl
              have hv' : a.tmps[d]? = some (.bool q) := by
                rw [Array.getD_eq_getD_getElem?] at hv
                cases hx : a.tmps[d]? with
                | none => rw [hx] at hv; simp [undef] at hv
                | some y => rw [hx] at hv; simpa using hv
              have hy : yielded ops.toArray a.tmps j = some q := by
                unfold yielded
                have : ((ops.toArray[j]?).bind (·.dst)).bind (a.tmps[·]?) = some (.bool q) := by
                  rw [show ops.toArray[j]? = ops[j]? by simp, hjd]; simpa using hv'
                rw [this]
              rw [hy]
              cases q <;> cases want <;> rfl
            · rename_i vs hq
              cases hb
              have hrel := h.rel d
              rw [hq] at hrel
              have hv : ∃ us, a.tmps.getD d undef = .tuple us := by generalize a.tmps.getD d undef = v at hrel; cases hrel; exact ⟨_, rfl⟩
              obtain ⟨us, hv⟩ := hv
              have hy : yielded ops.toArray a.tmps j = none := by
                unfold yielded
                have : ((ops.toArray[j]?).bind (·.dst)).bind (a.tmps[·]?) = none ∨ ((ops.toArray[j]?).bind (·.dst)).bind (a.tmps[·]?) = some (.tuple us) := by
                  rw [show ops.toArray[j]? = ops[j]? by simp, hjd]
                  rw [Array.getD_eq_getD_getElem?] at hv
                  cases hx : a.tmps[d]? with
                  | none => exact .inl (by simpa using hx)
                  | some y => rw [hx] at hv; right; simp at hv; subst hv; simpa using hx
                rcases this with e | e <;> rw [e]
              rw [hy]
              rfl
            · cases hb
          · cases hb
      split at hr
      · cases hr
      · rename_i hwa
        rw [hw true hwa]
        simp only [if_true]
        split at hr
        · rename_i r s' hop
          cases hr
          refine .inl ?_
          have hx : OpW C.P o a.eval w (Res W0 L (frameOw ow (takeOf (takes C f ops o) o.op)) w r s') := by
            refine opA_ok E.glob E.den hop hg (h.st.framed _) (fun x _ => evO_rel hg h x) (fun t ht => ?_) (fun x hx => evO_const x hx)
            refine (h.own t).move fun b hb => ⟨?_, fun _ => rfl, rfl⟩
            simp [frameOw, hb, ht]
          refine hx.wp fun v w' ⟨L', ow', r1, r2, r3, r4⟩ => ?_
          obtain ⟨k1, k2⟩ := h.step (takeOf (takes C f ops o) o.op) o.dst hdN r1 r2 r3 r4
          exact hk L' _ _ w' k1 k2
        · cases hr
      · rename_i hwa
        cases hr
        rw [hw false hwa]
        simp only [Bool.false_eq_true, if_false]
        have := h.step none o.dst hdN (L' := L) (ow' := frameOw ow none) (r := .tup []) (v := undef) (.refl _ _ _) (h.st.framed none) (.tup [] [] .nil) trivial
        exact hk L _ _ w this.1 this.2
    · cases hr

theorem exec1_ok {C : Cfg} {W0 : World} {D : Den} (E : Env0 C W0 D) {f : FuncId} {N : Nat} {ops : List Oper} {i : Nat} {st st' : Stt} (hr : exec1 C D f N ops i st = some st') {L : Lay} {ow : Owns} {a : Act} {w : World} (hg : GlobOK C L)
    (h : Fr W0 N L ow st.1 st.2 a w) {K : Act → World → Prop} {Q : Exit → Act → World → Prop}
    (hk : ∀ L' ow' a' w', Fr W0 N L' ow' st'.1 st'.2 a' w' → Ext L ow w L' ow' w' → K a' w') : wpOp C.P ops.toArray Q i K a w :=
  exec1A_ok E (exec1_A hr) hg h hk

/-- The operations in the text's order. -/
def execL (C : Cfg) (D : Den) (f : FuncId) (N : Nat) (ops : List Oper) : List Nat → Stt → Option Stt
  | [], st => some st
  | i :: l, st => match exec1 C D f N ops i st with
    | some st' => execL C D f N ops l st'
    | none => none

theorem execL_ok {C : Cfg} {W0 : World} {D : Den} (E : Env0 C W0 D) {f : FuncId} {N : Nat} {ops : List Oper} : ∀ (l : List Nat) {st st' : Stt}, execL C D f N ops l st = some st' → ∀ {L : Lay} {ow : Owns} {a : Act} {w : World}, GlobOK C L →
    Fr W0 N L ow st.1 st.2 a w → ∀ {Q : Exit → Act → World → Prop}, (∀ L' ow' a' w', Fr W0 N L' ow' st'.1 st'.2 a' w' → Ext L ow w L' ow' w' → Q .normal a' w') → wpOps C.P ops.toArray Q l a w
  | [], st, st', hr, L, ow, a, w, hg, h, Q, hq => by
    cases hr
    exact hq L ow a w h (.refl _ _ _)
  | i :: l, st, st', hr, L, ow, a, w, hg, h, Q, hq => by
    simp only [execL] at hr
    split at hr
    · rename_i st1 h1
      rw [wpOps_cons]
      refine exec1_ok E h1 hg h fun L' ow' a' w' hf hx => ?_
      exact execL_ok E l hr (hg.mono hx.le) hf fun L'' ow'' a'' w'' hf' hx' => hq L'' ow'' a'' w'' hf' (hx.trans hx')
    · cases hr

end Go.Abs
