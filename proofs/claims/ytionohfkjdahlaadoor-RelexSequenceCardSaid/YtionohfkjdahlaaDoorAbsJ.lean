/- One operation of a call, whichever it is. -/
import Derived.Test.YtionohfkjdahlaaDoorAbsI
namespace Go.Abs
open Go

structure Cfg where
  P : Program
  /-- package-level variables that hold what is known -/
  glob : Nat → Option (List AV)
  /-- functions taken by their contract -/
  ext : FuncId → Option (List AV → Heap → Option (AV × Heap))
  /-- 'box' at this slot makes a variable that is written later -/
  ref : FuncId → Tmp → Bool
  /-- 'move', 'load' at this slot hand on the room behind the elements -/
  own : FuncId → Tmp → Bool

abbrev Den := FuncId → List AV → Heap → Option (AV × Heap)

def evO (C : Cfg) (env : Env) : Operand → AV
  | .tmp t => env t
  | .const v => ofConst v
  | .global g => match C.glob g with
    | some cs => .box cs 0
    | none => .undef
  | .func f => .fn f [] []

def enterable (P : Program) (g : FuncId) : Bool :=
  match P.funcs[g]? with
  | some fn => fn.body.isSome && !(fn.name == "runtime.NumGoroutine")
  | none => false

/-- A call: where no argument leads to the caller's variables, the callee sees none. -/
def aCall (P : Program) (D : Den) (g : FuncId) (args : List AV) (s : Heap) : Option (AV × Heap) :=
  if enterable P g then
    if noRefL args then
      match D g args [] with
      | some (v, _) => if v.noRef then some (v, s) else none
      | none => none
    else D g args s
  else none

def aBuiltin (P : Program) (b : Builtin) (ts : List TypeId) (xs : List AV) : Option AV :=
  match b, ts, xs with
  | .len, t :: _, [x] => aLen P t x
  | .min, _, [x, y] => aMin x y
  | .max, _, [x, y] => aMax x y
  | .append, [t, t2], [x, y] => aAppend P t t2 x y
  | _, _, _ => none

/-- A load that hands on the room behind the elements. -/
def aLoadT (s : Heap) (id off : Nat) : Option (AV × Heap) :=
  match s[id]? with
  | some cs => match cs.2[off]? with
    | some v => some (v, s.set id (cs.1, cs.2.set off v.strip))
    | none => none
  | none => none

def aLoad (tk agg : Bool) (n : Nat) (x : AV) (s : Heap) : Option (AV × Heap) :=
  match x with
  | .box cs off => (aLoadC agg n cs off).map fun r => (r, s)
  | .ref id off => if tk && !agg then aLoadT s id off else (aLoadR agg n s id off).map fun r => (r, s)
  | _ => none

def aBox (rf : Bool) (t : TypeId) (x : AV) (s : Heap) : Option (AV × Heap) :=
  if x.solid then (if rf then (if x.cells.isEmpty then none else some (.ref s.length 0, s ++ [(t, x.cells.map AV.strip)])) else some (.box x.cells 0, s)) else none

def aAlloc (P : Program) (t : TypeId) (s : Heap) : Option (AV × Heap) :=
  match zeroOf P t with
  | some a => if a.solid && !a.cells.isEmpty then some (.ref s.length 0, s ++ [(t, a.cells.map AV.strip)]) else none
  | none => none

/-- .. at an entry of one's own choice -/
def aAllocAt (P : Program) (t : TypeId) (id : Nat) (s : Heap) : Option (AV × Heap) :=
  match zeroOf P t with
  | some a => if (a.solid && !a.cells.isEmpty) && !has s id then some (.ref id 0, putAt s id (t, a.cells.map AV.strip)) else none
  | none => none
theorem has_end (s : Heap) : has s s.length = false := by simp [has]
theorem aAlloc_at {P : Program} {t : TypeId} {s : Heap} {x : AV × Heap} (h : aAlloc P t s = some x) : aAllocAt P t s.length s = some x := by
  unfold aAlloc at h
  unfold aAllocAt
  split at h
  · simp only [has_end, Bool.not_false, Bool.and_true, putAt_end]; exact h
  · cases h

def opV (C : Cfg) (D : Den) (rf tk : Bool) (o : Op) (ρ : Operand → AV) (s : Heap) : Option (AV × Heap) :=
  match o with
  | .move x => some (if tk then ρ x else (ρ x).strip, s)
  | .assign x => some (match x with | .tmp _ => ρ x | _ => (ρ x).strip, s)
  | .pick c a b => (aPick (ρ c) (ρ a) (ρ b)).map fun r => (r, s)
  | .alloc t => aAlloc C.P t s
  | .box t x => aBox rf t (ρ x) s
  | .build t ps => (aBuild C.P t (ps.toList.map fun p => (p.1, ρ p.2))).map fun r => (r, s)
  | .buildSlice t n ps => (aBuildSlice C.P t n (ps.toList.map fun p => (p.1, ρ p.2))).map fun r => (r, s)
  | .load t a => match isAggT C.P t, szOf C.P t with
    | some agg, some n => aLoad tk agg n (ρ a) s
    | _, _ => none
  | .store t a v => match szOf C.P t with
    | some n => (aStore n s (ρ a) (match v with | .tmp _ => ρ v | _ => (ρ v).strip)).map fun s' => (.undef, s')
    | none => none
  | .nilCheck x => (aNilCheck (ρ x)).map fun r => (r, s)
  | .binOp op t x y _ => (aBin C.P op t (ρ x) (ρ y)).map fun r => (r, s)
  | .unOp op _ x => (aUn op (ρ x)).map fun r => (r, s)
  | .convert a b x => (aConv C.P a b (ρ x)).map fun r => (r, s)
  | .slice t x lo hi mx => match C.P.underlying t with
    | some (.slice e) => match szOf C.P e with
      | some _ => (aSl C.P t (ρ x) (lo.map ρ) (hi.map ρ) (mx.map ρ)).map fun r => (r, s)
      | none => none
    | _ => (aSl C.P t (ρ x) (lo.map ρ) (hi.map ρ) (mx.map ρ)).map fun r => (r, s)
  | .fieldAddr t x f => match fieldOff C.P t f with
    | some k => (aAddr k (ρ x)).map fun r => (r, s)
    | none => none
  | .field t x f => (aField C.P t f (ρ x)).map fun r => (r, s)
  | .indexAddr t x i => (aIndexAddr C.P t (ρ x) (ρ i)).map fun r => (r, s)
  | .index t x i => (aIndex C.P t (ρ x) (ρ i)).map fun r => (r, s)
  | .extract x i => (aExtract i (ρ x)).map fun r => (r, s)
  | .makeFunc (.func f) first captured => some (.fn f (first.toList.map ρ) (captured.toList.map ρ), s)
  | .call c => match c.callee with
    | .builtin b => (aBuiltin C.P b c.argTypes.toList (c.args.toList.map ρ)).map fun r => (r, s)
    | .value x => match ρ x with
      | .fn g first captured => aCall C.P D g ((first ++ c.args.toList.map ρ ++ captured).map AV.strip) s
      | _ => none
    | .invoke _ _ => none
  | _ => none

/-- The slot whose room is handed on. -/
def takeOf (tk : Bool) (o : Op) : Option Nat :=
  match o with
  | .assign (.tmp t) => some t
  | .move (.tmp t) => if tk then some t else none
  | .store _ _ (.tmp t) => some t
  | .call c => match c.callee with
    | .builtin .append => (match (c.args[0]? : Option Operand) with
      | some (.tmp t) => some t
      | _ => none)
    | _ => none
  | _ => none

def GlobOK (C : Cfg) (L : Lay) : Prop := ∀ g cs, C.glob g = some cs → RelC L g 0 cs
theorem GlobOK.mono {C : Cfg} {L L' : Lay} (h : GlobOK C L) (hL : L.le L') : GlobOK C L' := fun g cs e => (h g cs e).mono hL

/-- What a call owes. -/
def CallSpec (C : Cfg) (W0 : World) (g : FuncId) (args : List AV) (s : Heap) (v : AV) (s' : Heap) : Prop :=
  ∀ (L : Lay) (ow : Owns) (w : World) (cargs : List Value), GlobOK C L → St W0 L ow s w → RelL L args cargs →
    Calls C.P g cargs.toArray w fun e w' => ∃ cv, e = .returned cv ∧ Res W0 L ow w v s' cv w'

def DOK (C : Cfg) (W0 : World) (D : Den) : Prop := ∀ g args s v s', D g args s = some (v, s') → (∀ a ∈ args, a.isOwn = false) → CallSpec C W0 g args s v s'

/-- What an operation does to the world. -/
def OpW (P : Program) (o : Oper) (σ : Operand → Value) (w : World) (R : Value → World → Prop) : Prop :=
  (∃ v w', (execOp σ o).run P w = .ok (.value v) w' ∧ R v w') ∨ (∃ w', (execOp σ o).run P w = .ok .skip w' ∧ R undef w') ∨
  ∃ g args, (execOp σ o).run P w = .ok (.enter g args) w ∧ Calls P g args w fun e w' => ∃ v, e = .returned v ∧ R v w'

theorem OpW.wp {P : Program} {o : Oper} {a : Act} {w : World} {R : Value → World → Prop} (h : OpW P o a.eval w R) {K : Act → World → Prop} {Q : Exit → Act → World → Prop} (hk : ∀ v w', R v w' → K (a.put o.dst v) w') :
    o.wp P a w K Q := by
  unfold Oper.wp
  rcases h with ⟨v, w', h1, h2⟩ | ⟨w', h1, h2⟩ | ⟨g, args, h1, h2⟩
  · rw [h1]; exact hk v w' h2
  · rw [h1]; exact hk _ w' h2
  · rw [h1, Oper.upon_enter]
    exact h2.mono fun e w' ⟨v, he, hr⟩ => by subst he; exact hk v w' hr

section sound
variable {C : Cfg} {W0 : World} {L : Lay} {ow : Owns} {s s' : Heap} {w : World} {r : AV}

theorem opW_val {o : Oper} {σ : Operand → Value} {v : Value} {w' : World} {m : Sem Value} (he : execOp σ o = (do pure (.value (← m)) : Sem Next)) (h : m.run C.P w = .ok v w') {R : Value → World → Prop} (hr : R v w') : OpW C.P o σ w R :=
  .inl ⟨v, w', by rw [he]; simp [h], hr⟩

/-- The caller's variables are out of the callee's sight. -/
theorem pureCall (hgl : ∀ g cs, C.glob g = some cs → noRefL cs = true) {g : FuncId} {args : List AV} {v : AV} {s1 : Heap} (hc : CallSpec C W0 g args [] v s1) (hn : noRefL args = true) (hv : v.noRef = true) (hg : GlobOK C L) (h : St W0 L ow s w)
    {cargs : List Value} (ha : RelL L args cargs) : Calls C.P g cargs.toArray w fun e w' => ∃ cv, e = .returned cv ∧ Res W0 L ow w v s cv w' := by
  let L0 : Lay := { S := L.S, live := fun _ => false, loc := L.loc }
  let ow0 : Owns := fun b => if ow b = .free then .free else .frame
  have h0 : St W0 L0 ow0 [] w := by
    refine ⟨fun id => by simp [L0, has], h.imm, fun id cs e => by simp at e, fun b hb => h.used b (fun e => hb (by simp [ow0, e])), fun b hb => ?_, h.below⟩
    have := h.base b hb
    simp [ow0, this]
  have hg0 : GlobOK C L0 := fun g cs e => RelC.free (L := L) (L' := L0) (fun _ _ _ x => x) (hg g cs e) (hgl g cs e)
  refine (hc L0 ow0 w cargs hg0 h0 (RelL.free (L := L) (L' := L0) (fun _ _ _ x => x) ha hn)).mono ?_
  rintro e w' ⟨cv, rfl, L', ow', hx, hs, hr, ho⟩
  refine ⟨cv, rfl, { S := L'.S, live := L.live, loc := L.loc }, fun b => if ow b = .free then (if ow' b = .ret then .ret else .free) else ow b, ?_, ?_, Rel.free (L := L') (L' := { S := L'.S, live := L.live, loc := L.loc }) (fun _ _ _ x => x) hr hv, ?_⟩
  · refine ⟨⟨hx.le.S, fun _ h => h, fun _ _ => rfl⟩, fun b hb => ?_, hx.same⟩
    obtain ⟨k1, k2, k3⟩ := hx.fr b (by simp [ow0, hb])
    exact ⟨by simp [hb], k2, k3⟩
  · have keep : ∀ b, ow b ≠ .free → (∀ o, L'.S b o = L.S b o) ∧ w'.heap[b]? = w.heap[b]? := fun b hb => (hx.fr b (by simp [ow0, hb])).2
    refine h.move ⟨hx.le.S, fun _ h => h, fun _ _ => rfl⟩ rfl (fun b hb => ?_) hs.imm (fun b hb => ?_) (fun b hb => ?_) hs.below
    · have hne : ow b ≠ .free := by intro e; rw [e] at hb; cases hb
      obtain ⟨k1, k2⟩ := keep b hne
      exact ⟨by simp [hne], k1, k2⟩
    · by_cases hf : ow b = .free
      · simp only [hf, if_true] at hb
        by_cases hr' : ow' b = .ret
        · exact hs.used b (by rw [hr']; simp)
        · simp [hr'] at hb
      · exact Nat.lt_of_lt_of_le (h.used b hf) hx.same.size
    · have := h.base b hb
      simp [this]
  · refine ho.move fun b hb => ⟨?_, fun _ => rfl, rfl⟩
    have : ow b = .free := Classical.byContradiction fun hne => by
      have := (hx.fr b (by simp [ow0, hne])).1
      rw [hb] at this; cases this
    simp [this, hb]

theorem aCall_ok (hgl : ∀ g cs, C.glob g = some cs → noRefL cs = true) {D : Den} (hD : DOK C W0 D) {g : FuncId} {args : List AV} (hr : aCall C.P D g args s = some (r, s')) (hn : ∀ a ∈ args, a.isOwn = false) (hg : GlobOK C L) (h : St W0 L ow s w)
    {cargs : List Value} (ha : RelL L args cargs) : (callFunc g cargs.toArray).run C.P w = .ok (.enter g cargs.toArray) w ∧ Calls C.P g cargs.toArray w fun e w' => ∃ cv, e = .returned cv ∧ Res W0 L ow w r s' cv w' := by
  unfold aCall at hr
  split at hr
  · rename_i he
    refine ⟨?_, ?_⟩
    · unfold enterable at he
      split at he
      · rename_i fn hf
        simp only [Bool.and_eq_true, Bool.not_eq_true'] at he
        have h2 : fn.body.isNone = false := by cases hb : fn.body <;> simp_all
        have h1 : ¬ (fn.name == "runtime.NumGoroutine") = true := by rw [he.2]; simp
        simp only [callFunc, Sem.run_bind, run_program, Result.andThen_ok, hf]
        rw [if_neg h1, h2]
        simp
      · cases he
    · split at hr
      · rename_i hnr
        split at hr
        · rename_i v s1 hd
          split at hr
          · rename_i hv
            cases hr
            exact pureCall hgl (hD g args [] _ s1 hd hn) hnr hv hg h ha
          · cases hr
        · cases hr
      · exact hD g args s r s' hr hn L ow w cargs hg h ha
  · cases hr

end sound
end Go.Abs
