/- The abstract values, and how they stand for values in a world. No program in sight. -/
import Derived.Orders
import Derived.Below
namespace Go.Abs
open Go

/-- A value that fills one cell. -/
def oneC : Value → Bool
  | .agg _ | .tuple _ => false
  | _ => true

inductive Flag where
  | sh | own | full
  deriving DecidableEq

/-- A value by its content: pointers to cells that no longer change stand by those cells ('box'), slices by their elements ('sl': the cells of an element, the elements, whether the room behind them is ours). 'ref': a pointer to one of the call's own variables. -/
inductive AV where
  | undef
  | bool (b : Bool)
  | int (k : IntKind) (n : Int)
  | str (s : List UInt8)
  | nilp
  | box (cs : List AV) (off : Nat)
  | ref (id off : Nat)
  | nils
  | sl (ty : TypeId) (z : Nat) (xs : List AV) (f : Flag)
  | nilm
  | nilf
  | nili
  | fn (f : FuncId) (first captured : List AV)
  | agg (cs : List AV)
  | tup (vs : List AV)
  deriving Inhabited

def AV.cells : AV → List AV
  | .agg cs => cs
  | v => [v]

def AV.strip : AV → AV
  | .sl ty z xs .own => .sl ty z xs .sh
  | v => v

def AV.isOwn : AV → Bool
  | .sl _ _ _ .own => true
  | _ => false

def cellsOf (xs : List AV) : List AV := xs.flatMap AV.cells

mutual
def AV.noRef : AV → Bool
  | .box cs _ => noRefL cs
  | .ref _ _ => false
  | .sl _ _ xs _ => noRefL xs
  | .fn _ a b => noRefL a && noRefL b
  | .agg cs => noRefL cs
  | .tup vs => noRefL vs
  | _ => true
def noRefL : List AV → Bool
  | [] => true
  | x :: xs => x.noRef && noRefL xs
end

/-- What is known of memory: the cells that no longer change; how many variables of the call's own there are, and the block of each. -/
structure Lay where
  S : Nat → Nat → Option Value
  live : Nat → Bool
  loc : Nat → Nat

mutual
inductive Rel (L : Lay) : AV → Value → Prop
  | undef (v : Value) : Rel L .undef v
  | bool (b : Bool) : Rel L (.bool b) (.bool b)
  | int (k : IntKind) (n : Int) : Rel L (.int k n) (.int k n)
  | str (s : List UInt8) : Rel L (.str s) (.string ⟨s.toArray⟩)
  | nilp : Rel L .nilp (.pointer none)
  | box (b o : Nat) (cs : List AV) (off : Nat) (h : RelC L b o cs) : Rel L (.box cs off) (.pointer (some ⟨b, o + off, none⟩))
  | ref (id off : Nat) (h : L.live id = true) : Rel L (.ref id off) (.pointer (some ⟨L.loc id, off, none⟩))
  | nils : Rel L .nils (.slice none 0 0)
  | sl (b o : Nat) (ty : TypeId) (z : Nat) (xs : List AV) (f : Flag) (cap : Nat) (h : RelC L b o (cellsOf xs)) (hz : ∀ x ∈ xs, x.cells.length = z) (hc : xs.length ≤ cap ∧ (f = .full → cap = xs.length)) : Rel L (.sl ty z xs f) (.slice (some ⟨b, o, none⟩) xs.length cap)
  | nilm : Rel L .nilm (.map none)
  | nilf : Rel L .nilf .nilFunc
  | nili : Rel L .nili .nilIface
  | fn (f : FuncId) (first captured : List AV) (vs ws : List Value) (h : RelL L first vs) (h' : RelL L captured ws) :
      Rel L (.fn f first captured) (.func (.func f) vs.toArray ws.toArray)
  | agg (cs : List AV) (vs : List Value) (h : RelL L cs vs) (hv : ∀ v ∈ vs, oneC v = true) : Rel L (.agg cs) (.agg vs.toArray)
  | tup (cs : List AV) (vs : List Value) (h : RelL L cs vs) : Rel L (.tup cs) (.tuple vs.toArray)
inductive RelL (L : Lay) : List AV → List Value → Prop
  | nil : RelL L [] []
  | cons (a : AV) (v : Value) (as : List AV) (vs : List Value) (h : Rel L a v) (t : RelL L as vs) : RelL L (a :: as) (v :: vs)
inductive RelC (L : Lay) : Nat → Nat → List AV → Prop
  | nil (b o : Nat) : RelC L b o []
  | cons (b o : Nat) (a : AV) (as : List AV) (v : Value) (hs : L.S b o = some v) (hv : oneC v = true) (h : Rel L a v) (t : RelC L b (o + 1) as) : RelC L b o (a :: as)
end

/-- What only grows. -/
structure Lay.le (L L' : Lay) : Prop where
  S : ∀ b o v, L.S b o = some v → L'.S b o = some v
  live : ∀ id, L.live id = true → L'.live id = true
  loc : ∀ id, L.live id = true → L'.loc id = L.loc id

theorem Lay.le.refl (L : Lay) : L.le L := ⟨fun _ _ _ h => h, fun _ h => h, fun _ _ => rfl⟩
theorem Lay.le.trans {L L' L'' : Lay} (h : L.le L') (k : L'.le L'') : L.le L'' :=
  ⟨fun b o v x => k.S b o v (h.S b o v x), fun id hi => k.live id (h.live id hi), fun id hi => (k.loc id (h.live id hi)).trans (h.loc id hi)⟩

mutual
theorem Rel.mono {L L' : Lay} (hL : L.le L') : ∀ {a : AV} {v : Value}, Rel L a v → Rel L' a v
  | _, _, .undef v => .undef v
  | _, _, .bool b => .bool b
  | _, _, .int k n => .int k n
  | _, _, .str s => .str s
  | _, _, .nilp => .nilp
  | _, _, .box b o cs off h => .box b o cs off (RelC.mono hL h)
  | _, _, .ref id off h => by
    rw [← hL.loc id h]; exact .ref id off (hL.live id h)
  | _, _, .nils => .nils
  | _, _, .sl b o ty z xs f cap h hz hc => .sl b o ty z xs f cap (RelC.mono hL h) hz hc
  | _, _, .nilm => .nilm
  | _, _, .nilf => .nilf
  | _, _, .nili => .nili
  | _, _, .fn f x y vs ws h h' => .fn f x y vs ws (RelL.mono hL h) (RelL.mono hL h')
  | _, _, .agg cs vs h hv => .agg cs vs (RelL.mono hL h) hv
  | _, _, .tup cs vs h => .tup cs vs (RelL.mono hL h)
theorem RelL.mono {L L' : Lay} (hL : L.le L') : ∀ {a : List AV} {v : List Value}, RelL L a v → RelL L' a v
  | _, _, .nil => .nil
  | _, _, .cons a v as vs h t => .cons a v as vs (Rel.mono hL h) (RelL.mono hL t)
theorem RelC.mono {L L' : Lay} (hL : L.le L') : ∀ {b o : Nat} {a : List AV}, RelC L b o a → RelC L' b o a
  | _, _, _, .nil b o => .nil b o
  | _, _, _, .cons b o a as v hs hv h t => .cons b o a as v (hL.S b o v hs) hv (Rel.mono hL h) (RelC.mono hL t)
end

mutual
/-- A value without pointers to the call's own variables stands whatever those are. -/
theorem Rel.free {L L' : Lay} (hS : ∀ b o v, L.S b o = some v → L'.S b o = some v) : ∀ {a : AV} {v : Value}, Rel L a v → a.noRef = true → Rel L' a v
  | _, _, .undef v, _ => .undef v
  | _, _, .bool b, _ => .bool b
  | _, _, .int k n, _ => .int k n
  | _, _, .str s, _ => .str s
  | _, _, .nilp, _ => .nilp
  | _, _, .box b o cs off h, e => .box b o cs off (RelC.free hS h (by simpa [AV.noRef] using e))
  | _, _, .ref id off h, e => by simp [AV.noRef] at e
  | _, _, .nils, _ => .nils
  | _, _, .sl b o ty z xs f cap h hz hc, e => .sl b o ty z xs f cap (RelC.free hS h (by
      have e' : noRefL xs = true := by simpa [AV.noRef] using e
      exact noRefL_cells xs e')) hz hc
  | _, _, .nilm, _ => .nilm
  | _, _, .nilf, _ => .nilf
  | _, _, .nili, _ => .nili
  | _, _, .fn f x y vs ws h h', e => by
      simp only [AV.noRef, Bool.and_eq_true] at e
      exact .fn f x y vs ws (RelL.free hS h e.1) (RelL.free hS h' e.2)
  | _, _, .agg cs vs h hv, e => .agg cs vs (RelL.free hS h (by simpa [AV.noRef] using e)) hv
  | _, _, .tup cs vs h, e => .tup cs vs (RelL.free hS h (by simpa [AV.noRef] using e))
theorem RelL.free {L L' : Lay} (hS : ∀ b o v, L.S b o = some v → L'.S b o = some v) : ∀ {a : List AV} {v : List Value}, RelL L a v → noRefL a = true → RelL L' a v
  | _, _, .nil, _ => .nil
  | _, _, .cons a v as vs h t, e => by
      simp only [noRefL, Bool.and_eq_true] at e
      exact .cons a v as vs (Rel.free hS h e.1) (RelL.free hS t e.2)
theorem RelC.free {L L' : Lay} (hS : ∀ b o v, L.S b o = some v → L'.S b o = some v) : ∀ {b o : Nat} {a : List AV}, RelC L b o a → noRefL a = true → RelC L' b o a
  | _, _, _, .nil b o, _ => .nil b o
  | _, _, _, .cons b o a as v hs hv h t, e => by
      simp only [noRefL, Bool.and_eq_true] at e
      exact .cons b o a as v (hS b o v hs) hv (Rel.free hS h e.1) (RelC.free hS t e.2)
theorem noRefL_cells : ∀ (xs : List AV), noRefL xs = true → noRefL (cellsOf xs) = true
  | [], _ => rfl
  | x :: xs, e => by
      simp only [noRefL, Bool.and_eq_true] at e
      have ih := noRefL_cells xs e.2
      have app : ∀ (a b : List AV), noRefL a = true → noRefL b = true → noRefL (a ++ b) = true := by
        intro a b ha hb
        induction a with
        | nil => exact hb
        | cons y ys ih => simp only [noRefL, Bool.and_eq_true, List.cons_append] at *; exact ⟨ha.1, ih ha.2⟩
      show noRefL (x.cells ++ cellsOf xs) = true
      refine app _ _ ?_ ih
      cases x <;> simp_all [AV.cells, noRefL, AV.noRef]
end

theorem Rel.strip {L : Lay} {a : AV} {v : Value} (h : Rel L a v) : Rel L a.strip v := by
  cases h with
  | sl b o ty z xs f cap h hz hc =>
    cases f with
    | own => exact .sl b o ty z xs .sh cap h hz ⟨hc.1, nofun⟩
    | sh => exact .sl b o ty z xs .sh cap h hz hc
    | full => exact .sl b o ty z xs .full cap h hz hc
  | undef v => exact .undef v
  | bool b => exact .bool b
  | int k n => exact .int k n
  | str s => exact .str s
  | nilp => exact .nilp
  | box b o cs off h => exact .box b o cs off h
  | ref id off h => exact .ref id off h
  | nils => exact .nils
  | nilm => exact .nilm
  | nilf => exact .nilf
  | nili => exact .nili
  | fn f x y vs ws h h' => exact .fn f x y vs ws h h'
  | agg cs vs h hv => exact .agg cs vs h hv
  | tup cs vs h => exact .tup cs vs h

theorem strip_isOwn (a : AV) : a.strip.isOwn = false := by
  cases a with
  | sl ty z xs f => cases f <;> rfl
  | _ => rfl

theorem RelL.length {L : Lay} : ∀ {as : List AV} {vs : List Value}, RelL L as vs → as.length = vs.length
  | _, _, .nil => rfl
  | _, _, .cons _ _ _ _ _ t => by simp [RelL.length t]

theorem RelL.get {L : Lay} : ∀ {as : List AV} {vs : List Value}, RelL L as vs → ∀ (i : Nat) (a : AV), as[i]? = some a → ∃ v, vs[i]? = some v ∧ Rel L a v
  | _, _, .cons a v as vs h t, 0, x, e => by simp at e; exact ⟨v, by simp, e ▸ h⟩
  | _, _, .cons a v as vs h t, i + 1, x, e => by simp at e; obtain ⟨u, hu, r⟩ := RelL.get t i x e; exact ⟨u, by simpa using hu, r⟩

theorem RelL.append {L : Lay} : ∀ {as bs : List AV} {vs ws : List Value}, RelL L as vs → RelL L bs ws → RelL L (as ++ bs) (vs ++ ws)
  | _, _, _, _, .nil, k => k
  | _, _, _, _, .cons a v as vs h t, k => .cons a v _ _ h (RelL.append t k)

theorem RelL.drop {L : Lay} : ∀ (n : Nat) {as : List AV} {vs : List Value}, RelL L as vs → RelL L (as.drop n) (vs.drop n)
  | 0, _, _, h => by simpa using h
  | n + 1, _, _, .nil => by simpa using RelL.nil
  | n + 1, _, _, .cons a v as vs h t => by simpa using RelL.drop n t

theorem RelL.take {L : Lay} : ∀ (n : Nat) {as : List AV} {vs : List Value}, RelL L as vs → RelL L (as.take n) (vs.take n)
  | 0, _, _, _ => by simpa using RelL.nil
  | n + 1, _, _, .nil => by simpa using RelL.nil
  | n + 1, _, _, .cons a v as vs h t => by simpa using RelL.cons a v _ _ h (RelL.take n t)

theorem RelL.set {L : Lay} : ∀ (i : Nat) {as : List AV} {vs : List Value} {a : AV} {v : Value}, RelL L as vs → Rel L a v → RelL L (as.set i a) (vs.set i v)
  | _, _, _, _, _, .nil, _ => by simpa using RelL.nil
  | 0, _, _, _, _, .cons a v as vs h t, k => .cons _ _ _ _ k t
  | i + 1, _, _, _, _, .cons a v as vs h t, k => .cons _ _ _ _ h (RelL.set i t k)

theorem RelL.snoc {L : Lay} {as : List AV} {vs : List Value} {a : AV} {v : Value} (h : RelL L as vs) (k : Rel L a v) : RelL L (as ++ [a]) (vs ++ [v]) :=
  h.append (.cons _ _ _ _ k .nil)

theorem RelC.append {L : Lay} : ∀ {b o : Nat} {as bs : List AV}, RelC L b o as → RelC L b (o + as.length) bs → RelC L b o (as ++ bs)
  | _, _, _, _, .nil b o, k => by simpa using k
  | _, _, _, _, .cons b o a as v hs hv h t, k => .cons b o a _ v hs hv h (RelC.append t (by simpa [Nat.add_assoc, Nat.add_comm 1] using k))

theorem RelC.left {L : Lay} : ∀ {b o : Nat} (as : List AV) {bs : List AV}, RelC L b o (as ++ bs) → RelC L b o as
  | b, o, [], _, _ => .nil b o
  | _, _, a :: as, _, .cons b o _ _ v hs hv h t => .cons b o a as v hs hv h (RelC.left as t)

theorem RelC.right {L : Lay} : ∀ {b o : Nat} (as : List AV) {bs : List AV}, RelC L b o (as ++ bs) → RelC L b (o + as.length) bs
  | b, o, [], _, h => by simpa using h
  | _, _, a :: as, _, .cons b o _ _ v hs hv h t => by
    have := RelC.right as t
    simpa [Nat.add_assoc, Nat.add_comm 1] using this

theorem RelC.get {L : Lay} : ∀ {b o : Nat} {as : List AV}, RelC L b o as → ∀ (i : Nat) (a : AV), as[i]? = some a → ∃ v, L.S b (o + i) = some v ∧ oneC v = true ∧ Rel L a v
  | _, _, _, .cons b o a as v hs hv h t, 0, x, e => by simp at e; exact ⟨v, by simpa using hs, hv, e ▸ h⟩
  | _, _, _, .cons b o a as v hs hv h t, i + 1, x, e => by
    simp at e; obtain ⟨u, hu, r⟩ := RelC.get t i x e; exact ⟨u, by rw [← hu]; congr 1; omega, r⟩

/-- The cells as values, of a row of cells that no longer change. -/
theorem RelC.vals {L : Lay} : ∀ {b o : Nat} {as : List AV}, RelC L b o as → ∃ vs : List Value, RelL L as vs ∧ (∀ v ∈ vs, oneC v = true) ∧ ∀ i v, vs[i]? = some v → L.S b (o + i) = some v
  | _, _, _, .nil b o => ⟨[], .nil, by simp, by simp⟩
  | _, _, _, .cons b o a as v hs hv h t => by
    obtain ⟨vs, h1, h2, h3⟩ := RelC.vals t
    refine ⟨v :: vs, .cons _ _ _ _ h h1, by simpa using ⟨hv, h2⟩, ?_⟩
    intro i u hu
    cases i with
    | zero => simp at hu; subst hu; simpa using hs
    | succ i => simp at hu; have := h3 i u hu; rw [← this]; congr 1; omega

theorem RelC.of {L : Lay} : ∀ {as : List AV} {vs : List Value}, RelL L as vs → (∀ v ∈ vs, oneC v = true) → ∀ {b o : Nat}, (∀ i v, vs[i]? = some v → L.S b (o + i) = some v) → RelC L b o as
  | _, _, .nil, _, b, o, _ => .nil b o
  | _, _, .cons a v as vs h t, h1, b, o, hs =>
    .cons b o a as v (by simpa using hs 0 v (by simp)) (h1 v (by simp)) h (RelC.of t (fun u hu => h1 u (by simp [hu])) (by intro i u hu; have := hs (i + 1) u (by simpa using hu); rw [← this]; congr 1; omega))

end Go.Abs
