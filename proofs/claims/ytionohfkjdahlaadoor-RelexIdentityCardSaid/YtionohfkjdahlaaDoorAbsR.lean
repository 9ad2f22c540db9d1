/- strings.Builder in the abstract machine: what copyCheck and String come to. -/
import Derived.Test.YtionohfkjdahlaaDoorAbsU
namespace Go.Abs
open Go

/-- The bytes of elements. -/
def asBytes : List AV → Option (List UInt8)
  | [] => some []
  | .int .u8 n :: r => if 0 ≤ n ∧ n < 256 then (asBytes r).map (UInt8.ofNat n.toNat :: ·) else none
  | _ :: _ => none

theorem asBytes_bytes (bs : List UInt8) : asBytes (bs.map fun b => .int .u8 b.toNat) = some bs := by
  induction bs with
  | nil => rfl
  | cons b bs ih =>
    have := b.toNat_lt
    simp only [List.map_cons, asBytes, ih]
    rw [if_pos (by constructor <;> omega)]
    simp

/-- (*strings.Builder).copyCheck: the builder's own address goes into its first cell. -/
def bCheck (ty : TypeId) (args : List AV) (s : Heap) : Option (AV × Heap) :=
  match args with
  | [.ref id 0] => match s[id]? with
    | some (t, [.nilp, b]) => if t = ty then some (.tup [], s.set id (t, [.ref id 0, b])) else none
    | some (_, [.ref id' 0, _]) => if id' = id then some (.tup [], s) else none
    | _ => none
  | _ => none

/-- (*strings.Builder).String: the bytes; the buffer's room is ours no more. -/
def bString (bt : TypeId) (args : List AV) (s : Heap) : Option (AV × Heap) :=
  match args with
  | [.ref id 0] => match s[id]? with
    | some (_, [_, .nils]) => some (.str [], s)
    | some (t, [a, .sl ty 1 xs .own]) => if ty = bt then match asBytes xs with
      | some (b :: bs) => if bs.length < 1000000000000 then some (.str (b :: bs), s.set id (t, [a, .sl ty 1 xs .sh])) else none
      | _ => none
      else none
    | _ => none
  | _ => none

end Go.Abs
