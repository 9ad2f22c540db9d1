/- What the abstract machine takes of the program for the lexer: strings.IndexByte, HasPrefix, Fields by their contracts. -/
import Derived.Test.YtionohfkjdahlaaDoorAbsR
import Derived.Test.YtionohfkjdahlaaDoorProg
import Derived.KernelRfl
import Derived.Lib.Bytealg
import Derived.Lib.Fields
namespace LexF
open Go Go.Abs Go.Proofs
def eIndex (args : List AV) (s : Heap) : Option (AV × Heap) := match args with
  | [.str a, .int .u8 c] => some (.int .i64 (Lib.indexByte a c.toNat.toUInt8), s)
  | _ => none
def ePrefix (args : List AV) (s : Heap) : Option (AV × Heap) := match args with
  | [.str a, .str b] => some (.bool (Lib.hasPrefix a b), s)
  | _ => none
def eFields (args : List AV) (s : Heap) : Option (AV × Heap) := match args with
  | [.str a] => if a.length < 1000 ∧ (a.all fun b => b.toNat < 128) = true then some (.sl 9 1 ((Lib.fields a).map .str) .sh, s) else none
  | _ => none
def asInts : List AV → Option (List Int)
  | [] => some []
  | .int .i64 z :: r => (asInts r).map (z :: ·)
  | _ :: _ => none
/-- slices.BinarySearch in sorted integers. -/
def eBin (args : List AV) (s : Heap) : Option (AV × Heap) := match args with
  | [.sl 3 1 xs .sh, .int .i64 x] => match asInts xs with
    | some zs => if zs.Pairwise (· ≤ ·) ∧ zs.length < 1000000 then some (.tup [.int .i64 (zs.countP (· < x) : Nat), .bool (zs.contains x)], s) else none
    | none => none
  | [.nils, .int .i64 _] => some (.tup [.int .i64 0, .bool false], s)
  | _ => none
noncomputable def C : Cfg := { P := Tryd.prog, glob := fun _ => none, ext := fun g => if g = 51 then some eIndex else if g = 42 then some ePrefix else if g = 63 then some eFields else if g = 66 then some (bCheck 75) else if g = 54 then some (bString 5) else if g = 55 then some eBin else none, ref := fun _ _ => false, own := fun f t => f == 23 && t == 20 }
end LexF
