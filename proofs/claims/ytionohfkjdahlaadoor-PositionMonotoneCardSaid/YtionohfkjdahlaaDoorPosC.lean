/- What the abstract machine takes of the program: strings.Count at one byte, LastIndexByte, DecodeRuneInString by their contracts. -/
import Derived.Test.YtionohfkjdahlaaDoorAbsR
import Derived.Test.YtionohfkjdahlaaDoorProg
import Derived.KernelRfl
import Derived.Lib.Bytealg
import Derived.Shelf.Unicode.DecodeAny
import Derived.Shelf.Strings.LastIndex
namespace PosF
open Go Go.Abs Go.Proofs
/-- strings.Count at one byte. -/
def eCount (args : List AV) (s : Heap) : Option (AV × Heap) := match args with
  | [.str a, .str [c]] => some (.int .i64 (Lib.countByte a c), s)
  | _ => none
def eLast (args : List AV) (s : Heap) : Option (AV × Heap) := match args with
  | [.str a, .int .u8 c] => if a.length < 1000000000 then some (.int .i64 (Lib.lastIndexByte ⟨a.toArray⟩ c), s) else none
  | _ => none
def eDecode (args : List AV) (s : Heap) : Option (AV × Heap) := match args with
  | [.str a] => some (.tup [.int .i32 (Lib.decodeGo ⟨a.toArray⟩).1, .int .i64 (Lib.decodeGo ⟨a.toArray⟩).2], s)
  | _ => none
noncomputable def C : Cfg := { P := Tryd.prog, glob := fun _ => none, ext := fun g => if g = 37 then some eCount else if g = 38 then some eLast else if g = 39 then some eDecode else none, ref := fun _ _ => false, own := fun _ _ => false }
end PosF
