/- What the abstract machine takes of the program. -/
import Derived.Test.YtionohfkjdahlaaAbsR
import Derived.Test.YtionohfkjdahlaaProg
import Derived.KernelRfl
namespace RopeF
open Go Go.Abs Go.Proofs
noncomputable def C : Cfg := { P := Try.prog, glob := fun _ => none, ext := fun g => if g = 30 then some (bCheck 53) else if g = 21 then some (bString 5) else none, ref := fun _ _ => false, own := fun f t => f == 27 && t == 12 }
end RopeF
