/- GrnP -/
import Derived.Test.YtkikcleofaeigaaGreatDoorH
import Derived.Test.YtkikcleofaeigaaGreatDoorR
set_option linter.all false

section
namespace GrnF
open Go Go.Abs Go.Proofs ParF
theorem shares_row_run (l : List UInt8) (r : Raw) : AC C 6 [.str l, r.av] (.bool true) := shares_run l r.2.2.data.toList r.1 r.2.1
end GrnF
end
