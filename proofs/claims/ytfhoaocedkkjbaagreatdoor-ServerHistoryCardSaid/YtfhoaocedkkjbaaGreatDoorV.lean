/- L7r -/
import Derived.Test.YtfhoaocedkkjbaaGreatDoorP
import Derived.Test.YtfhoaocedkkjbaaGreatDoorL
set_option linter.all false

section
namespace Srv
open Go Go.Abs Go.Proofs Go.ChangeShapes Go.WideShapes Go.ChangeAt Go.RowKit
section
variable {H : Type} {enc : TypeId × Value → H} {W : World} {base : Nat} {spare : Nat → Bool} {held : Bool}
theorem req_arg {fuel : Nat} {v : Value} {x : DataW H × List MemPlace} (h : DataW.trod enc Tryz.prog W base spare held fuel 33 v.cells.toList = some x) : ∃ r : Req, Rel (lay0 W) (.agg (reqC r)) v := by
  obtain ⟨r, h2, h3, h4⟩ := req_of h
  refine ⟨r, ?_⟩
  cases v with
  | agg cs => exact .agg _ cs.toList h2 h3
  | _ => exact absurd h4 (by simp [Value.cells])
end
theorem c7r {s : Heap} {v : AV} {l : List Evn} (hv : EvA v l) (r : Req) : ∃ s', den C 200332 7 [v, .agg (reqC r)] s = some (.bool true, s') := c7 hv r
end Srv
end
