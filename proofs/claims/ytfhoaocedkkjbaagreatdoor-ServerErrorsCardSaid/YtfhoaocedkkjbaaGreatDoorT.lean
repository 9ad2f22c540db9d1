/- RowSs -/
import Derived.Test.YtfhoaocedkkjbaaGreatDoorU
import Derived.Test.YtfhoaocedkkjbaaGreatDoorS
set_option linter.all false

section
namespace Go.Proofs.YtfhoaocedkkjbaaGreatDoor
open Go Go.Proofs
theorem ServerErrors_holds : Rows.ServerErrorsCardSaid := ServerErrors_from Srv.cached75
#print axioms ServerErrors_holds
end Go.Proofs.YtfhoaocedkkjbaaGreatDoor
end
