/- The reference's Cells, begins, days, ends. Conditions stand in the theorems. -/
import Derived.Test.YtoojedjmlcdomaaGreatDoorOneField2Pack
import Derived.Test.YtoojedjmlcdomaaGreatDoorRef4Pack
import Derived.Test.YtoojedjmlcdomaaGreatDoorSpring15Pack
set_option linter.all false
set_option maxHeartbeats 4000000
set_option maxRecDepth 100000
namespace Go.Proofs.YtoojedjmlcdomaaGreatDoor
open Go.RowKit

theorem anyC_eq {cs : List Cell} {no : Int} : (cs.any fun c => c.no == no) = decide (0 ≤ placeC cs no) := (idxBy_nonneg _ _).symm
end Go.Proofs.YtoojedjmlcdomaaGreatDoor
