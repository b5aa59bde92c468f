/- The reference of chapter 6: springs, and what comes of them. Conditions stand in the theorems. -/
import Derived.Test.YtoojedjmlcdomaaGreatDoorRef1Pack
import Derived.Test.YtoojedjmlcdomaaGreatDoorSpring9Pack
set_option linter.all false
set_option maxHeartbeats 4000000
set_option maxRecDepth 100000
namespace Go.Proofs.YtoojedjmlcdomaaGreatDoor
open Go.RowKit


end Go.Proofs.YtoojedjmlcdomaaGreatDoor
