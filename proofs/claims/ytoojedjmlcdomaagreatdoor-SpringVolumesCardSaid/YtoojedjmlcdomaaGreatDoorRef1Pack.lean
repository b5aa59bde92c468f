/- The reference of chapter 6: its small functions. Conditions stand in the theorems. -/
import Derived.Test.YtoojedjmlcdomaaGreatDoorSpring2Pack
set_option linter.all false
set_option maxHeartbeats 4000000
set_option maxRecDepth 100000
namespace Go.Proofs.YtoojedjmlcdomaaGreatDoor
open Go.RowKit




def Flag (e : Ending) : Prop := ∃ q, e = .returned (.bool q)
end Go.Proofs.YtoojedjmlcdomaaGreatDoor
