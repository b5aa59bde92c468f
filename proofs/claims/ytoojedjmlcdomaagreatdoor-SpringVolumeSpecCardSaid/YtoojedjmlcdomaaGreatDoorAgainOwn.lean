/- More of what Own holds. Conditions stand in the theorems. -/
import Derived.Test.YtoojedjmlcdomaaGreatDoorBasePack
set_option linter.all false
namespace Go.Proofs.YtoojedjmlcdomaaGreatDoor
open Go.RowKit
theorem boolC_one (x : Bool) : ∀ u ∈ boolC x, u.oneCell' = true := by intro u hu; simp [boolC] at hu; subst hu; rfl
end Go.Proofs.YtoojedjmlcdomaaGreatDoor
