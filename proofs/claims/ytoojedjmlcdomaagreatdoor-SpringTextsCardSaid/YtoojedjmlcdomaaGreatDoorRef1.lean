/- The reference of chapter 6: its small functions. Conditions stand in the theorems. -/
import Derived.Test.YtoojedjmlcdomaaGreatDoorSpring2Pack
set_option linter.all false
set_option maxHeartbeats 1000000
set_option maxRecDepth 100000
namespace Go.Proofs.YtoojedjmlcdomaaGreatDoor
open Go.RowKit

theorem ref_within (n lo hi : Int) (w : World) : Calls Tryz.prog 77 #[I n, I lo, I hi] w fun e w' => e = .returned (.bool (inB n lo hi)) ∧ w = w' := by
 by_cases h : lo ≤ n
 ·go_enter Tryz.func77, Tryz.ntmps77
  go_wp2
  go_ret
  exact ⟨by simp [inB, h], rfl⟩
 ·go_enter Tryz.func77, Tryz.ntmps77
  go_wp2
  go_ret
  exact ⟨ret_bool (by simp only [inB]; symm; simp; omega), rfl⟩
end Go.Proofs.YtoojedjmlcdomaaGreatDoor
