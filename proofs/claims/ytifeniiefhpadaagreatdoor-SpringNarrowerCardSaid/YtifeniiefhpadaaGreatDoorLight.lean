/- The law's small tests: light. Conditions stand in the theorems. -/
import Derived.Test.YtifeniiefhpadaaGreatDoorSpring2Pack
set_option linter.all false
set_option maxHeartbeats 4000000
set_option maxRecDepth 100000
namespace Go.Proofs.YtifeniiefhpadaaGreatDoor
open Go.RowKit

def Flag (e : Ending) : Prop := ∃ q, e = .returned (.bool q)
theorem law_light (v : Value) (l : List Weather) (a b : Int) (w : World) (hv : Sl w 3 Weather.cells v l) : Calls Tryz.prog 5 #[v, I a, I b] w fun e w' => Flag e ∧ w = w' := by
 obtain ⟨A, n, rfl, _, _, hlen, hA⟩ := hv.open_
 clear hA hv
 go_enter Tryz.func5, Tryz.ntmps5
 go_wp2_with fail
 all_goals (refine bodyPost_ret (v := .bool _) (by simp [results, Tryz.results5, go_sem]; rfl) rfl ⟨⟨_, rfl⟩, rfl⟩)
end Go.Proofs.YtifeniiefhpadaaGreatDoor
