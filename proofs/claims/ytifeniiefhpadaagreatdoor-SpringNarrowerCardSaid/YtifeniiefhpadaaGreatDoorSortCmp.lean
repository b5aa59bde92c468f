/- The law's comparison of two weathers by day. No condition. -/
import Derived.Test.YtifeniiefhpadaaGreatDoorShSort
import Derived.Test.YtifeniiefhpadaaGreatDoorGrowTail
import Derived.Test.YtifeniiefhpadaaGreatDoorSpringDefsPack
import Derived.Shelf.SlSortCmp.InsertionK
set_option linter.all false
set_option maxHeartbeats 4000000
set_option maxRecDepth 100000
namespace Go.Proofs.YtifeniiefhpadaaGreatDoor
open Go.RowKit Go.Sort Go.Shelf Go.Lib

def cmpW (x y : Weather) : Int := max (-1) (min 1 (wrap64 (x.day - y.day)))

theorem cmp_closure (x y : Weather) (W : World) : Calls Tryz.prog 8 #[.agg #[I x.day, I x.temp, I x.rain], .agg #[I y.day, I y.temp, I y.rain]] W fun e w' => e = .returned (I (cmpW x y)) ∧ ∃ q os', w' = grow (W.drewN q) os' := by
 go_enter Tryz.func8, Tryz.ntmps8
 go_wp2_with fail
 go_ret
 exact ⟨rfl, 0, _, by rw [alloc_eq_grow, alloc_eq_grow, grow_grow]; rfl⟩
theorem cmp_lays (blk off size : Nat) (w : World) : CmpLays Tryz.prog 8 #[] Weather.cells 3 cmpW blk off size w := fun _ _ _ _ x y => cmp_closure x y _
theorem cmp_enters : ∀ args w, (callFunc 8 args).run Tryz.prog w = .ok (.enter 8 args) w := enters_of Tryz.func8 (by kernel_rfl) rfl
end Go.Proofs.YtifeniiefhpadaaGreatDoor
