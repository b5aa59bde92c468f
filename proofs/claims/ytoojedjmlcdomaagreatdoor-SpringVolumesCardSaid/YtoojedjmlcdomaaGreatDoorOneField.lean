/- The fields of a span as a value. No condition. -/
import Derived.Test.YtoojedjmlcdomaaGreatDoorSpring11Pack
set_option linter.all false
namespace Go.Proofs.YtoojedjmlcdomaaGreatDoor
open Go.RowKit

@[go_sem] theorem field_hi (x y : Int) (w : World) : Sem.run Tryz.prog (Instr.field 23 (.agg #[I x, I y]) 1) w = .ok (I y) w := by
 simp [Instr.field, go_sem, asAgg, Result.andThen, Tryz.underlying23]
@[go_sem] theorem field_lo (x y : Int) (w : World) : Sem.run Tryz.prog (Instr.field 23 (.agg #[I x, I y]) 0) w = .ok (I x) w := by
 simp [Instr.field, go_sem, asAgg, Result.andThen, Tryz.underlying23]
end Go.Proofs.YtoojedjmlcdomaaGreatDoor
