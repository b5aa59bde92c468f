/- More of what Elem holds. Conditions stand in the theorems. -/
import Derived.Test.YtmjfdobjnnfafaaGreatDoorPlugPack
set_option linter.all false
namespace Go.Proofs.YtmjfdobjnnfafaaGreatDoor
open Go.RowKit
theorem el_Change : ElemOk Tryz.prog 61 92 5 40 (.agg #[I 0, I 0, I 0, I 0, I 0]) := ⟨Tryz.underlying61, by kernel_rfl, rfl, by omega⟩
end Go.Proofs.YtmjfdobjnnfafaaGreatDoor
