/- More of what Lib holds. Conditions stand in the theorems. -/
import Derived.Test.YtifeniiefhpadaaGreatDoorIndexFuncPack
import Derived.Test.YtifeniiefhpadaaGreatDoorAgainIndexFunc
set_option linter.all false
namespace Go.Proofs.YtifeniiefhpadaaGreatDoor
open Go.RowKit
theorem containsFunc_int (v : Value) (xs : List Int) (g : Nat) (cap : Array Value) (p : Int → Bool) (w : World) (hv : Sl w 1 intC v xs) (eg : ∀ args w, (callFunc g args).run Tryz.prog w = .ok (.enter g args) w)
  (hp : Gives Tryz.prog g cap (I) p w xs) : Calls Tryz.prog 14 #[v, .func (.func g) #[] cap] w fun e w' => e = .returned (.bool (xs.any p)) ∧ Below w.heap.size w w' := by
 have hc := hide (indexFunc_int v xs g cap p w hv eg hp)
 have hf := hide (idxBy_nonneg p xs)
 clear hv hp eg
 go_enter Tryz.func14, Tryz.ntmps14
 go_wp2_with (go_at_call 42; refine (unhide hc).mono ?_; generalize idxBy p xs = r at hf ⊢; rintro e w' ⟨rfl, hb⟩)
 go_ret
 exact ⟨ret_bool (by rw [← hf.out]), hb⟩
end Go.Proofs.YtifeniiefhpadaaGreatDoor
