/- More of what Spring9 holds. Conditions stand in the theorems. -/
import Derived.Test.YtmjfdobjnnfafaaGreatDoorSpring9Pack
set_option linter.all false
namespace Go.Proofs.YtmjfdobjnnfafaaGreatDoor
open Go.RowKit
theorem succB_ok {l : List Weather} (h : succB l = true) : ∀ (i : Nat) (x y : Weather), l[i]? = some x → l[0]? = some y → (0 ≤ x.day ∧ x.day ≤ 1048576) ∧ x.day = y.day + i := by
 intro i x y hx hy
 have := List.all_eq_true.1 h i (List.mem_range.2 (List.getElem?_eq_some_iff.1 hx).1)
 rw [succAt_of hx hy] at this
 simp only [Bool.and_eq_true, decide_eq_true_eq] at this
 exact ⟨inB_true.1 this.1, this.2⟩
end Go.Proofs.YtmjfdobjnnfafaaGreatDoor
