/- The law's small test: in. Conditions stand in the theorems. -/
import Derived.Test.YtoojedjmlcdomaaGreatDoorIndexFuncPack
set_option linter.all false
namespace Go.Proofs.YtoojedjmlcdomaaGreatDoor
open Go.RowKit

theorem law_in (n lo hi : Int) (w : World) : Calls Tryz.prog 16 #[I n, .agg #[I lo, I hi]] w fun e w' => e = .returned (.bool (inB n lo hi)) ∧ Below w.heap.size w w' := by
 rcases ilt n lo with h1 | h1
 ·have h : inB n lo hi = false := by simp [inB]; omega
  rw [h]
  clear h
  go_enter Tryz.func16, Tryz.ntmps16
  go_wp2
  go_ret
  exact ⟨(by first | rfl | (simp; omega)), below1 _ _⟩
 ·rcases ilt hi n with h2 | h2
  ·have h : inB n lo hi = false := by simp [inB]; omega
   rw [h]
   clear h
   go_enter Tryz.func16, Tryz.ntmps16
   go_wp2
   go_ret
   exact ⟨(by first | rfl | (simp; omega)), below1 _ _⟩
  ·have h : inB n lo hi = true := inB_true.2 ⟨h1, h2⟩
   rw [h]
   clear h
   go_enter Tryz.func16, Tryz.ntmps16
   go_wp2
   go_ret
   exact ⟨(by first | rfl | (simp; omega)), below1 _ _⟩
end Go.Proofs.YtoojedjmlcdomaaGreatDoor
