/- The helpers of SpringNarrower: inside, and the closure that asks whether a list lacks a number. Conditions stand in the theorems. -/
import Derived.Test.YtifeniiefhpadaaGreatDoorIndexFuncPack
import Derived.Test.YtifeniiefhpadaaGreatDoorGrowTail
import Derived.Shelf.Abstract
import Derived.Test.YtifeniiefhpadaaGreatDoorAgainLib
set_option linter.all false
set_option maxHeartbeats 4000000
set_option maxRecDepth 100000
namespace Go.Proofs.YtifeniiefhpadaaGreatDoor
open Go.RowKit

theorem law_inside (a b c d : Int) (w : World) : Calls Tryz.prog 11 #[.agg #[I a, I b], .agg #[I c, I d]] w fun e w' => e = .returned (.bool (decide (c ≤ a) && decide (b ≤ d))) ∧ Below w.heap.size w w' := by
 cases h1 : decide (c ≤ a) with
 | false =>
  go_enter Tryz.func11, Tryz.ntmps11
  go_wp2_with fail
  go_ret
  exact ⟨rfl, below2 _ _ _⟩
 | true =>
  obtain ⟨q, hq⟩ : ∃ q, decide (b ≤ d) = q := ⟨_, rfl⟩
  rw [hq]
  go_enter Tryz.func11, Tryz.ntmps11
  go_wp2_with fail
  go_ret
  exact ⟨rfl, below2 _ _ _⟩
theorem nar_closure (g : Nat) (v : Value) (xs : List Int) (n : Int) (w : World) (hv : Sl w 1 intC v xs) (hc : w.cell? ⟨g, 0, none⟩ = some v) :
  Calls Tryz.prog 15 #[I n, .pointer (some ⟨g, 0, none⟩)] w fun e w' => e = .returned (.bool (!xs.any (fun x => x == n))) ∧ w = w' := by
 have H := hide (contains_int v xs n w hv)
 clear hv
 obtain ⟨q, hq⟩ : ∃ q, xs.any (fun x => x == n) = q := ⟨_, rfl⟩
 rw [hq] at H ⊢
 clear hq
 go_enter Tryz.func15, Tryz.ntmps15
 go_wp2_with (go_at_call 16; refine H.out.mono ?_; rintro e w1 ⟨rfl, rfl⟩)
 go_ret
 exact ⟨rfl, rfl⟩
theorem nar_lacks (g : Nat) (v : Value) (xs : List Int) (u : Value) (ys : List Int) (w : World) (hv : Sl w 1 intC v xs) (hu : Sl w 1 intC u ys) (hc : w.cell? ⟨g, 0, none⟩ = some v) :
  Calls Tryz.prog 14 #[u, .func (.func 15) #[] #[.pointer (some ⟨g, 0, none⟩)]] w fun e w' => e = .returned (.bool (ys.any fun n => !xs.any (fun x => x == n))) ∧ Below w.heap.size w w' := by
 refine containsFunc_int u ys 15 #[.pointer (some ⟨g, 0, none⟩)] (fun n => !xs.any (fun x => x == n)) w hu (enters_of Tryz.func15 (by kernel_rfl) rfl) ?_
 intro W x _ hb
 refine (nar_closure g v xs x W (hv.mono hb) ((hb.cell (p := ⟨g, 0, none⟩) (World.block_lt_of_cell? _ _ hc)).trans hc)).mono ?_
 rintro e w' ⟨rfl, rfl⟩
 exact ⟨rfl, Below.refl _ _⟩
end Go.Proofs.YtifeniiefhpadaaGreatDoor
