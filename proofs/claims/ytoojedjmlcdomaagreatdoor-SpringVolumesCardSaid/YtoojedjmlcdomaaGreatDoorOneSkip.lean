/- The law's small tests: short, small, skip of no springs. Conditions stand in the theorems. -/
import Derived.Test.YtoojedjmlcdomaaGreatDoorRef1Pack
import Derived.Test.YtoojedjmlcdomaaGreatDoorReachPack
set_option linter.all false
set_option maxHeartbeats 4000000
set_option maxRecDepth 100000
namespace Go.Proofs.YtoojedjmlcdomaaGreatDoor
open Go.RowKit

theorem law_small (s : Scene) (V : SceneV) (w : World) (hs : SceneAt w s V) : Calls Tryz.prog 47 #[s.v V] w fun e w' => Flag e ∧ Below w.heap.size w w' := by
 obtain ⟨Ac, nc, hc, _⟩ := hs.cells.open_
 obtain ⟨Ap, np, hp, _⟩ := hs.pairs.open_
 obtain ⟨Ad, nd, hd, _⟩ := hs.days.open_
 obtain ⟨As, ns, hsi, _⟩ := hs.sights.open_
 obtain ⟨Ah, nh, hch, _⟩ := hs.changes.open_
 unfold Scene.v
 rw [hc, hp, hd, hsi, hch]
 clear hc hp hd hsi hch hs
 generalize s.basin.cells.length = l1
 generalize s.basin.pairs.length = l2
 generalize s.days.length = l3
 generalize s.sights.length = l4
 generalize s.changes.length = l5
 obtain ⟨m, hm⟩ : ∃ m, IntKind.i64.wrap ((l1 : Int) * (l3 : Int)) = m := ⟨_, rfl⟩
 rcases ilt 12 m with q1 | q1
 ·have g1 : decide (m ≤ 12) = false := decide_eq_false (by omega)
  go_enter Tryz.func47, Tryz.ntmps47
  go_wp2_with fail
  refine bodyPost_ret (v := .bool false) (by simp [results, Tryz.results47, go_sem]) rfl ⟨⟨_, rfl⟩, below1 _ _⟩
 ·have g1 : decide (m ≤ 12) = true := decide_eq_true (by omega)
  rcases ilt 8 (l2 : Int) with q2 | q2
  ·have g2 : decide ((l2 : Int) ≤ 8) = false := decide_eq_false (by omega)
   go_enter Tryz.func47, Tryz.ntmps47
   go_wp2_with fail
   refine bodyPost_ret (v := .bool false) (by simp [results, Tryz.results47, go_sem]) rfl ⟨⟨_, rfl⟩, below1 _ _⟩
  ·have g2 : decide ((l2 : Int) ≤ 8) = true := decide_eq_true (by omega)
   rcases ilt 10 (l4 : Int) with q3 | q3
   ·have g3 : decide ((l4 : Int) ≤ 10) = false := decide_eq_false (by omega)
    go_enter Tryz.func47, Tryz.ntmps47
    go_wp2_with fail
    refine bodyPost_ret (v := .bool false) (by simp [results, Tryz.results47, go_sem]) rfl ⟨⟨_, rfl⟩, below1 _ _⟩
   ·have g3 : decide ((l4 : Int) ≤ 10) = true := decide_eq_true (by omega)
    rcases ilt 10 (l5 : Int) with q4 | q4
    ·have g4 : decide ((l5 : Int) ≤ 10) = false := decide_eq_false (by omega)
     go_enter Tryz.func47, Tryz.ntmps47
     go_wp2_with fail
     refine bodyPost_ret (v := .bool false) (by simp [results, Tryz.results47, go_sem]) rfl ⟨⟨_, rfl⟩, below1 _ _⟩
    ·have g4 : decide ((l5 : Int) ≤ 10) = true := decide_eq_true (by omega)
     go_enter Tryz.func47, Tryz.ntmps47
     go_wp2_with fail
     refine bodyPost_ret (v := .bool true) (by simp [results, Tryz.results47, go_sem]) rfl ⟨⟨_, rfl⟩, below1 _ _⟩
end Go.Proofs.YtoojedjmlcdomaaGreatDoor
