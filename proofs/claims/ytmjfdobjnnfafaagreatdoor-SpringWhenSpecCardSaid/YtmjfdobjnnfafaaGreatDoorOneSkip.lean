/- The law's small tests: short, small, skip of no springs. Conditions stand in the theorems. -/
import Derived.Test.YtmjfdobjnnfafaaGreatDoorRef1Pack
import Derived.Test.YtmjfdobjnnfafaaGreatDoorReachPack
set_option linter.all false
set_option maxHeartbeats 4000000
set_option maxRecDepth 100000
namespace Go.Proofs.YtmjfdobjnnfafaaGreatDoor
open Go.RowKit

theorem law_short (no : Int) (vd : Value) (p : List Weather) (w : World) (hv : Sl w 3 Weather.cells vd p) : Calls Tryz.prog 48 #[.agg #[I no, vd]] w fun e w' => Flag e ∧ Below w.heap.size w w' := by
 obtain ⟨A, n, rfl, _, _, hlen, hA⟩ := hv.open_
 clear hA hv
 obtain ⟨m, hm⟩ : ∃ m : Int, (p.length : Int) = m := ⟨_, rfl⟩
 rcases ilt 40 m with q1 | q1
 ·rcases ilt 512 m with q2 | q2
  ·have g1 : decide ((p.length : Int) ≤ 40) = false := decide_eq_false (by omega)
   have g2 : decide ((512 : Int) < p.length) = true := decide_eq_true (by omega)
   clear hm q1 q2
   go_enter Tryz.func48, Tryz.ntmps48
   go_wp2_with fail
   refine bodyPost_ret (v := .bool true) (by simp [results, Tryz.results48, go_sem]) rfl ⟨⟨_, rfl⟩, below1 _ _⟩
  ·have g1 : decide ((p.length : Int) ≤ 40) = false := decide_eq_false (by omega)
   have g2 : decide ((512 : Int) < p.length) = false := decide_eq_false (by omega)
   clear hm q1 q2
   go_enter Tryz.func48, Tryz.ntmps48
   go_wp2_with fail
   refine bodyPost_ret (v := .bool false) (by simp [results, Tryz.results48, go_sem]) rfl ⟨⟨_, rfl⟩, below1 _ _⟩
 ·have g1 : decide ((p.length : Int) ≤ 40) = true := decide_eq_true (by omega)
  clear hm q1
  go_enter Tryz.func48, Tryz.ntmps48
  go_wp2_with fail
  refine bodyPost_ret (v := .bool true) (by simp [results, Tryz.results48, go_sem]) rfl ⟨⟨_, rfl⟩, below1 _ _⟩
theorem law_small (s : Scene) (V : SceneV) (w : World) (hs : SceneAt w s V) : Calls Tryz.prog 122 #[s.v V] w fun e w' => Flag e ∧ Below w.heap.size w w' := by
 obtain ⟨Ac, nc, hc, _⟩ := hs.cells.open_
 obtain ⟨Ap, np, hp, _⟩ := hs.pairs.open_
 obtain ⟨Ad, nd, hd, _⟩ := hs.days.open_
 obtain ⟨As, ns, hsi, _⟩ := hs.sights.open_
 obtain ⟨Ah, nh, hch, _⟩ := hs.changes.open_
 unfold Scene.v
 rw [hc, hp, hd, hsi, hch]
 clear hc hp hd hsi hch hs
 generalize s.basin.cells.length = l1
 generalize s.basin.pairs.length = l2
 generalize s.days.length = l3
 generalize s.sights.length = l4
 generalize s.changes.length = l5
 obtain ⟨m, hm⟩ : ∃ m, IntKind.i64.wrap ((l1 : Int) * (l3 : Int)) = m := ⟨_, rfl⟩
 rcases ilt 12 m with q1 | q1
 ·have g1 : decide (m ≤ 12) = false := decide_eq_false (by omega)
  go_enter Tryz.func122, Tryz.ntmps122
  go_wp2_with fail
  refine bodyPost_ret (v := .bool false) (by simp [results, Tryz.results122, go_sem]) rfl ⟨⟨_, rfl⟩, below1 _ _⟩
 ·have g1 : decide (m ≤ 12) = true := decide_eq_true (by omega)
  rcases ilt 8 (l2 : Int) with q2 | q2
  ·have g2 : decide ((l2 : Int) ≤ 8) = false := decide_eq_false (by omega)
   go_enter Tryz.func122, Tryz.ntmps122
   go_wp2_with fail
   refine bodyPost_ret (v := .bool false) (by simp [results, Tryz.results122, go_sem]) rfl ⟨⟨_, rfl⟩, below1 _ _⟩
  ·have g2 : decide ((l2 : Int) ≤ 8) = true := decide_eq_true (by omega)
   rcases ilt 10 (l4 : Int) with q3 | q3
   ·have g3 : decide ((l4 : Int) ≤ 10) = false := decide_eq_false (by omega)
    go_enter Tryz.func122, Tryz.ntmps122
    go_wp2_with fail
    refine bodyPost_ret (v := .bool false) (by simp [results, Tryz.results122, go_sem]) rfl ⟨⟨_, rfl⟩, below1 _ _⟩
   ·have g3 : decide ((l4 : Int) ≤ 10) = true := decide_eq_true (by omega)
    rcases ilt 10 (l5 : Int) with q4 | q4
    ·have g4 : decide ((l5 : Int) ≤ 10) = false := decide_eq_false (by omega)
     go_enter Tryz.func122, Tryz.ntmps122
     go_wp2_with fail
     refine bodyPost_ret (v := .bool false) (by simp [results, Tryz.results122, go_sem]) rfl ⟨⟨_, rfl⟩, below1 _ _⟩
    ·have g4 : decide ((l5 : Int) ≤ 10) = true := decide_eq_true (by omega)
     go_enter Tryz.func122, Tryz.ntmps122
     go_wp2_with fail
     refine bodyPost_ret (v := .bool true) (by simp [results, Tryz.results122, go_sem]) rfl ⟨⟨_, rfl⟩, below1 _ _⟩
theorem index_nil (g : FuncId) (w : World) : Calls Tryz.prog 173 #[.slice none 0 0, .func (.func g) #[] #[]] w fun e w' => e = .returned (I (-1)) ∧ Below w.heap.size w w' := by
 go_enter Tryz.func173, Tryz.ntmps173
 go_wp2_with fail
 go_loopw [5, 8] (fun _ i wr => i = I 0 ∧ wr = w) (fun _ _ _ => 0)
 case atStart => exact ⟨rfl, rfl⟩
 case round =>
  obtain ⟨rfl, rfl⟩ := hrel
  go_wp2_with fail
  go_ret
  exact ⟨rfl, Below.refl _ _⟩
theorem contains_nil (g : FuncId) (w : World) : Calls Tryz.prog 123 #[.slice none 0 0, .func (.func g) #[] #[]] w fun e w' => e = .returned (.bool false) ∧ Below w.heap.size w w' := by
 go_enter Tryz.func123, Tryz.ntmps123
 go_wp2_with (go_at_call 173; refine (index_nil _ _).mono ?_; rintro e w' ⟨rfl, hb⟩)
 go_ret
 exact ⟨rfl, hb⟩
theorem law_skip_nil (s : Scene) (V : SceneV) (w : World) (hs : SceneAt w s V) : Calls Tryz.prog 47 #[.slice none 0 0, s.v V] w fun e w' => Flag e ∧ Below w.heap.size w w' := by
 have HS := fun w hs => law_small s V w hs
 have hs1 := hide hs
 obtain ⟨Ac, nc, hc, _⟩ := hs.cells.open_
 obtain ⟨Ap, np, hp, _⟩ := hs.pairs.open_
 obtain ⟨Ad, nd, hd, _⟩ := hs.days.open_
 obtain ⟨As, ns, hsi, _⟩ := hs.sights.open_
 obtain ⟨Ah, nh, hch, _⟩ := hs.changes.open_
 unfold Scene.v at *
 simp only [hc, hp, hd, hsi, hch] at HS ⊢
 clear hc hp hd hsi hch hs
 replace HS := hide HS
 go_enter Tryz.func47, Tryz.ntmps47
 go_wp2_with fail
 go_at_call 122
 refine (HS.out _ (hs1.out.mono (below1 _ _))).mono ?_
 rintro e w1 ⟨⟨q, rfl⟩, hb1⟩
 clear HS hs1
 cases q
 case false =>
  go_wp2_with fail
  refine bodyPost_ret (v := .bool true) (by simp [results, Tryz.results47, go_sem]) rfl ⟨⟨_, rfl⟩, bup (below1 _ _) hb1⟩
 case true =>
  go_wp2_with (go_at_call 123; refine (contains_nil _ _).mono ?_; rintro e w2 ⟨rfl, hb2⟩)
  refine bodyPost_ret (v := .bool false) (by simp [results, Tryz.results47, go_sem]) rfl ⟨⟨_, rfl⟩, bup (bup (below1 _ _) hb1) hb2⟩
end Go.Proofs.YtmjfdobjnnfafaaGreatDoor
