/- The law's skip of a list of springs. Conditions stand in the theorems. -/
import Derived.Test.YtoojedjmlcdomaaGreatDoorOneSkip
import Derived.Test.YtoojedjmlcdomaaGreatDoorOneAll
set_option linter.all false
set_option maxHeartbeats 4000000
set_option maxRecDepth 100000
namespace Go.Proofs.YtoojedjmlcdomaaGreatDoor
open Go.RowKit

def shortB (n : Nat) : Bool := decide ((n : Int) ≤ 40) || decide ((512 : Int) < n)
theorem law_shortB (no : Int) (vd : Value) (p : List Weather) (w : World) (hv : Sl w 3 Weather.cells vd p) : Calls Tryz.prog 9 #[.agg #[I no, vd]] w fun e w' => e = .returned (.bool (shortB p.length)) ∧ Below w.heap.size w w' := by
 obtain ⟨A, n, rfl, _, _, hlen, hA⟩ := hv.open_
 clear hA hv
 obtain ⟨q, hq⟩ : ∃ q, shortB p.length = q := ⟨_, rfl⟩
 have hq2 : (decide ((p.length : Int) ≤ 40) || decide ((512 : Int) < p.length)) = q := hq
 rw [hq]
 clear hq
 rcases ilt 40 (p.length : Int) with q1 | q1
 ·have g1 : decide ((p.length : Int) ≤ 40) = false := decide_eq_false (by omega)
  rcases ilt 512 (p.length : Int) with q2 | q2
  ·have g2 : decide ((512 : Int) < p.length) = true := decide_eq_true (by omega)
   obtain rfl : q = true := by rw [← hq2, g1, g2]; rfl
   clear q1 q2 hq2
   go_enter Tryz.func9, Tryz.ntmps9
   go_wp2_with fail
   go_ret
   exact ⟨rfl, below1 _ _⟩
  ·have g2 : decide ((512 : Int) < p.length) = false := decide_eq_false (by omega)
   obtain rfl : q = false := by rw [← hq2, g1, g2]; rfl
   clear q1 q2 hq2
   go_enter Tryz.func9, Tryz.ntmps9
   go_wp2_with fail
   go_ret
   exact ⟨rfl, below1 _ _⟩
 ·have g1 : decide ((p.length : Int) ≤ 40) = true := decide_eq_true (by omega)
  obtain rfl : q = true := by rw [← hq2, g1]; rfl
  clear q1 hq2
  go_enter Tryz.func9, Tryz.ntmps9
  go_wp2_with fail
  go_ret
  exact ⟨rfl, below1 _ _⟩
theorem skip1 (xs : List SprL) (w : World) (hd : ∀ x ∈ xs, Sl w 3 Weather.cells x.dv x.days) : Gives Tryz.prog 49 #[] (fun x : SprL => .agg #[I x.no, x.dv]) (fun x => !shortB x.days.length) w xs := by
 intro W x hx hb
 have J := hide (fun w' (h : Below W.heap.size W w') => law_shortB x.no x.dv x.days w' (((hd x hx).mono hb).mono h))
 show Calls Tryz.prog 49 #[.agg #[I x.no, x.dv]] W fun e w' => e = .returned (.bool (!shortB x.days.length)) ∧ Below W.heap.size W w'
 obtain ⟨A, n, hdv, _⟩ := (hd x hx).open_
 rw [hdv] at J ⊢
 obtain ⟨q, hq⟩ : ∃ q, shortB x.days.length = q := ⟨_, rfl⟩
 rw [hq] at J ⊢
 clear hq hdv hd hx
 go_enter Tryz.func49, Tryz.ntmps49
 go_wp2_with fail
 go_at_call 9
 refine (J.out _ (below1 _ _)).mono ?_
 rintro e w1 ⟨rfl, hb1⟩
 go_wp2_with fail
 go_ret
 exact ⟨rfl, bup (below1 _ _) hb1⟩
theorem law_skip (v : Value) (xs : List SprL) (s : Scene) (V : SceneV) (w : World) (hx : SprsAt w v xs) (hs : SceneAt w s V) : Calls Tryz.prog 8 #[v, s.v V] w fun e w' => Flag e ∧ Below w.heap.size w w' := by
 have JS := hide (fun w' (hb : Below w.heap.size w w') => law_small s V w' (hs.mono hb))
 have JC := hide (fun w' (hb : Below w.heap.size w w') => containsFunc_SprL v xs _ _ (fun x => !shortB x.days.length) w' (hx.1.mono hb) (enters_of Tryz.func49 (by kernel_rfl) rfl) (skip1 xs w' fun x h => (hx.2 x h).mono hb))
 obtain ⟨A, n, rfl, _, _, hlen, _⟩ := hx.1.open_
 obtain ⟨vc, vp, vD, vs, vh⟩ := V
 obtain ⟨Ac, nc, rfl, _⟩ := (show Sl w 4 Cell.cells vc s.basin.cells from hs.cells).open_
 obtain ⟨Ap, np, rfl, _⟩ := (show Sl w 2 pairC vp s.basin.pairs from hs.pairs).open_
 obtain ⟨Ad, nd, rfl, _⟩ := (show Sl w 1 intC vD s.days from hs.days).open_
 obtain ⟨As, ns, rfl, _⟩ := (show Sl w 5 Sight.cells vs s.sights from hs.sights).open_
 obtain ⟨Ah, nh, rfl, _⟩ := (show Sl w 5 Change.cells vh s.changes from hs.changes).open_
 unfold Scene.v at *
 simp only at *
 clear hs hx
 obtain ⟨q, hq⟩ : ∃ q, xs.any (fun x => !shortB x.days.length) = q := ⟨_, rfl⟩
 rw [hq] at JC
 clear hq
 go_enter Tryz.func8, Tryz.ntmps8
 go_wp2_with fail
 go_at_call 47
 refine (JS.out _ (below1 _ _)).mono ?_
 rintro e w1 ⟨⟨q1, rfl⟩, hb1⟩
 have B1 := bup (below1 w _) hb1
 clear hb1
 cases q1
 ·go_wp2_with fail
  refine bodyPost_ret (v := .bool true) (by simp [results, Tryz.results8, go_sem]) rfl ⟨⟨_, rfl⟩, B1⟩
 rcases ilt 20 (xs.length : Int) with g | g
 ·have g1 : decide ((20 : Int) < xs.length) = true := decide_eq_true (by omega)
  clear g
  go_wp2_with fail
  refine bodyPost_ret (v := .bool true) (by simp [results, Tryz.results8, go_sem]) rfl ⟨⟨_, rfl⟩, B1⟩
 ·have g1 : decide ((20 : Int) < xs.length) = false := decide_eq_false (by omega)
  clear g
  go_wp2_with fail
  go_at_call 48
  refine (JC.out _ B1).mono ?_
  rintro e w2 ⟨rfl, hb2⟩
  go_wp2_with fail
  refine bodyPost_ret (v := .bool q) (by simp [results, Tryz.results8, go_sem]) rfl ⟨⟨_, rfl⟩, bup B1 hb2⟩
end Go.Proofs.YtoojedjmlcdomaaGreatDoor
