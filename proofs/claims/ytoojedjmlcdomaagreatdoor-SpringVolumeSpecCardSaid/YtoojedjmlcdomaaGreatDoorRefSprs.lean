/- The reference's test of a list of springs. Conditions stand in the theorems. -/
import Derived.Test.YtoojedjmlcdomaaGreatDoorOneAll
import Derived.Test.YtoojedjmlcdomaaGreatDoorRef4Pack
set_option linter.all false
set_option maxHeartbeats 4000000
set_option maxRecDepth 100000
namespace Go.Proofs.YtoojedjmlcdomaaGreatDoor
open Go.RowKit

theorem ref_springs (c : Climate) (v : Value) (xs : List SprL) (w : World) (hv : SprsAt w v xs) :
  Calls Tryz.prog 65 #[c.v, v] w fun e w' => e = .returned (I (sprsE c xs)) ∧ Below w.heap.size w w' := by
 obtain ⟨A, n, rfl, _, _, hlen, hA⟩ := hv.1.open_
 have HX := hide (fun (x : SprL) w hd => ref_CheckSpring c x.no x.dv x.days w hd)
 have hbad : ∀ x ∈ xs, springE c ⟨x.no, x.days⟩ ≠ 0 → sprsE c xs = 62 := fun x hx h => by
  unfold sprsE
  rw [if_pos]
  rw [List.all_eq_false]
  exact ⟨x, hx, fun hh => h (of_decide_eq_true hh)⟩
 have hgood : (∀ x ∈ xs, springE c ⟨x.no, x.days⟩ = 0) → sprsE c xs = if 16 < xs.length then 2 else 0 := fun h => by
  unfold sprsE
  rw [if_neg]
  have : xs.all (fun x => decide (springE c x.spring = 0)) = true := List.all_eq_true.2 fun x hx => decide_eq_true (h x hx)
  rw [this]
  simp
 obtain ⟨R, hR⟩ : ∃ R, sprsE c xs = R := ⟨_, rfl⟩
 rw [hR] at hbad hgood ⊢
 clear hR
 replace hbad := hide hbad
 replace hgood := hide hgood
 replace hv := hide hv
 replace hA := hide hA
 unfold Climate.v at *
 go_enter Tryz.func65, Tryz.ntmps65
 go_wp2_with fail
 obtain ⟨W0, hW0⟩ : ∃ W0, W0 = w.alloc (.cells (c8 c) 25) := ⟨_, rfl⟩
 have kC := hide (show Blk W0 w.heap.size 25 (c8 c) by rw [hW0]; exact Blk.new _ _ _)
 have kB := hide (show Below w.heap.size w W0 by rw [hW0]; exact below1 _ _)
 rw [← hW0]
 clear hW0
 go_loopw [5] (fun i wr => ∃ k : Nat, k ≤ xs.length ∧ i = I k ∧ Hid (∀ x ∈ xs.take k, springE c ⟨x.no, x.days⟩ = 0) ∧ Hid (Below W0.heap.size W0 wr)) (fun i _ => xs.length - (intOf i).toNat)
 case atStart => exact ⟨0, Nat.zero_le _, rfl, hide (by simp), hide (Below.refl _ _)⟩
 case round =>
  obtain ⟨k, hk, rfl, hall, hbw⟩ := hrel
  by_cases hlt : k < xs.length
  ·obtain ⟨b, off, rfl, hbb⟩ := hA.out k hlt
   obtain ⟨x, hx⟩ := getElem?_of_lt hlt
   have hxm := List.mem_of_getElem? hx
   have hsw := hv.out.mono (bup kB.out hbw.out)
   obtain ⟨z1, e0, e1⟩ := hsw.1.sprl_at hx
   have hdv := hsw.2 x hxm
   obtain ⟨Ax, nx, hdvx, _⟩ := hdv.open_
   have HY := HX.out x
   rw [hdvx] at e1 hdv HY
   obtain ⟨_, q0, q1, q2, q3, q4, q5, q6, q7⟩ := (kC.out.grow hbw.out).clim
   have hb2 := hbad.out x hxm
   have hnx : springE c ⟨x.no, x.days⟩ = 0 → ∀ y ∈ xs.take (k + 1), springE c ⟨y.no, y.days⟩ = 0 := fun h y hy => by
    rw [take_succ_of hx] at hy
    rcases List.mem_append.1 hy with hy | hy
    ·exact hall.out y hy
    ·rw [List.mem_singleton.1 hy]; exact h
   obtain ⟨E, hE⟩ : ∃ e, springE c ⟨x.no, x.days⟩ = e := ⟨_, rfl⟩
   rw [hE] at HY hb2 hnx
   clear hE hsw hdvx hbad hgood HX
   (try unfold Climate.v at HY)
   replace HY := hide HY
   replace hdv := hide hdv
   replace hx := hide hx
   replace hnx := hide hnx
   replace hb2 := hide hb2
   by_cases h0 : E = 0
   ·subst h0
    go_wp2_with fail
    (refine wp_grow ?_; (repeat go_big_quiet_step ((go_at_call 56; exact calls_grew (HY.out _ (hdv.out.mono (Grew.below _)))))); refine wp_grow0 ?_; intro W1 hW1)
    go_wp2_with fail
    go_roundw
    case rel => exact ⟨k + 1, by omega, by go_num, hide (hnx.out (by trivial)), hide (bup hbw.out hW1)⟩
    case measure => simp [intOf]; omega
   ·have h1 : (E != 0) = true := by simpa using h0
    have h2 := hb2.out h0
    subst h2
    go_wp2_with fail
    (refine wp_grow ?_; (repeat go_big_quiet_step ((go_at_call 56; exact calls_grew (HY.out _ (hdv.out.mono (Grew.below _)))))); refine wp_grow0 ?_; intro W1 hW1)
    go_wp2_with fail
    go_ret
    exact ⟨rfl, bup kB.out (bup hbw.out hW1)⟩
  ·have he : k = xs.length := by omega
   subst he
   have h1 := hall.out
   rw [List.take_length] at h1
   have h2 := hgood.out h1
   rcases Nat.lt_or_ge 16 xs.length with h | h
   ·rw [if_pos h] at h2
    subst h2
    have h3 : (16 : Int) < (xs.length : Int) := by omega
    clear h1
    go_wp2_with fail
    go_ret
    exact ⟨rfl, bup kB.out hbw.out⟩
   ·rw [if_neg (by omega)] at h2
    subst h2
    have h3 : (xs.length : Int) ≤ 16 := by omega
    clear h1
    go_wp2_with fail
    go_ret
    exact ⟨rfl, bup kB.out hbw.out⟩
end Go.Proofs.YtoojedjmlcdomaaGreatDoor
