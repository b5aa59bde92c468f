/- The chapter's examples hold. Conditions stand in the theorems. -/
import Derived.Test.YtmjfdobjnnfafaaGreatDoorSpring26Pack
import Derived.Test.YtmjfdobjnnfafaaGreatDoorPoolLibPack
set_option linter.all false
set_option maxHeartbeats 16000000
set_option maxRecDepth 100000
namespace Go.Proofs.YtmjfdobjnnfafaaGreatDoor
open Go.RowKit

theorem law_sane (w : World) (hp : Pow10 w) : Calls Tryz.prog 22 #[] w fun e w' => e = .returned (.bool true) ∧ Below w.heap.size w w' := by
 replace hp := hide hp
 go_enter Tryz.func22, Tryz.ntmps22
 have B0 : Below w.heap.size w w := Below.refl _ _
 go_wp2_with fail
 go_at_call 86
 refine (law_climate w).mono ?_
 rintro e w1 ⟨rfl, hb⟩
 have B1 := bup B0 hb
 clear hb B0
 unfold cV
 go_wp2_with fail
 obtain ⟨w2, hw2⟩ : ∃ w2, w2 = (w1.alloc (.cells #[I 1000, I 6, I 50, I 40, I (-200), I 250, I 400, I 410] 25)) := ⟨_, rfl⟩
 have kC : Blk w2 (w1.heap.size) 25 #[I 1000, I 6, I 50, I 40, I (-200), I 250, I 400, I 410] := by
  rw [hw2]
  have h := Blk.new w1 25 #[I 1000, I 6, I 50, I 40, I (-200), I 250, I 400, I 410]
  first | exact h | simpa only [World.size_alloc] using h
 have B2 : Below w.heap.size w w2 := by rw [hw2]; exact bup B1 (below1 _ _)
 rw [← hw2]
 clear hw2 B1
 obtain ⟨bC, hbC⟩ : ∃ b, w1.heap.size = b := ⟨_, rfl⟩
 rw [hbC] at kC ⊢
 replace kC := hide kC
 clear hbC
 go_at_call 29
 refine (x_atC w2).mono ?_
 rintro e w3 ⟨rfl, hb⟩
 replace kC := hide (kC.out.grow hb)
 have B3 := bup B2 hb
 clear hb B2
 obtain ⟨rC0, rC1, rC2, rC3, rC4, rC5, rC6, rC7⟩ := kC.out.cells8
 have zC : bC < w3.heap.size := kC.out.lt
 go_wp2_with fail
 clear rC0 rC1 rC2 rC3 rC4 rC5 rC6 rC7 zC
 go_at_call 31
 refine (x_frostC w3).mono ?_
 rintro e w4 ⟨rfl, hb⟩
 replace kC := hide (kC.out.grow hb)
 have B4 := bup B3 hb
 clear hb B3
 obtain ⟨rC0, rC1, rC2, rC3, rC4, rC5, rC6, rC7⟩ := kC.out.cells8
 have zC : bC < w4.heap.size := kC.out.lt
 have zC_1 : bC < w4.heap.size + 1 := by omega
 go_wp2_with fail
 clear rC0 rC1 rC2 rC3 rC4 rC5 rC6 rC7 zC zC_1
 obtain ⟨w5, hw5⟩ : ∃ w5, w5 = (w4.alloc (.cells #[I 13, I 50, I 10] 36)) := ⟨_, rfl⟩
 have kW : Blk w5 (w4.heap.size) 36 #[I 13, I 50, I 10] := by
  rw [hw5]
  have h := Blk.new w4 36 #[I 13, I 50, I 10]
  first | exact h | simpa only [World.size_alloc] using h
 replace kC : Hid (Blk w5 bC 25 #[I 1000, I 6, I 50, I 40, I (-200), I 250, I 400, I 410]) := hide (by rw [hw5]; exact (kC.out).alloc _)
 have B5 : Below w.heap.size w w5 := by rw [hw5]; exact bup B4 (below1 _ _)
 rw [← hw5]
 clear hw5 B4
 obtain ⟨bW, hbW⟩ : ∃ b, w4.heap.size = b := ⟨_, rfl⟩
 rw [hbW] at kW ⊢
 replace kW := hide kW
 clear hbW
 go_at_call 33
 refine (x_snowC w5).mono ?_
 rintro e w6 ⟨rfl, hb⟩
 replace kC := hide (kC.out.grow hb)
 replace kW := hide (kW.out.grow hb)
 have B6 := bup B5 hb
 clear hb B5
 obtain ⟨rC0, rC1, rC2, rC3, rC4, rC5, rC6, rC7⟩ := kC.out.cells8
 have zC : bC < w6.heap.size := kC.out.lt
 obtain ⟨rW0, rW1, rW2⟩ := kW.out.cells3
 have zW : bW < w6.heap.size := kW.out.lt
 go_wp2_with fail
 clear rC0 rC1 rC2 rC3 rC4 rC5 rC6 rC7 zC rW0 rW1 rW2 zW
 go_at_call 35
 refine (x_meltC w6).mono ?_
 rintro e w7 ⟨rfl, hb⟩
 replace kC := hide (kC.out.grow hb)
 replace kW := hide (kW.out.grow hb)
 have B7 := bup B6 hb
 clear hb B6
 obtain ⟨rC0, rC1, rC2, rC3, rC4, rC5, rC6, rC7⟩ := kC.out.cells8
 have zC : bC < w7.heap.size := kC.out.lt
 go_wp2_with fail
 clear rC0 rC1 rC2 rC3 rC4 rC5 rC6 rC7 zC
 have HSw : ∀ W : World, Below w7.heap.size w7 W → (fun W : World => W.cell? ⟨bC, 0, none⟩ = some (I 1000) ∧ W.cell? ⟨bC, 1, none⟩ = some (I 6) ∧ W.cell? ⟨bC, 2, none⟩ = some (I 50) ∧ W.cell? ⟨bC, 3, none⟩ = some (I 40) ∧ W.cell? ⟨bC, 4, none⟩ = some (I (-200)) ∧ W.cell? ⟨bC, 5, none⟩ = some (I 250) ∧ W.cell? ⟨bC, 6, none⟩ = some (I 400) ∧ W.cell? ⟨bC, 7, none⟩ = some (I 410)) W := fun W h => by
  have h2 := kC.out.grow h
  exact ⟨h2.cell 0, h2.cell 1, h2.cell 2, h2.cell 3, h2.cell 4, h2.cell 5, h2.cell 6, h2.cell 7⟩
 replace HSw := hide HSw
 refine wp_region_zg (S := fun W => W.cell? ⟨bC, 0, none⟩ = some (I 1000) ∧ W.cell? ⟨bC, 1, none⟩ = some (I 6) ∧ W.cell? ⟨bC, 2, none⟩ = some (I 50) ∧ W.cell? ⟨bC, 3, none⟩ = some (I 40) ∧ W.cell? ⟨bC, 4, none⟩ = some (I (-200)) ∧ W.cell? ⟨bC, 5, none⟩ = some (I 250) ∧ W.cell? ⟨bC, 6, none⟩ = some (I 400) ∧ W.cell? ⟨bC, 7, none⟩ = some (I 410)) 11 (by kernel_rfl) (by kernel_rfl) ?_
 have wB : Below w7.heap.size w7 w7.drew := (Below.refl _ _).drew
 have hHeld := HSw.out _ wB
 (refine zg_tk 0 ?_; (try go_frame))
 obtain ⟨nq, hnq⟩ : ∃ n, w7.heap.size = n := ⟨_, rfl⟩
 replace hnq := hide hnq
 apply via
 case f =>
  intro key
  refine zg_three (i := 1) (j := 7) (l := 8) (by decide) (by decide) (by decide) rfl rfl rfl (by kernel_rfl) (fun K_ hK_ => ?_) (fun K_ hK_ => ?_) (fun K_ hK_ => ?_)
  ·go_simp
   refine (law_record w7.drew).mono ?_
   rintro e v1 ⟨v53, rfl, hsl, hsv1⟩
   have wBv1 := bup (wB) hsv1
   have yv1 := hsv1.size
   refine hK_.out _ _ (HSw.out _ wBv1) (fun hHeld => ?_)
   clear hK_ K_
   (try go_frame)
   refine zg_three (i := 2) (j := 7) (l := 8) (by decide) (by decide) (by decide) rfl rfl rfl (by kernel_rfl) (fun K_ hK_ => ?_) (fun K_ hK_ => ?_) (fun K_ hK_ => ?_)
   ·go_simp
    refine (x_gapC v53 v1 hsl).mono ?_
    rintro e v2 ⟨rfl, hsv2⟩
    replace hsl := hsl.mono hsv2
    have wBv2 := bup (wBv1) hsv2
    have yv2 := hsv2.size
    refine hK_.out _ _ (HSw.out _ wBv2) (fun hHeld => ?_)
    clear hK_ K_
    (try go_frame)
    (refine zg_tk 3 ?_; refine zg_tk 4 ?_; refine zg_tk 5 ?_; refine zg_tk 6 ?_; (try go_frame))
    refine zg_two (i := 7) (j := 8) (by decide) (by decide) rfl rfl (by kernel_rfl) (fun K_ hK_ => ?_) (fun K_ hK_ => ?_)
    ·go_simp
     obtain ⟨v3, hv3⟩ : ∃ v3, v3 = (v2.alloc (.cells #[I 0, I 0] 23)) := ⟨_, rfl⟩
     have hsv3 : Below v2.heap.size v2 v3 := by rw [hv3]; exact below1 v2 _
     have kP : Blk v3 v2.heap.size 23 #[I 0, I 0] := by rw [hv3]; exact Blk.new v2 _ _
     have gP := (wBv2 : Below w7.heap.size w7 v2).size
     replace hsl := hsl.mono hsv3
     have wBv3 := bup (wBv2) hsv3
     have yP := hsv3.size
     rw [← hv3]
     clear hv3
     refine hK_.out _ _ (HSw.out _ wBv3) (fun hHeld => ?_)
     clear hK_ K_
     (try go_frame)
     refine zg_ready (i := 8) (by decide) rfl (by kernel_rfl) (fun K_ hK_ => ?_)
     go_simp
     obtain ⟨v4, hv4⟩ : ∃ v4, v4 = (v3.alloc (.cells #[I 0, I 0] 23)) := ⟨_, rfl⟩
     have hsv4 : Below v3.heap.size v3 v4 := by rw [hv4]; exact below1 v3 _
     have yPQ := kP.lt
     replace kP := kP.grow hsv4
     have kQ : Blk v4 v3.heap.size 23 #[I 0, I 0] := by rw [hv4]; exact Blk.new v3 _ _
     have gQ := (wBv3 : Below w7.heap.size w7 v3).size
     replace hsl := hsl.mono hsv4
     have wBv4 := bup (wBv3) hsv4
     have yQ := hsv4.size
     rw [← hv4]
     clear hv4
     refine hK_.out _ _ (HSw.out _ wBv4) (fun hHeld => ?_)
     clear hK_ K_
     (try go_frame)
     have qP0 : v4.cell? ⟨v2.heap.size, 0, none⟩ = some (I 0) := kP.cell 0
     have fP0 := kP.frozen 0
     have qP1 : v4.cell? ⟨v2.heap.size, 1, none⟩ = some (I 0) := kP.cell 1
     have fP1 := kP.frozen 1
     have qQ0 : v4.cell? ⟨v3.heap.size, 0, none⟩ = some (I 0) := kQ.cell 0
     have fQ0 := kQ.frozen 0
     have qQ1 : v4.cell? ⟨v3.heap.size, 1, none⟩ = some (I 0) := kQ.cell 1
     have fQ1 := kQ.frozen 1
     (refine zg_rd 9 fun K_ hK_ => ?_; go_simp; skip; refine hK_.out _ _ ?_ (fun hHeld => ?_); rotate_left; clear hK_ K_; (try go_frame); rotate_left)
     ·exact HSw.out _ (gap_below2 (wBv4) (by have := hnq.out; omega))
     (refine zg_rd 10 fun K_ hK_ => ?_; go_simp; skip; refine hK_.out _ _ ?_ (fun hHeld => ?_); rotate_left; clear hK_ K_; (try go_frame); rotate_left)
     ·exact HSw.out _ (gap_below2 (gap_below2 (wBv4) (by have := hnq.out; omega)) (by have := hnq.out; omega))
     (refine zg_ls 11 fun K_ hK_ => ?_; go_simp; skip; refine hK_.out _ _ ?_; clear hK_ K_; (try go_frame))
     have hbE : Below nq w7 ((((v4.setCell ⟨v2.heap.size, 0, none⟩ (I (-40))).setCell ⟨v2.heap.size, 1, none⟩ (I 50)).setCell ⟨v3.heap.size, 0, none⟩ (I 0)).setCell ⟨v3.heap.size, 1, none⟩ (I 40)) := by rw [← hnq.out]; exact gap_below2 (gap_below2 (wBv4) (by have := hnq.out; omega)) (by have := hnq.out; omega)
     have hkP : Blk ((((v4.setCell ⟨v2.heap.size, 0, none⟩ (I (-40))).setCell ⟨v2.heap.size, 1, none⟩ (I 50)).setCell ⟨v3.heap.size, 0, none⟩ (I 0)).setCell ⟨v3.heap.size, 1, none⟩ (I 40)) (v2.heap.size) 23 #[I (-40), I 50] := ((gap_set2 (kP)).far (p := ⟨v3.heap.size, 0, none⟩) (by show v2.heap.size ≠ v3.heap.size; omega) _).far (p := ⟨v3.heap.size, 1, none⟩) (by show v2.heap.size ≠ v3.heap.size; omega) _
     have hgP : nq ≤ v2.heap.size := by have := hnq.out; omega
     have hkQ : Blk ((((v4.setCell ⟨v2.heap.size, 0, none⟩ (I (-40))).setCell ⟨v2.heap.size, 1, none⟩ (I 50)).setCell ⟨v3.heap.size, 0, none⟩ (I 0)).setCell ⟨v3.heap.size, 1, none⟩ (I 40)) (v3.heap.size) 23 #[I 0, I 40] := gap_set2 (((kQ).far (p := ⟨v2.heap.size, 0, none⟩) (by show v3.heap.size ≠ v2.heap.size; omega) _).far (p := ⟨v2.heap.size, 1, none⟩) (by show v3.heap.size ≠ v2.heap.size; omega) _)
     have hgQ : nq ≤ v3.heap.size := by have := hnq.out; omega
     have hne : v2.heap.size ≠ v3.heap.size := by omega
     generalize ((((v4.setCell ⟨v2.heap.size, 0, none⟩ (I (-40))).setCell ⟨v2.heap.size, 1, none⟩ (I 50)).setCell ⟨v3.heap.size, 0, none⟩ (I 0)).setCell ⟨v3.heap.size, 1, none⟩ (I 40)) = Wz at hbE hkP hkQ ⊢
     generalize (v2.heap.size : Nat) = bP at hkP hgP hne ⊢
     generalize (v3.heap.size : Nat) = bQ at hkQ hgQ hne ⊢
     revert hbE
     revert hkP
     revert hkQ
     revert hgP
     revert hgQ
     revert hne
     clear hsl
     revert bP
     revert bQ
     revert v53
     revert Wz
     exact key.out
    ·go_simp
     obtain ⟨v5, hv5⟩ : ∃ v5, v5 = (v2.alloc (.cells #[I 0, I 0] 23)) := ⟨_, rfl⟩
     have hsv5 : Below v2.heap.size v2 v5 := by rw [hv5]; exact below1 v2 _
     have kQ : Blk v5 v2.heap.size 23 #[I 0, I 0] := by rw [hv5]; exact Blk.new v2 _ _
     have gQ := (wBv2 : Below w7.heap.size w7 v2).size
     replace hsl := hsl.mono hsv5
     have wBv5 := bup (wBv2) hsv5
     have yQ := hsv5.size
     rw [← hv5]
     clear hv5
     refine hK_.out _ _ (HSw.out _ wBv5) (fun hHeld => ?_)
     clear hK_ K_
     (try go_frame)
     refine zg_ready (i := 7) (by decide) rfl (by kernel_rfl) (fun K_ hK_ => ?_)
     go_simp
     obtain ⟨v6, hv6⟩ : ∃ v6, v6 = (v5.alloc (.cells #[I 0, I 0] 23)) := ⟨_, rfl⟩
     have hsv6 : Below v5.heap.size v5 v6 := by rw [hv6]; exact below1 v5 _
     have yQP := kQ.lt
     replace kQ := kQ.grow hsv6
     have kP : Blk v6 v5.heap.size 23 #[I 0, I 0] := by rw [hv6]; exact Blk.new v5 _ _
     have gP := (wBv5 : Below w7.heap.size w7 v5).size
     replace hsl := hsl.mono hsv6
     have wBv6 := bup (wBv5) hsv6
     have yP := hsv6.size
     rw [← hv6]
     clear hv6
     refine hK_.out _ _ (HSw.out _ wBv6) (fun hHeld => ?_)
     clear hK_ K_
     (try go_frame)
     have qP0 : v6.cell? ⟨v5.heap.size, 0, none⟩ = some (I 0) := kP.cell 0
     have fP0 := kP.frozen 0
     have qP1 : v6.cell? ⟨v5.heap.size, 1, none⟩ = some (I 0) := kP.cell 1
     have fP1 := kP.frozen 1
     have qQ0 : v6.cell? ⟨v2.heap.size, 0, none⟩ = some (I 0) := kQ.cell 0
     have fQ0 := kQ.frozen 0
     have qQ1 : v6.cell? ⟨v2.heap.size, 1, none⟩ = some (I 0) := kQ.cell 1
     have fQ1 := kQ.frozen 1
     (refine zg_rd 9 fun K_ hK_ => ?_; go_simp; skip; refine hK_.out _ _ ?_ (fun hHeld => ?_); rotate_left; clear hK_ K_; (try go_frame); rotate_left)
     ·exact HSw.out _ (gap_below2 (wBv6) (by have := hnq.out; omega))
     (refine zg_rd 10 fun K_ hK_ => ?_; go_simp; skip; refine hK_.out _ _ ?_ (fun hHeld => ?_); rotate_left; clear hK_ K_; (try go_frame); rotate_left)
     ·exact HSw.out _ (gap_below2 (gap_below2 (wBv6) (by have := hnq.out; omega)) (by have := hnq.out; omega))
     (refine zg_ls 11 fun K_ hK_ => ?_; go_simp; skip; refine hK_.out _ _ ?_; clear hK_ K_; (try go_frame))
     have hbE : Below nq w7 ((((v6.setCell ⟨v5.heap.size, 0, none⟩ (I (-40))).setCell ⟨v5.heap.size, 1, none⟩ (I 50)).setCell ⟨v2.heap.size, 0, none⟩ (I 0)).setCell ⟨v2.heap.size, 1, none⟩ (I 40)) := by rw [← hnq.out]; exact gap_below2 (gap_below2 (wBv6) (by have := hnq.out; omega)) (by have := hnq.out; omega)
     have hkP : Blk ((((v6.setCell ⟨v5.heap.size, 0, none⟩ (I (-40))).setCell ⟨v5.heap.size, 1, none⟩ (I 50)).setCell ⟨v2.heap.size, 0, none⟩ (I 0)).setCell ⟨v2.heap.size, 1, none⟩ (I 40)) (v5.heap.size) 23 #[I (-40), I 50] := ((gap_set2 (kP)).far (p := ⟨v2.heap.size, 0, none⟩) (by show v5.heap.size ≠ v2.heap.size; omega) _).far (p := ⟨v2.heap.size, 1, none⟩) (by show v5.heap.size ≠ v2.heap.size; omega) _
     have hgP : nq ≤ v5.heap.size := by have := hnq.out; omega
     have hkQ : Blk ((((v6.setCell ⟨v5.heap.size, 0, none⟩ (I (-40))).setCell ⟨v5.heap.size, 1, none⟩ (I 50)).setCell ⟨v2.heap.size, 0, none⟩ (I 0)).setCell ⟨v2.heap.size, 1, none⟩ (I 40)) (v2.heap.size) 23 #[I 0, I 40] := gap_set2 (((kQ).far (p := ⟨v5.heap.size, 0, none⟩) (by show v2.heap.size ≠ v5.heap.size; omega) _).far (p := ⟨v5.heap.size, 1, none⟩) (by show v2.heap.size ≠ v5.heap.size; omega) _)
     have hgQ : nq ≤ v2.heap.size := by have := hnq.out; omega
     have hne : v5.heap.size ≠ v2.heap.size := by omega
     generalize ((((v6.setCell ⟨v5.heap.size, 0, none⟩ (I (-40))).setCell ⟨v5.heap.size, 1, none⟩ (I 50)).setCell ⟨v2.heap.size, 0, none⟩ (I 0)).setCell ⟨v2.heap.size, 1, none⟩ (I 40)) = Wz at hbE hkP hkQ ⊢
     generalize (v5.heap.size : Nat) = bP at hkP hgP hne ⊢
     generalize (v2.heap.size : Nat) = bQ at hkQ hgQ hne ⊢
     revert hbE
     revert hkP
     revert hkQ
     revert hgP
     revert hgQ
     revert hne
     clear hsl
     revert bP
     revert bQ
     revert v53
     revert Wz
     exact key.out
   ·go_simp
    obtain ⟨v7, hv7⟩ : ∃ v7, v7 = (v1.alloc (.cells #[I 0, I 0] 23)) := ⟨_, rfl⟩
    have hsv7 : Below v1.heap.size v1 v7 := by rw [hv7]; exact below1 v1 _
    have kP : Blk v7 v1.heap.size 23 #[I 0, I 0] := by rw [hv7]; exact Blk.new v1 _ _
    have gP := (wBv1 : Below w7.heap.size w7 v1).size
    replace hsl := hsl.mono hsv7
    have wBv7 := bup (wBv1) hsv7
    have yP := hsv7.size
    rw [← hv7]
    clear hv7
    refine hK_.out _ _ (HSw.out _ wBv7) (fun hHeld => ?_)
    clear hK_ K_
    (try go_frame)
    refine zg_two (i := 2) (j := 8) (by decide) (by decide) rfl rfl (by kernel_rfl) (fun K_ hK_ => ?_) (fun K_ hK_ => ?_)
    ·go_simp
     refine (x_gapC v53 v7 hsl).mono ?_
     rintro e v8 ⟨rfl, hsv8⟩
     replace kP := kP.grow hsv8
     replace hsl := hsl.mono hsv8
     have wBv8 := bup (wBv7) hsv8
     have yv8 := hsv8.size
     refine hK_.out _ _ (HSw.out _ wBv8) (fun hHeld => ?_)
     clear hK_ K_
     (try go_frame)
     (refine zg_tk 3 ?_; refine zg_tk 4 ?_; refine zg_tk 5 ?_; refine zg_tk 6 ?_; (try go_frame))
     refine zg_ready (i := 8) (by decide) rfl (by kernel_rfl) (fun K_ hK_ => ?_)
     go_simp
     obtain ⟨v9, hv9⟩ : ∃ v9, v9 = (v8.alloc (.cells #[I 0, I 0] 23)) := ⟨_, rfl⟩
     have hsv9 : Below v8.heap.size v8 v9 := by rw [hv9]; exact below1 v8 _
     have yPQ := kP.lt
     replace kP := kP.grow hsv9
     have kQ : Blk v9 v8.heap.size 23 #[I 0, I 0] := by rw [hv9]; exact Blk.new v8 _ _
     have gQ := (wBv8 : Below w7.heap.size w7 v8).size
     replace hsl := hsl.mono hsv9
     have wBv9 := bup (wBv8) hsv9
     have yQ := hsv9.size
     rw [← hv9]
     clear hv9
     refine hK_.out _ _ (HSw.out _ wBv9) (fun hHeld => ?_)
     clear hK_ K_
     (try go_frame)
     have qP0 : v9.cell? ⟨v1.heap.size, 0, none⟩ = some (I 0) := kP.cell 0
     have fP0 := kP.frozen 0
     have qP1 : v9.cell? ⟨v1.heap.size, 1, none⟩ = some (I 0) := kP.cell 1
     have fP1 := kP.frozen 1
     have qQ0 : v9.cell? ⟨v8.heap.size, 0, none⟩ = some (I 0) := kQ.cell 0
     have fQ0 := kQ.frozen 0
     have qQ1 : v9.cell? ⟨v8.heap.size, 1, none⟩ = some (I 0) := kQ.cell 1
     have fQ1 := kQ.frozen 1
     (refine zg_rd 9 fun K_ hK_ => ?_; go_simp; skip; refine hK_.out _ _ ?_ (fun hHeld => ?_); rotate_left; clear hK_ K_; (try go_frame); rotate_left)
     ·exact HSw.out _ (gap_below2 (wBv9) (by have := hnq.out; omega))
     (refine zg_rd 10 fun K_ hK_ => ?_; go_simp; skip; refine hK_.out _ _ ?_ (fun hHeld => ?_); rotate_left; clear hK_ K_; (try go_frame); rotate_left)
     ·exact HSw.out _ (gap_below2 (gap_below2 (wBv9) (by have := hnq.out; omega)) (by have := hnq.out; omega))
     (refine zg_ls 11 fun K_ hK_ => ?_; go_simp; skip; refine hK_.out _ _ ?_; clear hK_ K_; (try go_frame))
     have hbE : Below nq w7 ((((v9.setCell ⟨v1.heap.size, 0, none⟩ (I (-40))).setCell ⟨v1.heap.size, 1, none⟩ (I 50)).setCell ⟨v8.heap.size, 0, none⟩ (I 0)).setCell ⟨v8.heap.size, 1, none⟩ (I 40)) := by rw [← hnq.out]; exact gap_below2 (gap_below2 (wBv9) (by have := hnq.out; omega)) (by have := hnq.out; omega)
     have hkP : Blk ((((v9.setCell ⟨v1.heap.size, 0, none⟩ (I (-40))).setCell ⟨v1.heap.size, 1, none⟩ (I 50)).setCell ⟨v8.heap.size, 0, none⟩ (I 0)).setCell ⟨v8.heap.size, 1, none⟩ (I 40)) (v1.heap.size) 23 #[I (-40), I 50] := ((gap_set2 (kP)).far (p := ⟨v8.heap.size, 0, none⟩) (by show v1.heap.size ≠ v8.heap.size; omega) _).far (p := ⟨v8.heap.size, 1, none⟩) (by show v1.heap.size ≠ v8.heap.size; omega) _
     have hgP : nq ≤ v1.heap.size := by have := hnq.out; omega
     have hkQ : Blk ((((v9.setCell ⟨v1.heap.size, 0, none⟩ (I (-40))).setCell ⟨v1.heap.size, 1, none⟩ (I 50)).setCell ⟨v8.heap.size, 0, none⟩ (I 0)).setCell ⟨v8.heap.size, 1, none⟩ (I 40)) (v8.heap.size) 23 #[I 0, I 40] := gap_set2 (((kQ).far (p := ⟨v1.heap.size, 0, none⟩) (by show v8.heap.size ≠ v1.heap.size; omega) _).far (p := ⟨v1.heap.size, 1, none⟩) (by show v8.heap.size ≠ v1.heap.size; omega) _)
     have hgQ : nq ≤ v8.heap.size := by have := hnq.out; omega
     have hne : v1.heap.size ≠ v8.heap.size := by omega
     generalize ((((v9.setCell ⟨v1.heap.size, 0, none⟩ (I (-40))).setCell ⟨v1.heap.size, 1, none⟩ (I 50)).setCell ⟨v8.heap.size, 0, none⟩ (I 0)).setCell ⟨v8.heap.size, 1, none⟩ (I 40)) = Wz at hbE hkP hkQ ⊢
     generalize (v1.heap.size : Nat) = bP at hkP hgP hne ⊢
     generalize (v8.heap.size : Nat) = bQ at hkQ hgQ hne ⊢
     revert hbE
     revert hkP
     revert hkQ
     revert hgP
     revert hgQ
     revert hne
     clear hsl
     revert bP
     revert bQ
     revert v53
     revert Wz
     exact key.out
    ·go_simp
     obtain ⟨v10, hv10⟩ : ∃ v10, v10 = (v7.alloc (.cells #[I 0, I 0] 23)) := ⟨_, rfl⟩
     have hsv10 : Below v7.heap.size v7 v10 := by rw [hv10]; exact below1 v7 _
     have yPQ := kP.lt
     replace kP := kP.grow hsv10
     have kQ : Blk v10 v7.heap.size 23 #[I 0, I 0] := by rw [hv10]; exact Blk.new v7 _ _
     have gQ := (wBv7 : Below w7.heap.size w7 v7).size
     replace hsl := hsl.mono hsv10
     have wBv10 := bup (wBv7) hsv10
     have yQ := hsv10.size
     rw [← hv10]
     clear hv10
     refine hK_.out _ _ (HSw.out _ wBv10) (fun hHeld => ?_)
     clear hK_ K_
     (try go_frame)
     refine zg_ready (i := 2) (by decide) rfl (by kernel_rfl) (fun K_ hK_ => ?_)
     go_simp
     refine (x_gapC v53 v10 hsl).mono ?_
     rintro e v11 ⟨rfl, hsv11⟩
     replace kP := kP.grow hsv11
     replace kQ := kQ.grow hsv11
     replace hsl := hsl.mono hsv11
     have wBv11 := bup (wBv10) hsv11
     have yv11 := hsv11.size
     refine hK_.out _ _ (HSw.out _ wBv11) (fun hHeld => ?_)
     clear hK_ K_
     (try go_frame)
     (refine zg_tk 3 ?_; refine zg_tk 4 ?_; refine zg_tk 5 ?_; refine zg_tk 6 ?_; (try go_frame))
     have qP0 : v11.cell? ⟨v1.heap.size, 0, none⟩ = some (I 0) := kP.cell 0
     have fP0 := kP.frozen 0
     have qP1 : v11.cell? ⟨v1.heap.size, 1, none⟩ = some (I 0) := kP.cell 1
     have fP1 := kP.frozen 1
     have qQ0 : v11.cell? ⟨v7.heap.size, 0, none⟩ = some (I 0) := kQ.cell 0
     have fQ0 := kQ.frozen 0
     have qQ1 : v11.cell? ⟨v7.heap.size, 1, none⟩ = some (I 0) := kQ.cell 1
     have fQ1 := kQ.frozen 1
     (refine zg_rd 9 fun K_ hK_ => ?_; go_simp; skip; refine hK_.out _ _ ?_ (fun hHeld => ?_); rotate_left; clear hK_ K_; (try go_frame); rotate_left)
     ·exact HSw.out _ (gap_below2 (wBv11) (by have := hnq.out; omega))
     (refine zg_rd 10 fun K_ hK_ => ?_; go_simp; skip; refine hK_.out _ _ ?_ (fun hHeld => ?_); rotate_left; clear hK_ K_; (try go_frame); rotate_left)
     ·exact HSw.out _ (gap_below2 (gap_below2 (wBv11) (by have := hnq.out; omega)) (by have := hnq.out; omega))
     (refine zg_ls 11 fun K_ hK_ => ?_; go_simp; skip; refine hK_.out _ _ ?_; clear hK_ K_; (try go_frame))
     have hbE : Below nq w7 ((((v11.setCell ⟨v1.heap.size, 0, none⟩ (I (-40))).setCell ⟨v1.heap.size, 1, none⟩ (I 50)).setCell ⟨v7.heap.size, 0, none⟩ (I 0)).setCell ⟨v7.heap.size, 1, none⟩ (I 40)) := by rw [← hnq.out]; exact gap_below2 (gap_below2 (wBv11) (by have := hnq.out; omega)) (by have := hnq.out; omega)
     have hkP : Blk ((((v11.setCell ⟨v1.heap.size, 0, none⟩ (I (-40))).setCell ⟨v1.heap.size, 1, none⟩ (I 50)).setCell ⟨v7.heap.size, 0, none⟩ (I 0)).setCell ⟨v7.heap.size, 1, none⟩ (I 40)) (v1.heap.size) 23 #[I (-40), I 50] := ((gap_set2 (kP)).far (p := ⟨v7.heap.size, 0, none⟩) (by show v1.heap.size ≠ v7.heap.size; omega) _).far (p := ⟨v7.heap.size, 1, none⟩) (by show v1.heap.size ≠ v7.heap.size; omega) _
     have hgP : nq ≤ v1.heap.size := by have := hnq.out; omega
     have hkQ : Blk ((((v11.setCell ⟨v1.heap.size, 0, none⟩ (I (-40))).setCell ⟨v1.heap.size, 1, none⟩ (I 50)).setCell ⟨v7.heap.size, 0, none⟩ (I 0)).setCell ⟨v7.heap.size, 1, none⟩ (I 40)) (v7.heap.size) 23 #[I 0, I 40] := gap_set2 (((kQ).far (p := ⟨v1.heap.size, 0, none⟩) (by show v7.heap.size ≠ v1.heap.size; omega) _).far (p := ⟨v1.heap.size, 1, none⟩) (by show v7.heap.size ≠ v1.heap.size; omega) _)
     have hgQ : nq ≤ v7.heap.size := by have := hnq.out; omega
     have hne : v1.heap.size ≠ v7.heap.size := by omega
     generalize ((((v11.setCell ⟨v1.heap.size, 0, none⟩ (I (-40))).setCell ⟨v1.heap.size, 1, none⟩ (I 50)).setCell ⟨v7.heap.size, 0, none⟩ (I 0)).setCell ⟨v7.heap.size, 1, none⟩ (I 40)) = Wz at hbE hkP hkQ ⊢
     generalize (v1.heap.size : Nat) = bP at hkP hgP hne ⊢
     generalize (v7.heap.size : Nat) = bQ at hkQ hgQ hne ⊢
     revert hbE
     revert hkP
     revert hkQ
     revert hgP
     revert hgQ
     revert hne
     clear hsl
     revert bP
     revert bQ
     revert v53
     revert Wz
     exact key.out
   ·go_simp
    obtain ⟨v12, hv12⟩ : ∃ v12, v12 = (v1.alloc (.cells #[I 0, I 0] 23)) := ⟨_, rfl⟩
    have hsv12 : Below v1.heap.size v1 v12 := by rw [hv12]; exact below1 v1 _
    have kQ : Blk v12 v1.heap.size 23 #[I 0, I 0] := by rw [hv12]; exact Blk.new v1 _ _
    have gQ := (wBv1 : Below w7.heap.size w7 v1).size
    replace hsl := hsl.mono hsv12
    have wBv12 := bup (wBv1) hsv12
    have yQ := hsv12.size
    rw [← hv12]
    clear hv12
    refine hK_.out _ _ (HSw.out _ wBv12) (fun hHeld => ?_)
    clear hK_ K_
    (try go_frame)
    refine zg_two (i := 2) (j := 7) (by decide) (by decide) rfl rfl (by kernel_rfl) (fun K_ hK_ => ?_) (fun K_ hK_ => ?_)
    ·go_simp
     refine (x_gapC v53 v12 hsl).mono ?_
     rintro e v13 ⟨rfl, hsv13⟩
     replace kQ := kQ.grow hsv13
     replace hsl := hsl.mono hsv13
     have wBv13 := bup (wBv12) hsv13
     have yv13 := hsv13.size
     refine hK_.out _ _ (HSw.out _ wBv13) (fun hHeld => ?_)
     clear hK_ K_
     (try go_frame)
     (refine zg_tk 3 ?_; refine zg_tk 4 ?_; refine zg_tk 5 ?_; refine zg_tk 6 ?_; (try go_frame))
     refine zg_ready (i := 7) (by decide) rfl (by kernel_rfl) (fun K_ hK_ => ?_)
     go_simp
     obtain ⟨v14, hv14⟩ : ∃ v14, v14 = (v13.alloc (.cells #[I 0, I 0] 23)) := ⟨_, rfl⟩
     have hsv14 : Below v13.heap.size v13 v14 := by rw [hv14]; exact below1 v13 _
     have yQP := kQ.lt
     replace kQ := kQ.grow hsv14
     have kP : Blk v14 v13.heap.size 23 #[I 0, I 0] := by rw [hv14]; exact Blk.new v13 _ _
     have gP := (wBv13 : Below w7.heap.size w7 v13).size
     replace hsl := hsl.mono hsv14
     have wBv14 := bup (wBv13) hsv14
     have yP := hsv14.size
     rw [← hv14]
     clear hv14
     refine hK_.out _ _ (HSw.out _ wBv14) (fun hHeld => ?_)
     clear hK_ K_
     (try go_frame)
     have qP0 : v14.cell? ⟨v13.heap.size, 0, none⟩ = some (I 0) := kP.cell 0
     have fP0 := kP.frozen 0
     have qP1 : v14.cell? ⟨v13.heap.size, 1, none⟩ = some (I 0) := kP.cell 1
     have fP1 := kP.frozen 1
     have qQ0 : v14.cell? ⟨v1.heap.size, 0, none⟩ = some (I 0) := kQ.cell 0
     have fQ0 := kQ.frozen 0
     have qQ1 : v14.cell? ⟨v1.heap.size, 1, none⟩ = some (I 0) := kQ.cell 1
     have fQ1 := kQ.frozen 1
     (refine zg_rd 9 fun K_ hK_ => ?_; go_simp; skip; refine hK_.out _ _ ?_ (fun hHeld => ?_); rotate_left; clear hK_ K_; (try go_frame); rotate_left)
     ·exact HSw.out _ (gap_below2 (wBv14) (by have := hnq.out; omega))
     (refine zg_rd 10 fun K_ hK_ => ?_; go_simp; skip; refine hK_.out _ _ ?_ (fun hHeld => ?_); rotate_left; clear hK_ K_; (try go_frame); rotate_left)
     ·exact HSw.out _ (gap_below2 (gap_below2 (wBv14) (by have := hnq.out; omega)) (by have := hnq.out; omega))
     (refine zg_ls 11 fun K_ hK_ => ?_; go_simp; skip; refine hK_.out _ _ ?_; clear hK_ K_; (try go_frame))
     have hbE : Below nq w7 ((((v14.setCell ⟨v13.heap.size, 0, none⟩ (I (-40))).setCell ⟨v13.heap.size, 1, none⟩ (I 50)).setCell ⟨v1.heap.size, 0, none⟩ (I 0)).setCell ⟨v1.heap.size, 1, none⟩ (I 40)) := by rw [← hnq.out]; exact gap_below2 (gap_below2 (wBv14) (by have := hnq.out; omega)) (by have := hnq.out; omega)
     have hkP : Blk ((((v14.setCell ⟨v13.heap.size, 0, none⟩ (I (-40))).setCell ⟨v13.heap.size, 1, none⟩ (I 50)).setCell ⟨v1.heap.size, 0, none⟩ (I 0)).setCell ⟨v1.heap.size, 1, none⟩ (I 40)) (v13.heap.size) 23 #[I (-40), I 50] := ((gap_set2 (kP)).far (p := ⟨v1.heap.size, 0, none⟩) (by show v13.heap.size ≠ v1.heap.size; omega) _).far (p := ⟨v1.heap.size, 1, none⟩) (by show v13.heap.size ≠ v1.heap.size; omega) _
     have hgP : nq ≤ v13.heap.size := by have := hnq.out; omega
     have hkQ : Blk ((((v14.setCell ⟨v13.heap.size, 0, none⟩ (I (-40))).setCell ⟨v13.heap.size, 1, none⟩ (I 50)).setCell ⟨v1.heap.size, 0, none⟩ (I 0)).setCell ⟨v1.heap.size, 1, none⟩ (I 40)) (v1.heap.size) 23 #[I 0, I 40] := gap_set2 (((kQ).far (p := ⟨v13.heap.size, 0, none⟩) (by show v1.heap.size ≠ v13.heap.size; omega) _).far (p := ⟨v13.heap.size, 1, none⟩) (by show v1.heap.size ≠ v13.heap.size; omega) _)
     have hgQ : nq ≤ v1.heap.size := by have := hnq.out; omega
     have hne : v13.heap.size ≠ v1.heap.size := by omega
     generalize ((((v14.setCell ⟨v13.heap.size, 0, none⟩ (I (-40))).setCell ⟨v13.heap.size, 1, none⟩ (I 50)).setCell ⟨v1.heap.size, 0, none⟩ (I 0)).setCell ⟨v1.heap.size, 1, none⟩ (I 40)) = Wz at hbE hkP hkQ ⊢
     generalize (v13.heap.size : Nat) = bP at hkP hgP hne ⊢
     generalize (v1.heap.size : Nat) = bQ at hkQ hgQ hne ⊢
     revert hbE
     revert hkP
     revert hkQ
     revert hgP
     revert hgQ
     revert hne
     clear hsl
     revert bP
     revert bQ
     revert v53
     revert Wz
     exact key.out
    ·go_simp
     obtain ⟨v15, hv15⟩ : ∃ v15, v15 = (v12.alloc (.cells #[I 0, I 0] 23)) := ⟨_, rfl⟩
     have hsv15 : Below v12.heap.size v12 v15 := by rw [hv15]; exact below1 v12 _
     have yQP := kQ.lt
     replace kQ := kQ.grow hsv15
     have kP : Blk v15 v12.heap.size 23 #[I 0, I 0] := by rw [hv15]; exact Blk.new v12 _ _
     have gP := (wBv12 : Below w7.heap.size w7 v12).size
     replace hsl := hsl.mono hsv15
     have wBv15 := bup (wBv12) hsv15
     have yP := hsv15.size
     rw [← hv15]
     clear hv15
     refine hK_.out _ _ (HSw.out _ wBv15) (fun hHeld => ?_)
     clear hK_ K_
     (try go_frame)
     refine zg_ready (i := 2) (by decide) rfl (by kernel_rfl) (fun K_ hK_ => ?_)
     go_simp
     refine (x_gapC v53 v15 hsl).mono ?_
     rintro e v16 ⟨rfl, hsv16⟩
     replace kQ := kQ.grow hsv16
     replace kP := kP.grow hsv16
     replace hsl := hsl.mono hsv16
     have wBv16 := bup (wBv15) hsv16
     have yv16 := hsv16.size
     refine hK_.out _ _ (HSw.out _ wBv16) (fun hHeld => ?_)
     clear hK_ K_
     (try go_frame)
     (refine zg_tk 3 ?_; refine zg_tk 4 ?_; refine zg_tk 5 ?_; refine zg_tk 6 ?_; (try go_frame))
     have qP0 : v16.cell? ⟨v12.heap.size, 0, none⟩ = some (I 0) := kP.cell 0
     have fP0 := kP.frozen 0
     have qP1 : v16.cell? ⟨v12.heap.size, 1, none⟩ = some (I 0) := kP.cell 1
     have fP1 := kP.frozen 1
     have qQ0 : v16.cell? ⟨v1.heap.size, 0, none⟩ = some (I 0) := kQ.cell 0
     have fQ0 := kQ.frozen 0
     have qQ1 : v16.cell? ⟨v1.heap.size, 1, none⟩ = some (I 0) := kQ.cell 1
     have fQ1 := kQ.frozen 1
     (refine zg_rd 9 fun K_ hK_ => ?_; go_simp; skip; refine hK_.out _ _ ?_ (fun hHeld => ?_); rotate_left; clear hK_ K_; (try go_frame); rotate_left)
     ·exact HSw.out _ (gap_below2 (wBv16) (by have := hnq.out; omega))
     (refine zg_rd 10 fun K_ hK_ => ?_; go_simp; skip; refine hK_.out _ _ ?_ (fun hHeld => ?_); rotate_left; clear hK_ K_; (try go_frame); rotate_left)
     ·exact HSw.out _ (gap_below2 (gap_below2 (wBv16) (by have := hnq.out; omega)) (by have := hnq.out; omega))
     (refine zg_ls 11 fun K_ hK_ => ?_; go_simp; skip; refine hK_.out _ _ ?_; clear hK_ K_; (try go_frame))
     have hbE : Below nq w7 ((((v16.setCell ⟨v12.heap.size, 0, none⟩ (I (-40))).setCell ⟨v12.heap.size, 1, none⟩ (I 50)).setCell ⟨v1.heap.size, 0, none⟩ (I 0)).setCell ⟨v1.heap.size, 1, none⟩ (I 40)) := by rw [← hnq.out]; exact gap_below2 (gap_below2 (wBv16) (by have := hnq.out; omega)) (by have := hnq.out; omega)
     have hkP : Blk ((((v16.setCell ⟨v12.heap.size, 0, none⟩ (I (-40))).setCell ⟨v12.heap.size, 1, none⟩ (I 50)).setCell ⟨v1.heap.size, 0, none⟩ (I 0)).setCell ⟨v1.heap.size, 1, none⟩ (I 40)) (v12.heap.size) 23 #[I (-40), I 50] := ((gap_set2 (kP)).far (p := ⟨v1.heap.size, 0, none⟩) (by show v12.heap.size ≠ v1.heap.size; omega) _).far (p := ⟨v1.heap.size, 1, none⟩) (by show v12.heap.size ≠ v1.heap.size; omega) _
     have hgP : nq ≤ v12.heap.size := by have := hnq.out; omega
     have hkQ : Blk ((((v16.setCell ⟨v12.heap.size, 0, none⟩ (I (-40))).setCell ⟨v12.heap.size, 1, none⟩ (I 50)).setCell ⟨v1.heap.size, 0, none⟩ (I 0)).setCell ⟨v1.heap.size, 1, none⟩ (I 40)) (v1.heap.size) 23 #[I 0, I 40] := gap_set2 (((kQ).far (p := ⟨v12.heap.size, 0, none⟩) (by show v1.heap.size ≠ v12.heap.size; omega) _).far (p := ⟨v12.heap.size, 1, none⟩) (by show v1.heap.size ≠ v12.heap.size; omega) _)
     have hgQ : nq ≤ v1.heap.size := by have := hnq.out; omega
     have hne : v12.heap.size ≠ v1.heap.size := by omega
     generalize ((((v16.setCell ⟨v12.heap.size, 0, none⟩ (I (-40))).setCell ⟨v12.heap.size, 1, none⟩ (I 50)).setCell ⟨v1.heap.size, 0, none⟩ (I 0)).setCell ⟨v1.heap.size, 1, none⟩ (I 40)) = Wz at hbE hkP hkQ ⊢
     generalize (v12.heap.size : Nat) = bP at hkP hgP hne ⊢
     generalize (v1.heap.size : Nat) = bQ at hkQ hgQ hne ⊢
     revert hbE
     revert hkP
     revert hkQ
     revert hgP
     revert hgQ
     revert hne
     clear hsl
     revert bP
     revert bQ
     revert v53
     revert Wz
     exact key.out
  ·go_simp
   obtain ⟨v17, hv17⟩ : ∃ v17, v17 = (w7.alloc (.cells #[I 0, I 0] 23)).drew := ⟨_, rfl⟩
   have hsv17 : Below w7.drew.heap.size w7.drew v17 := by rw [hv17]; exact below1 w7.drew _
   have kP : Blk v17 w7.heap.size 23 #[I 0, I 0] := by rw [hv17]; exact Blk.new w7.drew _ _
   have gP := (wB : Below w7.heap.size w7 w7.drew).size
   have wBv17 := bup (wB) hsv17
   have yP := hsv17.size
   rw [← hv17]
   clear hv17
   refine hK_.out _ _ (HSw.out _ wBv17) (fun hHeld => ?_)
   clear hK_ K_
   (try go_frame)
   refine zg_two (i := 1) (j := 8) (by decide) (by decide) rfl rfl (by kernel_rfl) (fun K_ hK_ => ?_) (fun K_ hK_ => ?_)
   ·go_simp
    refine (law_record v17).mono ?_
    rintro e v18 ⟨v53, rfl, hsl, hsv18⟩
    replace kP := kP.grow hsv18
    have wBv18 := bup (wBv17) hsv18
    have yv18 := hsv18.size
    refine hK_.out _ _ (HSw.out _ wBv18) (fun hHeld => ?_)
    clear hK_ K_
    (try go_frame)
    refine zg_two (i := 2) (j := 8) (by decide) (by decide) rfl rfl (by kernel_rfl) (fun K_ hK_ => ?_) (fun K_ hK_ => ?_)
    ·go_simp
     refine (x_gapC v53 v18 hsl).mono ?_
     rintro e v19 ⟨rfl, hsv19⟩
     replace kP := kP.grow hsv19
     replace hsl := hsl.mono hsv19
     have wBv19 := bup (wBv18) hsv19
     have yv19 := hsv19.size
     refine hK_.out _ _ (HSw.out _ wBv19) (fun hHeld => ?_)
     clear hK_ K_
     (try go_frame)
     (refine zg_tk 3 ?_; refine zg_tk 4 ?_; refine zg_tk 5 ?_; refine zg_tk 6 ?_; (try go_frame))
     refine zg_ready (i := 8) (by decide) rfl (by kernel_rfl) (fun K_ hK_ => ?_)
     go_simp
     obtain ⟨v20, hv20⟩ : ∃ v20, v20 = (v19.alloc (.cells #[I 0, I 0] 23)) := ⟨_, rfl⟩
     have hsv20 : Below v19.heap.size v19 v20 := by rw [hv20]; exact below1 v19 _
     have yPQ := kP.lt
     replace kP := kP.grow hsv20
     have kQ : Blk v20 v19.heap.size 23 #[I 0, I 0] := by rw [hv20]; exact Blk.new v19 _ _
     have gQ := (wBv19 : Below w7.heap.size w7 v19).size
     replace hsl := hsl.mono hsv20
     have wBv20 := bup (wBv19) hsv20
     have yQ := hsv20.size
     rw [← hv20]
     clear hv20
     refine hK_.out _ _ (HSw.out _ wBv20) (fun hHeld => ?_)
     clear hK_ K_
     (try go_frame)
     have qP0 : v20.cell? ⟨w7.heap.size, 0, none⟩ = some (I 0) := kP.cell 0
     have fP0 := kP.frozen 0
     have qP1 : v20.cell? ⟨w7.heap.size, 1, none⟩ = some (I 0) := kP.cell 1
     have fP1 := kP.frozen 1
     have qQ0 : v20.cell? ⟨v19.heap.size, 0, none⟩ = some (I 0) := kQ.cell 0
     have fQ0 := kQ.frozen 0
     have qQ1 : v20.cell? ⟨v19.heap.size, 1, none⟩ = some (I 0) := kQ.cell 1
     have fQ1 := kQ.frozen 1
     (refine zg_rd 9 fun K_ hK_ => ?_; go_simp; skip; refine hK_.out _ _ ?_ (fun hHeld => ?_); rotate_left; clear hK_ K_; (try go_frame); rotate_left)
     ·exact HSw.out _ (gap_below2 (wBv20) (by have := hnq.out; omega))
     (refine zg_rd 10 fun K_ hK_ => ?_; go_simp; skip; refine hK_.out _ _ ?_ (fun hHeld => ?_); rotate_left; clear hK_ K_; (try go_frame); rotate_left)
     ·exact HSw.out _ (gap_below2 (gap_below2 (wBv20) (by have := hnq.out; omega)) (by have := hnq.out; omega))
     (refine zg_ls 11 fun K_ hK_ => ?_; go_simp; skip; refine hK_.out _ _ ?_; clear hK_ K_; (try go_frame))
     have hbE : Below nq w7 ((((v20.setCell ⟨w7.heap.size, 0, none⟩ (I (-40))).setCell ⟨w7.heap.size, 1, none⟩ (I 50)).setCell ⟨v19.heap.size, 0, none⟩ (I 0)).setCell ⟨v19.heap.size, 1, none⟩ (I 40)) := by rw [← hnq.out]; exact gap_below2 (gap_below2 (wBv20) (by have := hnq.out; omega)) (by have := hnq.out; omega)
     have hkP : Blk ((((v20.setCell ⟨w7.heap.size, 0, none⟩ (I (-40))).setCell ⟨w7.heap.size, 1, none⟩ (I 50)).setCell ⟨v19.heap.size, 0, none⟩ (I 0)).setCell ⟨v19.heap.size, 1, none⟩ (I 40)) (w7.heap.size) 23 #[I (-40), I 50] := ((gap_set2 (kP)).far (p := ⟨v19.heap.size, 0, none⟩) (by show w7.heap.size ≠ v19.heap.size; omega) _).far (p := ⟨v19.heap.size, 1, none⟩) (by show w7.heap.size ≠ v19.heap.size; omega) _
     have hgP : nq ≤ w7.heap.size := by have := hnq.out; omega
     have hkQ : Blk ((((v20.setCell ⟨w7.heap.size, 0, none⟩ (I (-40))).setCell ⟨w7.heap.size, 1, none⟩ (I 50)).setCell ⟨v19.heap.size, 0, none⟩ (I 0)).setCell ⟨v19.heap.size, 1, none⟩ (I 40)) (v19.heap.size) 23 #[I 0, I 40] := gap_set2 (((kQ).far (p := ⟨w7.heap.size, 0, none⟩) (by show v19.heap.size ≠ w7.heap.size; omega) _).far (p := ⟨w7.heap.size, 1, none⟩) (by show v19.heap.size ≠ w7.heap.size; omega) _)
     have hgQ : nq ≤ v19.heap.size := by have := hnq.out; omega
     have hne : w7.heap.size ≠ v19.heap.size := by omega
     generalize ((((v20.setCell ⟨w7.heap.size, 0, none⟩ (I (-40))).setCell ⟨w7.heap.size, 1, none⟩ (I 50)).setCell ⟨v19.heap.size, 0, none⟩ (I 0)).setCell ⟨v19.heap.size, 1, none⟩ (I 40)) = Wz at hbE hkP hkQ ⊢
     generalize (w7.heap.size : Nat) = bP at hkP hgP hne ⊢
     generalize (v19.heap.size : Nat) = bQ at hkQ hgQ hne ⊢
     revert hbE
     revert hkP
     revert hkQ
     revert hgP
     revert hgQ
     revert hne
     clear hsl
     revert bP
     revert bQ
     revert v53
     revert Wz
     exact key.out
    ·go_simp
     obtain ⟨v21, hv21⟩ : ∃ v21, v21 = (v18.alloc (.cells #[I 0, I 0] 23)) := ⟨_, rfl⟩
     have hsv21 : Below v18.heap.size v18 v21 := by rw [hv21]; exact below1 v18 _
     have yPQ := kP.lt
     replace kP := kP.grow hsv21
     have kQ : Blk v21 v18.heap.size 23 #[I 0, I 0] := by rw [hv21]; exact Blk.new v18 _ _
     have gQ := (wBv18 : Below w7.heap.size w7 v18).size
     replace hsl := hsl.mono hsv21
     have wBv21 := bup (wBv18) hsv21
     have yQ := hsv21.size
     rw [← hv21]
     clear hv21
     refine hK_.out _ _ (HSw.out _ wBv21) (fun hHeld => ?_)
     clear hK_ K_
     (try go_frame)
     refine zg_ready (i := 2) (by decide) rfl (by kernel_rfl) (fun K_ hK_ => ?_)
     go_simp
     refine (x_gapC v53 v21 hsl).mono ?_
     rintro e v22 ⟨rfl, hsv22⟩
     replace kP := kP.grow hsv22
     replace kQ := kQ.grow hsv22
     replace hsl := hsl.mono hsv22
     have wBv22 := bup (wBv21) hsv22
     have yv22 := hsv22.size
     refine hK_.out _ _ (HSw.out _ wBv22) (fun hHeld => ?_)
     clear hK_ K_
     (try go_frame)
     (refine zg_tk 3 ?_; refine zg_tk 4 ?_; refine zg_tk 5 ?_; refine zg_tk 6 ?_; (try go_frame))
     have qP0 : v22.cell? ⟨w7.heap.size, 0, none⟩ = some (I 0) := kP.cell 0
     have fP0 := kP.frozen 0
     have qP1 : v22.cell? ⟨w7.heap.size, 1, none⟩ = some (I 0) := kP.cell 1
     have fP1 := kP.frozen 1
     have qQ0 : v22.cell? ⟨v18.heap.size, 0, none⟩ = some (I 0) := kQ.cell 0
     have fQ0 := kQ.frozen 0
     have qQ1 : v22.cell? ⟨v18.heap.size, 1, none⟩ = some (I 0) := kQ.cell 1
     have fQ1 := kQ.frozen 1
     (refine zg_rd 9 fun K_ hK_ => ?_; go_simp; skip; refine hK_.out _ _ ?_ (fun hHeld => ?_); rotate_left; clear hK_ K_; (try go_frame); rotate_left)
     ·exact HSw.out _ (gap_below2 (wBv22) (by have := hnq.out; omega))
     (refine zg_rd 10 fun K_ hK_ => ?_; go_simp; skip; refine hK_.out _ _ ?_ (fun hHeld => ?_); rotate_left; clear hK_ K_; (try go_frame); rotate_left)
     ·exact HSw.out _ (gap_below2 (gap_below2 (wBv22) (by have := hnq.out; omega)) (by have := hnq.out; omega))
     (refine zg_ls 11 fun K_ hK_ => ?_; go_simp; skip; refine hK_.out _ _ ?_; clear hK_ K_; (try go_frame))
     have hbE : Below nq w7 ((((v22.setCell ⟨w7.heap.size, 0, none⟩ (I (-40))).setCell ⟨w7.heap.size, 1, none⟩ (I 50)).setCell ⟨v18.heap.size, 0, none⟩ (I 0)).setCell ⟨v18.heap.size, 1, none⟩ (I 40)) := by rw [← hnq.out]; exact gap_below2 (gap_below2 (wBv22) (by have := hnq.out; omega)) (by have := hnq.out; omega)
     have hkP : Blk ((((v22.setCell ⟨w7.heap.size, 0, none⟩ (I (-40))).setCell ⟨w7.heap.size, 1, none⟩ (I 50)).setCell ⟨v18.heap.size, 0, none⟩ (I 0)).setCell ⟨v18.heap.size, 1, none⟩ (I 40)) (w7.heap.size) 23 #[I (-40), I 50] := ((gap_set2 (kP)).far (p := ⟨v18.heap.size, 0, none⟩) (by show w7.heap.size ≠ v18.heap.size; omega) _).far (p := ⟨v18.heap.size, 1, none⟩) (by show w7.heap.size ≠ v18.heap.size; omega) _
     have hgP : nq ≤ w7.heap.size := by have := hnq.out; omega
     have hkQ : Blk ((((v22.setCell ⟨w7.heap.size, 0, none⟩ (I (-40))).setCell ⟨w7.heap.size, 1, none⟩ (I 50)).setCell ⟨v18.heap.size, 0, none⟩ (I 0)).setCell ⟨v18.heap.size, 1, none⟩ (I 40)) (v18.heap.size) 23 #[I 0, I 40] := gap_set2 (((kQ).far (p := ⟨w7.heap.size, 0, none⟩) (by show v18.heap.size ≠ w7.heap.size; omega) _).far (p := ⟨w7.heap.size, 1, none⟩) (by show v18.heap.size ≠ w7.heap.size; omega) _)
     have hgQ : nq ≤ v18.heap.size := by have := hnq.out; omega
     have hne : w7.heap.size ≠ v18.heap.size := by omega
     generalize ((((v22.setCell ⟨w7.heap.size, 0, none⟩ (I (-40))).setCell ⟨w7.heap.size, 1, none⟩ (I 50)).setCell ⟨v18.heap.size, 0, none⟩ (I 0)).setCell ⟨v18.heap.size, 1, none⟩ (I 40)) = Wz at hbE hkP hkQ ⊢
     generalize (w7.heap.size : Nat) = bP at hkP hgP hne ⊢
     generalize (v18.heap.size : Nat) = bQ at hkQ hgQ hne ⊢
     revert hbE
     revert hkP
     revert hkQ
     revert hgP
     revert hgQ
     revert hne
     clear hsl
     revert bP
     revert bQ
     revert v53
     revert Wz
     exact key.out
   ·go_simp
    obtain ⟨v23, hv23⟩ : ∃ v23, v23 = (v17.alloc (.cells #[I 0, I 0] 23)) := ⟨_, rfl⟩
    have hsv23 : Below v17.heap.size v17 v23 := by rw [hv23]; exact below1 v17 _
    have yPQ := kP.lt
    replace kP := kP.grow hsv23
    have kQ : Blk v23 v17.heap.size 23 #[I 0, I 0] := by rw [hv23]; exact Blk.new v17 _ _
    have gQ := (wBv17 : Below w7.heap.size w7 v17).size
    have wBv23 := bup (wBv17) hsv23
    have yQ := hsv23.size
    rw [← hv23]
    clear hv23
    refine hK_.out _ _ (HSw.out _ wBv23) (fun hHeld => ?_)
    clear hK_ K_
    (try go_frame)
    refine zg_ready (i := 1) (by decide) rfl (by kernel_rfl) (fun K_ hK_ => ?_)
    go_simp
    refine (law_record v23).mono ?_
    rintro e v24 ⟨v53, rfl, hsl, hsv24⟩
    replace kP := kP.grow hsv24
    replace kQ := kQ.grow hsv24
    have wBv24 := bup (wBv23) hsv24
    have yv24 := hsv24.size
    refine hK_.out _ _ (HSw.out _ wBv24) (fun hHeld => ?_)
    clear hK_ K_
    (try go_frame)
    refine zg_ready (i := 2) (by decide) rfl (by kernel_rfl) (fun K_ hK_ => ?_)
    go_simp
    refine (x_gapC v53 v24 hsl).mono ?_
    rintro e v25 ⟨rfl, hsv25⟩
    replace kP := kP.grow hsv25
    replace kQ := kQ.grow hsv25
    replace hsl := hsl.mono hsv25
    have wBv25 := bup (wBv24) hsv25
    have yv25 := hsv25.size
    refine hK_.out _ _ (HSw.out _ wBv25) (fun hHeld => ?_)
    clear hK_ K_
    (try go_frame)
    (refine zg_tk 3 ?_; refine zg_tk 4 ?_; refine zg_tk 5 ?_; refine zg_tk 6 ?_; (try go_frame))
    have qP0 : v25.cell? ⟨w7.heap.size, 0, none⟩ = some (I 0) := kP.cell 0
    have fP0 := kP.frozen 0
    have qP1 : v25.cell? ⟨w7.heap.size, 1, none⟩ = some (I 0) := kP.cell 1
    have fP1 := kP.frozen 1
    have qQ0 : v25.cell? ⟨v17.heap.size, 0, none⟩ = some (I 0) := kQ.cell 0
    have fQ0 := kQ.frozen 0
    have qQ1 : v25.cell? ⟨v17.heap.size, 1, none⟩ = some (I 0) := kQ.cell 1
    have fQ1 := kQ.frozen 1
    (refine zg_rd 9 fun K_ hK_ => ?_; go_simp; skip; refine hK_.out _ _ ?_ (fun hHeld => ?_); rotate_left; clear hK_ K_; (try go_frame); rotate_left)
    ·exact HSw.out _ (gap_below2 (wBv25) (by have := hnq.out; omega))
    (refine zg_rd 10 fun K_ hK_ => ?_; go_simp; skip; refine hK_.out _ _ ?_ (fun hHeld => ?_); rotate_left; clear hK_ K_; (try go_frame); rotate_left)
    ·exact HSw.out _ (gap_below2 (gap_below2 (wBv25) (by have := hnq.out; omega)) (by have := hnq.out; omega))
    (refine zg_ls 11 fun K_ hK_ => ?_; go_simp; skip; refine hK_.out _ _ ?_; clear hK_ K_; (try go_frame))
    have hbE : Below nq w7 ((((v25.setCell ⟨w7.heap.size, 0, none⟩ (I (-40))).setCell ⟨w7.heap.size, 1, none⟩ (I 50)).setCell ⟨v17.heap.size, 0, none⟩ (I 0)).setCell ⟨v17.heap.size, 1, none⟩ (I 40)) := by rw [← hnq.out]; exact gap_below2 (gap_below2 (wBv25) (by have := hnq.out; omega)) (by have := hnq.out; omega)
    have hkP : Blk ((((v25.setCell ⟨w7.heap.size, 0, none⟩ (I (-40))).setCell ⟨w7.heap.size, 1, none⟩ (I 50)).setCell ⟨v17.heap.size, 0, none⟩ (I 0)).setCell ⟨v17.heap.size, 1, none⟩ (I 40)) (w7.heap.size) 23 #[I (-40), I 50] := ((gap_set2 (kP)).far (p := ⟨v17.heap.size, 0, none⟩) (by show w7.heap.size ≠ v17.heap.size; omega) _).far (p := ⟨v17.heap.size, 1, none⟩) (by show w7.heap.size ≠ v17.heap.size; omega) _
    have hgP : nq ≤ w7.heap.size := by have := hnq.out; omega
    have hkQ : Blk ((((v25.setCell ⟨w7.heap.size, 0, none⟩ (I (-40))).setCell ⟨w7.heap.size, 1, none⟩ (I 50)).setCell ⟨v17.heap.size, 0, none⟩ (I 0)).setCell ⟨v17.heap.size, 1, none⟩ (I 40)) (v17.heap.size) 23 #[I 0, I 40] := gap_set2 (((kQ).far (p := ⟨w7.heap.size, 0, none⟩) (by show v17.heap.size ≠ w7.heap.size; omega) _).far (p := ⟨w7.heap.size, 1, none⟩) (by show v17.heap.size ≠ w7.heap.size; omega) _)
    have hgQ : nq ≤ v17.heap.size := by have := hnq.out; omega
    have hne : w7.heap.size ≠ v17.heap.size := by omega
    generalize ((((v25.setCell ⟨w7.heap.size, 0, none⟩ (I (-40))).setCell ⟨w7.heap.size, 1, none⟩ (I 50)).setCell ⟨v17.heap.size, 0, none⟩ (I 0)).setCell ⟨v17.heap.size, 1, none⟩ (I 40)) = Wz at hbE hkP hkQ ⊢
    generalize (w7.heap.size : Nat) = bP at hkP hgP hne ⊢
    generalize (v17.heap.size : Nat) = bQ at hkQ hgQ hne ⊢
    revert hbE
    revert hkP
    revert hkQ
    revert hgP
    revert hgQ
    revert hne
    clear hsl
    revert bP
    revert bQ
    revert v53
    revert Wz
    exact key.out
  ·go_simp
   obtain ⟨v26, hv26⟩ : ∃ v26, v26 = (w7.alloc (.cells #[I 0, I 0] 23)).drew := ⟨_, rfl⟩
   have hsv26 : Below w7.drew.heap.size w7.drew v26 := by rw [hv26]; exact below1 w7.drew _
   have kQ : Blk v26 w7.heap.size 23 #[I 0, I 0] := by rw [hv26]; exact Blk.new w7.drew _ _
   have gQ := (wB : Below w7.heap.size w7 w7.drew).size
   have wBv26 := bup (wB) hsv26
   have yQ := hsv26.size
   rw [← hv26]
   clear hv26
   refine hK_.out _ _ (HSw.out _ wBv26) (fun hHeld => ?_)
   clear hK_ K_
   (try go_frame)
   refine zg_two (i := 1) (j := 7) (by decide) (by decide) rfl rfl (by kernel_rfl) (fun K_ hK_ => ?_) (fun K_ hK_ => ?_)
   ·go_simp
    refine (law_record v26).mono ?_
    rintro e v27 ⟨v53, rfl, hsl, hsv27⟩
    replace kQ := kQ.grow hsv27
    have wBv27 := bup (wBv26) hsv27
    have yv27 := hsv27.size
    refine hK_.out _ _ (HSw.out _ wBv27) (fun hHeld => ?_)
    clear hK_ K_
    (try go_frame)
    refine zg_two (i := 2) (j := 7) (by decide) (by decide) rfl rfl (by kernel_rfl) (fun K_ hK_ => ?_) (fun K_ hK_ => ?_)
    ·go_simp
     refine (x_gapC v53 v27 hsl).mono ?_
     rintro e v28 ⟨rfl, hsv28⟩
     replace kQ := kQ.grow hsv28
     replace hsl := hsl.mono hsv28
     have wBv28 := bup (wBv27) hsv28
     have yv28 := hsv28.size
     refine hK_.out _ _ (HSw.out _ wBv28) (fun hHeld => ?_)
     clear hK_ K_
     (try go_frame)
     (refine zg_tk 3 ?_; refine zg_tk 4 ?_; refine zg_tk 5 ?_; refine zg_tk 6 ?_; (try go_frame))
     refine zg_ready (i := 7) (by decide) rfl (by kernel_rfl) (fun K_ hK_ => ?_)
     go_simp
     obtain ⟨v29, hv29⟩ : ∃ v29, v29 = (v28.alloc (.cells #[I 0, I 0] 23)) := ⟨_, rfl⟩
     have hsv29 : Below v28.heap.size v28 v29 := by rw [hv29]; exact below1 v28 _
     have yQP := kQ.lt
     replace kQ := kQ.grow hsv29
     have kP : Blk v29 v28.heap.size 23 #[I 0, I 0] := by rw [hv29]; exact Blk.new v28 _ _
     have gP := (wBv28 : Below w7.heap.size w7 v28).size
     replace hsl := hsl.mono hsv29
     have wBv29 := bup (wBv28) hsv29
     have yP := hsv29.size
     rw [← hv29]
     clear hv29
     refine hK_.out _ _ (HSw.out _ wBv29) (fun hHeld => ?_)
     clear hK_ K_
     (try go_frame)
     have qP0 : v29.cell? ⟨v28.heap.size, 0, none⟩ = some (I 0) := kP.cell 0
     have fP0 := kP.frozen 0
     have qP1 : v29.cell? ⟨v28.heap.size, 1, none⟩ = some (I 0) := kP.cell 1
     have fP1 := kP.frozen 1
     have qQ0 : v29.cell? ⟨w7.heap.size, 0, none⟩ = some (I 0) := kQ.cell 0
     have fQ0 := kQ.frozen 0
     have qQ1 : v29.cell? ⟨w7.heap.size, 1, none⟩ = some (I 0) := kQ.cell 1
     have fQ1 := kQ.frozen 1
     (refine zg_rd 9 fun K_ hK_ => ?_; go_simp; skip; refine hK_.out _ _ ?_ (fun hHeld => ?_); rotate_left; clear hK_ K_; (try go_frame); rotate_left)
     ·exact HSw.out _ (gap_below2 (wBv29) (by have := hnq.out; omega))
     (refine zg_rd 10 fun K_ hK_ => ?_; go_simp; skip; refine hK_.out _ _ ?_ (fun hHeld => ?_); rotate_left; clear hK_ K_; (try go_frame); rotate_left)
     ·exact HSw.out _ (gap_below2 (gap_below2 (wBv29) (by have := hnq.out; omega)) (by have := hnq.out; omega))
     (refine zg_ls 11 fun K_ hK_ => ?_; go_simp; skip; refine hK_.out _ _ ?_; clear hK_ K_; (try go_frame))
     have hbE : Below nq w7 ((((v29.setCell ⟨v28.heap.size, 0, none⟩ (I (-40))).setCell ⟨v28.heap.size, 1, none⟩ (I 50)).setCell ⟨w7.heap.size, 0, none⟩ (I 0)).setCell ⟨w7.heap.size, 1, none⟩ (I 40)) := by rw [← hnq.out]; exact gap_below2 (gap_below2 (wBv29) (by have := hnq.out; omega)) (by have := hnq.out; omega)
     have hkP : Blk ((((v29.setCell ⟨v28.heap.size, 0, none⟩ (I (-40))).setCell ⟨v28.heap.size, 1, none⟩ (I 50)).setCell ⟨w7.heap.size, 0, none⟩ (I 0)).setCell ⟨w7.heap.size, 1, none⟩ (I 40)) (v28.heap.size) 23 #[I (-40), I 50] := ((gap_set2 (kP)).far (p := ⟨w7.heap.size, 0, none⟩) (by show v28.heap.size ≠ w7.heap.size; omega) _).far (p := ⟨w7.heap.size, 1, none⟩) (by show v28.heap.size ≠ w7.heap.size; omega) _
     have hgP : nq ≤ v28.heap.size := by have := hnq.out; omega
     have hkQ : Blk ((((v29.setCell ⟨v28.heap.size, 0, none⟩ (I (-40))).setCell ⟨v28.heap.size, 1, none⟩ (I 50)).setCell ⟨w7.heap.size, 0, none⟩ (I 0)).setCell ⟨w7.heap.size, 1, none⟩ (I 40)) (w7.heap.size) 23 #[I 0, I 40] := gap_set2 (((kQ).far (p := ⟨v28.heap.size, 0, none⟩) (by show w7.heap.size ≠ v28.heap.size; omega) _).far (p := ⟨v28.heap.size, 1, none⟩) (by show w7.heap.size ≠ v28.heap.size; omega) _)
     have hgQ : nq ≤ w7.heap.size := by have := hnq.out; omega
     have hne : v28.heap.size ≠ w7.heap.size := by omega
     generalize ((((v29.setCell ⟨v28.heap.size, 0, none⟩ (I (-40))).setCell ⟨v28.heap.size, 1, none⟩ (I 50)).setCell ⟨w7.heap.size, 0, none⟩ (I 0)).setCell ⟨w7.heap.size, 1, none⟩ (I 40)) = Wz at hbE hkP hkQ ⊢
     generalize (v28.heap.size : Nat) = bP at hkP hgP hne ⊢
     generalize (w7.heap.size : Nat) = bQ at hkQ hgQ hne ⊢
     revert hbE
     revert hkP
     revert hkQ
     revert hgP
     revert hgQ
     revert hne
     clear hsl
     revert bP
     revert bQ
     revert v53
     revert Wz
     exact key.out
    ·go_simp
     obtain ⟨v30, hv30⟩ : ∃ v30, v30 = (v27.alloc (.cells #[I 0, I 0] 23)) := ⟨_, rfl⟩
     have hsv30 : Below v27.heap.size v27 v30 := by rw [hv30]; exact below1 v27 _
     have yQP := kQ.lt
     replace kQ := kQ.grow hsv30
     have kP : Blk v30 v27.heap.size 23 #[I 0, I 0] := by rw [hv30]; exact Blk.new v27 _ _
     have gP := (wBv27 : Below w7.heap.size w7 v27).size
     replace hsl := hsl.mono hsv30
     have wBv30 := bup (wBv27) hsv30
     have yP := hsv30.size
     rw [← hv30]
     clear hv30
     refine hK_.out _ _ (HSw.out _ wBv30) (fun hHeld => ?_)
     clear hK_ K_
     (try go_frame)
     refine zg_ready (i := 2) (by decide) rfl (by kernel_rfl) (fun K_ hK_ => ?_)
     go_simp
     refine (x_gapC v53 v30 hsl).mono ?_
     rintro e v31 ⟨rfl, hsv31⟩
     replace kQ := kQ.grow hsv31
     replace kP := kP.grow hsv31
     replace hsl := hsl.mono hsv31
     have wBv31 := bup (wBv30) hsv31
     have yv31 := hsv31.size
     refine hK_.out _ _ (HSw.out _ wBv31) (fun hHeld => ?_)
     clear hK_ K_
     (try go_frame)
     (refine zg_tk 3 ?_; refine zg_tk 4 ?_; refine zg_tk 5 ?_; refine zg_tk 6 ?_; (try go_frame))
     have qP0 : v31.cell? ⟨v27.heap.size, 0, none⟩ = some (I 0) := kP.cell 0
     have fP0 := kP.frozen 0
     have qP1 : v31.cell? ⟨v27.heap.size, 1, none⟩ = some (I 0) := kP.cell 1
     have fP1 := kP.frozen 1
     have qQ0 : v31.cell? ⟨w7.heap.size, 0, none⟩ = some (I 0) := kQ.cell 0
     have fQ0 := kQ.frozen 0
     have qQ1 : v31.cell? ⟨w7.heap.size, 1, none⟩ = some (I 0) := kQ.cell 1
     have fQ1 := kQ.frozen 1
     (refine zg_rd 9 fun K_ hK_ => ?_; go_simp; skip; refine hK_.out _ _ ?_ (fun hHeld => ?_); rotate_left; clear hK_ K_; (try go_frame); rotate_left)
     ·exact HSw.out _ (gap_below2 (wBv31) (by have := hnq.out; omega))
     (refine zg_rd 10 fun K_ hK_ => ?_; go_simp; skip; refine hK_.out _ _ ?_ (fun hHeld => ?_); rotate_left; clear hK_ K_; (try go_frame); rotate_left)
     ·exact HSw.out _ (gap_below2 (gap_below2 (wBv31) (by have := hnq.out; omega)) (by have := hnq.out; omega))
     (refine zg_ls 11 fun K_ hK_ => ?_; go_simp; skip; refine hK_.out _ _ ?_; clear hK_ K_; (try go_frame))
     have hbE : Below nq w7 ((((v31.setCell ⟨v27.heap.size, 0, none⟩ (I (-40))).setCell ⟨v27.heap.size, 1, none⟩ (I 50)).setCell ⟨w7.heap.size, 0, none⟩ (I 0)).setCell ⟨w7.heap.size, 1, none⟩ (I 40)) := by rw [← hnq.out]; exact gap_below2 (gap_below2 (wBv31) (by have := hnq.out; omega)) (by have := hnq.out; omega)
     have hkP : Blk ((((v31.setCell ⟨v27.heap.size, 0, none⟩ (I (-40))).setCell ⟨v27.heap.size, 1, none⟩ (I 50)).setCell ⟨w7.heap.size, 0, none⟩ (I 0)).setCell ⟨w7.heap.size, 1, none⟩ (I 40)) (v27.heap.size) 23 #[I (-40), I 50] := ((gap_set2 (kP)).far (p := ⟨w7.heap.size, 0, none⟩) (by show v27.heap.size ≠ w7.heap.size; omega) _).far (p := ⟨w7.heap.size, 1, none⟩) (by show v27.heap.size ≠ w7.heap.size; omega) _
     have hgP : nq ≤ v27.heap.size := by have := hnq.out; omega
     have hkQ : Blk ((((v31.setCell ⟨v27.heap.size, 0, none⟩ (I (-40))).setCell ⟨v27.heap.size, 1, none⟩ (I 50)).setCell ⟨w7.heap.size, 0, none⟩ (I 0)).setCell ⟨w7.heap.size, 1, none⟩ (I 40)) (w7.heap.size) 23 #[I 0, I 40] := gap_set2 (((kQ).far (p := ⟨v27.heap.size, 0, none⟩) (by show w7.heap.size ≠ v27.heap.size; omega) _).far (p := ⟨v27.heap.size, 1, none⟩) (by show w7.heap.size ≠ v27.heap.size; omega) _)
     have hgQ : nq ≤ w7.heap.size := by have := hnq.out; omega
     have hne : v27.heap.size ≠ w7.heap.size := by omega
     generalize ((((v31.setCell ⟨v27.heap.size, 0, none⟩ (I (-40))).setCell ⟨v27.heap.size, 1, none⟩ (I 50)).setCell ⟨w7.heap.size, 0, none⟩ (I 0)).setCell ⟨w7.heap.size, 1, none⟩ (I 40)) = Wz at hbE hkP hkQ ⊢
     generalize (v27.heap.size : Nat) = bP at hkP hgP hne ⊢
     generalize (w7.heap.size : Nat) = bQ at hkQ hgQ hne ⊢
     revert hbE
     revert hkP
     revert hkQ
     revert hgP
     revert hgQ
     revert hne
     clear hsl
     revert bP
     revert bQ
     revert v53
     revert Wz
     exact key.out
   ·go_simp
    obtain ⟨v32, hv32⟩ : ∃ v32, v32 = (v26.alloc (.cells #[I 0, I 0] 23)) := ⟨_, rfl⟩
    have hsv32 : Below v26.heap.size v26 v32 := by rw [hv32]; exact below1 v26 _
    have yQP := kQ.lt
    replace kQ := kQ.grow hsv32
    have kP : Blk v32 v26.heap.size 23 #[I 0, I 0] := by rw [hv32]; exact Blk.new v26 _ _
    have gP := (wBv26 : Below w7.heap.size w7 v26).size
    have wBv32 := bup (wBv26) hsv32
    have yP := hsv32.size
    rw [← hv32]
    clear hv32
    refine hK_.out _ _ (HSw.out _ wBv32) (fun hHeld => ?_)
    clear hK_ K_
    (try go_frame)
    refine zg_ready (i := 1) (by decide) rfl (by kernel_rfl) (fun K_ hK_ => ?_)
    go_simp
    refine (law_record v32).mono ?_
    rintro e v33 ⟨v53, rfl, hsl, hsv33⟩
    replace kQ := kQ.grow hsv33
    replace kP := kP.grow hsv33
    have wBv33 := bup (wBv32) hsv33
    have yv33 := hsv33.size
    refine hK_.out _ _ (HSw.out _ wBv33) (fun hHeld => ?_)
    clear hK_ K_
    (try go_frame)
    refine zg_ready (i := 2) (by decide) rfl (by kernel_rfl) (fun K_ hK_ => ?_)
    go_simp
    refine (x_gapC v53 v33 hsl).mono ?_
    rintro e v34 ⟨rfl, hsv34⟩
    replace kQ := kQ.grow hsv34
    replace kP := kP.grow hsv34
    replace hsl := hsl.mono hsv34
    have wBv34 := bup (wBv33) hsv34
    have yv34 := hsv34.size
    refine hK_.out _ _ (HSw.out _ wBv34) (fun hHeld => ?_)
    clear hK_ K_
    (try go_frame)
    (refine zg_tk 3 ?_; refine zg_tk 4 ?_; refine zg_tk 5 ?_; refine zg_tk 6 ?_; (try go_frame))
    have qP0 : v34.cell? ⟨v26.heap.size, 0, none⟩ = some (I 0) := kP.cell 0
    have fP0 := kP.frozen 0
    have qP1 : v34.cell? ⟨v26.heap.size, 1, none⟩ = some (I 0) := kP.cell 1
    have fP1 := kP.frozen 1
    have qQ0 : v34.cell? ⟨w7.heap.size, 0, none⟩ = some (I 0) := kQ.cell 0
    have fQ0 := kQ.frozen 0
    have qQ1 : v34.cell? ⟨w7.heap.size, 1, none⟩ = some (I 0) := kQ.cell 1
    have fQ1 := kQ.frozen 1
    (refine zg_rd 9 fun K_ hK_ => ?_; go_simp; skip; refine hK_.out _ _ ?_ (fun hHeld => ?_); rotate_left; clear hK_ K_; (try go_frame); rotate_left)
    ·exact HSw.out _ (gap_below2 (wBv34) (by have := hnq.out; omega))
    (refine zg_rd 10 fun K_ hK_ => ?_; go_simp; skip; refine hK_.out _ _ ?_ (fun hHeld => ?_); rotate_left; clear hK_ K_; (try go_frame); rotate_left)
    ·exact HSw.out _ (gap_below2 (gap_below2 (wBv34) (by have := hnq.out; omega)) (by have := hnq.out; omega))
    (refine zg_ls 11 fun K_ hK_ => ?_; go_simp; skip; refine hK_.out _ _ ?_; clear hK_ K_; (try go_frame))
    have hbE : Below nq w7 ((((v34.setCell ⟨v26.heap.size, 0, none⟩ (I (-40))).setCell ⟨v26.heap.size, 1, none⟩ (I 50)).setCell ⟨w7.heap.size, 0, none⟩ (I 0)).setCell ⟨w7.heap.size, 1, none⟩ (I 40)) := by rw [← hnq.out]; exact gap_below2 (gap_below2 (wBv34) (by have := hnq.out; omega)) (by have := hnq.out; omega)
    have hkP : Blk ((((v34.setCell ⟨v26.heap.size, 0, none⟩ (I (-40))).setCell ⟨v26.heap.size, 1, none⟩ (I 50)).setCell ⟨w7.heap.size, 0, none⟩ (I 0)).setCell ⟨w7.heap.size, 1, none⟩ (I 40)) (v26.heap.size) 23 #[I (-40), I 50] := ((gap_set2 (kP)).far (p := ⟨w7.heap.size, 0, none⟩) (by show v26.heap.size ≠ w7.heap.size; omega) _).far (p := ⟨w7.heap.size, 1, none⟩) (by show v26.heap.size ≠ w7.heap.size; omega) _
    have hgP : nq ≤ v26.heap.size := by have := hnq.out; omega
    have hkQ : Blk ((((v34.setCell ⟨v26.heap.size, 0, none⟩ (I (-40))).setCell ⟨v26.heap.size, 1, none⟩ (I 50)).setCell ⟨w7.heap.size, 0, none⟩ (I 0)).setCell ⟨w7.heap.size, 1, none⟩ (I 40)) (w7.heap.size) 23 #[I 0, I 40] := gap_set2 (((kQ).far (p := ⟨v26.heap.size, 0, none⟩) (by show w7.heap.size ≠ v26.heap.size; omega) _).far (p := ⟨v26.heap.size, 1, none⟩) (by show w7.heap.size ≠ v26.heap.size; omega) _)
    have hgQ : nq ≤ w7.heap.size := by have := hnq.out; omega
    have hne : v26.heap.size ≠ w7.heap.size := by omega
    generalize ((((v34.setCell ⟨v26.heap.size, 0, none⟩ (I (-40))).setCell ⟨v26.heap.size, 1, none⟩ (I 50)).setCell ⟨w7.heap.size, 0, none⟩ (I 0)).setCell ⟨w7.heap.size, 1, none⟩ (I 40)) = Wz at hbE hkP hkQ ⊢
    generalize (v26.heap.size : Nat) = bP at hkP hgP hne ⊢
    generalize (w7.heap.size : Nat) = bQ at hkQ hgQ hne ⊢
    revert hbE
    revert hkP
    revert hkQ
    revert hgP
    revert hgQ
    revert hne
    clear hsl
    revert bP
    revert bQ
    revert v53
    revert Wz
    exact key.out
 case g =>
  intro w8 v53 bQ bP hne hgQ hgP hkQ hkP hbE
  replace hbE : Below w7.heap.size w7 w8 := by rw [hnq.out]; exact hbE
  replace kC := hide (kC.out.grow hbE)
  replace kW := hide (kW.out.grow hbE)
  have B8 := bup B7 hbE
  clear hbE B7 hnq HSw hHeld wB
  have kP := hide hkP
  clear hkP
  have kQ := hide hkQ
  clear hkQ
  obtain ⟨rP0, rP1⟩ := kP.out.cells2
  have zP : bP < w8.heap.size := kP.out.lt
  obtain ⟨rQ0, rQ1⟩ := kQ.out.cells2
  have zQ : bQ < w8.heap.size := kQ.out.lt
  obtain ⟨rC0, rC1, rC2, rC3, rC4, rC5, rC6, rC7⟩ := kC.out.cells8
  have zC : bC < w8.heap.size := kC.out.lt
  go_wp2_with fail
  clear rP0 rP1 zP rQ0 rQ1 zQ rC0 rC1 rC2 rC3 rC4 rC5 rC6 rC7 zC
  have HSw : ∀ W : World, Below w8.heap.size w8 W → (fun W : World => W.cell? ⟨bC, 0, none⟩ = some (I 1000) ∧ W.cell? ⟨bC, 1, none⟩ = some (I 6) ∧ W.cell? ⟨bC, 2, none⟩ = some (I 50) ∧ W.cell? ⟨bC, 3, none⟩ = some (I 40) ∧ W.cell? ⟨bC, 4, none⟩ = some (I (-200)) ∧ W.cell? ⟨bC, 5, none⟩ = some (I 250) ∧ W.cell? ⟨bC, 6, none⟩ = some (I 400) ∧ W.cell? ⟨bC, 7, none⟩ = some (I 410)) W := fun W h => by
   have h2 := kC.out.grow h
   exact ⟨h2.cell 0, h2.cell 1, h2.cell 2, h2.cell 3, h2.cell 4, h2.cell 5, h2.cell 6, h2.cell 7⟩
  replace HSw := hide HSw
  refine wp_region_zg (S := fun W => W.cell? ⟨bC, 0, none⟩ = some (I 1000) ∧ W.cell? ⟨bC, 1, none⟩ = some (I 6) ∧ W.cell? ⟨bC, 2, none⟩ = some (I 50) ∧ W.cell? ⟨bC, 3, none⟩ = some (I 40) ∧ W.cell? ⟨bC, 4, none⟩ = some (I (-200)) ∧ W.cell? ⟨bC, 5, none⟩ = some (I 250) ∧ W.cell? ⟨bC, 6, none⟩ = some (I 400) ∧ W.cell? ⟨bC, 7, none⟩ = some (I 410)) 8 (by kernel_rfl) (by kernel_rfl) ?_
  have wB : Below w8.heap.size w8 w8.drew := (Below.refl _ _).drew
  have hHeld := HSw.out _ wB
  (refine zg_tk 0 ?_; (try go_frame))
  obtain ⟨nq, hnq⟩ : ∃ n, w8.heap.size = n := ⟨_, rfl⟩
  replace hnq := hide hnq
  apply via
  case f =>
   intro key
   refine zg_two (i := 1) (j := 6) (by decide) (by decide) rfl rfl (by kernel_rfl) (fun K_ hK_ => ?_) (fun K_ hK_ => ?_)
   ·go_simp
    refine (law_record w8.drew).mono ?_
    rintro e v1 ⟨v108, rfl, hsl, hsv1⟩
    have wBv1 := bup (wB) hsv1
    have yv1 := hsv1.size
    refine hK_.out _ _ (HSw.out _ wBv1) (fun hHeld => ?_)
    clear hK_ K_
    (try go_frame)
    refine zg_two (i := 2) (j := 6) (by decide) (by decide) rfl rfl (by kernel_rfl) (fun K_ hK_ => ?_) (fun K_ hK_ => ?_)
    ·go_simp
     refine (x_changeC v108 v1 hsl).mono ?_
     rintro e v2 ⟨rfl, hsv2⟩
     replace hsl := hsl.mono hsv2
     have wBv2 := bup (wBv1) hsv2
     have yv2 := hsv2.size
     refine hK_.out _ _ (HSw.out _ wBv2) (fun hHeld => ?_)
     clear hK_ K_
     (try go_frame)
     (refine zg_tk 3 ?_; refine zg_tk 4 ?_; refine zg_tk 5 ?_; (try go_frame))
     refine zg_ready (i := 6) (by decide) rfl (by kernel_rfl) (fun K_ hK_ => ?_)
     go_simp
     obtain ⟨v3, hv3⟩ : ∃ v3, v3 = (v2.alloc (.cells #[I 0, I 0] 23)) := ⟨_, rfl⟩
     have hsv3 : Below v2.heap.size v2 v3 := by rw [hv3]; exact below1 v2 _
     have kR : Blk v3 v2.heap.size 23 #[I 0, I 0] := by rw [hv3]; exact Blk.new v2 _ _
     have gR := (wBv2 : Below w8.heap.size w8 v2).size
     replace hsl := hsl.mono hsv3
     have wBv3 := bup (wBv2) hsv3
     have yR := hsv3.size
     rw [← hv3]
     clear hv3
     refine hK_.out _ _ (HSw.out _ wBv3) (fun hHeld => ?_)
     clear hK_ K_
     (try go_frame)
     have qR0 : v3.cell? ⟨v2.heap.size, 0, none⟩ = some (I 0) := kR.cell 0
     have fR0 := kR.frozen 0
     have qR1 : v3.cell? ⟨v2.heap.size, 1, none⟩ = some (I 0) := kR.cell 1
     have fR1 := kR.frozen 1
     (refine zg_rd 7 fun K_ hK_ => ?_; go_simp; skip; refine hK_.out _ _ ?_ (fun hHeld => ?_); rotate_left; clear hK_ K_; (try go_frame); rotate_left)
     ·exact HSw.out _ (gap_below2 (wBv3) (by have := hnq.out; omega))
     (refine zg_ls 8 fun K_ hK_ => ?_; go_simp; skip; refine hK_.out _ _ ?_; clear hK_ K_; (try go_frame))
     have hbE : Below nq w8 ((v3.setCell ⟨v2.heap.size, 0, none⟩ (I (-15))).setCell ⟨v2.heap.size, 1, none⟩ (I 45)) := by rw [← hnq.out]; exact gap_below2 (wBv3) (by have := hnq.out; omega)
     have hkR : Blk ((v3.setCell ⟨v2.heap.size, 0, none⟩ (I (-15))).setCell ⟨v2.heap.size, 1, none⟩ (I 45)) (v2.heap.size) 23 #[I (-15), I 45] := gap_set2 (kR)
     have hgR : nq ≤ v2.heap.size := by have := hnq.out; omega
     generalize ((v3.setCell ⟨v2.heap.size, 0, none⟩ (I (-15))).setCell ⟨v2.heap.size, 1, none⟩ (I 45)) = Wz at hbE hkR ⊢
     generalize (v2.heap.size : Nat) = bR at hkR hgR  ⊢
     revert hbE
     revert hkR
     revert hgR
     clear hsl
     revert bR
     revert v108
     revert Wz
     exact key.out
    ·go_simp
     obtain ⟨v4, hv4⟩ : ∃ v4, v4 = (v1.alloc (.cells #[I 0, I 0] 23)) := ⟨_, rfl⟩
     have hsv4 : Below v1.heap.size v1 v4 := by rw [hv4]; exact below1 v1 _
     have kR : Blk v4 v1.heap.size 23 #[I 0, I 0] := by rw [hv4]; exact Blk.new v1 _ _
     have gR := (wBv1 : Below w8.heap.size w8 v1).size
     replace hsl := hsl.mono hsv4
     have wBv4 := bup (wBv1) hsv4
     have yR := hsv4.size
     rw [← hv4]
     clear hv4
     refine hK_.out _ _ (HSw.out _ wBv4) (fun hHeld => ?_)
     clear hK_ K_
     (try go_frame)
     refine zg_ready (i := 2) (by decide) rfl (by kernel_rfl) (fun K_ hK_ => ?_)
     go_simp
     refine (x_changeC v108 v4 hsl).mono ?_
     rintro e v5 ⟨rfl, hsv5⟩
     replace kR := kR.grow hsv5
     replace hsl := hsl.mono hsv5
     have wBv5 := bup (wBv4) hsv5
     have yv5 := hsv5.size
     refine hK_.out _ _ (HSw.out _ wBv5) (fun hHeld => ?_)
     clear hK_ K_
     (try go_frame)
     (refine zg_tk 3 ?_; refine zg_tk 4 ?_; refine zg_tk 5 ?_; (try go_frame))
     have qR0 : v5.cell? ⟨v1.heap.size, 0, none⟩ = some (I 0) := kR.cell 0
     have fR0 := kR.frozen 0
     have qR1 : v5.cell? ⟨v1.heap.size, 1, none⟩ = some (I 0) := kR.cell 1
     have fR1 := kR.frozen 1
     (refine zg_rd 7 fun K_ hK_ => ?_; go_simp; skip; refine hK_.out _ _ ?_ (fun hHeld => ?_); rotate_left; clear hK_ K_; (try go_frame); rotate_left)
     ·exact HSw.out _ (gap_below2 (wBv5) (by have := hnq.out; omega))
     (refine zg_ls 8 fun K_ hK_ => ?_; go_simp; skip; refine hK_.out _ _ ?_; clear hK_ K_; (try go_frame))
     have hbE : Below nq w8 ((v5.setCell ⟨v1.heap.size, 0, none⟩ (I (-15))).setCell ⟨v1.heap.size, 1, none⟩ (I 45)) := by rw [← hnq.out]; exact gap_below2 (wBv5) (by have := hnq.out; omega)
     have hkR : Blk ((v5.setCell ⟨v1.heap.size, 0, none⟩ (I (-15))).setCell ⟨v1.heap.size, 1, none⟩ (I 45)) (v1.heap.size) 23 #[I (-15), I 45] := gap_set2 (kR)
     have hgR : nq ≤ v1.heap.size := by have := hnq.out; omega
     generalize ((v5.setCell ⟨v1.heap.size, 0, none⟩ (I (-15))).setCell ⟨v1.heap.size, 1, none⟩ (I 45)) = Wz at hbE hkR ⊢
     generalize (v1.heap.size : Nat) = bR at hkR hgR  ⊢
     revert hbE
     revert hkR
     revert hgR
     clear hsl
     revert bR
     revert v108
     revert Wz
     exact key.out
   ·go_simp
    obtain ⟨v6, hv6⟩ : ∃ v6, v6 = (w8.alloc (.cells #[I 0, I 0] 23)).drew := ⟨_, rfl⟩
    have hsv6 : Below w8.drew.heap.size w8.drew v6 := by rw [hv6]; exact below1 w8.drew _
    have kR : Blk v6 w8.heap.size 23 #[I 0, I 0] := by rw [hv6]; exact Blk.new w8.drew _ _
    have gR := (wB : Below w8.heap.size w8 w8.drew).size
    have wBv6 := bup (wB) hsv6
    have yR := hsv6.size
    rw [← hv6]
    clear hv6
    refine hK_.out _ _ (HSw.out _ wBv6) (fun hHeld => ?_)
    clear hK_ K_
    (try go_frame)
    refine zg_ready (i := 1) (by decide) rfl (by kernel_rfl) (fun K_ hK_ => ?_)
    go_simp
    refine (law_record v6).mono ?_
    rintro e v7 ⟨v108, rfl, hsl, hsv7⟩
    replace kR := kR.grow hsv7
    have wBv7 := bup (wBv6) hsv7
    have yv7 := hsv7.size
    refine hK_.out _ _ (HSw.out _ wBv7) (fun hHeld => ?_)
    clear hK_ K_
    (try go_frame)
    refine zg_ready (i := 2) (by decide) rfl (by kernel_rfl) (fun K_ hK_ => ?_)
    go_simp
    refine (x_changeC v108 v7 hsl).mono ?_
    rintro e v8 ⟨rfl, hsv8⟩
    replace kR := kR.grow hsv8
    replace hsl := hsl.mono hsv8
    have wBv8 := bup (wBv7) hsv8
    have yv8 := hsv8.size
    refine hK_.out _ _ (HSw.out _ wBv8) (fun hHeld => ?_)
    clear hK_ K_
    (try go_frame)
    (refine zg_tk 3 ?_; refine zg_tk 4 ?_; refine zg_tk 5 ?_; (try go_frame))
    have qR0 : v8.cell? ⟨w8.heap.size, 0, none⟩ = some (I 0) := kR.cell 0
    have fR0 := kR.frozen 0
    have qR1 : v8.cell? ⟨w8.heap.size, 1, none⟩ = some (I 0) := kR.cell 1
    have fR1 := kR.frozen 1
    (refine zg_rd 7 fun K_ hK_ => ?_; go_simp; skip; refine hK_.out _ _ ?_ (fun hHeld => ?_); rotate_left; clear hK_ K_; (try go_frame); rotate_left)
    ·exact HSw.out _ (gap_below2 (wBv8) (by have := hnq.out; omega))
    (refine zg_ls 8 fun K_ hK_ => ?_; go_simp; skip; refine hK_.out _ _ ?_; clear hK_ K_; (try go_frame))
    have hbE : Below nq w8 ((v8.setCell ⟨w8.heap.size, 0, none⟩ (I (-15))).setCell ⟨w8.heap.size, 1, none⟩ (I 45)) := by rw [← hnq.out]; exact gap_below2 (wBv8) (by have := hnq.out; omega)
    have hkR : Blk ((v8.setCell ⟨w8.heap.size, 0, none⟩ (I (-15))).setCell ⟨w8.heap.size, 1, none⟩ (I 45)) (w8.heap.size) 23 #[I (-15), I 45] := gap_set2 (kR)
    have hgR : nq ≤ w8.heap.size := by have := hnq.out; omega
    generalize ((v8.setCell ⟨w8.heap.size, 0, none⟩ (I (-15))).setCell ⟨w8.heap.size, 1, none⟩ (I 45)) = Wz at hbE hkR ⊢
    generalize (w8.heap.size : Nat) = bR at hkR hgR  ⊢
    revert hbE
    revert hkR
    revert hgR
    clear hsl
    revert bR
    revert v108
    revert Wz
    exact key.out
  case g =>
   intro w9 v108 bR hgR hkR hbE
   replace hbE : Below w8.heap.size w8 w9 := by rw [hnq.out]; exact hbE
   replace kC := hide (kC.out.grow hbE)
   replace kW := hide (kW.out.grow hbE)
   replace kP := hide (kP.out.grow hbE)
   replace kQ := hide (kQ.out.grow hbE)
   have B9 := bup B8 hbE
   clear hbE B8 hnq HSw hHeld wB
   have kR := hide hkR
   clear hkR
   obtain ⟨rW0, rW1, rW2⟩ := kW.out.cells3
   have zW : bW < w9.heap.size := kW.out.lt
   have zW_1 : bW < w9.heap.size + 1 := by omega
   have zW_2 : bW < w9.heap.size + 1 + 1 := by omega
   obtain ⟨rC0, rC1, rC2, rC3, rC4, rC5, rC6, rC7⟩ := kC.out.cells8
   have zC : bC < w9.heap.size := kC.out.lt
   have zC_1 : bC < w9.heap.size + 1 := by omega
   have zC_2 : bC < w9.heap.size + 1 + 1 := by omega
   go_wp2_with fail
   clear rW0 rW1 rW2 zW zW_1 zW_2 rC0 rC1 rC2 rC3 rC4 rC5 rC6 rC7 zC zC_1 zC_2
   obtain ⟨w10, hw10⟩ : ∃ w10, w10 = ((w9.alloc (.cells #[I 13, I 50, I 10] 36)).alloc (.cells #[I 3, .slice (some ⟨w9.heap.size, 0, none⟩) 1 1] 28)) := ⟨_, rfl⟩
   have kD : Blk w10 (w9.heap.size) 36 #[I 13, I 50, I 10] := by
    rw [hw10]
    refine Blk.alloc ?_ _
    have h := Blk.new w9 36 #[I 13, I 50, I 10]
    first | exact h | simpa only [World.size_alloc] using h
   have kG : Blk w10 (w9.heap.size + 1) 28 #[I 3, .slice (some ⟨w9.heap.size, 0, none⟩) 1 1] := by
    rw [hw10]
    have h := Blk.new (w9.alloc (.cells #[I 13, I 50, I 10] 36)) 28 #[I 3, .slice (some ⟨w9.heap.size, 0, none⟩) 1 1]
    first | exact h | simpa only [World.size_alloc] using h
   replace kC : Hid (Blk w10 bC 25 #[I 1000, I 6, I 50, I 40, I (-200), I 250, I 400, I 410]) := hide (by rw [hw10]; exact ((kC.out).alloc _).alloc _)
   replace kW : Hid (Blk w10 bW 36 #[I 13, I 50, I 10]) := hide (by rw [hw10]; exact ((kW.out).alloc _).alloc _)
   replace kP : Hid (Blk w10 bP 23 #[I (-40), I 50]) := hide (by rw [hw10]; exact ((kP.out).alloc _).alloc _)
   replace kQ : Hid (Blk w10 bQ 23 #[I 0, I 40]) := hide (by rw [hw10]; exact ((kQ.out).alloc _).alloc _)
   replace kR : Hid (Blk w10 bR 23 #[I (-15), I 45]) := hide (by rw [hw10]; exact ((kR.out).alloc _).alloc _)
   have B10 : Below w.heap.size w w10 := by rw [hw10]; exact bup B9 (below2 _ _ _)
   rw [← hw10]
   clear hw10 B9
   obtain ⟨bG, hbG⟩ : ∃ b, w9.heap.size + 1 = b := ⟨_, rfl⟩
   rw [hbG] at kG ⊢
   obtain ⟨bD, hbD⟩ : ∃ b, w9.heap.size = b := ⟨_, rfl⟩
   rw [hbD] at kD ⊢
   rw [hbD] at kG
   replace kD := hide kD
   replace kG := hide kG
   clear hbD
   clear hbG
   go_at_call 45
   refine (x_relC (.slice (some ⟨bD, 0, none⟩) 1 1) w10 (one_sl kD.out rfl)).mono ?_
   rintro e w11 ⟨rfl, hb⟩
   replace kC := hide (kC.out.grow hb)
   replace kW := hide (kW.out.grow hb)
   replace kP := hide (kP.out.grow hb)
   replace kQ := hide (kQ.out.grow hb)
   replace kR := hide (kR.out.grow hb)
   replace kD := hide (kD.out.grow hb)
   replace kG := hide (kG.out.grow hb)
   have B11 := bup B10 hb
   clear hb B10
   obtain ⟨rC0, rC1, rC2, rC3, rC4, rC5, rC6, rC7⟩ := kC.out.cells8
   have zC : bC < w11.heap.size := kC.out.lt
   go_wp2_with fail
   clear rC0 rC1 rC2 rC3 rC4 rC5 rC6 rC7 zC
   have HSw : ∀ W : World, Below w11.heap.size w11 W → (fun W : World => W.cell? ⟨bC, 0, none⟩ = some (I 1000) ∧ W.cell? ⟨bC, 1, none⟩ = some (I 6) ∧ W.cell? ⟨bC, 2, none⟩ = some (I 50) ∧ W.cell? ⟨bC, 3, none⟩ = some (I 40) ∧ W.cell? ⟨bC, 4, none⟩ = some (I (-200)) ∧ W.cell? ⟨bC, 5, none⟩ = some (I 250) ∧ W.cell? ⟨bC, 6, none⟩ = some (I 400) ∧ W.cell? ⟨bC, 7, none⟩ = some (I 410)) W := fun W h => by
    have h2 := kC.out.grow h
    exact ⟨h2.cell 0, h2.cell 1, h2.cell 2, h2.cell 3, h2.cell 4, h2.cell 5, h2.cell 6, h2.cell 7⟩
   replace HSw := hide HSw
   refine wp_region_zg (S := fun W => W.cell? ⟨bC, 0, none⟩ = some (I 1000) ∧ W.cell? ⟨bC, 1, none⟩ = some (I 6) ∧ W.cell? ⟨bC, 2, none⟩ = some (I 50) ∧ W.cell? ⟨bC, 3, none⟩ = some (I 40) ∧ W.cell? ⟨bC, 4, none⟩ = some (I (-200)) ∧ W.cell? ⟨bC, 5, none⟩ = some (I 250) ∧ W.cell? ⟨bC, 6, none⟩ = some (I 400) ∧ W.cell? ⟨bC, 7, none⟩ = some (I 410)) 10 (by kernel_rfl) (by kernel_rfl) ?_
   have wB : Below w11.heap.size w11 w11.drew := (Below.refl _ _).drew
   have hHeld := HSw.out _ wB
   (refine zg_tk 0 ?_; refine zg_tk 2 ?_; refine zg_tk 3 ?_; (try go_frame))
   obtain ⟨nq, hnq⟩ : ∃ n, w11.heap.size = n := ⟨_, rfl⟩
   replace hnq := hide hnq
   apply via
   case f =>
    intro key
    refine zg_two (i := 1) (j := 4) (by decide) (by decide) rfl rfl (by kernel_rfl) (fun K_ hK_ => ?_) (fun K_ hK_ => ?_)
    ·go_simp
     refine (law_record w11.drew).mono ?_
     rintro e v1 ⟨v124, rfl, hsl, hsv1⟩
     have wBv1 := bup (wB) hsv1
     have yv1 := hsv1.size
     refine hK_.out _ _ (HSw.out _ wBv1) (fun hHeld => ?_)
     clear hK_ K_
     (try go_frame)
     refine zg_ready (i := 4) (by decide) rfl (by kernel_rfl) (fun K_ hK_ => ?_)
     go_simp
     obtain ⟨v2, hv2⟩ : ∃ v2, v2 = (v1.alloc (.cells #[I 11, I 50, I 0, I 12, I 10, I 0] 36)) := ⟨_, rfl⟩
     have hsv2 : Below v1.heap.size v1 v2 := by rw [hv2]; exact below1 v1 _
     have kA : Blk v2 v1.heap.size 36 #[I 11, I 50, I 0, I 12, I 10, I 0] := by rw [hv2]; exact Blk.new v1 _ _
     have gA := (wBv1 : Below w11.heap.size w11 v1).size
     replace hsl := hsl.mono hsv2
     have wBv2 := bup (wBv1) hsv2
     have yA := hsv2.size
     rw [← hv2]
     clear hv2
     refine hK_.out _ _ (HSw.out _ wBv2) (fun hHeld => ?_)
     clear hK_ K_
     (try go_frame)
     refine zg_ready (i := 5) (by decide) rfl (by kernel_rfl) (fun K_ hK_ => ?_)
     go_simp
     refine (x_allowC v124 _ v2 hsl (wea2_sl (a := ⟨11, 50, 0⟩) (b := ⟨12, 10, 0⟩) kA)).mono ?_
     rintro e v3 ⟨rfl, hsv3⟩
     replace kA := kA.grow hsv3
     replace hsl := hsl.mono hsv3
     have wBv3 := bup (wBv2) hsv3
     have yv3 := hsv3.size
     refine hK_.out _ _ (HSw.out _ wBv3) (fun hHeld => ?_)
     clear hK_ K_
     (try go_frame)
     (refine zg_tk 6 ?_; refine zg_tk 7 ?_; refine zg_tk 8 ?_; refine zg_tk 9 ?_; (try go_frame))
     (refine zg_ls 10 fun K_ hK_ => ?_; go_simp; skip; refine hK_.out _ _ ?_; clear hK_ K_; (try go_frame))
     have hbE : Below nq w11 v3 := by rw [← hnq.out]; exact wBv3
     generalize v3 = Wz at hbE ⊢
     revert hbE
     clear hsl
     revert v124
     generalize (Value.slice (some ⟨v1.heap.size, 0, none⟩) 2 2) = v127
     revert v127
     revert Wz
     exact key.out
    ·go_simp
     obtain ⟨v4, hv4⟩ : ∃ v4, v4 = (w11.alloc (.cells #[I 11, I 50, I 0, I 12, I 10, I 0] 36)).drew := ⟨_, rfl⟩
     have hsv4 : Below w11.drew.heap.size w11.drew v4 := by rw [hv4]; exact below1 w11.drew _
     have kA : Blk v4 w11.heap.size 36 #[I 11, I 50, I 0, I 12, I 10, I 0] := by rw [hv4]; exact Blk.new w11.drew _ _
     have gA := (wB : Below w11.heap.size w11 w11.drew).size
     have wBv4 := bup (wB) hsv4
     have yA := hsv4.size
     rw [← hv4]
     clear hv4
     refine hK_.out _ _ (HSw.out _ wBv4) (fun hHeld => ?_)
     clear hK_ K_
     (try go_frame)
     refine zg_ready (i := 1) (by decide) rfl (by kernel_rfl) (fun K_ hK_ => ?_)
     go_simp
     refine (law_record v4).mono ?_
     rintro e v5 ⟨v124, rfl, hsl, hsv5⟩
     replace kA := kA.grow hsv5
     have wBv5 := bup (wBv4) hsv5
     have yv5 := hsv5.size
     refine hK_.out _ _ (HSw.out _ wBv5) (fun hHeld => ?_)
     clear hK_ K_
     (try go_frame)
     refine zg_ready (i := 5) (by decide) rfl (by kernel_rfl) (fun K_ hK_ => ?_)
     go_simp
     refine (x_allowC v124 _ v5 hsl (wea2_sl (a := ⟨11, 50, 0⟩) (b := ⟨12, 10, 0⟩) kA)).mono ?_
     rintro e v6 ⟨rfl, hsv6⟩
     replace kA := kA.grow hsv6
     replace hsl := hsl.mono hsv6
     have wBv6 := bup (wBv5) hsv6
     have yv6 := hsv6.size
     refine hK_.out _ _ (HSw.out _ wBv6) (fun hHeld => ?_)
     clear hK_ K_
     (try go_frame)
     (refine zg_tk 6 ?_; refine zg_tk 7 ?_; refine zg_tk 8 ?_; refine zg_tk 9 ?_; (try go_frame))
     (refine zg_ls 10 fun K_ hK_ => ?_; go_simp; skip; refine hK_.out _ _ ?_; clear hK_ K_; (try go_frame))
     have hbE : Below nq w11 v6 := by rw [← hnq.out]; exact wBv6
     generalize v6 = Wz at hbE ⊢
     revert hbE
     clear hsl
     revert v124
     generalize (Value.slice (some ⟨w11.heap.size, 0, none⟩) 2 2) = v127
     revert v127
     revert Wz
     exact key.out
   case g =>
    intro w12 v127 v124  hbE
    replace hbE : Below w11.heap.size w11 w12 := by rw [hnq.out]; exact hbE
    replace kC := hide (kC.out.grow hbE)
    replace kW := hide (kW.out.grow hbE)
    replace kP := hide (kP.out.grow hbE)
    replace kQ := hide (kQ.out.grow hbE)
    replace kR := hide (kR.out.grow hbE)
    replace kD := hide (kD.out.grow hbE)
    replace kG := hide (kG.out.grow hbE)
    have B12 := bup B11 hbE
    clear hbE B11 hnq HSw hHeld wB
    go_wp2_with fail
    have HSw : ∀ W : World, Below w12.heap.size w12 W → (fun W : World => W.cell? ⟨bC, 0, none⟩ = some (I 1000) ∧ W.cell? ⟨bC, 1, none⟩ = some (I 6) ∧ W.cell? ⟨bC, 2, none⟩ = some (I 50) ∧ W.cell? ⟨bC, 3, none⟩ = some (I 40) ∧ W.cell? ⟨bC, 4, none⟩ = some (I (-200)) ∧ W.cell? ⟨bC, 5, none⟩ = some (I 250) ∧ W.cell? ⟨bC, 6, none⟩ = some (I 400) ∧ W.cell? ⟨bC, 7, none⟩ = some (I 410)) W := fun W h => by
     have h2 := kC.out.grow h
     exact ⟨h2.cell 0, h2.cell 1, h2.cell 2, h2.cell 3, h2.cell 4, h2.cell 5, h2.cell 6, h2.cell 7⟩
    replace HSw := hide HSw
    refine wp_region_zg (S := fun W => W.cell? ⟨bC, 0, none⟩ = some (I 1000) ∧ W.cell? ⟨bC, 1, none⟩ = some (I 6) ∧ W.cell? ⟨bC, 2, none⟩ = some (I 50) ∧ W.cell? ⟨bC, 3, none⟩ = some (I 40) ∧ W.cell? ⟨bC, 4, none⟩ = some (I (-200)) ∧ W.cell? ⟨bC, 5, none⟩ = some (I 250) ∧ W.cell? ⟨bC, 6, none⟩ = some (I 400) ∧ W.cell? ⟨bC, 7, none⟩ = some (I 410)) 7 (by kernel_rfl) (by kernel_rfl) ?_
    have wB : Below w12.heap.size w12 w12.drew := (Below.refl _ _).drew
    have hHeld := HSw.out _ wB
    (refine zg_tk 0 ?_; (try go_frame))
    (refine zg_rd 1 fun K_ hK_ => ?_; go_simp; (refine (law_record w12.drew).mono ?_; rintro e v1 ⟨v133, rfl, hsl, hs1⟩); refine hK_.out _ _ ?_ (fun hHeld => ?_); rotate_left; clear hK_ K_; (try go_frame); rotate_left)
    ·exact HSw.out _ (bup wB hs1)
    have wB2 := bup wB hs1
    (refine zg_rd 2 fun K_ hK_ => ?_; go_simp; (refine (x_fillC v133 v1 hsl).mono ?_; rintro e v2 ⟨g20, c20, rfl, zg20, e3, e4, e5, hs2⟩); refine hK_.out _ _ ?_ (fun hHeld => ?_); rotate_left; clear hK_ K_; (try go_frame); rotate_left)
    ·exact HSw.out _ (bup wB2 hs2)
    have hbE := bup wB2 hs2
    (refine zg_tk 3 ?_; refine zg_tk 4 ?_; refine zg_tk 5 ?_; refine zg_tk 6 ?_; (try go_frame))
    (refine zg_ls 7 fun K_ hK_ => ?_; go_simp; skip; refine hK_.out _ _ ?_; clear hK_ K_; (try go_frame))
    replace kC := hide (kC.out.grow hbE)
    replace kW := hide (kW.out.grow hbE)
    replace kP := hide (kP.out.grow hbE)
    replace kQ := hide (kQ.out.grow hbE)
    replace kR := hide (kR.out.grow hbE)
    replace kD := hide (kD.out.grow hbE)
    replace kG := hide (kG.out.grow hbE)
    have B13 := bup B12 hbE
    clear hbE B12 HSw hHeld wB wB2 hs1 hs2 hsl
    go_wp2_with fail
    go_at_call 75
    refine (x_printC v2 (hp.out.mono B13)).mono ?_
    rintro e w13 ⟨rfl, hb⟩
    replace kC := hide (kC.out.grow hb)
    replace kW := hide (kW.out.grow hb)
    replace kP := hide (kP.out.grow hb)
    replace kQ := hide (kQ.out.grow hb)
    replace kR := hide (kR.out.grow hb)
    replace kD := hide (kD.out.grow hb)
    replace kG := hide (kG.out.grow hb)
    have B14 := bup B13 hb
    replace e3 := (hb.cell (p := ⟨g20, 3, none⟩) zg20).trans e3
    replace e4 := (hb.cell (p := ⟨g20, 4, none⟩) zg20).trans e4
    replace e5 := (hb.cell (p := ⟨g20, 5, none⟩) zg20).trans e5
    replace zg20 := Nat.lt_of_lt_of_le zg20 hb.size
    clear hb B13
    have zg20_1 : g20 < w13.heap.size + 1 := by omega
    have zg20_2 : g20 < w13.heap.size + 1 + 1 := by omega
    have zg20_3 : g20 < w13.heap.size + 1 + 1 + 1 := by omega
    have zg20_4 : g20 < w13.heap.size + 1 + 1 + 1 + 1 := by omega
    have zg20_5 : g20 < w13.heap.size + 1 + 1 + 1 + 1 + 1 := by omega
    obtain ⟨rR0, rR1⟩ := kR.out.cells2
    have zR : bR < w13.heap.size := kR.out.lt
    have zR_1 : bR < w13.heap.size + 1 := by omega
    have zR_2 : bR < w13.heap.size + 1 + 1 := by omega
    have zR_3 : bR < w13.heap.size + 1 + 1 + 1 := by omega
    have zR_4 : bR < w13.heap.size + 1 + 1 + 1 + 1 := by omega
    have zR_5 : bR < w13.heap.size + 1 + 1 + 1 + 1 + 1 := by omega
    obtain ⟨rC0, rC1, rC2, rC3, rC4, rC5, rC6, rC7⟩ := kC.out.cells8
    have zC : bC < w13.heap.size := kC.out.lt
    have zC_1 : bC < w13.heap.size + 1 := by omega
    have zC_2 : bC < w13.heap.size + 1 + 1 := by omega
    have zC_3 : bC < w13.heap.size + 1 + 1 + 1 := by omega
    have zC_4 : bC < w13.heap.size + 1 + 1 + 1 + 1 := by omega
    have zC_5 : bC < w13.heap.size + 1 + 1 + 1 + 1 + 1 := by omega
    obtain ⟨rG0, rG1⟩ := kG.out.cells2
    have zG : bG < w13.heap.size := kG.out.lt
    have zG_1 : bG < w13.heap.size + 1 := by omega
    have zG_2 : bG < w13.heap.size + 1 + 1 := by omega
    have zG_3 : bG < w13.heap.size + 1 + 1 + 1 := by omega
    have zG_4 : bG < w13.heap.size + 1 + 1 + 1 + 1 := by omega
    have zG_5 : bG < w13.heap.size + 1 + 1 + 1 + 1 + 1 := by omega
    go_wp2_with fail
    clear rR0 rR1 zR zR_1 zR_2 zR_3 zR_4 zR_5 rC0 rC1 rC2 rC3 rC4 rC5 rC6 rC7 zC zC_1 zC_2 zC_3 zC_4 zC_5 rG0 rG1 zG zG_1 zG_2 zG_3 zG_4 zG_5
    obtain ⟨w14, hw14⟩ : ∃ w14, w14 = (((((w13.alloc (.cells #[I 2, I 1500, I 0, I 3] 89)).alloc (.cells #[I 13] 3)).alloc (.cells #[I 0, I 2, I 13, I 5, I 20] 124)).alloc (.cells #[.slice (some ⟨w13.heap.size, 0, none⟩) 1 1, .slice none 0 0, I 0, I 0, I 100, .slice (some ⟨w13.heap.size + 1, 0, none⟩) 1 1, .slice (some ⟨w13.heap.size + 1 + 1, 0, none⟩) 1 1, .slice none 0 0] 63)).alloc (.cells #[I 2] 3)) := ⟨_, rfl⟩
    have kL : Blk w14 (w13.heap.size) 89 #[I 2, I 1500, I 0, I 3] := by
     rw [hw14]
     refine Blk.alloc ?_ _
     refine Blk.alloc ?_ _
     refine Blk.alloc ?_ _
     refine Blk.alloc ?_ _
     have h := Blk.new w13 89 #[I 2, I 1500, I 0, I 3]
     first | exact h | simpa only [World.size_alloc] using h
    have kY : Blk w14 (w13.heap.size + 1) 3 #[I 13] := by
     rw [hw14]
     refine Blk.alloc ?_ _
     refine Blk.alloc ?_ _
     refine Blk.alloc ?_ _
     have h := Blk.new (w13.alloc (.cells #[I 2, I 1500, I 0, I 3] 89)) 3 #[I 13]
     first | exact h | simpa only [World.size_alloc] using h
    have kS : Blk w14 (w13.heap.size + 1 + 1) 124 #[I 0, I 2, I 13, I 5, I 20] := by
     rw [hw14]
     refine Blk.alloc ?_ _
     refine Blk.alloc ?_ _
     have h := Blk.new ((w13.alloc (.cells #[I 2, I 1500, I 0, I 3] 89)).alloc (.cells #[I 13] 3)) 124 #[I 0, I 2, I 13, I 5, I 20]
     first | exact h | simpa only [World.size_alloc] using h
    have kX : Blk w14 (w13.heap.size + 1 + 1 + 1) 63 #[.slice (some ⟨w13.heap.size, 0, none⟩) 1 1, .slice none 0 0, I 0, I 0, I 100, .slice (some ⟨w13.heap.size + 1, 0, none⟩) 1 1, .slice (some ⟨w13.heap.size + 1 + 1, 0, none⟩) 1 1, .slice none 0 0] := by
     rw [hw14]
     refine Blk.alloc ?_ _
     have h := Blk.new (((w13.alloc (.cells #[I 2, I 1500, I 0, I 3] 89)).alloc (.cells #[I 13] 3)).alloc (.cells #[I 0, I 2, I 13, I 5, I 20] 124)) 63 #[.slice (some ⟨w13.heap.size, 0, none⟩) 1 1, .slice none 0 0, I 0, I 0, I 100, .slice (some ⟨w13.heap.size + 1, 0, none⟩) 1 1, .slice (some ⟨w13.heap.size + 1 + 1, 0, none⟩) 1 1, .slice none 0 0]
     first | exact h | simpa only [World.size_alloc] using h
    have kM : Blk w14 (w13.heap.size + 1 + 1 + 1 + 1) 3 #[I 2] := by
     rw [hw14]
     have h := Blk.new ((((w13.alloc (.cells #[I 2, I 1500, I 0, I 3] 89)).alloc (.cells #[I 13] 3)).alloc (.cells #[I 0, I 2, I 13, I 5, I 20] 124)).alloc (.cells #[.slice (some ⟨w13.heap.size, 0, none⟩) 1 1, .slice none 0 0, I 0, I 0, I 100, .slice (some ⟨w13.heap.size + 1, 0, none⟩) 1 1, .slice (some ⟨w13.heap.size + 1 + 1, 0, none⟩) 1 1, .slice none 0 0] 63)) 3 #[I 2]
     first | exact h | simpa only [World.size_alloc] using h
    replace kC : Hid (Blk w14 bC 25 #[I 1000, I 6, I 50, I 40, I (-200), I 250, I 400, I 410]) := hide (by rw [hw14]; exact (((((kC.out).alloc _).alloc _).alloc _).alloc _).alloc _)
    replace kW : Hid (Blk w14 bW 36 #[I 13, I 50, I 10]) := hide (by rw [hw14]; exact (((((kW.out).alloc _).alloc _).alloc _).alloc _).alloc _)
    replace kP : Hid (Blk w14 bP 23 #[I (-40), I 50]) := hide (by rw [hw14]; exact (((((kP.out).alloc _).alloc _).alloc _).alloc _).alloc _)
    replace kQ : Hid (Blk w14 bQ 23 #[I 0, I 40]) := hide (by rw [hw14]; exact (((((kQ.out).alloc _).alloc _).alloc _).alloc _).alloc _)
    replace kR : Hid (Blk w14 bR 23 #[I (-15), I 45]) := hide (by rw [hw14]; exact (((((kR.out).alloc _).alloc _).alloc _).alloc _).alloc _)
    replace kD : Hid (Blk w14 bD 36 #[I 13, I 50, I 10]) := hide (by rw [hw14]; exact (((((kD.out).alloc _).alloc _).alloc _).alloc _).alloc _)
    replace kG : Hid (Blk w14 bG 28 #[I 3, .slice (some ⟨bD, 0, none⟩) 1 1]) := hide (by rw [hw14]; exact (((((kG.out).alloc _).alloc _).alloc _).alloc _).alloc _)
    have B15 : Below w.heap.size w w14 := by rw [hw14]; exact bup B14 (below5 _ _ _ _ _ _)
    rw [← hw14]
    clear hw14 B14
    obtain ⟨bM, hbM⟩ : ∃ b, w13.heap.size + 1 + 1 + 1 + 1 = b := ⟨_, rfl⟩
    rw [hbM] at kM ⊢
    obtain ⟨bX, hbX⟩ : ∃ b, w13.heap.size + 1 + 1 + 1 = b := ⟨_, rfl⟩
    rw [hbX] at kX ⊢
    obtain ⟨bS, hbS⟩ : ∃ b, w13.heap.size + 1 + 1 = b := ⟨_, rfl⟩
    rw [hbS] at kS ⊢
    rw [hbS] at kX
    obtain ⟨bY, hbY⟩ : ∃ b, w13.heap.size + 1 = b := ⟨_, rfl⟩
    rw [hbY] at kY ⊢
    rw [hbY] at kX
    obtain ⟨bL, hbL⟩ : ∃ b, w13.heap.size = b := ⟨_, rfl⟩
    rw [hbL] at kL ⊢
    rw [hbL] at kX
    replace kL := hide kL
    replace kY := hide kY
    replace kS := hide kS
    replace kX := hide kX
    replace kM := hide kM
    clear hbL
    clear hbY
    clear hbS
    clear hbX
    clear hbM
    go_at_call 54
    refine (x_volC (.slice (some ⟨bD, 0, none⟩) 1 1) (.slice (some ⟨bL, 0, none⟩) 1 1) (.slice (some ⟨bY, 0, none⟩) 1 1) (.slice (some ⟨bS, 0, none⟩) 1 1) (.slice (some ⟨bM, 0, none⟩) 1 1) w14 (one_sl kD.out rfl) (one_sl kL.out rfl) (one_sl kY.out rfl) (one_sl kS.out rfl) (one_sl kM.out rfl)).mono ?_
    rintro e w15 ⟨rfl, hb⟩
    replace kC := hide (kC.out.grow hb)
    replace kW := hide (kW.out.grow hb)
    replace kP := hide (kP.out.grow hb)
    replace kQ := hide (kQ.out.grow hb)
    replace kR := hide (kR.out.grow hb)
    replace kD := hide (kD.out.grow hb)
    replace kG := hide (kG.out.grow hb)
    replace kL := hide (kL.out.grow hb)
    replace kY := hide (kY.out.grow hb)
    replace kS := hide (kS.out.grow hb)
    replace kX := hide (kX.out.grow hb)
    replace kM := hide (kM.out.grow hb)
    have B16 := bup B15 hb
    clear hb B15
    obtain ⟨rC0, rC1, rC2, rC3, rC4, rC5, rC6, rC7⟩ := kC.out.cells8
    have zC : bC < w15.heap.size := kC.out.lt
    have zC_1 : bC < w15.heap.size + 1 := by omega
    have zC_2 : bC < w15.heap.size + 1 + 1 := by omega
    obtain ⟨rG0, rG1⟩ := kG.out.cells2
    have zG : bG < w15.heap.size := kG.out.lt
    have zG_1 : bG < w15.heap.size + 1 := by omega
    have zG_2 : bG < w15.heap.size + 1 + 1 := by omega
    obtain ⟨rX0, rX1, rX2, rX3, rX4, rX5, rX6, rX7⟩ := kX.out.cells8
    have zX : bX < w15.heap.size := kX.out.lt
    have zX_1 : bX < w15.heap.size + 1 := by omega
    have zX_2 : bX < w15.heap.size + 1 + 1 := by omega
    go_wp2_with fail
    clear rC0 rC1 rC2 rC3 rC4 rC5 rC6 rC7 zC zC_1 zC_2 rG0 rG1 zG zG_1 zG_2 rX0 rX1 rX2 rX3 rX4 rX5 rX6 rX7 zX zX_1 zX_2
    obtain ⟨w16, hw16⟩ : ∃ w16, w16 = ((w15.alloc (.cells #[I 45, I 54] 23)).alloc (.cells #[I 2] 3)) := ⟨_, rfl⟩
    have kU : Blk w16 (w15.heap.size) 23 #[I 45, I 54] := by
     rw [hw16]
     refine Blk.alloc ?_ _
     have h := Blk.new w15 23 #[I 45, I 54]
     first | exact h | simpa only [World.size_alloc] using h
    have kN : Blk w16 (w15.heap.size + 1) 3 #[I 2] := by
     rw [hw16]
     have h := Blk.new (w15.alloc (.cells #[I 45, I 54] 23)) 3 #[I 2]
     first | exact h | simpa only [World.size_alloc] using h
    replace kC : Hid (Blk w16 bC 25 #[I 1000, I 6, I 50, I 40, I (-200), I 250, I 400, I 410]) := hide (by rw [hw16]; exact ((kC.out).alloc _).alloc _)
    replace kW : Hid (Blk w16 bW 36 #[I 13, I 50, I 10]) := hide (by rw [hw16]; exact ((kW.out).alloc _).alloc _)
    replace kP : Hid (Blk w16 bP 23 #[I (-40), I 50]) := hide (by rw [hw16]; exact ((kP.out).alloc _).alloc _)
    replace kQ : Hid (Blk w16 bQ 23 #[I 0, I 40]) := hide (by rw [hw16]; exact ((kQ.out).alloc _).alloc _)
    replace kR : Hid (Blk w16 bR 23 #[I (-15), I 45]) := hide (by rw [hw16]; exact ((kR.out).alloc _).alloc _)
    replace kD : Hid (Blk w16 bD 36 #[I 13, I 50, I 10]) := hide (by rw [hw16]; exact ((kD.out).alloc _).alloc _)
    replace kG : Hid (Blk w16 bG 28 #[I 3, .slice (some ⟨bD, 0, none⟩) 1 1]) := hide (by rw [hw16]; exact ((kG.out).alloc _).alloc _)
    replace kL : Hid (Blk w16 bL 89 #[I 2, I 1500, I 0, I 3]) := hide (by rw [hw16]; exact ((kL.out).alloc _).alloc _)
    replace kY : Hid (Blk w16 bY 3 #[I 13]) := hide (by rw [hw16]; exact ((kY.out).alloc _).alloc _)
    replace kS : Hid (Blk w16 bS 124 #[I 0, I 2, I 13, I 5, I 20]) := hide (by rw [hw16]; exact ((kS.out).alloc _).alloc _)
    replace kX : Hid (Blk w16 bX 63 #[.slice (some ⟨bL, 0, none⟩) 1 1, .slice none 0 0, I 0, I 0, I 100, .slice (some ⟨bY, 0, none⟩) 1 1, .slice (some ⟨bS, 0, none⟩) 1 1, .slice none 0 0]) := hide (by rw [hw16]; exact ((kX.out).alloc _).alloc _)
    replace kM : Hid (Blk w16 bM 3 #[I 2]) := hide (by rw [hw16]; exact ((kM.out).alloc _).alloc _)
    have B17 : Below w.heap.size w w16 := by rw [hw16]; exact bup B16 (below2 _ _ _)
    rw [← hw16]
    clear hw16 B16
    obtain ⟨bN, hbN⟩ : ∃ b, w15.heap.size + 1 = b := ⟨_, rfl⟩
    rw [hbN] at kN ⊢
    obtain ⟨bU, hbU⟩ : ∃ b, w15.heap.size = b := ⟨_, rfl⟩
    rw [hbU] at kU ⊢
    replace kU := hide kU
    replace kN := hide kN
    clear hbU
    clear hbN
    go_at_call 49
    refine (x_whenC (.slice (some ⟨bD, 0, none⟩) 1 1) (.slice (some ⟨bL, 0, none⟩) 1 1) (.slice (some ⟨bY, 0, none⟩) 1 1) (.slice (some ⟨bS, 0, none⟩) 1 1) (.slice (some ⟨bN, 0, none⟩) 1 1) w16 (one_sl kD.out rfl) (one_sl kL.out rfl) (one_sl kY.out rfl) (one_sl kS.out rfl) (one_sl kN.out rfl)).mono ?_
    rintro e w17 ⟨rfl, hb⟩
    replace kC := hide (kC.out.grow hb)
    replace kW := hide (kW.out.grow hb)
    replace kP := hide (kP.out.grow hb)
    replace kQ := hide (kQ.out.grow hb)
    replace kR := hide (kR.out.grow hb)
    replace kD := hide (kD.out.grow hb)
    replace kG := hide (kG.out.grow hb)
    replace kL := hide (kL.out.grow hb)
    replace kY := hide (kY.out.grow hb)
    replace kS := hide (kS.out.grow hb)
    replace kX := hide (kX.out.grow hb)
    replace kM := hide (kM.out.grow hb)
    replace kU := hide (kU.out.grow hb)
    replace kN := hide (kN.out.grow hb)
    have B18 := bup B17 hb
    clear hb B17
    obtain ⟨rU0, rU1⟩ := kU.out.cells2
    have zU : bU < w17.heap.size := kU.out.lt
    have zU_1 : bU < w17.heap.size + 1 := by omega
    obtain ⟨rC0, rC1, rC2, rC3, rC4, rC5, rC6, rC7⟩ := kC.out.cells8
    have zC : bC < w17.heap.size := kC.out.lt
    have zC_1 : bC < w17.heap.size + 1 := by omega
    go_wp2_with fail
    clear rU0 rU1 zU zU_1 rC0 rC1 rC2 rC3 rC4 rC5 rC6 rC7 zC zC_1
    obtain ⟨w18, hw18⟩ : ∃ w18, w18 = (w17.alloc (.cells #[I 14, I 1048578] 23)) := ⟨_, rfl⟩
    have kV : Blk w18 (w17.heap.size) 23 #[I 14, I 1048578] := by
     rw [hw18]
     have h := Blk.new w17 23 #[I 14, I 1048578]
     first | exact h | simpa only [World.size_alloc] using h
    replace kC : Hid (Blk w18 bC 25 #[I 1000, I 6, I 50, I 40, I (-200), I 250, I 400, I 410]) := hide (by rw [hw18]; exact (kC.out).alloc _)
    replace kW : Hid (Blk w18 bW 36 #[I 13, I 50, I 10]) := hide (by rw [hw18]; exact (kW.out).alloc _)
    replace kP : Hid (Blk w18 bP 23 #[I (-40), I 50]) := hide (by rw [hw18]; exact (kP.out).alloc _)
    replace kQ : Hid (Blk w18 bQ 23 #[I 0, I 40]) := hide (by rw [hw18]; exact (kQ.out).alloc _)
    replace kR : Hid (Blk w18 bR 23 #[I (-15), I 45]) := hide (by rw [hw18]; exact (kR.out).alloc _)
    replace kD : Hid (Blk w18 bD 36 #[I 13, I 50, I 10]) := hide (by rw [hw18]; exact (kD.out).alloc _)
    replace kG : Hid (Blk w18 bG 28 #[I 3, .slice (some ⟨bD, 0, none⟩) 1 1]) := hide (by rw [hw18]; exact (kG.out).alloc _)
    replace kL : Hid (Blk w18 bL 89 #[I 2, I 1500, I 0, I 3]) := hide (by rw [hw18]; exact (kL.out).alloc _)
    replace kY : Hid (Blk w18 bY 3 #[I 13]) := hide (by rw [hw18]; exact (kY.out).alloc _)
    replace kS : Hid (Blk w18 bS 124 #[I 0, I 2, I 13, I 5, I 20]) := hide (by rw [hw18]; exact (kS.out).alloc _)
    replace kX : Hid (Blk w18 bX 63 #[.slice (some ⟨bL, 0, none⟩) 1 1, .slice none 0 0, I 0, I 0, I 100, .slice (some ⟨bY, 0, none⟩) 1 1, .slice (some ⟨bS, 0, none⟩) 1 1, .slice none 0 0]) := hide (by rw [hw18]; exact (kX.out).alloc _)
    replace kM : Hid (Blk w18 bM 3 #[I 2]) := hide (by rw [hw18]; exact (kM.out).alloc _)
    replace kU : Hid (Blk w18 bU 23 #[I 45, I 54]) := hide (by rw [hw18]; exact (kU.out).alloc _)
    replace kN : Hid (Blk w18 bN 3 #[I 2]) := hide (by rw [hw18]; exact (kN.out).alloc _)
    have B19 : Below w.heap.size w w18 := by rw [hw18]; exact bup B18 (below1 _ _)
    rw [← hw18]
    clear hw18 B18
    obtain ⟨bV, hbV⟩ : ∃ b, w17.heap.size = b := ⟨_, rfl⟩
    rw [hbV] at kV ⊢
    replace kV := hide kV
    clear hbV
    go_at_call 27
    refine (x_springC w18).mono ?_
    rintro e w19 ⟨rfl, hb⟩
    replace kC := hide (kC.out.grow hb)
    replace kW := hide (kW.out.grow hb)
    replace kP := hide (kP.out.grow hb)
    replace kQ := hide (kQ.out.grow hb)
    replace kR := hide (kR.out.grow hb)
    replace kD := hide (kD.out.grow hb)
    replace kG := hide (kG.out.grow hb)
    replace kL := hide (kL.out.grow hb)
    replace kY := hide (kY.out.grow hb)
    replace kS := hide (kS.out.grow hb)
    replace kX := hide (kX.out.grow hb)
    replace kM := hide (kM.out.grow hb)
    replace kU := hide (kU.out.grow hb)
    replace kN := hide (kN.out.grow hb)
    replace kV := hide (kV.out.grow hb)
    have B20 := bup B19 hb
    clear hb B19
    go_wp2_with fail
    go_ret
    exact ⟨rfl, B20⟩
end Go.Proofs.YtmjfdobjnnfafaaGreatDoor
