/- The chapter's examples hold. Conditions stand in the theorems. -/
import Derived.Test.YtifeniiefhpadaaGreatDoorSpring26Pack
import Derived.Test.YtifeniiefhpadaaGreatDoorPoolLibPack
set_option linter.all false
set_option maxHeartbeats 16000000
set_option maxRecDepth 100000
namespace Go.Proofs.YtifeniiefhpadaaGreatDoor
open Go.RowKit

theorem end2 {w v : World} {nq a b : Nat} {t : TypeId} {p0 p1 q0 q1 x0 x1 y0 y1 : Value} (hn : Hid (w.heap.size = nq)) (hB : Below w.heap.size w v) (kP : Blk v a t #[p0, p1]) (kQ : Blk v b t #[q0, q1]) (ha : nq ≤ a) (hb : nq ≤ b) (hne : a ≠ b) :
  Below nq w ((((v.setCell ⟨a, 0, none⟩ x0).setCell ⟨a, 1, none⟩ x1).setCell ⟨b, 0, none⟩ y0).setCell ⟨b, 1, none⟩ y1) ∧ Blk ((((v.setCell ⟨a, 0, none⟩ x0).setCell ⟨a, 1, none⟩ x1).setCell ⟨b, 0, none⟩ y0).setCell ⟨b, 1, none⟩ y1) a t #[x0, x1] ∧
   Blk ((((v.setCell ⟨a, 0, none⟩ x0).setCell ⟨a, 1, none⟩ x1).setCell ⟨b, 0, none⟩ y0).setCell ⟨b, 1, none⟩ y1) b t #[y0, y1] := by
 have hw := hn.out
 rw [hw] at hB
 exact ⟨gap_below2 (gap_below2 hB ha) hb, ((gap_set2 kP).far (p := ⟨b, 0, none⟩) hne _).far (p := ⟨b, 1, none⟩) hne _, gap_set2 ((kQ.far (p := ⟨a, 0, none⟩) hne.symm _).far (p := ⟨a, 1, none⟩) hne.symm _)⟩
theorem end1 {w v : World} {nq a : Nat} {t : TypeId} {p0 p1 x0 x1 : Value} (hn : Hid (w.heap.size = nq)) (hB : Below w.heap.size w v) (kP : Blk v a t #[p0, p1]) (ha : nq ≤ a) :
  Below nq w ((v.setCell ⟨a, 0, none⟩ x0).setCell ⟨a, 1, none⟩ x1) ∧ Blk ((v.setCell ⟨a, 0, none⟩ x0).setCell ⟨a, 1, none⟩ x1) a t #[x0, x1] := by
 have hw := hn.out
 rw [hw] at hB
 exact ⟨gap_below2 hB ha, gap_set2 kP⟩

theorem law_sane (w : World) (hp : Pow10 w) : Calls Tryz.prog 4 #[] w fun e w' => e = .returned (.bool true) ∧ Below w.heap.size w w' := by
 replace hp := hide hp
 go_enter Tryz.func4, Tryz.ntmps4
 have B0 : Below w.heap.size w w := Below.refl _ _
 go_wp2_with fail
 go_at_call 17
 refine (law_climate w).mono ?_
 rintro e w1 ⟨rfl, hb⟩
 have B1 := bup B0 hb
 clear hb B0
 unfold cV
 go_wp2_with fail
 obtain ⟨w2, hw2, hb, kC⟩ := al1 w1 #[I 1000, I 6, I 50, I 40, I (-200), I 250, I 400, I 410] 25
 have B2 := bup B1 hb
 rw [← hw2]
 clear hw2 hb B1
 obtain ⟨bC, hbC⟩ : ∃ b, w1.heap.size = b := ⟨_, rfl⟩
 rw [hbC] at kC ⊢
 replace kC := hide kC
 clear hbC
 go_at_call 18
 refine (x_atC w2).mono ?_
 rintro e w3 ⟨rfl, hb⟩
 replace kC := hide (kC.out.grow hb)
 have B3 := bup B2 hb
 clear hb B2
 obtain ⟨rC0, rC1, rC2, rC3, rC4, rC5, rC6, rC7⟩ := kC.out.cells8
 have zC : bC < w3.heap.size := kC.out.lt
 go_wp2_with fail
 clear rC0 rC1 rC2 rC3 rC4 rC5 rC6 rC7 zC
 go_at_call 19
 refine (x_frostC w3).mono ?_
 rintro e w4 ⟨rfl, hb⟩
 replace kC := hide (kC.out.grow hb)
 have B4 := bup B3 hb
 clear hb B3
 obtain ⟨rC0, rC1, rC2, rC3, rC4, rC5, rC6, rC7⟩ := kC.out.cells8
 have zC : bC < w4.heap.size := kC.out.lt
 have zC_1 : bC < w4.heap.size + 1 := by omega
 go_wp2_with fail
 clear rC0 rC1 rC2 rC3 rC4 rC5 rC6 rC7 zC zC_1
 obtain ⟨w5, hw5, hb, kW⟩ := al1 w4 #[I 13, I 50, I 10] 28
 replace kC := hide (kC.out.grow hb)
 have B5 := bup B4 hb
 rw [← hw5]
 clear hw5 hb B4
 obtain ⟨bW, hbW⟩ : ∃ b, w4.heap.size = b := ⟨_, rfl⟩
 rw [hbW] at kW ⊢
 replace kW := hide kW
 clear hbW
 go_at_call 20
 refine (x_snowC w5).mono ?_
 rintro e w6 ⟨rfl, hb⟩
 replace kC := hide (kC.out.grow hb)
 replace kW := hide (kW.out.grow hb)
 have B6 := bup B5 hb
 clear hb B5
 obtain ⟨rC0, rC1, rC2, rC3, rC4, rC5, rC6, rC7⟩ := kC.out.cells8
 have zC : bC < w6.heap.size := kC.out.lt
 obtain ⟨rW0, rW1, rW2⟩ := kW.out.cells3
 have zW : bW < w6.heap.size := kW.out.lt
 go_wp2_with fail
 clear rC0 rC1 rC2 rC3 rC4 rC5 rC6 rC7 zC rW0 rW1 rW2 zW
 go_at_call 21
 refine (x_meltC w6).mono ?_
 rintro e w7 ⟨rfl, hb⟩
 replace kC := hide (kC.out.grow hb)
 replace kW := hide (kW.out.grow hb)
 have B7 := bup B6 hb
 clear hb B6
 obtain ⟨rC0, rC1, rC2, rC3, rC4, rC5, rC6, rC7⟩ := kC.out.cells8
 have zC : bC < w7.heap.size := kC.out.lt
 go_wp2_with fail
 clear rC0 rC1 rC2 rC3 rC4 rC5 rC6 rC7 zC
 have HSw : ∀ W : World, Below w7.heap.size w7 W → (fun W : World => W.cell? ⟨bC, 0, none⟩ = some (I 1000) ∧ W.cell? ⟨bC, 1, none⟩ = some (I 6) ∧ W.cell? ⟨bC, 2, none⟩ = some (I 50) ∧ W.cell? ⟨bC, 3, none⟩ = some (I 40) ∧ W.cell? ⟨bC, 4, none⟩ = some (I (-200)) ∧ W.cell? ⟨bC, 5, none⟩ = some (I 250) ∧ W.cell? ⟨bC, 6, none⟩ = some (I 400) ∧ W.cell? ⟨bC, 7, none⟩ = some (I 410)) W := fun W h => by
  have h2 := kC.out.grow h
  exact ⟨h2.cell 0, h2.cell 1, h2.cell 2, h2.cell 3, h2.cell 4, h2.cell 5, h2.cell 6, h2.cell 7⟩
 replace HSw := hide HSw
 refine wp_zgo HSw 11 fun hHeld => ?_
 have wB : Below w7.heap.size w7 w7.drew := (Below.refl _ _).drew
 (refine zg_tk 0 ?_; (try go_frame))
 obtain ⟨nq, hnq⟩ : ∃ n, w7.heap.size = n := ⟨_, rfl⟩
 replace hnq := hide hnq
 apply via
 case f =>
  intro key
  refine zg_three (i := 1) (j := 7) (l := 8) (by decide) (by decide) (by decide) rfl rfl rfl (by kernel_rfl) (fun K_ hK_ => ?_) (fun K_ hK_ => ?_) (fun K_ hK_ => ?_)
  ·go_simp
   refine (law_record w7.drew).mono ?_
   rintro e v1 ⟨v53, rfl, hsl, hsv1⟩
   have wBv1 := bup wB hsv1
   have yv1 := hsv1.size
   refine hK_.out _ _ (HSw.out _ wBv1) (fun hHeld => ?_)
   clear hK_ K_
   (try go_frame)
   refine zg_three (i := 2) (j := 7) (l := 8) (by decide) (by decide) (by decide) rfl rfl rfl (by kernel_rfl) (fun K_ hK_ => ?_) (fun K_ hK_ => ?_) (fun K_ hK_ => ?_)
   ·go_simp
    refine (x_gapC v53 v1 hsl).mono ?_
    rintro e v2 ⟨rfl, hsv2⟩
    replace hsl := hsl.mono hsv2
    have wBv2 := bup wBv1 hsv2
    have yv2 := hsv2.size
    refine hK_.out _ _ (HSw.out _ wBv2) (fun hHeld => ?_)
    clear hK_ K_
    (try go_frame)
    (refine zg_tk 3 ?_; refine zg_tk 4 ?_; refine zg_tk 5 ?_; refine zg_tk 6 ?_; (try go_frame))
    refine zg_two (i := 7) (j := 8) (by decide) (by decide) rfl rfl (by kernel_rfl) (fun K_ hK_ => ?_) (fun K_ hK_ => ?_)
    ·go_simp
     obtain ⟨v3, hv3, hsv3, kP⟩ := alv v2 #[I 0, I 0] 23
     have gP := wBv2.size
     replace hsl := hsl.mono hsv3
     have wBv3 := bup wBv2 hsv3
     have yP := hsv3.size
     rw [← hv3]
     clear hv3
     refine hK_.out _ _ (HSw.out _ wBv3) (fun hHeld => ?_)
     clear hK_ K_
     (try go_frame)
     refine zg_ready (i := 8) (by decide) rfl (by kernel_rfl) (fun K_ hK_ => ?_)
     go_simp
     obtain ⟨v4, hv4, hsv4, kQ⟩ := alv v3 #[I 0, I 0] 23
     have yPQ := kP.lt
     replace kP := kP.grow hsv4
     have gQ := wBv3.size
     replace hsl := hsl.mono hsv4
     have wBv4 := bup wBv3 hsv4
     have yQ := hsv4.size
     rw [← hv4]
     clear hv4
     refine hK_.out _ _ (HSw.out _ wBv4) (fun hHeld => ?_)
     clear hK_ K_
     (try go_frame)
     obtain ⟨zzP, qP0, qP1, fP0, fP1⟩ := blk_box kP
     obtain ⟨zzQ, qQ0, qQ1, fQ0, fQ1⟩ := blk_box kQ
     have hgP : nq ≤ v2.heap.size := by have := hnq.out; omega
     have hgQ : nq ≤ v3.heap.size := by have := hnq.out; omega
     (refine zg_rd 9 fun K_ hK_ => ?_; go_simp; skip; refine hK_.out _ _ ?_ (fun hHeld => ?_); rotate_left; clear hK_ K_; (try go_frame); rotate_left)
     ·exact HSw.out _ (gap_below2 (wBv4) (Nat.le_trans (Nat.le_of_eq hnq.out) hgP))
     (refine zg_rd 10 fun K_ hK_ => ?_; go_simp; skip; refine hK_.out _ _ ?_ (fun hHeld => ?_); rotate_left; clear hK_ K_; (try go_frame); rotate_left)
     ·exact HSw.out _ (gap_below2 (gap_below2 (wBv4) (Nat.le_trans (Nat.le_of_eq hnq.out) hgP)) (Nat.le_trans (Nat.le_of_eq hnq.out) hgQ))
     (refine zg_ls 11 fun K_ hK_ => ?_; go_simp; skip; refine hK_.out _ _ ?_; clear hK_ K_; (try go_frame))
     obtain ⟨hbE, hkP, hkQ⟩ := end2 hnq wBv4 kP kQ hgP hgQ (by omega)
     have hne : v2.heap.size ≠ v3.heap.size := by omega
     generalize ((((v4.setCell ⟨v2.heap.size, 0, none⟩ (I (-40))).setCell ⟨v2.heap.size, 1, none⟩ (I 50)).setCell ⟨v3.heap.size, 0, none⟩ (I 0)).setCell ⟨v3.heap.size, 1, none⟩ (I 40)) = Wz at hbE hkP hkQ ⊢
     generalize (v2.heap.size : Nat) = bP at hkP hgP hne ⊢
     generalize (v3.heap.size : Nat) = bQ at hkQ hgQ hne ⊢
     revert hbE
     revert hkP
     revert hkQ
     revert hgP
     revert hgQ
     revert hne
     clear hsl
     revert bP
     revert bQ
     revert v53
     revert Wz
     exact key.out
    ·go_simp
     obtain ⟨v5, hv5, hsv5, kQ⟩ := alv v2 #[I 0, I 0] 23
     have gQ := wBv2.size
     replace hsl := hsl.mono hsv5
     have wBv5 := bup wBv2 hsv5
     have yQ := hsv5.size
     rw [← hv5]
     clear hv5
     refine hK_.out _ _ (HSw.out _ wBv5) (fun hHeld => ?_)
     clear hK_ K_
     (try go_frame)
     refine zg_ready (i := 7) (by decide) rfl (by kernel_rfl) (fun K_ hK_ => ?_)
     go_simp
     obtain ⟨v6, hv6, hsv6, kP⟩ := alv v5 #[I 0, I 0] 23
     have yQP := kQ.lt
     replace kQ := kQ.grow hsv6
     have gP := wBv5.size
     replace hsl := hsl.mono hsv6
     have wBv6 := bup wBv5 hsv6
     have yP := hsv6.size
     rw [← hv6]
     clear hv6
     refine hK_.out _ _ (HSw.out _ wBv6) (fun hHeld => ?_)
     clear hK_ K_
     (try go_frame)
     obtain ⟨zzP, qP0, qP1, fP0, fP1⟩ := blk_box kP
     obtain ⟨zzQ, qQ0, qQ1, fQ0, fQ1⟩ := blk_box kQ
     have hgP : nq ≤ v5.heap.size := by have := hnq.out; omega
     have hgQ : nq ≤ v2.heap.size := by have := hnq.out; omega
     (refine zg_rd 9 fun K_ hK_ => ?_; go_simp; skip; refine hK_.out _ _ ?_ (fun hHeld => ?_); rotate_left; clear hK_ K_; (try go_frame); rotate_left)
     ·exact HSw.out _ (gap_below2 (wBv6) (Nat.le_trans (Nat.le_of_eq hnq.out) hgP))
     (refine zg_rd 10 fun K_ hK_ => ?_; go_simp; skip; refine hK_.out _ _ ?_ (fun hHeld => ?_); rotate_left; clear hK_ K_; (try go_frame); rotate_left)
     ·exact HSw.out _ (gap_below2 (gap_below2 (wBv6) (Nat.le_trans (Nat.le_of_eq hnq.out) hgP)) (Nat.le_trans (Nat.le_of_eq hnq.out) hgQ))
     (refine zg_ls 11 fun K_ hK_ => ?_; go_simp; skip; refine hK_.out _ _ ?_; clear hK_ K_; (try go_frame))
     obtain ⟨hbE, hkP, hkQ⟩ := end2 hnq wBv6 kP kQ hgP hgQ (by omega)
     exact key.out _ v53 _ _ (by omega) hgQ hgP hkQ hkP hbE
   ·go_simp
    obtain ⟨v7, hv7, hsv7, kP⟩ := alv v1 #[I 0, I 0] 23
    have gP := wBv1.size
    replace hsl := hsl.mono hsv7
    have wBv7 := bup wBv1 hsv7
    have yP := hsv7.size
    rw [← hv7]
    clear hv7
    refine hK_.out _ _ (HSw.out _ wBv7) (fun hHeld => ?_)
    clear hK_ K_
    (try go_frame)
    refine zg_two (i := 2) (j := 8) (by decide) (by decide) rfl rfl (by kernel_rfl) (fun K_ hK_ => ?_) (fun K_ hK_ => ?_)
    ·go_simp
     refine (x_gapC v53 v7 hsl).mono ?_
     rintro e v8 ⟨rfl, hsv8⟩
     replace kP := kP.grow hsv8
     replace hsl := hsl.mono hsv8
     have wBv8 := bup wBv7 hsv8
     have yv8 := hsv8.size
     refine hK_.out _ _ (HSw.out _ wBv8) (fun hHeld => ?_)
     clear hK_ K_
     (try go_frame)
     (refine zg_tk 3 ?_; refine zg_tk 4 ?_; refine zg_tk 5 ?_; refine zg_tk 6 ?_; (try go_frame))
     refine zg_ready (i := 8) (by decide) rfl (by kernel_rfl) (fun K_ hK_ => ?_)
     go_simp
     obtain ⟨v9, hv9, hsv9, kQ⟩ := alv v8 #[I 0, I 0] 23
     have yPQ := kP.lt
     replace kP := kP.grow hsv9
     have gQ := wBv8.size
     replace hsl := hsl.mono hsv9
     have wBv9 := bup wBv8 hsv9
     have yQ := hsv9.size
     rw [← hv9]
     clear hv9
     refine hK_.out _ _ (HSw.out _ wBv9) (fun hHeld => ?_)
     clear hK_ K_
     (try go_frame)
     obtain ⟨zzP, qP0, qP1, fP0, fP1⟩ := blk_box kP
     obtain ⟨zzQ, qQ0, qQ1, fQ0, fQ1⟩ := blk_box kQ
     have hgP : nq ≤ v1.heap.size := by have := hnq.out; omega
     have hgQ : nq ≤ v8.heap.size := by have := hnq.out; omega
     (refine zg_rd 9 fun K_ hK_ => ?_; go_simp; skip; refine hK_.out _ _ ?_ (fun hHeld => ?_); rotate_left; clear hK_ K_; (try go_frame); rotate_left)
     ·exact HSw.out _ (gap_below2 (wBv9) (Nat.le_trans (Nat.le_of_eq hnq.out) hgP))
     (refine zg_rd 10 fun K_ hK_ => ?_; go_simp; skip; refine hK_.out _ _ ?_ (fun hHeld => ?_); rotate_left; clear hK_ K_; (try go_frame); rotate_left)
     ·exact HSw.out _ (gap_below2 (gap_below2 (wBv9) (Nat.le_trans (Nat.le_of_eq hnq.out) hgP)) (Nat.le_trans (Nat.le_of_eq hnq.out) hgQ))
     (refine zg_ls 11 fun K_ hK_ => ?_; go_simp; skip; refine hK_.out _ _ ?_; clear hK_ K_; (try go_frame))
     obtain ⟨hbE, hkP, hkQ⟩ := end2 hnq wBv9 kP kQ hgP hgQ (by omega)
     exact key.out _ v53 _ _ (by omega) hgQ hgP hkQ hkP hbE
    ·go_simp
     obtain ⟨v10, hv10, hsv10, kQ⟩ := alv v7 #[I 0, I 0] 23
     have yPQ := kP.lt
     replace kP := kP.grow hsv10
     have gQ := wBv7.size
     replace hsl := hsl.mono hsv10
     have wBv10 := bup wBv7 hsv10
     have yQ := hsv10.size
     rw [← hv10]
     clear hv10
     refine hK_.out _ _ (HSw.out _ wBv10) (fun hHeld => ?_)
     clear hK_ K_
     (try go_frame)
     refine zg_ready (i := 2) (by decide) rfl (by kernel_rfl) (fun K_ hK_ => ?_)
     go_simp
     refine (x_gapC v53 v10 hsl).mono ?_
     rintro e v11 ⟨rfl, hsv11⟩
     replace kP := kP.grow hsv11
     replace kQ := kQ.grow hsv11
     replace hsl := hsl.mono hsv11
     have wBv11 := bup wBv10 hsv11
     have yv11 := hsv11.size
     refine hK_.out _ _ (HSw.out _ wBv11) (fun hHeld => ?_)
     clear hK_ K_
     (try go_frame)
     (refine zg_tk 3 ?_; refine zg_tk 4 ?_; refine zg_tk 5 ?_; refine zg_tk 6 ?_; (try go_frame))
     obtain ⟨zzP, qP0, qP1, fP0, fP1⟩ := blk_box kP
     obtain ⟨zzQ, qQ0, qQ1, fQ0, fQ1⟩ := blk_box kQ
     have hgP : nq ≤ v1.heap.size := by have := hnq.out; omega
     have hgQ : nq ≤ v7.heap.size := by have := hnq.out; omega
     (refine zg_rd 9 fun K_ hK_ => ?_; go_simp; skip; refine hK_.out _ _ ?_ (fun hHeld => ?_); rotate_left; clear hK_ K_; (try go_frame); rotate_left)
     ·exact HSw.out _ (gap_below2 (wBv11) (Nat.le_trans (Nat.le_of_eq hnq.out) hgP))
     (refine zg_rd 10 fun K_ hK_ => ?_; go_simp; skip; refine hK_.out _ _ ?_ (fun hHeld => ?_); rotate_left; clear hK_ K_; (try go_frame); rotate_left)
     ·exact HSw.out _ (gap_below2 (gap_below2 (wBv11) (Nat.le_trans (Nat.le_of_eq hnq.out) hgP)) (Nat.le_trans (Nat.le_of_eq hnq.out) hgQ))
     (refine zg_ls 11 fun K_ hK_ => ?_; go_simp; skip; refine hK_.out _ _ ?_; clear hK_ K_; (try go_frame))
     obtain ⟨hbE, hkP, hkQ⟩ := end2 hnq wBv11 kP kQ hgP hgQ (by omega)
     exact key.out _ v53 _ _ (by omega) hgQ hgP hkQ hkP hbE
   ·go_simp
    obtain ⟨v12, hv12, hsv12, kQ⟩ := alv v1 #[I 0, I 0] 23
    have gQ := wBv1.size
    replace hsl := hsl.mono hsv12
    have wBv12 := bup wBv1 hsv12
    have yQ := hsv12.size
    rw [← hv12]
    clear hv12
    refine hK_.out _ _ (HSw.out _ wBv12) (fun hHeld => ?_)
    clear hK_ K_
    (try go_frame)
    refine zg_two (i := 2) (j := 7) (by decide) (by decide) rfl rfl (by kernel_rfl) (fun K_ hK_ => ?_) (fun K_ hK_ => ?_)
    ·go_simp
     refine (x_gapC v53 v12 hsl).mono ?_
     rintro e v13 ⟨rfl, hsv13⟩
     replace kQ := kQ.grow hsv13
     replace hsl := hsl.mono hsv13
     have wBv13 := bup wBv12 hsv13
     have yv13 := hsv13.size
     refine hK_.out _ _ (HSw.out _ wBv13) (fun hHeld => ?_)
     clear hK_ K_
     (try go_frame)
     (refine zg_tk 3 ?_; refine zg_tk 4 ?_; refine zg_tk 5 ?_; refine zg_tk 6 ?_; (try go_frame))
     refine zg_ready (i := 7) (by decide) rfl (by kernel_rfl) (fun K_ hK_ => ?_)
     go_simp
     obtain ⟨v14, hv14, hsv14, kP⟩ := alv v13 #[I 0, I 0] 23
     have yQP := kQ.lt
     replace kQ := kQ.grow hsv14
     have gP := wBv13.size
     replace hsl := hsl.mono hsv14
     have wBv14 := bup wBv13 hsv14
     have yP := hsv14.size
     rw [← hv14]
     clear hv14
     refine hK_.out _ _ (HSw.out _ wBv14) (fun hHeld => ?_)
     clear hK_ K_
     (try go_frame)
     obtain ⟨zzP, qP0, qP1, fP0, fP1⟩ := blk_box kP
     obtain ⟨zzQ, qQ0, qQ1, fQ0, fQ1⟩ := blk_box kQ
     have hgP : nq ≤ v13.heap.size := by have := hnq.out; omega
     have hgQ : nq ≤ v1.heap.size := by have := hnq.out; omega
     (refine zg_rd 9 fun K_ hK_ => ?_; go_simp; skip; refine hK_.out _ _ ?_ (fun hHeld => ?_); rotate_left; clear hK_ K_; (try go_frame); rotate_left)
     ·exact HSw.out _ (gap_below2 (wBv14) (Nat.le_trans (Nat.le_of_eq hnq.out) hgP))
     (refine zg_rd 10 fun K_ hK_ => ?_; go_simp; skip; refine hK_.out _ _ ?_ (fun hHeld => ?_); rotate_left; clear hK_ K_; (try go_frame); rotate_left)
     ·exact HSw.out _ (gap_below2 (gap_below2 (wBv14) (Nat.le_trans (Nat.le_of_eq hnq.out) hgP)) (Nat.le_trans (Nat.le_of_eq hnq.out) hgQ))
     (refine zg_ls 11 fun K_ hK_ => ?_; go_simp; skip; refine hK_.out _ _ ?_; clear hK_ K_; (try go_frame))
     obtain ⟨hbE, hkP, hkQ⟩ := end2 hnq wBv14 kP kQ hgP hgQ (by omega)
     exact key.out _ v53 _ _ (by omega) hgQ hgP hkQ hkP hbE
    ·go_simp
     obtain ⟨v15, hv15, hsv15, kP⟩ := alv v12 #[I 0, I 0] 23
     have yQP := kQ.lt
     replace kQ := kQ.grow hsv15
     have gP := wBv12.size
     replace hsl := hsl.mono hsv15
     have wBv15 := bup wBv12 hsv15
     have yP := hsv15.size
     rw [← hv15]
     clear hv15
     refine hK_.out _ _ (HSw.out _ wBv15) (fun hHeld => ?_)
     clear hK_ K_
     (try go_frame)
     refine zg_ready (i := 2) (by decide) rfl (by kernel_rfl) (fun K_ hK_ => ?_)
     go_simp
     refine (x_gapC v53 v15 hsl).mono ?_
     rintro e v16 ⟨rfl, hsv16⟩
     replace kQ := kQ.grow hsv16
     replace kP := kP.grow hsv16
     replace hsl := hsl.mono hsv16
     have wBv16 := bup wBv15 hsv16
     have yv16 := hsv16.size
     refine hK_.out _ _ (HSw.out _ wBv16) (fun hHeld => ?_)
     clear hK_ K_
     (try go_frame)
     (refine zg_tk 3 ?_; refine zg_tk 4 ?_; refine zg_tk 5 ?_; refine zg_tk 6 ?_; (try go_frame))
     obtain ⟨zzP, qP0, qP1, fP0, fP1⟩ := blk_box kP
     obtain ⟨zzQ, qQ0, qQ1, fQ0, fQ1⟩ := blk_box kQ
     have hgP : nq ≤ v12.heap.size := by have := hnq.out; omega
     have hgQ : nq ≤ v1.heap.size := by have := hnq.out; omega
     (refine zg_rd 9 fun K_ hK_ => ?_; go_simp; skip; refine hK_.out _ _ ?_ (fun hHeld => ?_); rotate_left; clear hK_ K_; (try go_frame); rotate_left)
     ·exact HSw.out _ (gap_below2 (wBv16) (Nat.le_trans (Nat.le_of_eq hnq.out) hgP))
     (refine zg_rd 10 fun K_ hK_ => ?_; go_simp; skip; refine hK_.out _ _ ?_ (fun hHeld => ?_); rotate_left; clear hK_ K_; (try go_frame); rotate_left)
     ·exact HSw.out _ (gap_below2 (gap_below2 (wBv16) (Nat.le_trans (Nat.le_of_eq hnq.out) hgP)) (Nat.le_trans (Nat.le_of_eq hnq.out) hgQ))
     (refine zg_ls 11 fun K_ hK_ => ?_; go_simp; skip; refine hK_.out _ _ ?_; clear hK_ K_; (try go_frame))
     obtain ⟨hbE, hkP, hkQ⟩ := end2 hnq wBv16 kP kQ hgP hgQ (by omega)
     exact key.out _ v53 _ _ (by omega) hgQ hgP hkQ hkP hbE
  ·go_simp
   obtain ⟨v17, hv17, hsv17, kP⟩ := alvd w7 #[I 0, I 0] 23
   have gP := wB.size
   have wBv17 := bup wB hsv17
   have yP := hsv17.size
   rw [← hv17]
   clear hv17
   refine hK_.out _ _ (HSw.out _ wBv17) (fun hHeld => ?_)
   clear hK_ K_
   (try go_frame)
   refine zg_two (i := 1) (j := 8) (by decide) (by decide) rfl rfl (by kernel_rfl) (fun K_ hK_ => ?_) (fun K_ hK_ => ?_)
   ·go_simp
    refine (law_record v17).mono ?_
    rintro e v18 ⟨v53, rfl, hsl, hsv18⟩
    replace kP := kP.grow hsv18
    have wBv18 := bup wBv17 hsv18
    have yv18 := hsv18.size
    refine hK_.out _ _ (HSw.out _ wBv18) (fun hHeld => ?_)
    clear hK_ K_
    (try go_frame)
    refine zg_two (i := 2) (j := 8) (by decide) (by decide) rfl rfl (by kernel_rfl) (fun K_ hK_ => ?_) (fun K_ hK_ => ?_)
    ·go_simp
     refine (x_gapC v53 v18 hsl).mono ?_
     rintro e v19 ⟨rfl, hsv19⟩
     replace kP := kP.grow hsv19
     replace hsl := hsl.mono hsv19
     have wBv19 := bup wBv18 hsv19
     have yv19 := hsv19.size
     refine hK_.out _ _ (HSw.out _ wBv19) (fun hHeld => ?_)
     clear hK_ K_
     (try go_frame)
     (refine zg_tk 3 ?_; refine zg_tk 4 ?_; refine zg_tk 5 ?_; refine zg_tk 6 ?_; (try go_frame))
     refine zg_ready (i := 8) (by decide) rfl (by kernel_rfl) (fun K_ hK_ => ?_)
     go_simp
     obtain ⟨v20, hv20, hsv20, kQ⟩ := alv v19 #[I 0, I 0] 23
     have yPQ := kP.lt
     replace kP := kP.grow hsv20
     have gQ := wBv19.size
     replace hsl := hsl.mono hsv20
     have wBv20 := bup wBv19 hsv20
     have yQ := hsv20.size
     rw [← hv20]
     clear hv20
     refine hK_.out _ _ (HSw.out _ wBv20) (fun hHeld => ?_)
     clear hK_ K_
     (try go_frame)
     obtain ⟨zzP, qP0, qP1, fP0, fP1⟩ := blk_box kP
     obtain ⟨zzQ, qQ0, qQ1, fQ0, fQ1⟩ := blk_box kQ
     have hgP : nq ≤ w7.heap.size := by have := hnq.out; omega
     have hgQ : nq ≤ v19.heap.size := by have := hnq.out; omega
     (refine zg_rd 9 fun K_ hK_ => ?_; go_simp; skip; refine hK_.out _ _ ?_ (fun hHeld => ?_); rotate_left; clear hK_ K_; (try go_frame); rotate_left)
     ·exact HSw.out _ (gap_below2 (wBv20) (Nat.le_trans (Nat.le_of_eq hnq.out) hgP))
     (refine zg_rd 10 fun K_ hK_ => ?_; go_simp; skip; refine hK_.out _ _ ?_ (fun hHeld => ?_); rotate_left; clear hK_ K_; (try go_frame); rotate_left)
     ·exact HSw.out _ (gap_below2 (gap_below2 (wBv20) (Nat.le_trans (Nat.le_of_eq hnq.out) hgP)) (Nat.le_trans (Nat.le_of_eq hnq.out) hgQ))
     (refine zg_ls 11 fun K_ hK_ => ?_; go_simp; skip; refine hK_.out _ _ ?_; clear hK_ K_; (try go_frame))
     obtain ⟨hbE, hkP, hkQ⟩ := end2 hnq wBv20 kP kQ hgP hgQ (by omega)
     exact key.out _ v53 _ _ (by omega) hgQ hgP hkQ hkP hbE
    ·go_simp
     obtain ⟨v21, hv21, hsv21, kQ⟩ := alv v18 #[I 0, I 0] 23
     have yPQ := kP.lt
     replace kP := kP.grow hsv21
     have gQ := wBv18.size
     replace hsl := hsl.mono hsv21
     have wBv21 := bup wBv18 hsv21
     have yQ := hsv21.size
     rw [← hv21]
     clear hv21
     refine hK_.out _ _ (HSw.out _ wBv21) (fun hHeld => ?_)
     clear hK_ K_
     (try go_frame)
     refine zg_ready (i := 2) (by decide) rfl (by kernel_rfl) (fun K_ hK_ => ?_)
     go_simp
     refine (x_gapC v53 v21 hsl).mono ?_
     rintro e v22 ⟨rfl, hsv22⟩
     replace kP := kP.grow hsv22
     replace kQ := kQ.grow hsv22
     replace hsl := hsl.mono hsv22
     have wBv22 := bup wBv21 hsv22
     have yv22 := hsv22.size
     refine hK_.out _ _ (HSw.out _ wBv22) (fun hHeld => ?_)
     clear hK_ K_
     (try go_frame)
     (refine zg_tk 3 ?_; refine zg_tk 4 ?_; refine zg_tk 5 ?_; refine zg_tk 6 ?_; (try go_frame))
     obtain ⟨zzP, qP0, qP1, fP0, fP1⟩ := blk_box kP
     obtain ⟨zzQ, qQ0, qQ1, fQ0, fQ1⟩ := blk_box kQ
     have hgP : nq ≤ w7.heap.size := by have := hnq.out; omega
     have hgQ : nq ≤ v18.heap.size := by have := hnq.out; omega
     (refine zg_rd 9 fun K_ hK_ => ?_; go_simp; skip; refine hK_.out _ _ ?_ (fun hHeld => ?_); rotate_left; clear hK_ K_; (try go_frame); rotate_left)
     ·exact HSw.out _ (gap_below2 (wBv22) (Nat.le_trans (Nat.le_of_eq hnq.out) hgP))
     (refine zg_rd 10 fun K_ hK_ => ?_; go_simp; skip; refine hK_.out _ _ ?_ (fun hHeld => ?_); rotate_left; clear hK_ K_; (try go_frame); rotate_left)
     ·exact HSw.out _ (gap_below2 (gap_below2 (wBv22) (Nat.le_trans (Nat.le_of_eq hnq.out) hgP)) (Nat.le_trans (Nat.le_of_eq hnq.out) hgQ))
     (refine zg_ls 11 fun K_ hK_ => ?_; go_simp; skip; refine hK_.out _ _ ?_; clear hK_ K_; (try go_frame))
     obtain ⟨hbE, hkP, hkQ⟩ := end2 hnq wBv22 kP kQ hgP hgQ (by omega)
     exact key.out _ v53 _ _ (by omega) hgQ hgP hkQ hkP hbE
   ·go_simp
    obtain ⟨v23, hv23, hsv23, kQ⟩ := alv v17 #[I 0, I 0] 23
    have yPQ := kP.lt
    replace kP := kP.grow hsv23
    have gQ := wBv17.size
    have wBv23 := bup wBv17 hsv23
    have yQ := hsv23.size
    rw [← hv23]
    clear hv23
    refine hK_.out _ _ (HSw.out _ wBv23) (fun hHeld => ?_)
    clear hK_ K_
    (try go_frame)
    refine zg_ready (i := 1) (by decide) rfl (by kernel_rfl) (fun K_ hK_ => ?_)
    go_simp
    refine (law_record v23).mono ?_
    rintro e v24 ⟨v53, rfl, hsl, hsv24⟩
    replace kP := kP.grow hsv24
    replace kQ := kQ.grow hsv24
    have wBv24 := bup wBv23 hsv24
    have yv24 := hsv24.size
    refine hK_.out _ _ (HSw.out _ wBv24) (fun hHeld => ?_)
    clear hK_ K_
    (try go_frame)
    refine zg_ready (i := 2) (by decide) rfl (by kernel_rfl) (fun K_ hK_ => ?_)
    go_simp
    refine (x_gapC v53 v24 hsl).mono ?_
    rintro e v25 ⟨rfl, hsv25⟩
    replace kP := kP.grow hsv25
    replace kQ := kQ.grow hsv25
    replace hsl := hsl.mono hsv25
    have wBv25 := bup wBv24 hsv25
    have yv25 := hsv25.size
    refine hK_.out _ _ (HSw.out _ wBv25) (fun hHeld => ?_)
    clear hK_ K_
    (try go_frame)
    (refine zg_tk 3 ?_; refine zg_tk 4 ?_; refine zg_tk 5 ?_; refine zg_tk 6 ?_; (try go_frame))
    obtain ⟨zzP, qP0, qP1, fP0, fP1⟩ := blk_box kP
    obtain ⟨zzQ, qQ0, qQ1, fQ0, fQ1⟩ := blk_box kQ
    have hgP : nq ≤ w7.heap.size := by have := hnq.out; omega
    have hgQ : nq ≤ v17.heap.size := by have := hnq.out; omega
    (refine zg_rd 9 fun K_ hK_ => ?_; go_simp; skip; refine hK_.out _ _ ?_ (fun hHeld => ?_); rotate_left; clear hK_ K_; (try go_frame); rotate_left)
    ·exact HSw.out _ (gap_below2 (wBv25) (Nat.le_trans (Nat.le_of_eq hnq.out) hgP))
    (refine zg_rd 10 fun K_ hK_ => ?_; go_simp; skip; refine hK_.out _ _ ?_ (fun hHeld => ?_); rotate_left; clear hK_ K_; (try go_frame); rotate_left)
    ·exact HSw.out _ (gap_below2 (gap_below2 (wBv25) (Nat.le_trans (Nat.le_of_eq hnq.out) hgP)) (Nat.le_trans (Nat.le_of_eq hnq.out) hgQ))
    (refine zg_ls 11 fun K_ hK_ => ?_; go_simp; skip; refine hK_.out _ _ ?_; clear hK_ K_; (try go_frame))
    obtain ⟨hbE, hkP, hkQ⟩ := end2 hnq wBv25 kP kQ hgP hgQ (by omega)
    exact key.out _ v53 _ _ (by omega) hgQ hgP hkQ hkP hbE
  ·go_simp
   obtain ⟨v26, hv26, hsv26, kQ⟩ := alvd w7 #[I 0, I 0] 23
   have gQ := wB.size
   have wBv26 := bup wB hsv26
   have yQ := hsv26.size
   rw [← hv26]
   clear hv26
   refine hK_.out _ _ (HSw.out _ wBv26) (fun hHeld => ?_)
   clear hK_ K_
   (try go_frame)
   refine zg_two (i := 1) (j := 7) (by decide) (by decide) rfl rfl (by kernel_rfl) (fun K_ hK_ => ?_) (fun K_ hK_ => ?_)
   ·go_simp
    refine (law_record v26).mono ?_
    rintro e v27 ⟨v53, rfl, hsl, hsv27⟩
    replace kQ := kQ.grow hsv27
    have wBv27 := bup wBv26 hsv27
    have yv27 := hsv27.size
    refine hK_.out _ _ (HSw.out _ wBv27) (fun hHeld => ?_)
    clear hK_ K_
    (try go_frame)
    refine zg_two (i := 2) (j := 7) (by decide) (by decide) rfl rfl (by kernel_rfl) (fun K_ hK_ => ?_) (fun K_ hK_ => ?_)
    ·go_simp
     refine (x_gapC v53 v27 hsl).mono ?_
     rintro e v28 ⟨rfl, hsv28⟩
     replace kQ := kQ.grow hsv28
     replace hsl := hsl.mono hsv28
     have wBv28 := bup wBv27 hsv28
     have yv28 := hsv28.size
     refine hK_.out _ _ (HSw.out _ wBv28) (fun hHeld => ?_)
     clear hK_ K_
     (try go_frame)
     (refine zg_tk 3 ?_; refine zg_tk 4 ?_; refine zg_tk 5 ?_; refine zg_tk 6 ?_; (try go_frame))
     refine zg_ready (i := 7) (by decide) rfl (by kernel_rfl) (fun K_ hK_ => ?_)
     go_simp
     obtain ⟨v29, hv29, hsv29, kP⟩ := alv v28 #[I 0, I 0] 23
     have yQP := kQ.lt
     replace kQ := kQ.grow hsv29
     have gP := wBv28.size
     replace hsl := hsl.mono hsv29
     have wBv29 := bup wBv28 hsv29
     have yP := hsv29.size
     rw [← hv29]
     clear hv29
     refine hK_.out _ _ (HSw.out _ wBv29) (fun hHeld => ?_)
     clear hK_ K_
     (try go_frame)
     obtain ⟨zzP, qP0, qP1, fP0, fP1⟩ := blk_box kP
     obtain ⟨zzQ, qQ0, qQ1, fQ0, fQ1⟩ := blk_box kQ
     have hgP : nq ≤ v28.heap.size := by have := hnq.out; omega
     have hgQ : nq ≤ w7.heap.size := by have := hnq.out; omega
     (refine zg_rd 9 fun K_ hK_ => ?_; go_simp; skip; refine hK_.out _ _ ?_ (fun hHeld => ?_); rotate_left; clear hK_ K_; (try go_frame); rotate_left)
     ·exact HSw.out _ (gap_below2 (wBv29) (Nat.le_trans (Nat.le_of_eq hnq.out) hgP))
     (refine zg_rd 10 fun K_ hK_ => ?_; go_simp; skip; refine hK_.out _ _ ?_ (fun hHeld => ?_); rotate_left; clear hK_ K_; (try go_frame); rotate_left)
     ·exact HSw.out _ (gap_below2 (gap_below2 (wBv29) (Nat.le_trans (Nat.le_of_eq hnq.out) hgP)) (Nat.le_trans (Nat.le_of_eq hnq.out) hgQ))
     (refine zg_ls 11 fun K_ hK_ => ?_; go_simp; skip; refine hK_.out _ _ ?_; clear hK_ K_; (try go_frame))
     obtain ⟨hbE, hkP, hkQ⟩ := end2 hnq wBv29 kP kQ hgP hgQ (by omega)
     exact key.out _ v53 _ _ (by omega) hgQ hgP hkQ hkP hbE
    ·go_simp
     obtain ⟨v30, hv30, hsv30, kP⟩ := alv v27 #[I 0, I 0] 23
     have yQP := kQ.lt
     replace kQ := kQ.grow hsv30
     have gP := wBv27.size
     replace hsl := hsl.mono hsv30
     have wBv30 := bup wBv27 hsv30
     have yP := hsv30.size
     rw [← hv30]
     clear hv30
     refine hK_.out _ _ (HSw.out _ wBv30) (fun hHeld => ?_)
     clear hK_ K_
     (try go_frame)
     refine zg_ready (i := 2) (by decide) rfl (by kernel_rfl) (fun K_ hK_ => ?_)
     go_simp
     refine (x_gapC v53 v30 hsl).mono ?_
     rintro e v31 ⟨rfl, hsv31⟩
     replace kQ := kQ.grow hsv31
     replace kP := kP.grow hsv31
     replace hsl := hsl.mono hsv31
     have wBv31 := bup wBv30 hsv31
     have yv31 := hsv31.size
     refine hK_.out _ _ (HSw.out _ wBv31) (fun hHeld => ?_)
     clear hK_ K_
     (try go_frame)
     (refine zg_tk 3 ?_; refine zg_tk 4 ?_; refine zg_tk 5 ?_; refine zg_tk 6 ?_; (try go_frame))
     obtain ⟨zzP, qP0, qP1, fP0, fP1⟩ := blk_box kP
     obtain ⟨zzQ, qQ0, qQ1, fQ0, fQ1⟩ := blk_box kQ
     have hgP : nq ≤ v27.heap.size := by have := hnq.out; omega
     have hgQ : nq ≤ w7.heap.size := by have := hnq.out; omega
     (refine zg_rd 9 fun K_ hK_ => ?_; go_simp; skip; refine hK_.out _ _ ?_ (fun hHeld => ?_); rotate_left; clear hK_ K_; (try go_frame); rotate_left)
     ·exact HSw.out _ (gap_below2 (wBv31) (Nat.le_trans (Nat.le_of_eq hnq.out) hgP))
     (refine zg_rd 10 fun K_ hK_ => ?_; go_simp; skip; refine hK_.out _ _ ?_ (fun hHeld => ?_); rotate_left; clear hK_ K_; (try go_frame); rotate_left)
     ·exact HSw.out _ (gap_below2 (gap_below2 (wBv31) (Nat.le_trans (Nat.le_of_eq hnq.out) hgP)) (Nat.le_trans (Nat.le_of_eq hnq.out) hgQ))
     (refine zg_ls 11 fun K_ hK_ => ?_; go_simp; skip; refine hK_.out _ _ ?_; clear hK_ K_; (try go_frame))
     obtain ⟨hbE, hkP, hkQ⟩ := end2 hnq wBv31 kP kQ hgP hgQ (by omega)
     exact key.out _ v53 _ _ (by omega) hgQ hgP hkQ hkP hbE
   ·go_simp
    obtain ⟨v32, hv32, hsv32, kP⟩ := alv v26 #[I 0, I 0] 23
    have yQP := kQ.lt
    replace kQ := kQ.grow hsv32
    have gP := wBv26.size
    have wBv32 := bup wBv26 hsv32
    have yP := hsv32.size
    rw [← hv32]
    clear hv32
    refine hK_.out _ _ (HSw.out _ wBv32) (fun hHeld => ?_)
    clear hK_ K_
    (try go_frame)
    refine zg_ready (i := 1) (by decide) rfl (by kernel_rfl) (fun K_ hK_ => ?_)
    go_simp
    refine (law_record v32).mono ?_
    rintro e v33 ⟨v53, rfl, hsl, hsv33⟩
    replace kQ := kQ.grow hsv33
    replace kP := kP.grow hsv33
    have wBv33 := bup wBv32 hsv33
    have yv33 := hsv33.size
    refine hK_.out _ _ (HSw.out _ wBv33) (fun hHeld => ?_)
    clear hK_ K_
    (try go_frame)
    refine zg_ready (i := 2) (by decide) rfl (by kernel_rfl) (fun K_ hK_ => ?_)
    go_simp
    refine (x_gapC v53 v33 hsl).mono ?_
    rintro e v34 ⟨rfl, hsv34⟩
    replace kQ := kQ.grow hsv34
    replace kP := kP.grow hsv34
    replace hsl := hsl.mono hsv34
    have wBv34 := bup wBv33 hsv34
    have yv34 := hsv34.size
    refine hK_.out _ _ (HSw.out _ wBv34) (fun hHeld => ?_)
    clear hK_ K_
    (try go_frame)
    (refine zg_tk 3 ?_; refine zg_tk 4 ?_; refine zg_tk 5 ?_; refine zg_tk 6 ?_; (try go_frame))
    obtain ⟨zzP, qP0, qP1, fP0, fP1⟩ := blk_box kP
    obtain ⟨zzQ, qQ0, qQ1, fQ0, fQ1⟩ := blk_box kQ
    have hgP : nq ≤ v26.heap.size := by have := hnq.out; omega
    have hgQ : nq ≤ w7.heap.size := by have := hnq.out; omega
    (refine zg_rd 9 fun K_ hK_ => ?_; go_simp; skip; refine hK_.out _ _ ?_ (fun hHeld => ?_); rotate_left; clear hK_ K_; (try go_frame); rotate_left)
    ·exact HSw.out _ (gap_below2 (wBv34) (Nat.le_trans (Nat.le_of_eq hnq.out) hgP))
    (refine zg_rd 10 fun K_ hK_ => ?_; go_simp; skip; refine hK_.out _ _ ?_ (fun hHeld => ?_); rotate_left; clear hK_ K_; (try go_frame); rotate_left)
    ·exact HSw.out _ (gap_below2 (gap_below2 (wBv34) (Nat.le_trans (Nat.le_of_eq hnq.out) hgP)) (Nat.le_trans (Nat.le_of_eq hnq.out) hgQ))
    (refine zg_ls 11 fun K_ hK_ => ?_; go_simp; skip; refine hK_.out _ _ ?_; clear hK_ K_; (try go_frame))
    obtain ⟨hbE, hkP, hkQ⟩ := end2 hnq wBv34 kP kQ hgP hgQ (by omega)
    exact key.out _ v53 _ _ (by omega) hgQ hgP hkQ hkP hbE
 case g =>
  intro w8 v53 bQ bP hne hgQ hgP hkQ hkP hbE
  replace hbE : Below w7.heap.size w7 w8 := by rw [hnq.out]; exact hbE
  replace kC := hide (kC.out.grow hbE)
  replace kW := hide (kW.out.grow hbE)
  have B8 := bup B7 hbE
  clear hbE B7 hnq HSw hHeld wB
  have kP := hide hkP
  clear hkP
  have kQ := hide hkQ
  clear hkQ
  obtain ⟨rP0, rP1⟩ := kP.out.cells2
  have zP : bP < w8.heap.size := kP.out.lt
  obtain ⟨rQ0, rQ1⟩ := kQ.out.cells2
  have zQ : bQ < w8.heap.size := kQ.out.lt
  obtain ⟨rC0, rC1, rC2, rC3, rC4, rC5, rC6, rC7⟩ := kC.out.cells8
  have zC : bC < w8.heap.size := kC.out.lt
  go_wp2_with fail
  clear rP0 rP1 zP rQ0 rQ1 zQ rC0 rC1 rC2 rC3 rC4 rC5 rC6 rC7 zC
  have HSw : ∀ W : World, Below w8.heap.size w8 W → (fun W : World => W.cell? ⟨bC, 0, none⟩ = some (I 1000) ∧ W.cell? ⟨bC, 1, none⟩ = some (I 6) ∧ W.cell? ⟨bC, 2, none⟩ = some (I 50) ∧ W.cell? ⟨bC, 3, none⟩ = some (I 40) ∧ W.cell? ⟨bC, 4, none⟩ = some (I (-200)) ∧ W.cell? ⟨bC, 5, none⟩ = some (I 250) ∧ W.cell? ⟨bC, 6, none⟩ = some (I 400) ∧ W.cell? ⟨bC, 7, none⟩ = some (I 410)) W := fun W h => by
   have h2 := kC.out.grow h
   exact ⟨h2.cell 0, h2.cell 1, h2.cell 2, h2.cell 3, h2.cell 4, h2.cell 5, h2.cell 6, h2.cell 7⟩
  replace HSw := hide HSw
  refine wp_zgo HSw 8 fun hHeld => ?_
  have wB : Below w8.heap.size w8 w8.drew := (Below.refl _ _).drew
  (refine zg_tk 0 ?_; (try go_frame))
  obtain ⟨nq, hnq⟩ : ∃ n, w8.heap.size = n := ⟨_, rfl⟩
  replace hnq := hide hnq
  apply via
  case f =>
   intro key
   refine zg_two (i := 1) (j := 6) (by decide) (by decide) rfl rfl (by kernel_rfl) (fun K_ hK_ => ?_) (fun K_ hK_ => ?_)
   ·go_simp
    refine (law_record w8.drew).mono ?_
    rintro e v1 ⟨v108, rfl, hsl, hsv1⟩
    have wBv1 := bup wB hsv1
    have yv1 := hsv1.size
    refine hK_.out _ _ (HSw.out _ wBv1) (fun hHeld => ?_)
    clear hK_ K_
    (try go_frame)
    refine zg_two (i := 2) (j := 6) (by decide) (by decide) rfl rfl (by kernel_rfl) (fun K_ hK_ => ?_) (fun K_ hK_ => ?_)
    ·go_simp
     refine (x_changeC v108 v1 hsl).mono ?_
     rintro e v2 ⟨rfl, hsv2⟩
     replace hsl := hsl.mono hsv2
     have wBv2 := bup wBv1 hsv2
     have yv2 := hsv2.size
     refine hK_.out _ _ (HSw.out _ wBv2) (fun hHeld => ?_)
     clear hK_ K_
     (try go_frame)
     (refine zg_tk 3 ?_; refine zg_tk 4 ?_; refine zg_tk 5 ?_; (try go_frame))
     refine zg_ready (i := 6) (by decide) rfl (by kernel_rfl) (fun K_ hK_ => ?_)
     go_simp
     obtain ⟨v3, hv3, hsv3, kR⟩ := alv v2 #[I 0, I 0] 23
     have gR := wBv2.size
     replace hsl := hsl.mono hsv3
     have wBv3 := bup wBv2 hsv3
     have yR := hsv3.size
     rw [← hv3]
     clear hv3
     refine hK_.out _ _ (HSw.out _ wBv3) (fun hHeld => ?_)
     clear hK_ K_
     (try go_frame)
     obtain ⟨zzR, qR0, qR1, fR0, fR1⟩ := blk_box kR
     have hgR : nq ≤ v2.heap.size := by have := hnq.out; omega
     (refine zg_rd 7 fun K_ hK_ => ?_; go_simp; skip; refine hK_.out _ _ ?_ (fun hHeld => ?_); rotate_left; clear hK_ K_; (try go_frame); rotate_left)
     ·exact HSw.out _ (gap_below2 (wBv3) (Nat.le_trans (Nat.le_of_eq hnq.out) hgR))
     (refine zg_ls 8 fun K_ hK_ => ?_; go_simp; skip; refine hK_.out _ _ ?_; clear hK_ K_; (try go_frame))
     obtain ⟨hbE, hkR⟩ := end1 hnq wBv3 kR hgR
     generalize ((v3.setCell ⟨v2.heap.size, 0, none⟩ (I (-15))).setCell ⟨v2.heap.size, 1, none⟩ (I 45)) = Wz at hbE hkR ⊢
     generalize (v2.heap.size : Nat) = bR at hkR hgR  ⊢
     revert hbE
     revert hkR
     revert hgR
     clear hsl
     revert bR
     revert v108
     revert Wz
     exact key.out
    ·go_simp
     obtain ⟨v4, hv4, hsv4, kR⟩ := alv v1 #[I 0, I 0] 23
     have gR := wBv1.size
     replace hsl := hsl.mono hsv4
     have wBv4 := bup wBv1 hsv4
     have yR := hsv4.size
     rw [← hv4]
     clear hv4
     refine hK_.out _ _ (HSw.out _ wBv4) (fun hHeld => ?_)
     clear hK_ K_
     (try go_frame)
     refine zg_ready (i := 2) (by decide) rfl (by kernel_rfl) (fun K_ hK_ => ?_)
     go_simp
     refine (x_changeC v108 v4 hsl).mono ?_
     rintro e v5 ⟨rfl, hsv5⟩
     replace kR := kR.grow hsv5
     replace hsl := hsl.mono hsv5
     have wBv5 := bup wBv4 hsv5
     have yv5 := hsv5.size
     refine hK_.out _ _ (HSw.out _ wBv5) (fun hHeld => ?_)
     clear hK_ K_
     (try go_frame)
     (refine zg_tk 3 ?_; refine zg_tk 4 ?_; refine zg_tk 5 ?_; (try go_frame))
     obtain ⟨zzR, qR0, qR1, fR0, fR1⟩ := blk_box kR
     have hgR : nq ≤ v1.heap.size := by have := hnq.out; omega
     (refine zg_rd 7 fun K_ hK_ => ?_; go_simp; skip; refine hK_.out _ _ ?_ (fun hHeld => ?_); rotate_left; clear hK_ K_; (try go_frame); rotate_left)
     ·exact HSw.out _ (gap_below2 (wBv5) (Nat.le_trans (Nat.le_of_eq hnq.out) hgR))
     (refine zg_ls 8 fun K_ hK_ => ?_; go_simp; skip; refine hK_.out _ _ ?_; clear hK_ K_; (try go_frame))
     obtain ⟨hbE, hkR⟩ := end1 hnq wBv5 kR hgR
     exact key.out _ v108 _ hgR hkR hbE
   ·go_simp
    obtain ⟨v6, hv6, hsv6, kR⟩ := alvd w8 #[I 0, I 0] 23
    have gR := wB.size
    have wBv6 := bup wB hsv6
    have yR := hsv6.size
    rw [← hv6]
    clear hv6
    refine hK_.out _ _ (HSw.out _ wBv6) (fun hHeld => ?_)
    clear hK_ K_
    (try go_frame)
    refine zg_ready (i := 1) (by decide) rfl (by kernel_rfl) (fun K_ hK_ => ?_)
    go_simp
    refine (law_record v6).mono ?_
    rintro e v7 ⟨v108, rfl, hsl, hsv7⟩
    replace kR := kR.grow hsv7
    have wBv7 := bup wBv6 hsv7
    have yv7 := hsv7.size
    refine hK_.out _ _ (HSw.out _ wBv7) (fun hHeld => ?_)
    clear hK_ K_
    (try go_frame)
    refine zg_ready (i := 2) (by decide) rfl (by kernel_rfl) (fun K_ hK_ => ?_)
    go_simp
    refine (x_changeC v108 v7 hsl).mono ?_
    rintro e v8 ⟨rfl, hsv8⟩
    replace kR := kR.grow hsv8
    replace hsl := hsl.mono hsv8
    have wBv8 := bup wBv7 hsv8
    have yv8 := hsv8.size
    refine hK_.out _ _ (HSw.out _ wBv8) (fun hHeld => ?_)
    clear hK_ K_
    (try go_frame)
    (refine zg_tk 3 ?_; refine zg_tk 4 ?_; refine zg_tk 5 ?_; (try go_frame))
    obtain ⟨zzR, qR0, qR1, fR0, fR1⟩ := blk_box kR
    have hgR : nq ≤ w8.heap.size := by have := hnq.out; omega
    (refine zg_rd 7 fun K_ hK_ => ?_; go_simp; skip; refine hK_.out _ _ ?_ (fun hHeld => ?_); rotate_left; clear hK_ K_; (try go_frame); rotate_left)
    ·exact HSw.out _ (gap_below2 (wBv8) (Nat.le_trans (Nat.le_of_eq hnq.out) hgR))
    (refine zg_ls 8 fun K_ hK_ => ?_; go_simp; skip; refine hK_.out _ _ ?_; clear hK_ K_; (try go_frame))
    obtain ⟨hbE, hkR⟩ := end1 hnq wBv8 kR hgR
    exact key.out _ v108 _ hgR hkR hbE
  case g =>
   intro w9 v108 bR hgR hkR hbE
   replace hbE : Below w8.heap.size w8 w9 := by rw [hnq.out]; exact hbE
   replace kC := hide (kC.out.grow hbE)
   replace kW := hide (kW.out.grow hbE)
   replace kP := hide (kP.out.grow hbE)
   replace kQ := hide (kQ.out.grow hbE)
   have B9 := bup B8 hbE
   clear hbE B8 hnq HSw hHeld wB
   have kR := hide hkR
   clear hkR
   obtain ⟨rW0, rW1, rW2⟩ := kW.out.cells3
   have zW : bW < w9.heap.size := kW.out.lt
   have zW_1 : bW < w9.heap.size + 1 := by omega
   have zW_2 : bW < w9.heap.size + 1 + 1 := by omega
   obtain ⟨rC0, rC1, rC2, rC3, rC4, rC5, rC6, rC7⟩ := kC.out.cells8
   have zC : bC < w9.heap.size := kC.out.lt
   have zC_1 : bC < w9.heap.size + 1 := by omega
   have zC_2 : bC < w9.heap.size + 1 + 1 := by omega
   go_wp2_with fail
   clear rW0 rW1 rW2 zW zW_1 zW_2 rC0 rC1 rC2 rC3 rC4 rC5 rC6 rC7 zC zC_1 zC_2
   obtain ⟨w10, hw10, hb, kD, kG⟩ := al2 w9 #[I 13, I 50, I 10] 28 #[I 3, .slice (some ⟨w9.heap.size, 0, none⟩) 1 1] 58
   replace kC := hide (kC.out.grow hb)
   replace kW := hide (kW.out.grow hb)
   replace kP := hide (kP.out.grow hb)
   replace kQ := hide (kQ.out.grow hb)
   replace kR := hide (kR.out.grow hb)
   have B10 := bup B9 hb
   rw [← hw10]
   clear hw10 hb B9
   obtain ⟨bG, hbG⟩ : ∃ b, w9.heap.size + 1 = b := ⟨_, rfl⟩
   rw [hbG] at kG ⊢
   obtain ⟨bD, hbD⟩ : ∃ b, w9.heap.size = b := ⟨_, rfl⟩
   rw [hbD] at kD ⊢
   rw [hbD] at kG
   replace kD := hide kD
   replace kG := hide kG
   clear hbD
   clear hbG
   go_at_call 23
   refine (x_relC (.slice (some ⟨bD, 0, none⟩) 1 1) w10 (one_sl kD.out rfl)).mono ?_
   rintro e w11 ⟨rfl, hb⟩
   replace kC := hide (kC.out.grow hb)
   replace kW := hide (kW.out.grow hb)
   replace kP := hide (kP.out.grow hb)
   replace kQ := hide (kQ.out.grow hb)
   replace kR := hide (kR.out.grow hb)
   replace kD := hide (kD.out.grow hb)
   replace kG := hide (kG.out.grow hb)
   have B11 := bup B10 hb
   clear hb B10
   obtain ⟨rC0, rC1, rC2, rC3, rC4, rC5, rC6, rC7⟩ := kC.out.cells8
   have zC : bC < w11.heap.size := kC.out.lt
   go_wp2_with fail
   clear rC0 rC1 rC2 rC3 rC4 rC5 rC6 rC7 zC
   have HSw : ∀ W : World, Below w11.heap.size w11 W → (fun W : World => W.cell? ⟨bC, 0, none⟩ = some (I 1000) ∧ W.cell? ⟨bC, 1, none⟩ = some (I 6) ∧ W.cell? ⟨bC, 2, none⟩ = some (I 50) ∧ W.cell? ⟨bC, 3, none⟩ = some (I 40) ∧ W.cell? ⟨bC, 4, none⟩ = some (I (-200)) ∧ W.cell? ⟨bC, 5, none⟩ = some (I 250) ∧ W.cell? ⟨bC, 6, none⟩ = some (I 400) ∧ W.cell? ⟨bC, 7, none⟩ = some (I 410)) W := fun W h => by
    have h2 := kC.out.grow h
    exact ⟨h2.cell 0, h2.cell 1, h2.cell 2, h2.cell 3, h2.cell 4, h2.cell 5, h2.cell 6, h2.cell 7⟩
   replace HSw := hide HSw
   refine wp_zgo HSw 10 fun hHeld => ?_
   have wB : Below w11.heap.size w11 w11.drew := (Below.refl _ _).drew
   (refine zg_tk 0 ?_; refine zg_tk 2 ?_; refine zg_tk 3 ?_; (try go_frame))
   obtain ⟨nq, hnq⟩ : ∃ n, w11.heap.size = n := ⟨_, rfl⟩
   replace hnq := hide hnq
   apply via
   case f =>
    intro key
    refine zg_two (i := 1) (j := 4) (by decide) (by decide) rfl rfl (by kernel_rfl) (fun K_ hK_ => ?_) (fun K_ hK_ => ?_)
    ·go_simp
     refine (law_record w11.drew).mono ?_
     rintro e v1 ⟨v124, rfl, hsl, hsv1⟩
     have wBv1 := bup wB hsv1
     have yv1 := hsv1.size
     refine hK_.out _ _ (HSw.out _ wBv1) (fun hHeld => ?_)
     clear hK_ K_
     (try go_frame)
     refine zg_ready (i := 4) (by decide) rfl (by kernel_rfl) (fun K_ hK_ => ?_)
     go_simp
     obtain ⟨v2, hv2, hsv2, kA⟩ := alv v1 #[I 11, I 50, I 0, I 12, I 10, I 0] 28
     have gA := wBv1.size
     replace hsl := hsl.mono hsv2
     have wBv2 := bup wBv1 hsv2
     have yA := hsv2.size
     rw [← hv2]
     clear hv2
     refine hK_.out _ _ (HSw.out _ wBv2) (fun hHeld => ?_)
     clear hK_ K_
     (try go_frame)
     refine zg_ready (i := 5) (by decide) rfl (by kernel_rfl) (fun K_ hK_ => ?_)
     go_simp
     refine (x_allowC v124 _ v2 hsl (wea2_sl (a := ⟨11, 50, 0⟩) (b := ⟨12, 10, 0⟩) kA)).mono ?_
     rintro e v3 ⟨rfl, hsv3⟩
     replace kA := kA.grow hsv3
     replace hsl := hsl.mono hsv3
     have wBv3 := bup wBv2 hsv3
     have yv3 := hsv3.size
     refine hK_.out _ _ (HSw.out _ wBv3) (fun hHeld => ?_)
     clear hK_ K_
     (try go_frame)
     (refine zg_tk 6 ?_; refine zg_tk 7 ?_; refine zg_tk 8 ?_; refine zg_tk 9 ?_; (try go_frame))
     (refine zg_ls 10 fun K_ hK_ => ?_; go_simp; skip; refine hK_.out _ _ ?_; clear hK_ K_; (try go_frame))
     have hbE := (by rw [← hnq.out]; exact wBv3 : Below nq w11 v3)
     generalize v3 = Wz at hbE ⊢
     revert hbE
     clear hsl
     revert v124
     generalize (Value.slice (some ⟨v1.heap.size, 0, none⟩) 2 2) = v127
     revert v127
     revert Wz
     exact key.out
    ·go_simp
     obtain ⟨v4, hv4, hsv4, kA⟩ := alvd w11 #[I 11, I 50, I 0, I 12, I 10, I 0] 28
     have gA := wB.size
     have wBv4 := bup wB hsv4
     have yA := hsv4.size
     rw [← hv4]
     clear hv4
     refine hK_.out _ _ (HSw.out _ wBv4) (fun hHeld => ?_)
     clear hK_ K_
     (try go_frame)
     refine zg_ready (i := 1) (by decide) rfl (by kernel_rfl) (fun K_ hK_ => ?_)
     go_simp
     refine (law_record v4).mono ?_
     rintro e v5 ⟨v124, rfl, hsl, hsv5⟩
     replace kA := kA.grow hsv5
     have wBv5 := bup wBv4 hsv5
     have yv5 := hsv5.size
     refine hK_.out _ _ (HSw.out _ wBv5) (fun hHeld => ?_)
     clear hK_ K_
     (try go_frame)
     refine zg_ready (i := 5) (by decide) rfl (by kernel_rfl) (fun K_ hK_ => ?_)
     go_simp
     refine (x_allowC v124 _ v5 hsl (wea2_sl (a := ⟨11, 50, 0⟩) (b := ⟨12, 10, 0⟩) kA)).mono ?_
     rintro e v6 ⟨rfl, hsv6⟩
     replace kA := kA.grow hsv6
     replace hsl := hsl.mono hsv6
     have wBv6 := bup wBv5 hsv6
     have yv6 := hsv6.size
     refine hK_.out _ _ (HSw.out _ wBv6) (fun hHeld => ?_)
     clear hK_ K_
     (try go_frame)
     (refine zg_tk 6 ?_; refine zg_tk 7 ?_; refine zg_tk 8 ?_; refine zg_tk 9 ?_; (try go_frame))
     (refine zg_ls 10 fun K_ hK_ => ?_; go_simp; skip; refine hK_.out _ _ ?_; clear hK_ K_; (try go_frame))
     have hbE := (by rw [← hnq.out]; exact wBv6 : Below nq w11 v6)
     exact key.out _ _ v124 hbE
   case g =>
    intro w12 v127 v124  hbE
    replace hbE : Below w11.heap.size w11 w12 := by rw [hnq.out]; exact hbE
    replace kC := hide (kC.out.grow hbE)
    replace kW := hide (kW.out.grow hbE)
    replace kP := hide (kP.out.grow hbE)
    replace kQ := hide (kQ.out.grow hbE)
    replace kR := hide (kR.out.grow hbE)
    replace kD := hide (kD.out.grow hbE)
    replace kG := hide (kG.out.grow hbE)
    have B12 := bup B11 hbE
    clear hbE B11 hnq HSw hHeld wB
    go_wp2_with fail
    have HSw : ∀ W : World, Below w12.heap.size w12 W → (fun W : World => W.cell? ⟨bC, 0, none⟩ = some (I 1000) ∧ W.cell? ⟨bC, 1, none⟩ = some (I 6) ∧ W.cell? ⟨bC, 2, none⟩ = some (I 50) ∧ W.cell? ⟨bC, 3, none⟩ = some (I 40) ∧ W.cell? ⟨bC, 4, none⟩ = some (I (-200)) ∧ W.cell? ⟨bC, 5, none⟩ = some (I 250) ∧ W.cell? ⟨bC, 6, none⟩ = some (I 400) ∧ W.cell? ⟨bC, 7, none⟩ = some (I 410)) W := fun W h => by
     have h2 := kC.out.grow h
     exact ⟨h2.cell 0, h2.cell 1, h2.cell 2, h2.cell 3, h2.cell 4, h2.cell 5, h2.cell 6, h2.cell 7⟩
    replace HSw := hide HSw
    refine wp_zgo HSw 7 fun hHeld => ?_
    have wB : Below w12.heap.size w12 w12.drew := (Below.refl _ _).drew
    (refine zg_tk 0 ?_; (try go_frame))
    (refine zg_rd 1 fun K_ hK_ => ?_; go_simp; (refine (law_record w12.drew).mono ?_; rintro e v1 ⟨v133, rfl, hsl, hs1⟩); refine hK_.out _ _ ?_ (fun hHeld => ?_); rotate_left; clear hK_ K_; (try go_frame); rotate_left)
    ·exact HSw.out _ (bup wB hs1)
    have wB2 := bup wB hs1
    (refine zg_rd 2 fun K_ hK_ => ?_; go_simp; (refine (x_fillC v133 v1 hsl).mono ?_; rintro e v2 ⟨g20, c20, rfl, zg20, e3, e4, e5, hs2⟩); refine hK_.out _ _ ?_ (fun hHeld => ?_); rotate_left; clear hK_ K_; (try go_frame); rotate_left)
    ·exact HSw.out _ (bup wB2 hs2)
    have hbE := bup wB2 hs2
    (refine zg_tk 3 ?_; refine zg_tk 4 ?_; refine zg_tk 5 ?_; refine zg_tk 6 ?_; (try go_frame))
    (refine zg_ls 7 fun K_ hK_ => ?_; go_simp; skip; refine hK_.out _ _ ?_; clear hK_ K_; (try go_frame))
    replace kC := hide (kC.out.grow hbE)
    replace kW := hide (kW.out.grow hbE)
    replace kP := hide (kP.out.grow hbE)
    replace kQ := hide (kQ.out.grow hbE)
    replace kR := hide (kR.out.grow hbE)
    replace kD := hide (kD.out.grow hbE)
    replace kG := hide (kG.out.grow hbE)
    have B13 := bup B12 hbE
    clear hbE B12 HSw hHeld wB wB2 hs1 hs2 hsl
    go_wp2_with fail
    go_at_call 26
    refine (x_printC v2 (hp.out.mono B13)).mono ?_
    rintro e w13 ⟨rfl, hb⟩
    replace kC := hide (kC.out.grow hb)
    replace kW := hide (kW.out.grow hb)
    replace kP := hide (kP.out.grow hb)
    replace kQ := hide (kQ.out.grow hb)
    replace kR := hide (kR.out.grow hb)
    replace kD := hide (kD.out.grow hb)
    replace kG := hide (kG.out.grow hb)
    have B14 := bup B13 hb
    replace e3 := (hb.cell (p := ⟨g20, 3, none⟩) zg20).trans e3
    replace e4 := (hb.cell (p := ⟨g20, 4, none⟩) zg20).trans e4
    replace e5 := (hb.cell (p := ⟨g20, 5, none⟩) zg20).trans e5
    replace zg20 := Nat.lt_of_lt_of_le zg20 hb.size
    clear hb B13
    have zg20_1 : g20 < w13.heap.size + 1 := by omega
    have zg20_2 : g20 < w13.heap.size + 1 + 1 := by omega
    have zg20_3 : g20 < w13.heap.size + 1 + 1 + 1 := by omega
    have zg20_4 : g20 < w13.heap.size + 1 + 1 + 1 + 1 := by omega
    have zg20_5 : g20 < w13.heap.size + 1 + 1 + 1 + 1 + 1 := by omega
    obtain ⟨rR0, rR1⟩ := kR.out.cells2
    have zR : bR < w13.heap.size := kR.out.lt
    have zR_1 : bR < w13.heap.size + 1 := by omega
    have zR_2 : bR < w13.heap.size + 1 + 1 := by omega
    have zR_3 : bR < w13.heap.size + 1 + 1 + 1 := by omega
    have zR_4 : bR < w13.heap.size + 1 + 1 + 1 + 1 := by omega
    have zR_5 : bR < w13.heap.size + 1 + 1 + 1 + 1 + 1 := by omega
    obtain ⟨rC0, rC1, rC2, rC3, rC4, rC5, rC6, rC7⟩ := kC.out.cells8
    have zC : bC < w13.heap.size := kC.out.lt
    have zC_1 : bC < w13.heap.size + 1 := by omega
    have zC_2 : bC < w13.heap.size + 1 + 1 := by omega
    have zC_3 : bC < w13.heap.size + 1 + 1 + 1 := by omega
    have zC_4 : bC < w13.heap.size + 1 + 1 + 1 + 1 := by omega
    have zC_5 : bC < w13.heap.size + 1 + 1 + 1 + 1 + 1 := by omega
    obtain ⟨rG0, rG1⟩ := kG.out.cells2
    have zG : bG < w13.heap.size := kG.out.lt
    have zG_1 : bG < w13.heap.size + 1 := by omega
    have zG_2 : bG < w13.heap.size + 1 + 1 := by omega
    have zG_3 : bG < w13.heap.size + 1 + 1 + 1 := by omega
    have zG_4 : bG < w13.heap.size + 1 + 1 + 1 + 1 := by omega
    have zG_5 : bG < w13.heap.size + 1 + 1 + 1 + 1 + 1 := by omega
    go_wp2_with fail
    clear rR0 rR1 zR zR_1 zR_2 zR_3 zR_4 zR_5 rC0 rC1 rC2 rC3 rC4 rC5 rC6 rC7 zC zC_1 zC_2 zC_3 zC_4 zC_5 rG0 rG1 zG zG_1 zG_2 zG_3 zG_4 zG_5
    obtain ⟨w14, hw14, hb, kL, kY, kS, kX, kM⟩ := al5 w13 #[I 2, I 1500, I 0, I 3] 67 #[I 13] 3 #[I 0, I 2, I 13, I 5, I 20] 73 #[.slice (some ⟨w13.heap.size, 0, none⟩) 1 1, .slice none 0 0, I 0, I 0, I 100, .slice (some ⟨w13.heap.size + 1, 0, none⟩) 1 1, .slice (some ⟨w13.heap.size + 1 + 1, 0, none⟩) 1 1, .slice none 0 0] 77 #[I 2] 3
    replace kC := hide (kC.out.grow hb)
    replace kW := hide (kW.out.grow hb)
    replace kP := hide (kP.out.grow hb)
    replace kQ := hide (kQ.out.grow hb)
    replace kR := hide (kR.out.grow hb)
    replace kD := hide (kD.out.grow hb)
    replace kG := hide (kG.out.grow hb)
    have B15 := bup B14 hb
    rw [← hw14]
    clear hw14 hb B14
    obtain ⟨bM, hbM⟩ : ∃ b, w13.heap.size + 1 + 1 + 1 + 1 = b := ⟨_, rfl⟩
    rw [hbM] at kM ⊢
    obtain ⟨bX, hbX⟩ : ∃ b, w13.heap.size + 1 + 1 + 1 = b := ⟨_, rfl⟩
    rw [hbX] at kX ⊢
    obtain ⟨bS, hbS⟩ : ∃ b, w13.heap.size + 1 + 1 = b := ⟨_, rfl⟩
    rw [hbS] at kS ⊢
    rw [hbS] at kX
    obtain ⟨bY, hbY⟩ : ∃ b, w13.heap.size + 1 = b := ⟨_, rfl⟩
    rw [hbY] at kY ⊢
    rw [hbY] at kX
    obtain ⟨bL, hbL⟩ : ∃ b, w13.heap.size = b := ⟨_, rfl⟩
    rw [hbL] at kL ⊢
    rw [hbL] at kX
    replace kL := hide kL
    replace kY := hide kY
    replace kS := hide kS
    replace kX := hide kX
    replace kM := hide kM
    clear hbL
    clear hbY
    clear hbS
    clear hbX
    clear hbM
    go_at_call 27
    refine (x_volC (.slice (some ⟨bD, 0, none⟩) 1 1) (.slice (some ⟨bL, 0, none⟩) 1 1) (.slice (some ⟨bY, 0, none⟩) 1 1) (.slice (some ⟨bS, 0, none⟩) 1 1) (.slice (some ⟨bM, 0, none⟩) 1 1) w14 (one_sl kD.out rfl) (one_sl kL.out rfl) (one_sl kY.out rfl) (one_sl kS.out rfl) (one_sl kM.out rfl)).mono ?_
    rintro e w15 ⟨rfl, hb⟩
    replace kC := hide (kC.out.grow hb)
    replace kW := hide (kW.out.grow hb)
    replace kP := hide (kP.out.grow hb)
    replace kQ := hide (kQ.out.grow hb)
    replace kR := hide (kR.out.grow hb)
    replace kD := hide (kD.out.grow hb)
    replace kG := hide (kG.out.grow hb)
    replace kL := hide (kL.out.grow hb)
    replace kY := hide (kY.out.grow hb)
    replace kS := hide (kS.out.grow hb)
    replace kX := hide (kX.out.grow hb)
    replace kM := hide (kM.out.grow hb)
    have B16 := bup B15 hb
    clear hb B15
    obtain ⟨rC0, rC1, rC2, rC3, rC4, rC5, rC6, rC7⟩ := kC.out.cells8
    have zC : bC < w15.heap.size := kC.out.lt
    have zC_1 : bC < w15.heap.size + 1 := by omega
    have zC_2 : bC < w15.heap.size + 1 + 1 := by omega
    obtain ⟨rG0, rG1⟩ := kG.out.cells2
    have zG : bG < w15.heap.size := kG.out.lt
    have zG_1 : bG < w15.heap.size + 1 := by omega
    have zG_2 : bG < w15.heap.size + 1 + 1 := by omega
    obtain ⟨rX0, rX1, rX2, rX3, rX4, rX5, rX6, rX7⟩ := kX.out.cells8
    have zX : bX < w15.heap.size := kX.out.lt
    have zX_1 : bX < w15.heap.size + 1 := by omega
    have zX_2 : bX < w15.heap.size + 1 + 1 := by omega
    go_wp2_with fail
    clear rC0 rC1 rC2 rC3 rC4 rC5 rC6 rC7 zC zC_1 zC_2 rG0 rG1 zG zG_1 zG_2 rX0 rX1 rX2 rX3 rX4 rX5 rX6 rX7 zX zX_1 zX_2
    obtain ⟨w16, hw16, hb, kU, kN⟩ := al2 w15 #[I 45, I 54] 23 #[I 2] 3
    replace kC := hide (kC.out.grow hb)
    replace kW := hide (kW.out.grow hb)
    replace kP := hide (kP.out.grow hb)
    replace kQ := hide (kQ.out.grow hb)
    replace kR := hide (kR.out.grow hb)
    replace kD := hide (kD.out.grow hb)
    replace kG := hide (kG.out.grow hb)
    replace kL := hide (kL.out.grow hb)
    replace kY := hide (kY.out.grow hb)
    replace kS := hide (kS.out.grow hb)
    replace kX := hide (kX.out.grow hb)
    replace kM := hide (kM.out.grow hb)
    have B17 := bup B16 hb
    rw [← hw16]
    clear hw16 hb B16
    obtain ⟨bN, hbN⟩ : ∃ b, w15.heap.size + 1 = b := ⟨_, rfl⟩
    rw [hbN] at kN ⊢
    obtain ⟨bU, hbU⟩ : ∃ b, w15.heap.size = b := ⟨_, rfl⟩
    rw [hbU] at kU ⊢
    replace kU := hide kU
    replace kN := hide kN
    clear hbU
    clear hbN
    go_at_call 28
    refine (x_whenC (.slice (some ⟨bD, 0, none⟩) 1 1) (.slice (some ⟨bL, 0, none⟩) 1 1) (.slice (some ⟨bY, 0, none⟩) 1 1) (.slice (some ⟨bS, 0, none⟩) 1 1) (.slice (some ⟨bN, 0, none⟩) 1 1) w16 (one_sl kD.out rfl) (one_sl kL.out rfl) (one_sl kY.out rfl) (one_sl kS.out rfl) (one_sl kN.out rfl)).mono ?_
    rintro e w17 ⟨rfl, hb⟩
    replace kC := hide (kC.out.grow hb)
    replace kW := hide (kW.out.grow hb)
    replace kP := hide (kP.out.grow hb)
    replace kQ := hide (kQ.out.grow hb)
    replace kR := hide (kR.out.grow hb)
    replace kD := hide (kD.out.grow hb)
    replace kG := hide (kG.out.grow hb)
    replace kL := hide (kL.out.grow hb)
    replace kY := hide (kY.out.grow hb)
    replace kS := hide (kS.out.grow hb)
    replace kX := hide (kX.out.grow hb)
    replace kM := hide (kM.out.grow hb)
    replace kU := hide (kU.out.grow hb)
    replace kN := hide (kN.out.grow hb)
    have B18 := bup B17 hb
    clear hb B17
    obtain ⟨rU0, rU1⟩ := kU.out.cells2
    have zU : bU < w17.heap.size := kU.out.lt
    have zU_1 : bU < w17.heap.size + 1 := by omega
    obtain ⟨rC0, rC1, rC2, rC3, rC4, rC5, rC6, rC7⟩ := kC.out.cells8
    have zC : bC < w17.heap.size := kC.out.lt
    have zC_1 : bC < w17.heap.size + 1 := by omega
    go_wp2_with fail
    clear rU0 rU1 zU zU_1 rC0 rC1 rC2 rC3 rC4 rC5 rC6 rC7 zC zC_1
    obtain ⟨w18, hw18, hb, kV⟩ := al1 w17 #[I 14, I 1048578] 23
    replace kC := hide (kC.out.grow hb)
    replace kW := hide (kW.out.grow hb)
    replace kP := hide (kP.out.grow hb)
    replace kQ := hide (kQ.out.grow hb)
    replace kR := hide (kR.out.grow hb)
    replace kD := hide (kD.out.grow hb)
    replace kG := hide (kG.out.grow hb)
    replace kL := hide (kL.out.grow hb)
    replace kY := hide (kY.out.grow hb)
    replace kS := hide (kS.out.grow hb)
    replace kX := hide (kX.out.grow hb)
    replace kM := hide (kM.out.grow hb)
    replace kU := hide (kU.out.grow hb)
    replace kN := hide (kN.out.grow hb)
    have B19 := bup B18 hb
    rw [← hw18]
    clear hw18 hb B18
    obtain ⟨bV, hbV⟩ : ∃ b, w17.heap.size = b := ⟨_, rfl⟩
    rw [hbV] at kV ⊢
    replace kV := hide kV
    clear hbV
    go_at_call 29
    refine (x_springC w18).mono ?_
    rintro e w19 ⟨rfl, hb⟩
    replace kC := hide (kC.out.grow hb)
    replace kW := hide (kW.out.grow hb)
    replace kP := hide (kP.out.grow hb)
    replace kQ := hide (kQ.out.grow hb)
    replace kR := hide (kR.out.grow hb)
    replace kD := hide (kD.out.grow hb)
    replace kG := hide (kG.out.grow hb)
    replace kL := hide (kL.out.grow hb)
    replace kY := hide (kY.out.grow hb)
    replace kS := hide (kS.out.grow hb)
    replace kX := hide (kX.out.grow hb)
    replace kM := hide (kM.out.grow hb)
    replace kU := hide (kU.out.grow hb)
    replace kN := hide (kN.out.grow hb)
    replace kV := hide (kV.out.grow hb)
    have B20 := bup B19 hb
    clear hb B19
    go_wp2_with fail
    go_ret
    exact ⟨rfl, B20⟩
end Go.Proofs.YtifeniiefhpadaaGreatDoor
