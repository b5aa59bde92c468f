/- The reference of chapter 6: heights. Conditions stand in the theorems. -/
import Derived.Test.YtmjfdobjnnfafaaGreatDoorRef1
set_option linter.all false
set_option maxRecDepth 100000
set_option maxHeartbeats 1000000
namespace Go.Proofs.YtmjfdobjnnfafaaGreatDoor
open Go.RowKit

theorem bcase (b : Bool) : b = false ∨ b = true := by cases b <;> simp
theorem askedE_at {c : Climate} (h : climateOk c = true) (l : List Bool) : askedE c l = if l.any (fun x => x == false) then 1 else 0 := by simp [askedE, h]
theorem ref_At (c : Climate) (t h : Int) (w : World) : Calls Tryz.prog 30 #[c.v, I t, I h] w fun e w' => e = .returned (.tuple #[I (atV c t h), I (askedE c [tempB t, heightB h])]) ∧ Below w.heap.size w w' := by
 have H1 := fun w => ref_CheckClimate c w
 cases h1 : climateOk c with
 | false =>
  have hf := hide (show atV c t h = 0 ∧ askedE c [tempB t, heightB h] = 61 by simp [atV, askedE, h1])
  rw [show climateE c = 61 by simp [climateE, h1]] at H1
  unfold Climate.v at *
  replace H1 := hide H1
  go_enter Tryz.func30, Tryz.ntmps30
  go_wp2_with (first | (go_at_call 24; refine (H1.out _).mono ?_; clear H1; rintro e w1 ⟨rfl, hb1⟩; have hc1 := fun o => (bcell hb1).1 (w.heap.size) o (by simp <;> omega)))
  go_ret2
  exact ⟨retII hf.out.1.symm hf.out.2.symm, bup (below1 _ _) hb1⟩
 | true =>
  rw [show climateE c = 0 by simp [climateE, h1]] at H1
  cases h2 : inB t (-600) 600 with
  | false =>
   have hf := hide (show atV c t h = 0 ∧ askedE c [tempB t, heightB h] = 1 by simp [atV, askedE, h1, tempB, h2])
   unfold Climate.v at *
   replace H1 := hide H1
   go_enter Tryz.func30, Tryz.ntmps30
   go_wp2_with (first | (go_at_call 24; refine (H1.out _).mono ?_; clear H1; rintro e w1 ⟨rfl, hb1⟩; have hc1 := fun o => (bcell hb1).1 (w.heap.size) o (by simp <;> omega)) | (go_at_call 89; refine (ref_within _ _ _ _).mono ?_; rintro e w' ⟨rfl, rfl⟩))
   go_ret2
   exact ⟨retII hf.out.1.symm hf.out.2.symm, bup (below1 _ _) hb1⟩
  | true =>
   cases h3 : inB h 0 9000 with
   | false =>
    have hf := hide (show atV c t h = 0 ∧ askedE c [tempB t, heightB h] = 1 by simp [atV, askedE, h1, tempB, h2, heightB, h3])
    unfold Climate.v at *
    replace H1 := hide H1
    go_enter Tryz.func30, Tryz.ntmps30
    go_wp2_with (first | (go_at_call 24; refine (H1.out _).mono ?_; clear H1; rintro e w1 ⟨rfl, hb1⟩; have hc1 := fun o => (bcell hb1).1 (w.heap.size) o (by simp <;> omega)) | (go_at_call 89; refine (ref_within _ _ _ _).mono ?_; rintro e w' ⟨rfl, rfl⟩))
    go_ret2
    exact ⟨retII hf.out.1.symm hf.out.2.symm, bup (below1 _ _) hb1⟩
   | true =>
    have hf := hide (show atV c t h = atF c t h ∧ askedE c [tempB t, heightB h] = 0 by simp [atV, askedE, h1, tempB, h2, heightB, h3])
    have H := fun w => ref_at c t h w (.of h1) (inB_true.1 h2) (inB_true.1 h3)
    unfold Climate.v at *
    replace H1 := hide H1
    replace H := hide H
    go_enter Tryz.func30, Tryz.ntmps30
    go_wp2_with (first | (go_at_call 24; refine (H1.out _).mono ?_; clear H1; rintro e w1 ⟨rfl, hb1⟩; have hc1 := fun o => (bcell hb1).1 (w.heap.size) o (by simp <;> omega)) | (go_at_call 89; refine (ref_within _ _ _ _).mono ?_; rintro e w' ⟨rfl, rfl⟩) | (go_at_call 100; refine (H.out _).mono ?_; rintro e w2 ⟨rfl, hb2⟩))
    go_ret2
    exact ⟨retII hf.out.1.symm hf.out.2.symm, bup (bup (below1 _ _) hb1) hb2⟩
theorem ref_Snow (c : Climate) (x : Weather) (h : Int) (w : World) : Calls Tryz.prog 34 #[c.v, x.v, I h] w fun e w' => e = .returned (.tuple #[I ((snowV c x h).1), I ((snowV c x h).2), I (dayE1 c x [heightB h])]) ∧ Below w.heap.size w w' := by
 have H1 := fun w => ref_CheckClimate c w
 have H2 := fun w => ref_valid c x w
 cases h1 : climateOk c with
 | false =>
  rw [show climateE c = 61 by simp [climateE, h1]] at H1
  have hf := hide (show (snowV c x h).1 = 0 ∧ (snowV c x h).2 = 0 ∧ dayE1 c x [heightB h] = 61 by simp [snowV, heightB, dayE1, askedE, h1])
  unfold Climate.v Weather.v at *
  replace H1 := hide H1
  replace H2 := hide H2
  go_enter Tryz.func34, Tryz.ntmps34
  go_wp2_with (first | (go_at_call 24; refine (H1.out _).mono ?_; clear H1; rintro e w1 ⟨rfl, hb1⟩; have hc1 := fun o => (bcell hb1).1 (w.heap.size) o (by simp <;> omega); have hc2 := fun o => (bcell hb1).1 (w.heap.size + 1) o (by simp <;> omega)))
  go_ret3
  exact ⟨retIII hf.out.1.symm hf.out.2.1.symm hf.out.2.2.symm, bup (below2 _ _ _) hb1⟩
 | true =>
  rw [show climateE c = 0 by simp [climateE, h1]] at H1
  cases h2 : weatherOk c x with
  | false =>
   rw [h2] at H2
   have hf := hide (show (snowV c x h).1 = 0 ∧ (snowV c x h).2 = 0 ∧ dayE1 c x [heightB h] = 60 by simp [snowV, heightB, dayE1, askedE, h1, h2])
   unfold Climate.v Weather.v at *
   replace H1 := hide H1
   replace H2 := hide H2
   go_enter Tryz.func34, Tryz.ntmps34
   go_wp2_with (first | (go_at_call 24; refine (H1.out _).mono ?_; clear H1; rintro e w1 ⟨rfl, hb1⟩; have hc1 := fun o => (bcell hb1).1 (w.heap.size) o (by simp <;> omega); have hc2 := fun o => (bcell hb1).1 (w.heap.size + 1) o (by simp <;> omega)) | (go_at_call 91; refine (H2.out _).mono ?_; clear H2; rintro e w2 ⟨rfl, hb2⟩; have hd1 := fun o => (bcell hb2).1 w.heap.size o (by have := hb1.size; simp at this ⊢; omega); have hd2 := fun o => (bcell hb2).1 (w.heap.size + 1) o (by have := hb1.size; simp at this ⊢; omega)))
   go_ret3
   exact ⟨retIII hf.out.1.symm hf.out.2.1.symm hf.out.2.2.symm, bup (bup (below2 _ _ _) hb1) hb2⟩
  | true =>
   rw [h2] at H2
   rcases bcase (inB h 0 9000) with g0 | g0
   ·skip
    have hf := hide (show (snowV c x h).1 = 0 ∧ (snowV c x h).2 = 0 ∧ dayE1 c x [heightB h] = 1 by simp [snowV, heightB, dayE1, askedE, h1, h2, g0])
    unfold Climate.v Weather.v at *
    replace H1 := hide H1
    replace H2 := hide H2
    go_enter Tryz.func34, Tryz.ntmps34
    go_wp2_with (first | (go_at_call 24; refine (H1.out _).mono ?_; clear H1; rintro e w1 ⟨rfl, hb1⟩; have hc1 := fun o => (bcell hb1).1 (w.heap.size) o (by simp <;> omega); have hc2 := fun o => (bcell hb1).1 (w.heap.size + 1) o (by simp <;> omega)) | (go_at_call 91; refine (H2.out _).mono ?_; clear H2; rintro e w2 ⟨rfl, hb2⟩; have hd1 := fun o => (bcell hb2).1 w.heap.size o (by have := hb1.size; simp at this ⊢; omega); have hd2 := fun o => (bcell hb2).1 (w.heap.size + 1) o (by have := hb1.size; simp at this ⊢; omega)) | (go_at_call 89; refine (ref_within _ _ _ _).mono ?_; rintro e w' ⟨rfl, rfl⟩))
    go_ret3
    exact ⟨retIII hf.out.1.symm hf.out.2.1.symm hf.out.2.2.symm, bup (bup (below2 _ _ _) hb1) hb2⟩
   ·skip
    have hf := hide (show (snowV c x h).1 = (fallF c x h).1 ∧ (snowV c x h).2 = (fallF c x h).2 ∧ dayE1 c x [heightB h] = 0 by simp [snowV, heightB, dayE1, askedE, h1, h2, g0])
    have hc := ClimOk.of h1
    have hx := WeaOk.of h2
    have H := fun w => ref_falls c x h w hc (hx.t600 hc) (inB_true.1 g0)
    unfold Climate.v Weather.v at *
    replace H1 := hide H1
    replace H2 := hide H2
    replace H := hide H
    go_enter Tryz.func34, Tryz.ntmps34
    go_wp2_with (first | (go_at_call 24; refine (H1.out _).mono ?_; clear H1; rintro e w1 ⟨rfl, hb1⟩; have hc1 := fun o => (bcell hb1).1 (w.heap.size) o (by simp <;> omega); have hc2 := fun o => (bcell hb1).1 (w.heap.size + 1) o (by simp <;> omega)) | (go_at_call 91; refine (H2.out _).mono ?_; clear H2; rintro e w2 ⟨rfl, hb2⟩; have hd1 := fun o => (bcell hb2).1 w.heap.size o (by have := hb1.size; simp at this ⊢; omega); have hd2 := fun o => (bcell hb2).1 (w.heap.size + 1) o (by have := hb1.size; simp at this ⊢; omega)) | (go_at_call 89; refine (ref_within _ _ _ _).mono ?_; rintro e w' ⟨rfl, rfl⟩) | (go_at_call 103; refine (H.out _).mono ?_; rintro e w3 ⟨rfl, hb3⟩))
    go_ret3
    exact ⟨retIII hf.out.1.symm hf.out.2.1.symm hf.out.2.2.symm, bup (bup (bup (below2 _ _ _) hb1) hb2) hb3⟩
theorem ref_Melt (c : Climate) (x : Weather) (h f : Int) (w : World) : Calls Tryz.prog 36 #[c.v, x.v, I h, I f] w fun e w' => e = .returned (.tuple #[I (meltV c x h f), I (dayE1 c x [heightB h, inB f 0 2000])]) ∧ Below w.heap.size w w' := by
 have H1 := fun w => ref_CheckClimate c w
 have H2 := fun w => ref_valid c x w
 cases h1 : climateOk c with
 | false =>
  rw [show climateE c = 61 by simp [climateE, h1]] at H1
  have hf := hide (show meltV c x h f = 0 ∧ dayE1 c x [heightB h, inB f 0 2000] = 61 by simp [meltV, heightB, dayE1, askedE, h1])
  unfold Climate.v Weather.v at *
  replace H1 := hide H1
  replace H2 := hide H2
  go_enter Tryz.func36, Tryz.ntmps36
  go_wp2_with (first | (go_at_call 24; refine (H1.out _).mono ?_; clear H1; rintro e w1 ⟨rfl, hb1⟩; have hc1 := fun o => (bcell hb1).1 (w.heap.size) o (by simp <;> omega); have hc2 := fun o => (bcell hb1).1 (w.heap.size + 1) o (by simp <;> omega)))
  go_ret2
  exact ⟨retII hf.out.1.symm hf.out.2.symm, bup (below2 _ _ _) hb1⟩
 | true =>
  rw [show climateE c = 0 by simp [climateE, h1]] at H1
  cases h2 : weatherOk c x with
  | false =>
   rw [h2] at H2
   have hf := hide (show meltV c x h f = 0 ∧ dayE1 c x [heightB h, inB f 0 2000] = 60 by simp [meltV, heightB, dayE1, askedE, h1, h2])
   unfold Climate.v Weather.v at *
   replace H1 := hide H1
   replace H2 := hide H2
   go_enter Tryz.func36, Tryz.ntmps36
   go_wp2_with (first | (go_at_call 24; refine (H1.out _).mono ?_; clear H1; rintro e w1 ⟨rfl, hb1⟩; have hc1 := fun o => (bcell hb1).1 (w.heap.size) o (by simp <;> omega); have hc2 := fun o => (bcell hb1).1 (w.heap.size + 1) o (by simp <;> omega)) | (go_at_call 91; refine (H2.out _).mono ?_; clear H2; rintro e w2 ⟨rfl, hb2⟩; have hd1 := fun o => (bcell hb2).1 w.heap.size o (by have := hb1.size; simp at this ⊢; omega); have hd2 := fun o => (bcell hb2).1 (w.heap.size + 1) o (by have := hb1.size; simp at this ⊢; omega)))
   go_ret2
   exact ⟨retII hf.out.1.symm hf.out.2.symm, bup (bup (below2 _ _ _) hb1) hb2⟩
  | true =>
   rw [h2] at H2
   rcases bcase (inB h 0 9000) with g0 | g0
   ·skip
    have hf := hide (show meltV c x h f = 0 ∧ dayE1 c x [heightB h, inB f 0 2000] = 1 by simp [meltV, heightB, dayE1, askedE, h1, h2, g0])
    unfold Climate.v Weather.v at *
    replace H1 := hide H1
    replace H2 := hide H2
    go_enter Tryz.func36, Tryz.ntmps36
    go_wp2_with (first | (go_at_call 24; refine (H1.out _).mono ?_; clear H1; rintro e w1 ⟨rfl, hb1⟩; have hc1 := fun o => (bcell hb1).1 (w.heap.size) o (by simp <;> omega); have hc2 := fun o => (bcell hb1).1 (w.heap.size + 1) o (by simp <;> omega)) | (go_at_call 91; refine (H2.out _).mono ?_; clear H2; rintro e w2 ⟨rfl, hb2⟩; have hd1 := fun o => (bcell hb2).1 w.heap.size o (by have := hb1.size; simp at this ⊢; omega); have hd2 := fun o => (bcell hb2).1 (w.heap.size + 1) o (by have := hb1.size; simp at this ⊢; omega)) | (go_at_call 89; refine (ref_within _ _ _ _).mono ?_; rintro e w' ⟨rfl, rfl⟩))
    go_ret2
    exact ⟨retII hf.out.1.symm hf.out.2.symm, bup (bup (below2 _ _ _) hb1) hb2⟩
   ·skip
    rcases bcase (inB f 0 2000) with g1 | g1
    ·skip
     have hf := hide (show meltV c x h f = 0 ∧ dayE1 c x [heightB h, inB f 0 2000] = 1 by simp [meltV, heightB, dayE1, askedE, h1, h2, g0, g1])
     unfold Climate.v Weather.v at *
     replace H1 := hide H1
     replace H2 := hide H2
     go_enter Tryz.func36, Tryz.ntmps36
     go_wp2_with (first | (go_at_call 24; refine (H1.out _).mono ?_; clear H1; rintro e w1 ⟨rfl, hb1⟩; have hc1 := fun o => (bcell hb1).1 (w.heap.size) o (by simp <;> omega); have hc2 := fun o => (bcell hb1).1 (w.heap.size + 1) o (by simp <;> omega)) | (go_at_call 91; refine (H2.out _).mono ?_; clear H2; rintro e w2 ⟨rfl, hb2⟩; have hd1 := fun o => (bcell hb2).1 w.heap.size o (by have := hb1.size; simp at this ⊢; omega); have hd2 := fun o => (bcell hb2).1 (w.heap.size + 1) o (by have := hb1.size; simp at this ⊢; omega)) | (go_at_call 89; refine (ref_within _ _ _ _).mono ?_; rintro e w' ⟨rfl, rfl⟩))
     go_ret2
     exact ⟨retII hf.out.1.symm hf.out.2.symm, bup (bup (below2 _ _ _) hb1) hb2⟩
    ·skip
     have hf := hide (show meltV c x h f = meltF c x h f ∧ dayE1 c x [heightB h, inB f 0 2000] = 0 by simp [meltV, heightB, dayE1, askedE, h1, h2, g0, g1])
     have hc := ClimOk.of h1
     have hx := WeaOk.of h2
     have H := fun w => ref_melts c x h f w hc (hx.t600 hc) (inB_true.1 g0) (inB_true.1 g1)
     unfold Climate.v Weather.v at *
     replace H1 := hide H1
     replace H2 := hide H2
     replace H := hide H
     go_enter Tryz.func36, Tryz.ntmps36
     go_wp2_with (first | (go_at_call 24; refine (H1.out _).mono ?_; clear H1; rintro e w1 ⟨rfl, hb1⟩; have hc1 := fun o => (bcell hb1).1 (w.heap.size) o (by simp <;> omega); have hc2 := fun o => (bcell hb1).1 (w.heap.size + 1) o (by simp <;> omega)) | (go_at_call 91; refine (H2.out _).mono ?_; clear H2; rintro e w2 ⟨rfl, hb2⟩; have hd1 := fun o => (bcell hb2).1 w.heap.size o (by have := hb1.size; simp at this ⊢; omega); have hd2 := fun o => (bcell hb2).1 (w.heap.size + 1) o (by have := hb1.size; simp at this ⊢; omega)) | (go_at_call 89; refine (ref_within _ _ _ _).mono ?_; rintro e w' ⟨rfl, rfl⟩) | (go_at_call 105; refine (H.out _).mono ?_; rintro e w3 ⟨rfl, hb3⟩))
     go_ret2
     exact ⟨retII hf.out.1.symm hf.out.2.symm, bup (bup (bup (below2 _ _ _) hb1) hb2) hb3⟩
theorem ref_Frost (c : Climate) (t : Int) (w : World) : Calls Tryz.prog 32 #[c.v, I t] w fun e w' => e = .returned (.tuple #[I (frostV c t).1, I (frostV c t).2]) ∧ Below w.heap.size w w' := by
 have H1 := fun w => ref_CheckClimate c w
 cases h1 : climateOk c with
 | false =>
  have hf := hide (show frostV c t = (0, 61) by simp [frostV, askedE, h1])
  rw [show climateE c = 61 by simp [climateE, h1]] at H1
  unfold Climate.v at *
  replace H1 := hide H1
  go_enter Tryz.func32, Tryz.ntmps32
  go_wp2_with (first | (go_at_call 24; refine (H1.out _).mono ?_; clear H1; rintro e w1 ⟨rfl, hb1⟩; have hc1 := fun o => (bcell hb1).1 (w.heap.size) o (by simp <;> omega)))
  go_ret2
  exact ⟨retII (by rw [hf.out]) (by rw [hf.out]), bup (below1 _ _) hb1⟩
 | true =>
  rw [show climateE c = 0 by simp [climateE, h1]] at H1
  cases h2 : inB t (-600) 600 with
  | false =>
   have hf := hide (show frostV c t = (0, 1) by simp [frostV, askedE, h1, tempB, h2])
   unfold Climate.v at *
   replace H1 := hide H1
   go_enter Tryz.func32, Tryz.ntmps32
   go_wp2_with (first | (go_at_call 24; refine (H1.out _).mono ?_; clear H1; rintro e w1 ⟨rfl, hb1⟩; have hc1 := fun o => (bcell hb1).1 (w.heap.size) o (by simp <;> omega)) | (go_at_call 89; refine (ref_within _ _ _ _).mono ?_; rintro e w' ⟨rfl, rfl⟩))
   go_ret2
   exact ⟨retII (by rw [hf.out]) (by rw [hf.out]), bup (below1 _ _) hb1⟩
  | true =>
   have hc := ClimOk.of h1
   have H := fun (k : Nat) (hk : k ≤ 9000) w => ref_at c t k w hc (inB_true.1 h2) (by omega)
   have hfin := hide (show frostV c t = frostR c t 9001 0 by simp [frostV, askedE, h1, tempB, h2])
   unfold Climate.v at *
   replace H := hide H
   replace H1 := hide H1
   clear hc
   go_enter Tryz.func32, Tryz.ntmps32
   go_wp2_with (first | (go_at_call 24; refine (H1.out _).mono ?_; clear H1; rintro e w1 ⟨rfl, hb1⟩; have hc1 := fun o => (bcell hb1).1 (w.heap.size) o (by simp <;> omega)) | (go_at_call 89; refine (ref_within _ _ _ _).mono ?_; rintro e w' ⟨rfl, rfl⟩))
   have hK : ClimAt c w.heap.size w1 := (ClimAt.new c w 25).grow hb1
   have hB := bup (below1 w _) hb1
   clear hb1 hc1
   go_wp2_with fail
   go_loopw [6] (fun i wr => ∃ k : Nat, k ≤ 9001 ∧ i = I k ∧ Hid (frostR c t 9001 0 = frostR c t (9001 - k) k) ∧ Below w1.heap.size w1 wr) (fun i _ => 9001 - (intOf i).toNat)
   case atStart => exact ⟨0, by omega, rfl, hide rfl, Below.refl _ _⟩
   case round =>
    obtain ⟨k, hk, rfl, hr, hb⟩ := hrel
    obtain ⟨_, q0, q1, q2, q3, q4, q5, q6, q7⟩ := hK.grow hb
    by_cases hlt : k < 9001
    ·have H1 := hide (H.out k (by omega))
     have hk9 : decide ((k : Int) ≤ 9000) = true := by simp; omega
     rcases ilt 0 (atF c t k) with g | g
     ·have hs := hide (show frostR c t 9001 0 = frostR c t (9001 - (k + 1)) (k + 1) from hr.out.trans (by rw [show 9001 - k = (9001 - (k + 1)) + 1 by omega]; exact frostR_no g))
      clear hr H
      generalize atF c t k = a at *
      go_wp2_with (go_at_call 100; refine (H1.out _).mono ?_; rintro e w2 ⟨rfl, hb2⟩)
      go_roundw
      case rel => exact ⟨k + 1, by omega, by go_num, hs, bup hb hb2⟩
      case measure => simp [intOf]; omega
     ·have hs := hide (show frostV c t = ((k : Int), 0) from (hfin.out.trans hr.out).trans (by rw [show 9001 - k = (9001 - (k + 1)) + 1 by omega]; exact frostR_yes g))
      clear hr H
      generalize atF c t k = a at *
      go_wp2_with (go_at_call 100; refine (H1.out _).mono ?_; rintro e w2 ⟨rfl, hb2⟩)
      go_ret2
      exact ⟨retII (by rw [hs.out]) (by rw [hs.out]), bup (bup hB hb) hb2⟩
    ·have he : k = 9001 := by omega
     subst he
     have hs := hide (hfin.out.trans (hr.out.trans (frostR_zero c t 9001)))
     clear hr
     go_wp2_with fail
     go_ret2
     exact ⟨retII (by rw [hs.out]) (by rw [hs.out]), bup hB hb⟩
end Go.Proofs.YtmjfdobjnnfafaaGreatDoor
