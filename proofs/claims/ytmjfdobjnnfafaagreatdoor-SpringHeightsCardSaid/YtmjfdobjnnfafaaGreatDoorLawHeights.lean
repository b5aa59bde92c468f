/- The law SpringHeights: warmth, frost, snow and melt by height. Conditions stand in the theorems. -/
import Derived.Test.YtmjfdobjnnfafaaGreatDoorSpring28
import Derived.Deep.DeepCutAuto
set_option linter.all false
namespace Go.Proofs.YtmjfdobjnnfafaaGreatDoor
open Go.RowKit

theorem bcaseH (b : Bool) : b = false ∨ b = true := by cases b <;> simp
theorem atF_anti {c : Climate} (hc : ClimOk c) {t h h' : Int} (g : h ≤ h') : atF c t h' ≤ atF c t h := by
  unfold atF
  have h1 : c.lapse * (h - c.base) ≤ c.lapse * (h' - c.base) := Int.mul_le_mul_of_nonneg_left (by omega) hc.lapse.1
  have := Int.ediv_le_ediv (by omega : (0 : Int) < 100) h1
  omega
theorem atF_mono {c : Climate} {t t' h : Int} (g : t ≤ t') : atF c t h ≤ atF c t' h := by
  unfold atF
  omega
theorem frostF_spec {c : Climate} (hc : ClimOk c) {t : Int} : ∀ (n k : Nat), match frostF c t n k with
    | some i => k ≤ i ∧ i < k + n ∧ atF c t i ≤ 0 ∧ ∀ j : Nat, k ≤ j → j < i → 0 < atF c t j
    | none => ∀ j : Nat, k ≤ j → j < k + n → 0 < atF c t j
  | 0, k => by
    simp only [frostF]
    intro j h1 h2
    omega
  | n + 1, k => by
    simp only [frostF]
    by_cases h : atF c t k ≤ 0
    · rw [if_pos h]
      exact ⟨Nat.le_refl _, by omega, h, fun j h1 h2 => by omega⟩
    · rw [if_neg h]
      have ih := frostF_spec hc (t := t) n (k + 1)
      cases hf : frostF c t n (k + 1) with
      | some i =>
        rw [hf] at ih
        obtain ⟨h1, h2, h3, h4⟩ := ih
        refine ⟨by omega, by omega, h3, fun j g1 g2 => ?_⟩
        by_cases hj : j = k
        · subst hj; omega
        · exact h4 j (by omega) g2
      | none =>
        rw [hf] at ih
        intro j g1 g2
        by_cases hj : j = k
        · subst hj; omega
        · exact ih j (by omega) (by omega)
theorem asked_zero {c : Climate} {l : List Bool} (h : askedE c l = 0) : climateOk c = true ∧ l.all id = true := by
  rcases asked_cases c l with ⟨_, h1, h2⟩ | ⟨h1, _⟩
  · exact ⟨h1, h2⟩
  · exact absurd h h1
theorem day1_zero {c : Climate} {x : Weather} {l : List Bool} (h : dayE1 c x l = 0) : climateOk c = true ∧ weatherOk c x = true ∧ l.all id = true := by
  rcases day1_cases c x l with ⟨_, h1, h2, h3⟩ | h1
  · exact ⟨h1, h2, h3⟩
  · exact absurd h h1
theorem frost_math {c : Climate} {t low : Int} (he : askedE c [tempB t, heightB low] = 0) :
    ((frostV c t).2 = 0 → (atF c t low ≤ 0 ↔ (frostV c t).1 ≤ low)) ∧ ((frostV c t).2 = 4 → 0 < atF c t low) := by
  obtain ⟨h1, h2⟩ := asked_zero he
  simp at h2
  obtain ⟨h3, h4⟩ := h2
  have hc := ClimOk.of h1
  have hl := heightB_bd h4
  have hv : frostV c t = frostR c t 9001 0 := by simp [frostV, askedE, h1, h3]
  rw [hv]
  have hs := frostF_spec hc (t := t) 9001 0
  unfold frostR
  cases hf : frostF c t 9001 0 with
  | some i =>
    rw [hf] at hs
    obtain ⟨_, g1, g2, g3⟩ := hs
    refine ⟨fun _ => ⟨fun ha => ?_, fun ha => ?_⟩, fun h => by simp at h⟩
    · show (i : Int) ≤ low
      rcases ilt low i with hlt | hge
      · have := g3 low.toNat (by omega) (by omega)
        rw [show ((low.toNat : Nat) : Int) = low by omega] at this
        omega
      · exact hge
    · have := atF_anti hc (t := t) (show (i : Int) ≤ low from ha)
      omega
  | none =>
    rw [hf] at hs
    refine ⟨fun h => by simp at h, fun _ => ?_⟩
    have := hs low.toNat (by omega) (by omega)
    rwa [show ((low.toNat : Nat) : Int) = low by omega] at this
theorem meltF_warm {c : Climate} {x y : Weather} {h f : Int} (hf : 0 ≤ f) (ht : x.temp ≤ y.temp) : meltF c x h f ≤ meltF c y h f := by
  unfold meltF
  have h0 := atF_mono (c := c) (h := h) ht
  have h1 : f * max 0 (atF c x.temp h) ≤ f * max 0 (atF c y.temp h) := Int.mul_le_mul_of_nonneg_left (by omega) hf
  exact Int.ediv_le_ediv (by omega) h1
theorem meltF_cold {c : Climate} {x : Weather} {h f : Int} (ht : atF c x.temp h ≤ 0) : meltF c x h f = 0 := by
  unfold meltF
  rw [show max 0 (atF c x.temp h) = 0 by omega]
  simp
theorem heights_math (c : Climate) (vday vt wday wt r low high f : Int) (hq : low ≤ high) (hq2 : vt ≤ wt) :
    (askedE c [tempB wt, heightB low] = 0 → askedE c [tempB wt, heightB high] = 0 → atV c wt high ≤ atV c wt low) ∧
    (askedE c [tempB wt, heightB low] = 0 → (frostV c wt).2 = 0 → (0 < atV c wt low → low < (frostV c wt).1) ∧ (atV c wt low ≤ 0 → (frostV c wt).1 ≤ low)) ∧
    (askedE c [tempB wt, heightB low] = 0 → atV c wt low ≤ 0 → (frostV c wt).2 ≠ 4) ∧
    (dayE1 c ⟨vday, vt, r⟩ [heightB low] = 0 → dayE1 c ⟨wday, wt, r⟩ [heightB low] = 0 →
      (snowV c ⟨vday, vt, r⟩ low).1 + (snowV c ⟨vday, vt, r⟩ low).2 = r ∧ (snowV c ⟨wday, wt, r⟩ low).1 + (snowV c ⟨wday, wt, r⟩ low).2 = r ∧ (snowV c ⟨wday, wt, r⟩ low).1 ≤ (snowV c ⟨vday, vt, r⟩ low).1 ∧
      (0 < (snowV c ⟨wday, wt, r⟩ low).2 → 0 < atV c wt low) ∧ (0 < (snowV c ⟨wday, wt, r⟩ low).1 → atV c wt low ≤ 0) ∧ 0 ≤ r ∧ r ≤ 1000 ∧ 0 ≤ meltV c ⟨vday, vt, r⟩ low f ∧ 0 ≤ meltV c ⟨wday, wt, r⟩ low f) ∧
    (dayE1 c ⟨vday, vt, r⟩ [heightB low] = 0 → dayE1 c ⟨wday, wt, r⟩ [heightB low] = 0 → dayE1 c ⟨vday, vt, r⟩ [heightB low, inB f 0 2000] = 0 → dayE1 c ⟨wday, wt, r⟩ [heightB low, inB f 0 2000] = 0 →
      meltV c ⟨vday, vt, r⟩ low f ≤ meltV c ⟨wday, wt, r⟩ low f ∧ (0 < meltV c ⟨vday, vt, r⟩ low f → (snowV c ⟨vday, vt, r⟩ low).1 = 0) ∧ (0 < meltV c ⟨wday, wt, r⟩ low f → (snowV c ⟨wday, wt, r⟩ low).1 = 0)) := by
  have hav : ∀ {h}, askedE c [tempB wt, heightB h] = 0 → atV c wt h = atF c wt h := fun h => by simp [atV, h]
  have hsv : ∀ {x : Weather}, dayE1 c x [heightB low] = 0 → snowV c x low = fallF c x low := fun h => by simp [snowV, h]
  have hmv : ∀ {x : Weather}, dayE1 c x [heightB low, inB f 0 2000] = 0 → meltV c x low f = meltF c x low f := fun h => by simp [meltV, h]
  refine ⟨fun h1 h2 => ?_, fun h1 h2 => ?_, fun h1 h2 h3 => ?_, fun h1 h2 => ?_, fun h1 h2 h3 h4 => ?_⟩
  · rw [hav h1, hav h2]
    exact atF_anti (.of (asked_zero h1).1) hq
  · rw [hav h1]
    have := (frost_math h1).1 h2
    omega
  · rw [hav h1] at h2
    have := (frost_math h1).2 h3
    omega
  · obtain ⟨c1, w1, l1⟩ := day1_zero h1
    obtain ⟨_, w2, _⟩ := day1_zero h2
    have hc := ClimOk.of c1
    have hx := WeaOk.of w1
    have hy := WeaOk.of w2
    simp at l1
    have ha : askedE c [tempB wt, heightB low] = 0 := by
      have ht : tempB wt = true := inB_true.2 (hy.t600 hc)
      simp [askedE, c1, ht, l1]
    have hmb : ∀ x : Weather, WeaOk c x → 0 ≤ meltV c x low f := fun x hx => by
      unfold meltV
      split
      · rename_i h9
        obtain ⟨_, _, l9⟩ := day1_zero h9
        simp at l9
        exact (meltF_bd (f := f) hc (hx.t600 hc) (heightB_bd l1) (inB_true.1 l9.2)).2.1
      · omega
    rw [hsv h1, hsv h2, hav ha]
    have hr := hx.rain
    have hw := hc.wettest
    have ht : atF c vt low ≤ atF c wt low := atF_mono hq2
    have hq1 := hmb _ hx
    have hq3 := hmb _ hy
    refine ⟨?_, ?_, ?_, ?_, ?_, hr.1, by have := hr.2; simp only at this; omega, hq1, hq3⟩ <;> simp only [fallF] <;> simp only at hr <;> (try split) <;> (try split) <;> simp <;> omega
  · obtain ⟨c1, _, l1⟩ := day1_zero h3
    simp at l1
    rw [hsv h1, hsv h2, hmv h3, hmv h4]
    refine ⟨meltF_warm (inB_true.1 l1.2).1 hq2, fun h => ?_, fun h => ?_⟩
    · rcases ilt 0 (atF c vt low) with g | g
      · rw [fallF_gt g]
      · rw [meltF_cold g] at h; omega
    · rcases ilt 0 (atF c wt low) with g | g
      · rw [fallF_gt g]
      · rw [meltF_cold g] at h; omega

set_option maxRecDepth 100000 in
set_option maxHeartbeats 8000000 in
theorem law_Heights_a (c : Climate) (vday vt vr wday wt wr low high f : Int) (w : World) (hp : Pow10 w) (hq : high < low) :
    Calls Tryz.prog 13 #[c.v, .agg #[I vday, I vt, I vr], .agg #[I wday, I wt, I wr], I low, I high, I f] w fun e w' => e = .returned (.bool true) ∧ Below w.heap.size w w' := by
  replace hp := hide hp
  (try unfold Climate.v at *)
  (try unfold Weather.v at *)
  go_enter Tryz.func13, Tryz.ntmps13
  have B0 : Below w.heap.size w w := Below.refl _ _
  go_wp2_with fail
  obtain ⟨w1, hw1⟩ : ∃ w1, w1 = (((w.alloc (.cells #[I c.base, I c.lapse, I c.swing, I c.wettest, I c.coldest, I c.warmest, I c.flo, I c.fhi] 25)).alloc (.cells #[I vday, I vt, I vr] 36)).alloc (.cells #[I wday, I wt, I wr] 36)) := ⟨_, rfl⟩
  have kC : Blk w1 (w.heap.size) 25 #[I c.base, I c.lapse, I c.swing, I c.wettest, I c.coldest, I c.warmest, I c.flo, I c.fhi] := by
    rw [hw1]
    refine Blk.alloc ?_ _
    refine Blk.alloc ?_ _
    have h := Blk.new w 25 #[I c.base, I c.lapse, I c.swing, I c.wettest, I c.coldest, I c.warmest, I c.flo, I c.fhi]
    first | exact h | simpa only [World.size_alloc] using h
  have kV : Blk w1 (w.heap.size + 1) 36 #[I vday, I vt, I vr] := by
    rw [hw1]
    refine Blk.alloc ?_ _
    have h := Blk.new (w.alloc (.cells #[I c.base, I c.lapse, I c.swing, I c.wettest, I c.coldest, I c.warmest, I c.flo, I c.fhi] 25)) 36 #[I vday, I vt, I vr]
    first | exact h | simpa only [World.size_alloc] using h
  have kX : Blk w1 (w.heap.size + 1 + 1) 36 #[I wday, I wt, I wr] := by
    rw [hw1]
    have h := Blk.new ((w.alloc (.cells #[I c.base, I c.lapse, I c.swing, I c.wettest, I c.coldest, I c.warmest, I c.flo, I c.fhi] 25)).alloc (.cells #[I vday, I vt, I vr] 36)) 36 #[I wday, I wt, I wr]
    first | exact h | simpa only [World.size_alloc] using h
  have B1 : Below w.heap.size w w1 := by rw [hw1]; exact bup B0 (below3 _ _ _ _)
  rw [← hw1]
  clear hw1 B0
  obtain ⟨bX, hbX⟩ : ∃ b, w.heap.size + 1 + 1 = b := ⟨_, rfl⟩
  rw [hbX] at kX ⊢
  obtain ⟨bV, hbV⟩ : ∃ b, w.heap.size + 1 = b := ⟨_, rfl⟩
  rw [hbV] at kV ⊢
  obtain ⟨bC, hbC⟩ : ∃ b, w.heap.size = b := ⟨_, rfl⟩
  rw [hbC] at kC ⊢
  replace kC := hide kC
  replace kV := hide kV
  replace kX := hide kX
  clear hbC
  clear hbV
  clear hbX
  go_at_call 22
  refine (law_sane w1 (hp.out.mono B1)).mono ?_
  rintro e w2 ⟨rfl, hb⟩
  replace kC := hide (kC.out.grow hb)
  replace kV := hide (kV.out.grow hb)
  replace kX := hide (kX.out.grow hb)
  have B2 := bup B1 hb
  clear hb B1
  obtain ⟨rC0, rC1, rC2, rC3, rC4, rC5, rC6, rC7⟩ := kC.out.cells8
  have zC : bC < w2.heap.size := kC.out.lt
  obtain ⟨rV0, rV1, rV2⟩ := kV.out.cells3
  have zV : bV < w2.heap.size := kV.out.lt
  obtain ⟨rX0, rX1, rX2⟩ := kX.out.cells3
  have zX : bX < w2.heap.size := kX.out.lt
  go_wp2_with fail
  clear rC0 rC1 rC2 rC3 rC4 rC5 rC6 rC7 zC rV0 rV1 rV2 zV rX0 rX1 rX2 zX
  go_ret
  exact ⟨rfl, B2⟩

set_option maxRecDepth 100000 in
set_option maxHeartbeats 8000000 in
theorem law_Heights_b (c : Climate) (vday vt vr wday wt wr low high f : Int) (w : World) (hp : Pow10 w) (hq : low ≤ high) (hq2 : wt < vt) :
    Calls Tryz.prog 13 #[c.v, .agg #[I vday, I vt, I vr], .agg #[I wday, I wt, I wr], I low, I high, I f] w fun e w' => e = .returned (.bool true) ∧ Below w.heap.size w w' := by
  replace hp := hide hp
  (try unfold Climate.v at *)
  (try unfold Weather.v at *)
  go_enter Tryz.func13, Tryz.ntmps13
  have B0 : Below w.heap.size w w := Below.refl _ _
  go_wp2_with fail
  obtain ⟨w1, hw1⟩ : ∃ w1, w1 = (((w.alloc (.cells #[I c.base, I c.lapse, I c.swing, I c.wettest, I c.coldest, I c.warmest, I c.flo, I c.fhi] 25)).alloc (.cells #[I vday, I vt, I vr] 36)).alloc (.cells #[I wday, I wt, I wr] 36)) := ⟨_, rfl⟩
  have kC : Blk w1 (w.heap.size) 25 #[I c.base, I c.lapse, I c.swing, I c.wettest, I c.coldest, I c.warmest, I c.flo, I c.fhi] := by
    rw [hw1]
    refine Blk.alloc ?_ _
    refine Blk.alloc ?_ _
    have h := Blk.new w 25 #[I c.base, I c.lapse, I c.swing, I c.wettest, I c.coldest, I c.warmest, I c.flo, I c.fhi]
    first | exact h | simpa only [World.size_alloc] using h
  have kV : Blk w1 (w.heap.size + 1) 36 #[I vday, I vt, I vr] := by
    rw [hw1]
    refine Blk.alloc ?_ _
    have h := Blk.new (w.alloc (.cells #[I c.base, I c.lapse, I c.swing, I c.wettest, I c.coldest, I c.warmest, I c.flo, I c.fhi] 25)) 36 #[I vday, I vt, I vr]
    first | exact h | simpa only [World.size_alloc] using h
  have kX : Blk w1 (w.heap.size + 1 + 1) 36 #[I wday, I wt, I wr] := by
    rw [hw1]
    have h := Blk.new ((w.alloc (.cells #[I c.base, I c.lapse, I c.swing, I c.wettest, I c.coldest, I c.warmest, I c.flo, I c.fhi] 25)).alloc (.cells #[I vday, I vt, I vr] 36)) 36 #[I wday, I wt, I wr]
    first | exact h | simpa only [World.size_alloc] using h
  have B1 : Below w.heap.size w w1 := by rw [hw1]; exact bup B0 (below3 _ _ _ _)
  rw [← hw1]
  clear hw1 B0
  obtain ⟨bX, hbX⟩ : ∃ b, w.heap.size + 1 + 1 = b := ⟨_, rfl⟩
  rw [hbX] at kX ⊢
  obtain ⟨bV, hbV⟩ : ∃ b, w.heap.size + 1 = b := ⟨_, rfl⟩
  rw [hbV] at kV ⊢
  obtain ⟨bC, hbC⟩ : ∃ b, w.heap.size = b := ⟨_, rfl⟩
  rw [hbC] at kC ⊢
  replace kC := hide kC
  replace kV := hide kV
  replace kX := hide kX
  clear hbC
  clear hbV
  clear hbX
  go_at_call 22
  refine (law_sane w1 (hp.out.mono B1)).mono ?_
  rintro e w2 ⟨rfl, hb⟩
  replace kC := hide (kC.out.grow hb)
  replace kV := hide (kV.out.grow hb)
  replace kX := hide (kX.out.grow hb)
  have B2 := bup B1 hb
  clear hb B1
  obtain ⟨rC0, rC1, rC2, rC3, rC4, rC5, rC6, rC7⟩ := kC.out.cells8
  have zC : bC < w2.heap.size := kC.out.lt
  obtain ⟨rV0, rV1, rV2⟩ := kV.out.cells3
  have zV : bV < w2.heap.size := kV.out.lt
  obtain ⟨rX0, rX1, rX2⟩ := kX.out.cells3
  have zX : bX < w2.heap.size := kX.out.lt
  go_wp2_with fail
  clear rC0 rC1 rC2 rC3 rC4 rC5 rC6 rC7 zC rV0 rV1 rV2 zV rX0 rX1 rX2 zX
  go_ret
  exact ⟨rfl, B2⟩

set_option maxRecDepth 100000 in
set_option maxHeartbeats 8000000 in
theorem law_Heights_c (c : Climate) (vday vt vr wday wt wr low high f : Int) (w : World) (hp : Pow10 w) (hq : low ≤ high) (hq2 : vt ≤ wt) (hq3 : vr ≠ wr) :
    Calls Tryz.prog 13 #[c.v, .agg #[I vday, I vt, I vr], .agg #[I wday, I wt, I wr], I low, I high, I f] w fun e w' => e = .returned (.bool true) ∧ Below w.heap.size w w' := by
  replace hp := hide hp
  (try unfold Climate.v at *)
  (try unfold Weather.v at *)
  go_enter Tryz.func13, Tryz.ntmps13
  have B0 : Below w.heap.size w w := Below.refl _ _
  go_wp2_with fail
  obtain ⟨w1, hw1⟩ : ∃ w1, w1 = (((w.alloc (.cells #[I c.base, I c.lapse, I c.swing, I c.wettest, I c.coldest, I c.warmest, I c.flo, I c.fhi] 25)).alloc (.cells #[I vday, I vt, I vr] 36)).alloc (.cells #[I wday, I wt, I wr] 36)) := ⟨_, rfl⟩
  have kC : Blk w1 (w.heap.size) 25 #[I c.base, I c.lapse, I c.swing, I c.wettest, I c.coldest, I c.warmest, I c.flo, I c.fhi] := by
    rw [hw1]
    refine Blk.alloc ?_ _
    refine Blk.alloc ?_ _
    have h := Blk.new w 25 #[I c.base, I c.lapse, I c.swing, I c.wettest, I c.coldest, I c.warmest, I c.flo, I c.fhi]
    first | exact h | simpa only [World.size_alloc] using h
  have kV : Blk w1 (w.heap.size + 1) 36 #[I vday, I vt, I vr] := by
    rw [hw1]
    refine Blk.alloc ?_ _
    have h := Blk.new (w.alloc (.cells #[I c.base, I c.lapse, I c.swing, I c.wettest, I c.coldest, I c.warmest, I c.flo, I c.fhi] 25)) 36 #[I vday, I vt, I vr]
    first | exact h | simpa only [World.size_alloc] using h
  have kX : Blk w1 (w.heap.size + 1 + 1) 36 #[I wday, I wt, I wr] := by
    rw [hw1]
    have h := Blk.new ((w.alloc (.cells #[I c.base, I c.lapse, I c.swing, I c.wettest, I c.coldest, I c.warmest, I c.flo, I c.fhi] 25)).alloc (.cells #[I vday, I vt, I vr] 36)) 36 #[I wday, I wt, I wr]
    first | exact h | simpa only [World.size_alloc] using h
  have B1 : Below w.heap.size w w1 := by rw [hw1]; exact bup B0 (below3 _ _ _ _)
  rw [← hw1]
  clear hw1 B0
  obtain ⟨bX, hbX⟩ : ∃ b, w.heap.size + 1 + 1 = b := ⟨_, rfl⟩
  rw [hbX] at kX ⊢
  obtain ⟨bV, hbV⟩ : ∃ b, w.heap.size + 1 = b := ⟨_, rfl⟩
  rw [hbV] at kV ⊢
  obtain ⟨bC, hbC⟩ : ∃ b, w.heap.size = b := ⟨_, rfl⟩
  rw [hbC] at kC ⊢
  replace kC := hide kC
  replace kV := hide kV
  replace kX := hide kX
  clear hbC
  clear hbV
  clear hbX
  go_at_call 22
  refine (law_sane w1 (hp.out.mono B1)).mono ?_
  rintro e w2 ⟨rfl, hb⟩
  replace kC := hide (kC.out.grow hb)
  replace kV := hide (kV.out.grow hb)
  replace kX := hide (kX.out.grow hb)
  have B2 := bup B1 hb
  clear hb B1
  have hq4 : (vr == wr) = false := by simpa using hq3
  have hq5 : (vr != wr) = true := by simpa using hq3
  obtain ⟨rC0, rC1, rC2, rC3, rC4, rC5, rC6, rC7⟩ := kC.out.cells8
  have zC : bC < w2.heap.size := kC.out.lt
  obtain ⟨rV0, rV1, rV2⟩ := kV.out.cells3
  have zV : bV < w2.heap.size := kV.out.lt
  obtain ⟨rX0, rX1, rX2⟩ := kX.out.cells3
  have zX : bX < w2.heap.size := kX.out.lt
  go_wp2_with fail
  clear rC0 rC1 rC2 rC3 rC4 rC5 rC6 rC7 zC rV0 rV1 rV2 zV rX0 rX1 rX2 zX
  go_ret
  exact ⟨rfl, B2⟩

set_option maxRecDepth 100000 in
set_option maxHeartbeats 8000000 in
theorem law_Heights_d (c : Climate) (vday vt wday wt r low high f : Int) (w : World) (hp : Pow10 w) (hq : low ≤ high) (hq2 : vt ≤ wt) :
    Calls Tryz.prog 13 #[c.v, .agg #[I vday, I vt, I r], .agg #[I wday, I wt, I r], I low, I high, I f] w fun e w' => e = .returned (.bool true) ∧ Below w.heap.size w w' := by
  have J1 := fun w => spring_At c wt low w
  have J2 := fun w => spring_At c wt high w
  have J3 := fun w => spring_Frost c wt w
  have J4 := fun w => spring_Snow c ⟨vday, vt, r⟩ low w
  have J5 := fun w => spring_Snow c ⟨wday, wt, r⟩ low w
  have J6 := fun w => spring_Melt c ⟨vday, vt, r⟩ low f w
  have J7 := fun w => spring_Melt c ⟨wday, wt, r⟩ low f w
  have HM := heights_math c vday vt wday wt r low high f hq hq2
  obtain ⟨a, ha⟩ : ∃ z, atV c wt low = z := ⟨_, rfl⟩
  obtain ⟨e1, he1⟩ : ∃ z, askedE c [tempB wt, heightB low] = z := ⟨_, rfl⟩
  obtain ⟨b, hb⟩ : ∃ z, atV c wt high = z := ⟨_, rfl⟩
  obtain ⟨e2, he2⟩ : ∃ z, askedE c [tempB wt, heightB high] = z := ⟨_, rfl⟩
  obtain ⟨fr, hfr⟩ : ∃ z, frostV c wt = z := ⟨_, rfl⟩
  obtain ⟨s1, hs1⟩ : ∃ z, snowV c ⟨vday, vt, r⟩ low = z := ⟨_, rfl⟩
  obtain ⟨e4, he4⟩ : ∃ z, dayE1 c ⟨vday, vt, r⟩ [heightB low] = z := ⟨_, rfl⟩
  obtain ⟨s2, hs2⟩ : ∃ z, snowV c ⟨wday, wt, r⟩ low = z := ⟨_, rfl⟩
  obtain ⟨e5, he5⟩ : ∃ z, dayE1 c ⟨wday, wt, r⟩ [heightB low] = z := ⟨_, rfl⟩
  obtain ⟨p, hp⟩ : ∃ z, meltV c ⟨vday, vt, r⟩ low f = z := ⟨_, rfl⟩
  obtain ⟨e6, he6⟩ : ∃ z, dayE1 c ⟨vday, vt, r⟩ [heightB low, inB f 0 2000] = z := ⟨_, rfl⟩
  obtain ⟨q, hq⟩ : ∃ z, meltV c ⟨wday, wt, r⟩ low f = z := ⟨_, rfl⟩
  obtain ⟨e7, he7⟩ : ∃ z, dayE1 c ⟨wday, wt, r⟩ [heightB low, inB f 0 2000] = z := ⟨_, rfl⟩
  simp only [ha, he1, hb, he2, hfr, hs1, he4, hs2, he5, hp, he6, hq, he7] at J1 J2 J3 J4 J5 J6 J7 HM
  clear ha he1 hb he2 hfr hs1 he4 hs2 he5 hp he6 hq he7
  obtain ⟨fl, fe⟩ := fr
  obtain ⟨x, m⟩ := s1
  obtain ⟨y, n⟩ := s2
  simp only at J3 J4 J5 HM
  (try unfold Climate.v at *)
  (try unfold Weather.v at *)
  replace J1 := hide J1
  replace J2 := hide J2
  replace J3 := hide J3
  replace J4 := hide J4
  replace J5 := hide J5
  replace J6 := hide J6
  replace J7 := hide J7
  replace HM := hide HM
  replace hp := hide hp
  (try unfold Climate.v at *)
  (try unfold Weather.v at *)
  go_enter Tryz.func13, Tryz.ntmps13
  have B0 : Below w.heap.size w w := Below.refl _ _
  go_wp2_with fail
  obtain ⟨w1, hw1⟩ : ∃ w1, w1 = (((w.alloc (.cells #[I c.base, I c.lapse, I c.swing, I c.wettest, I c.coldest, I c.warmest, I c.flo, I c.fhi] 25)).alloc (.cells #[I vday, I vt, I r] 36)).alloc (.cells #[I wday, I wt, I r] 36)) := ⟨_, rfl⟩
  have kC : Blk w1 (w.heap.size) 25 #[I c.base, I c.lapse, I c.swing, I c.wettest, I c.coldest, I c.warmest, I c.flo, I c.fhi] := by
    rw [hw1]
    refine Blk.alloc ?_ _
    refine Blk.alloc ?_ _
    have h := Blk.new w 25 #[I c.base, I c.lapse, I c.swing, I c.wettest, I c.coldest, I c.warmest, I c.flo, I c.fhi]
    first | exact h | simpa only [World.size_alloc] using h
  have kV : Blk w1 (w.heap.size + 1) 36 #[I vday, I vt, I r] := by
    rw [hw1]
    refine Blk.alloc ?_ _
    have h := Blk.new (w.alloc (.cells #[I c.base, I c.lapse, I c.swing, I c.wettest, I c.coldest, I c.warmest, I c.flo, I c.fhi] 25)) 36 #[I vday, I vt, I r]
    first | exact h | simpa only [World.size_alloc] using h
  have kX : Blk w1 (w.heap.size + 1 + 1) 36 #[I wday, I wt, I r] := by
    rw [hw1]
    have h := Blk.new ((w.alloc (.cells #[I c.base, I c.lapse, I c.swing, I c.wettest, I c.coldest, I c.warmest, I c.flo, I c.fhi] 25)).alloc (.cells #[I vday, I vt, I r] 36)) 36 #[I wday, I wt, I r]
    first | exact h | simpa only [World.size_alloc] using h
  have B1 : Below w.heap.size w w1 := by rw [hw1]; exact bup B0 (below3 _ _ _ _)
  rw [← hw1]
  clear hw1 B0
  obtain ⟨bX, hbX⟩ : ∃ b, w.heap.size + 1 + 1 = b := ⟨_, rfl⟩
  rw [hbX] at kX ⊢
  obtain ⟨bV, hbV⟩ : ∃ b, w.heap.size + 1 = b := ⟨_, rfl⟩
  rw [hbV] at kV ⊢
  obtain ⟨bC, hbC⟩ : ∃ b, w.heap.size = b := ⟨_, rfl⟩
  rw [hbC] at kC ⊢
  replace kC := hide kC
  replace kV := hide kV
  replace kX := hide kX
  clear hbC
  clear hbV
  clear hbX
  go_at_call 22
  refine (law_sane w1 (hp.out.mono B1)).mono ?_
  rintro e w2 ⟨rfl, hb⟩
  replace kC := hide (kC.out.grow hb)
  replace kV := hide (kV.out.grow hb)
  replace kX := hide (kX.out.grow hb)
  have B2 := bup B1 hb
  clear hb B1
  obtain ⟨rC0, rC1, rC2, rC3, rC4, rC5, rC6, rC7⟩ := kC.out.cells8
  have zC : bC < w2.heap.size := kC.out.lt
  obtain ⟨rV0, rV1, rV2⟩ := kV.out.cells3
  have zV : bV < w2.heap.size := kV.out.lt
  obtain ⟨rX0, rX1, rX2⟩ := kX.out.cells3
  have zX : bX < w2.heap.size := kX.out.lt
  go_wp2_with fail
  clear rC0 rC1 rC2 rC3 rC4 rC5 rC6 rC7 zC rV0 rV1 rV2 zV rX0 rX1 rX2 zX
  go_at_call 29
  refine (J1.out w2).mono ?_
  rintro e w3 ⟨rfl, hb⟩
  replace kC := hide (kC.out.grow hb)
  replace kV := hide (kV.out.grow hb)
  replace kX := hide (kX.out.grow hb)
  have B3 := bup B2 hb
  clear hb B2
  obtain ⟨rC0, rC1, rC2, rC3, rC4, rC5, rC6, rC7⟩ := kC.out.cells8
  have zC : bC < w3.heap.size := kC.out.lt
  obtain ⟨rV0, rV1, rV2⟩ := kV.out.cells3
  have zV : bV < w3.heap.size := kV.out.lt
  obtain ⟨rX0, rX1, rX2⟩ := kX.out.cells3
  have zX : bX < w3.heap.size := kX.out.lt
  go_wp2_with fail
  clear rC0 rC1 rC2 rC3 rC4 rC5 rC6 rC7 zC rV0 rV1 rV2 zV rX0 rX1 rX2 zX
  go_at_call 29
  refine (J2.out w3).mono ?_
  rintro e w4 ⟨rfl, hb⟩
  replace kC := hide (kC.out.grow hb)
  replace kV := hide (kV.out.grow hb)
  replace kX := hide (kX.out.grow hb)
  have B4 := bup B3 hb
  clear hb B3
  obtain ⟨M1, M2, M3, M4, M5⟩ := HM.out
  clear HM
  replace M1 := hide M1
  replace M2 := hide M2
  replace M3 := hide M3
  replace M4 := hide M4
  replace M5 := hide M5
  obtain ⟨rV0, rV1, rV2⟩ := kV.out.cells3
  have zV : bV < w4.heap.size := kV.out.lt
  obtain ⟨rX0, rX1, rX2⟩ := kX.out.cells3
  have zX : bX < w4.heap.size := kX.out.lt
  go_upto_region 7 with fail
  go_cut [71] from 61 to 71 (fun c_ w_ => c_ = .bool false ∧ w4 = w_)
  case first =>
    by_cases e1n : e1 = 0
    · subst e1n
      by_cases e2n : e2 = 0
      · subst e2n
        have hm := M1.out rfl rfl
        (go_wp2_with fail; go_meet; exact ⟨(by first | rfl | (simp <;> omega)), rfl⟩)
      · (have e2a : (e2 == 0) = false := (by simpa using e2n)); (have e2b : (e2 != 0) = true := (by simpa using e2n))
        (go_wp2_with fail; go_meet; exact ⟨(by first | rfl | (simp <;> omega)), rfl⟩)
    · (have e1a : (e1 == 0) = false := (by simpa using e1n)); (have e1b : (e1 != 0) = true := (by simpa using e1n))
      (go_wp2_with fail; go_meet; exact ⟨(by first | rfl | (simp <;> omega)), rfl⟩)
  case rest =>
  obtain ⟨rfl, rfl⟩ := hcut
  clear rV0 rV1 rV2 zV rX0 rX1 rX2 zX
  obtain ⟨rC0, rC1, rC2, rC3, rC4, rC5, rC6, rC7⟩ := kC.out.cells8
  have zC : bC < w4.heap.size := kC.out.lt
  obtain ⟨rV0, rV1, rV2⟩ := kV.out.cells3
  have zV : bV < w4.heap.size := kV.out.lt
  obtain ⟨rX0, rX1, rX2⟩ := kX.out.cells3
  have zX : bX < w4.heap.size := kX.out.lt
  go_wp2_with fail
  clear rC0 rC1 rC2 rC3 rC4 rC5 rC6 rC7 zC rV0 rV1 rV2 zV rX0 rX1 rX2 zX
  go_at_call 31
  refine (J3.out w4).mono ?_
  rintro e w5 ⟨rfl, hb⟩
  replace kC := hide (kC.out.grow hb)
  replace kV := hide (kV.out.grow hb)
  replace kX := hide (kX.out.grow hb)
  have B5 := bup B4 hb
  clear hb B4
  obtain ⟨rV0, rV1, rV2⟩ := kV.out.cells3
  have zV : bV < w5.heap.size := kV.out.lt
  obtain ⟨rX0, rX1, rX2⟩ := kX.out.cells3
  have zX : bX < w5.heap.size := kX.out.lt
  go_upto_region 10 with fail
  go_cut [104] from 79 to 104 (fun c_ w_ => c_ = .bool false ∧ w5 = w_)
  case first =>
    by_cases e1n : e1 = 0
    · subst e1n
      rcases ilt 0 a with ha | ha
      · by_cases fen : fe = 0
        · subst fen
          have hm := (M2.out rfl rfl).1
          (go_wp2_with fail; go_meet; exact ⟨(by first | rfl | (simp <;> omega)), rfl⟩)
        · (have fea : (fe == 0) = false := (by simpa using fen)); (have feb : (fe != 0) = true := (by simpa using fen))
          rcases bcaseH (fe == 4) with h4 | h4
          · (go_wp2_with fail; go_meet; exact ⟨(by first | rfl | (simp <;> omega)), rfl⟩)
          · (go_wp2_with fail; go_meet; exact ⟨(by first | rfl | (simp <;> omega)), rfl⟩)
      · by_cases fen : fe = 0
        · subst fen
          have hm := (M2.out rfl rfl).2 ha
          (go_wp2_with fail; go_meet; exact ⟨(by first | rfl | (simp <;> omega)), rfl⟩)
        · (have fea : (fe == 0) = false := (by simpa using fen)); (have feb : (fe != 0) = true := (by simpa using fen))
          have h4 : (fe == 4) = false := by simpa using M3.out rfl ha
          (go_wp2_with fail; go_meet; exact ⟨(by first | rfl | (simp <;> omega)), rfl⟩)
    · (have e1a : (e1 == 0) = false := (by simpa using e1n)); (have e1b : (e1 != 0) = true := (by simpa using e1n))
      (go_wp2_with fail; go_meet; exact ⟨(by first | rfl | (simp <;> omega)), rfl⟩)
  case rest =>
  obtain ⟨rfl, rfl⟩ := hcut
  clear rV0 rV1 rV2 zV rX0 rX1 rX2 zX
  obtain ⟨rC0, rC1, rC2, rC3, rC4, rC5, rC6, rC7⟩ := kC.out.cells8
  have zC : bC < w5.heap.size := kC.out.lt
  obtain ⟨rV0, rV1, rV2⟩ := kV.out.cells3
  have zV : bV < w5.heap.size := kV.out.lt
  obtain ⟨rX0, rX1, rX2⟩ := kX.out.cells3
  have zX : bX < w5.heap.size := kX.out.lt
  go_wp2_with fail
  clear rC0 rC1 rC2 rC3 rC4 rC5 rC6 rC7 zC rV0 rV1 rV2 zV rX0 rX1 rX2 zX
  go_at_call 33
  refine (J4.out w5).mono ?_
  rintro e w6 ⟨rfl, hb⟩
  replace kC := hide (kC.out.grow hb)
  replace kV := hide (kV.out.grow hb)
  replace kX := hide (kX.out.grow hb)
  have B6 := bup B5 hb
  clear hb B5
  obtain ⟨rC0, rC1, rC2, rC3, rC4, rC5, rC6, rC7⟩ := kC.out.cells8
  have zC : bC < w6.heap.size := kC.out.lt
  obtain ⟨rV0, rV1, rV2⟩ := kV.out.cells3
  have zV : bV < w6.heap.size := kV.out.lt
  obtain ⟨rX0, rX1, rX2⟩ := kX.out.cells3
  have zX : bX < w6.heap.size := kX.out.lt
  go_wp2_with fail
  clear rC0 rC1 rC2 rC3 rC4 rC5 rC6 rC7 zC rV0 rV1 rV2 zV rX0 rX1 rX2 zX
  go_at_call 33
  refine (J5.out w6).mono ?_
  rintro e w7 ⟨rfl, hb⟩
  replace kC := hide (kC.out.grow hb)
  replace kV := hide (kV.out.grow hb)
  replace kX := hide (kX.out.grow hb)
  have B7 := bup B6 hb
  clear hb B6
  obtain ⟨rC0, rC1, rC2, rC3, rC4, rC5, rC6, rC7⟩ := kC.out.cells8
  have zC : bC < w7.heap.size := kC.out.lt
  obtain ⟨rV0, rV1, rV2⟩ := kV.out.cells3
  have zV : bV < w7.heap.size := kV.out.lt
  obtain ⟨rX0, rX1, rX2⟩ := kX.out.cells3
  have zX : bX < w7.heap.size := kX.out.lt
  go_wp2_with fail
  clear rC0 rC1 rC2 rC3 rC4 rC5 rC6 rC7 zC rV0 rV1 rV2 zV rX0 rX1 rX2 zX
  go_at_call 35
  refine (J6.out w7).mono ?_
  rintro e w8 ⟨rfl, hb⟩
  replace kC := hide (kC.out.grow hb)
  replace kV := hide (kV.out.grow hb)
  replace kX := hide (kX.out.grow hb)
  have B8 := bup B7 hb
  clear hb B7
  obtain ⟨rC0, rC1, rC2, rC3, rC4, rC5, rC6, rC7⟩ := kC.out.cells8
  have zC : bC < w8.heap.size := kC.out.lt
  obtain ⟨rV0, rV1, rV2⟩ := kV.out.cells3
  have zV : bV < w8.heap.size := kV.out.lt
  obtain ⟨rX0, rX1, rX2⟩ := kX.out.cells3
  have zX : bX < w8.heap.size := kX.out.lt
  go_wp2_with fail
  clear rC0 rC1 rC2 rC3 rC4 rC5 rC6 rC7 zC rV0 rV1 rV2 zV rX0 rX1 rX2 zX
  go_at_call 35
  refine (J7.out w8).mono ?_
  rintro e w9 ⟨rfl, hb⟩
  replace kC := hide (kC.out.grow hb)
  replace kV := hide (kV.out.grow hb)
  replace kX := hide (kX.out.grow hb)
  have B9 := bup B8 hb
  clear hb B8
  obtain ⟨rV0, rV1, rV2⟩ := kV.out.cells3
  have zV : bV < w9.heap.size := kV.out.lt
  obtain ⟨rX0, rX1, rX2⟩ := kX.out.cells3
  have zX : bX < w9.heap.size := kX.out.lt
  by_cases e4n : e4 = 0
  case neg =>
    (have e4a : (e4 == 0) = false := (by simpa using e4n)); (have e4b : (e4 != 0) = true := (by simpa using e4n))
    go_wp2_with fail
    go_ret
    exact ⟨rfl, B9⟩
  case pos =>
  subst e4n
  by_cases e5n : e5 = 0
  case neg =>
    (have e5a : (e5 == 0) = false := (by simpa using e5n)); (have e5b : (e5 != 0) = true := (by simpa using e5n))
    go_wp2_with fail
    go_ret
    exact ⟨rfl, B9⟩
  case pos =>
  subst e5n
  obtain ⟨m1, m2, m3, m4, m5, m6, m7, m8, m9⟩ := M4.out rfl rfl
  replace M5 := hide (M5.out rfl rfl)
  have k1 : IntKind.i64.wrap (x + m) = x + m := IntWalk.i64_in _ (by omega)
  have k2 : IntKind.i64.wrap (y + n) = y + n := IntWalk.i64_in _ (by omega)
  have k3 : (x + m == r) = true := by simpa using m1
  have k4 : (y + n == r) = true := by simpa using m2
  have k5 : (x + m != r) = false := by simpa using m1
  have k6 : (y + n != r) = false := by simpa using m2
  go_upto_region 18 with fail
  go_cut [177] from 143 to 177 (fun c_ w_ => c_ = .bool false ∧ w9 = w_)
  case first =>
    rcases ilt 0 n with hn | hn
    · have hm := m4 hn
      rcases ilt 0 y with hy | hy
      · have := m5 hy; omega
      · (go_wp2_with fail; go_meet; exact ⟨(by first | rfl | (simp <;> omega)), rfl⟩)
    · rcases ilt 0 y with hy | hy
      · have hm := m5 hy
        (go_wp2_with fail; go_meet; exact ⟨(by first | rfl | (simp <;> omega)), rfl⟩)
      · (go_wp2_with fail; go_meet; exact ⟨(by first | rfl | (simp <;> omega)), rfl⟩)
  case rest =>
  obtain ⟨rfl, rfl⟩ := hcut
  clear m1 m2 m3 m4 m5 k1 k2 k3 k4 k5 k6
  by_cases e6n : e6 = 0
  · subst e6n
    by_cases e7n : e7 = 0
    · subst e7n
      obtain ⟨n1, n2, n3⟩ := M5.out rfl rfl
      rcases ilt 0 p with hp1 | hp1
      · have x0 : x = 0 := n2 hp1
        subst x0
        have p0 : (p == 0) = false := by simp; omega
        rcases ilt 0 q with hq1 | hq1
        · have y0 : y = 0 := n3 hq1
          subst y0
          have q0 : (q == 0) = false := by simp; omega
          (go_wp2_with fail; go_ret; exact ⟨rfl, B9⟩)
        · have q0 : q = 0 := by omega
          subst q0
          (go_wp2_with fail; go_ret; exact ⟨rfl, B9⟩)
      · have p0 : p = 0 := by omega
        subst p0
        rcases ilt 0 q with hq1 | hq1
        · have y0 : y = 0 := n3 hq1
          subst y0
          have q0 : (q == 0) = false := by simp; omega
          (go_wp2_with fail; go_ret; exact ⟨rfl, B9⟩)
        · have q0 : q = 0 := by omega
          subst q0
          (go_wp2_with fail; go_ret; exact ⟨rfl, B9⟩)
    · (have e7a : (e7 == 0) = false := (by simpa using e7n)); (have e7b : (e7 != 0) = true := (by simpa using e7n))
      (go_wp2_with fail; go_ret; exact ⟨rfl, B9⟩)
  · (have e6a : (e6 == 0) = false := (by simpa using e6n)); (have e6b : (e6 != 0) = true := (by simpa using e6n))
    (go_wp2_with fail; go_ret; exact ⟨rfl, B9⟩)
theorem law_Heights (c : Climate) (v x : Weather) (low high f : Int) (w : World) (hp : Pow10 w) :
    Calls Tryz.prog 13 #[c.v, v.v, x.v, I low, I high, I f] w fun e w' => e = .returned (.bool true) ∧ Below w.heap.size w w' := by
  obtain ⟨vday, vt, vr⟩ := v
  obtain ⟨wday, wt, wr⟩ := x
  rcases ilt high low with h1 | h1
  · exact law_Heights_a c vday vt vr wday wt wr low high f w hp h1
  · rcases ilt wt vt with h2 | h2
    · exact law_Heights_b c vday vt vr wday wt wr low high f w hp h1 h2
    · by_cases h3 : vr = wr
      · subst h3
        exact law_Heights_d c vday vt wday wt vr low high f w hp h1 h2
      · exact law_Heights_c c vday vt vr wday wt wr low high f w hp h1 h2 h3
end Go.Proofs.YtmjfdobjnnfafaaGreatDoor
