/- The law SpringBounded: snow changes by no less and no more than Change returns. Conditions stand in the theorems. -/
import Derived.Test.YtmjfdobjnnfafaaGreatDoorSpring28
import Derived.Test.YtmjfdobjnnfafaaGreatDoorOneLog
import Derived.Test.YtmjfdobjnnfafaaGreatDoorOneIn
import Derived.Test.YtmjfdobjnnfafaaGreatDoorNext
import Derived.Test.YtmjfdobjnnfafaaGreatDoorAgainSpring9
set_option linter.all false
namespace Go.Proofs.YtmjfdobjnnfafaaGreatDoor
open Go.RowKit

theorem weather_ok_of {c : Climate} {days : List Weather} (h : linkedB c days = true) {x : Weather} (hx : x ∈ days) : weatherOk c x = true := by
  obtain ⟨i, hi⟩ := List.getElem?_of_mem hx
  exact linkedAt_ok hi (List.all_eq_true.1 h i (List.mem_range.2 (List.getElem?_eq_some_iff.1 hi).1))
theorem at_mono {c : Climate} {t t' h : Int} (g : t ≤ t') : atF c t h ≤ atF c t' h := by
  unfold atF
  omega
/-- Warmer and drier: less falls. -/
theorem fall_less {c : Climate} {x y : Weather} {h : Int} (ht : x.temp ≤ y.temp) (hr : y.rain ≤ x.rain) (h0 : 0 ≤ x.rain) : (fallF c y h).1 ≤ (fallF c x h).1 := by
  have := at_mono (c := c) (h := h) ht
  unfold fallF
  split <;> split <;> simp <;> omega
theorem melt_more {c : Climate} {x y : Weather} {h f g : Int} (ht : x.temp ≤ y.temp) (hf : 0 ≤ f) (hfg : f ≤ g) : meltF c x h f ≤ meltF c y h g := by
  have h0 := at_mono (c := c) (h := h) ht
  unfold meltF
  have h1 : f * max 0 (atF c x.temp h) ≤ f * max 0 (atF c y.temp h) := Int.mul_le_mul_of_nonneg_left (by omega) hf
  have h2 : f * max 0 (atF c y.temp h) ≤ g * max 0 (atF c y.temp h) := Int.mul_le_mul_of_nonneg_right hfg (by omega)
  omega
theorem fill_snoc (c : Climate) (l : List Weather) (a : Int) (k : Nat) (t : Bool) : fillF c l a (k + 1) t = fillF c l a k t ++ [warmW c l t (a + k)] := by
  simp [fillF, List.range_succ]
theorem step_snoc {c : Climate} {h f X : Int} {l : List Weather} {k : Nat} {x : Weather} (hx : l[k]? = some x) : (l.take (k + 1)).foldl (stepF c h f) X = stepF c h f ((l.take k).foldl (stepF c h f) X) x := by
  rw [take_succ_of hx, List.foldl_append]
  rfl
theorem step_between {c : Climate} {l days : List Weather} {h f X a : Int} (hl : LogOk c l) (hd : AgreeIs c l days) (ha : ∀ (i : Nat) x, days[i]? = some x → x.day = a + i) (hf : c.flo ≤ f ∧ f ≤ c.fhi) (hX : 0 ≤ X) :
    ∀ k, k ≤ days.length → (fillF c l a k true).foldl (lowStep c h) 0 ≤ (days.take k).foldl (stepF c h f) X - X ∧ (days.take k).foldl (stepF c h f) X - X ≤ (fillF c l a k false).foldl (highStep c h) 0 ∧ 0 ≤ (fillF c l a k false).foldl (highStep c h) 0
  | 0, _ => by simp [fillF]
  | k + 1, hk => by
    obtain ⟨x, hx⟩ := getElem?_of_lt (xs := days) (k := k) (by omega)
    obtain ⟨h1, h2, h3⟩ := step_between (h := h) hl hd ha hf hX k (by omega)
    have hm := List.mem_of_getElem? hx
    have hda := ha k x hx
    obtain ⟨⟨g1, g2⟩, g3, g4⟩ := agree_in hd hm
    rw [hda] at g1 g2 g3 g4
    have hxo := linkedB_ok hd.link x hm
    have hflo := hl.clim.flo
    rw [fill_snoc, fill_snoc, List.foldl_append, List.foldl_append, step_snoc hx]
    generalize (fillF c l a k true).foldl (lowStep c h) 0 = L at *
    generalize (fillF c l a k false).foldl (highStep c h) 0 = H at *
    generalize (days.take k).foldl (stepF c h f) X = Y at *
    simp only [List.foldl_cons, List.foldl_nil, lowStep, highStep, stepF]
    have p1 : (fallF c (warmW c l true (a + k)) h).1 ≤ (fallF c x h).1 := fall_less (by rw [warmW_temp]; simpa using g2) (by rw [warmW_rain]; simpa using g3) hxo.rain.1
    have p2 : meltF c x h f ≤ meltF c (warmW c l true (a + k)) h c.fhi := melt_more (by rw [warmW_temp]; simpa using g2) (by omega) hf.2
    have p3 : (fallF c x h).1 ≤ (fallF c (warmW c l false (a + k)) h).1 := fall_less (by rw [warmW_temp]; simpa using g1) (by rw [warmW_rain]; simpa using g4) (by rw [warmW_rain]; simp; have := hxo.rain.1; omega)
    have p4 : meltF c (warmW c l false (a + k)) h c.flo ≤ meltF c x h f := melt_more (by rw [warmW_temp]; simpa using g1) hflo hf.1
    omega
theorem bounded_math {c : Climate} {l days : List Weather} {h f X : Int} (hA : allowV c l days = true) (hf : inB f c.flo c.fhi = true) (hX : 0 ≤ X) (hn : days.length ≤ 120) :
    allowE c l days = 0 ∧ 1 ≤ days.length ∧ climateOk c = true ∧ inB f 0 2000 = true ∧ (∀ x ∈ days, weatherOk c x = true) ∧ ∀ x0, days[0]? = some x0 → (0 ≤ x0.day ∧ x0.day ≤ 1048576) ∧
      (changeE c l h x0.day (x0.day + days.length) ≠ 0 → changeE c l h x0.day (x0.day + days.length) = 1) ∧
      (changeE c l h x0.day (x0.day + days.length) = 0 → heightB h = true ∧ ((changeV c l h x0.day (x0.day + days.length)).1 ≤ days.foldl (stepF c h f) X - X ∨ (changeV c l h x0.day (x0.day + days.length)).1 = -65536) ∧ (days.foldl (stepF c h f) X - X ≤ (changeV c l h x0.day (x0.day + days.length)).2 ∨ (changeV c l h x0.day (x0.day + days.length)).2 = 65536)) := by
  obtain ⟨g1, g2, g3, g4, g5⟩ := allow_is hA
  have hf2 := inB_true.1 hf
  refine ⟨g3, g5.n1, g2, inB_true.2 (by have := g4.clim.flo; have := g4.clim.fhi; omega), fun x hx => weather_ok_of g5.link hx, fun x0 h0 => ?_⟩
  have hday := fun (i : Nat) (x : Weather) (hx : days[i]? = some x) => (succB_ok g5.succ i x x0 hx h0).2
  have hd0 := agree_day g5 (List.mem_of_getElem? h0)
  have hL : loggedE c l [heightB h] = askedE c [heightB h] := by simp [loggedE, g1]
  refine ⟨hd0, fun he => ?_, fun he => ?_⟩
  · have hst : stretchE x0.day (x0.day + days.length) ≠ 0 → stretchE x0.day (x0.day + days.length) = 1 := fun h5 => by
      unfold stretchE at h5 ⊢
      split
      · rfl
      · rename_i h2
        rw [if_neg h2] at h5
        split
        · omega
        · rename_i h3
          rw [if_neg h3] at h5
          exact absurd rfl h5
    unfold changeE at he ⊢
    rw [hL] at he ⊢
    cases hh : heightB h with
    | false => simp [askedE, g2]
    | true =>
      rw [hh] at he
      have hz : askedE c [true] = 0 := by simp [askedE, g2]
      rw [if_pos hz] at he ⊢
      exact hst he
  · have hC : changeV c l h x0.day (x0.day + days.length) = changeF c l h x0.day (x0.day + days.length) := by simp [changeV, he]
    have hh : heightB h = true := by
      unfold changeE at he
      rw [hL] at he
      split at he
      · rename_i h1
        have := (asked_cases c [heightB h])
        rcases this with ⟨_, _, h3⟩ | ⟨h3, _⟩
        · simpa using h3
        · exact absurd h1 h3
      · rename_i h1; exact absurd he h1
    rw [hC]
    have hb := step_between (h := h) g4 g5 hday hf2 hX days.length (Nat.le_refl _)
    rw [List.take_length] at hb
    unfold changeF
    rw [show x0.day + (days.length : Int) - x0.day = (days.length : Int) by omega, Int.toNat_natCast]
    generalize (fillF c l x0.day days.length true).foldl (lowStep c h) 0 = L at *
    generalize (fillF c l x0.day days.length false).foldl (highStep c h) 0 = H at *
    generalize days.foldl (stepF c h f) X = Y at *
    refine ⟨hh, ?_, ?_⟩ <;> simp only [clipF] <;> omega

set_option maxRecDepth 100000 in
set_option maxHeartbeats 8000000 in
theorem law_Bounded (c : Climate) (va : Value) (l : List Weather) (vd : Value) (days : List Weather) (h f X : Int) (w : World) (hp : Pow10 w) (ha : Sl w 3 Weather.cells va l) (hd : Sl w 3 Weather.cells vd days) :
    Calls Tryz.prog 9 #[c.v, va, vd, I h, I f, I X] w fun e w' => e = .returned (.bool true) ∧ Below w.heap.size w w' := by
  obtain ⟨Al, nl, rfl, _, _, hlenl, _⟩ := ha.open_
  obtain ⟨Ad, nd, rfl, _, _, hlen, hA⟩ := hd.open_
  have J2 := fun w' (hb : Below w.heap.size w w') => spring_Allowed c (.slice Al l.length nl) (.slice Ad days.length nd) l days w' (ha.mono hb) (hd.mono hb)
  have J4 := fun (a b : Int) w' (hb : Below w.heap.size w w') => spring_Change c (.slice Al l.length nl) l h a b w' (ha.mono hb)
  have JF := fun w => law_in f c.flo c.fhi w
  have JN := fun (x : Weather) (X : Int) (h1 : climateOk c = true) (h2 : weatherOk c x = true) (h3 : heightB h = true) (h4 : inB f 0 2000 = true) (h5 : 0 ≤ X) (h6 : X ≤ 1000000000000) w => law_next c x h f X w h1 h2 h3 h4 h5 h6
  have HM := fun (hq : allowV c l days = true) (h1 : inB f c.flo c.fhi = true) (h2 : 0 ≤ X) (h3 : days.length ≤ 120) => bounded_math (h := h) hq h1 h2 h3
  obtain ⟨av, hav⟩ : ∃ z, allowV c l days = z := ⟨_, rfl⟩
  obtain ⟨ae, hae⟩ : ∃ z, allowE c l days = z := ⟨_, rfl⟩
  simp only [hav, hae] at J2 HM
  clear hav hae
  (try unfold Climate.v at *)
  (try unfold Weather.v at *)
  replace J2 := hide J2
  replace J4 := hide J4
  replace JN := hide JN
  replace HM := hide HM
  replace hd := hide hd
  replace ha := hide ha
  replace hA := hide hA
  replace hp := hide hp
  (try unfold Climate.v at *)
  (try unfold Weather.v at *)
  go_enter Tryz.func9, Tryz.ntmps9
  have B0 : Below w.heap.size w w := Below.refl _ _
  go_wp2_with fail
  obtain ⟨w1, hw1⟩ : ∃ w1, w1 = (w.alloc (.cells #[I c.base, I c.lapse, I c.swing, I c.wettest, I c.coldest, I c.warmest, I c.flo, I c.fhi] 25)) := ⟨_, rfl⟩
  have kC : Blk w1 (w.heap.size) 25 #[I c.base, I c.lapse, I c.swing, I c.wettest, I c.coldest, I c.warmest, I c.flo, I c.fhi] := by
    rw [hw1]
    have h := Blk.new w 25 #[I c.base, I c.lapse, I c.swing, I c.wettest, I c.coldest, I c.warmest, I c.flo, I c.fhi]
    first | exact h | simpa only [World.size_alloc] using h
  have B1 : Below w.heap.size w w1 := by rw [hw1]; exact bup B0 (below1 _ _)
  rw [← hw1]
  clear hw1 B0
  obtain ⟨bC, hbC⟩ : ∃ b, w.heap.size = b := ⟨_, rfl⟩
  rw [hbC] at kC ⊢
  replace kC := hide kC
  clear hbC
  go_at_call 22
  refine (law_sane w1 (hp.out.mono B1)).mono ?_
  rintro e w2 ⟨rfl, hb⟩
  replace kC := hide (kC.out.grow hb)
  have B2 := bup B1 hb
  clear hb B1
  obtain ⟨rC0, rC1, rC2, rC3, rC4, rC5, rC6, rC7⟩ := kC.out.cells8
  have zC : bC < w2.heap.size := kC.out.lt
  cases g1 : decide ((60 : Int) < l.length)
  case true => (go_wp2_with fail; go_ret; exact ⟨rfl, B2⟩)
  cases g2 : decide ((120 : Int) < days.length)
  case true => (go_wp2_with fail; go_ret; exact ⟨rfl, B2⟩)
  cases g3 : inB f c.flo c.fhi
  case false => rw [g3] at JF; replace JF := hide JF; clear g3; (go_wp2_with (first | (go_at_call 51; refine (JF.out _).mono ?_; rintro e wz ⟨rfl, hbz⟩)); go_ret; exact ⟨rfl, bup B2 hbz⟩)
  rw [g3] at JF
  replace JF := hide JF
  replace g3 := hide g3
  rcases ilt X 0 with g4 | g4
  case inl => (go_wp2_with (first | (go_at_call 51; refine (JF.out _).mono ?_; rintro e wz ⟨rfl, hbz⟩)); go_ret; exact ⟨rfl, bup B2 hbz⟩)
  rcases ilt 1073741824 X with g5 | g5
  case inl => (go_wp2_with (first | (go_at_call 51; refine (JF.out _).mono ?_; rintro e wz ⟨rfl, hbz⟩)); go_ret; exact ⟨rfl, bup B2 hbz⟩)
  have hn120 : days.length ≤ 120 := by simp at g2; omega
  go_wp2_with (go_at_call 51; refine (JF.out _).mono ?_; rintro e wz ⟨rfl, hbz⟩; obtain ⟨tC0, tC1, tC2, tC3, tC4, tC5, tC6, tC7⟩ := (kC.out.grow hbz).cells8; have tC := (kC.out.grow hbz).lt)
  replace kC := hide (kC.out.grow hbz)
  have BW := bup B2 hbz
  clear B2 hbz tC0 tC1 tC2 tC3 tC4 tC5 tC6 tC7 tC rC0 rC1 rC2 rC3 rC4 rC5 rC6 rC7 zC
  go_at_call 40
  refine (J2.out wz BW).mono ?_
  rintro e w3 ⟨rfl, hb⟩
  replace kC := hide (kC.out.grow hb)
  have B3 := bup BW hb
  clear hb BW
  cases hB : av
  case false =>
    by_cases e2 : ae = 0
    · (subst e2; go_wp2_with fail; go_ret; exact ⟨rfl, B3⟩)
    · have e3 : (ae != 0) = true := by simpa using e2
      (go_wp2_with fail; go_ret; exact ⟨rfl, B3⟩)
  obtain ⟨h0, h1, h2, h3, h4, h5⟩ := HM.out hB g3.out g4 hn120
  subst h0
  obtain ⟨x0, hx0⟩ := getElem?_of_lt (xs := days) (k := 0) (by omega)
  obtain ⟨⟨d1, d2⟩, m1, m2⟩ := h5 x0 hx0
  obtain ⟨bx, ox, rfl, hbx⟩ := hA.out 0 (by omega)
  obtain ⟨hzx, e0, e1, e2⟩ := (hd.out.mono B3).weather_at hx0
  rw [Nat.zero_mul, Nat.add_zero] at e0 e1 e2
  obtain ⟨n, hn⟩ : ∃ n, days.length = n := ⟨_, rfl⟩
  have JC := J4.out x0.day (x0.day + days.length)
  obtain ⟨E, hE⟩ : ∃ E, changeE c l h x0.day (x0.day + days.length) = E := ⟨_, rfl⟩
  obtain ⟨V, hV⟩ : ∃ V, changeV c l h x0.day (x0.day + days.length) = V := ⟨_, rfl⟩
  rw [hE, hV] at JC
  simp only [hE, hV] at m1 m2
  clear hE hV h5 J4 HM J2
  obtain ⟨y, z⟩ := V
  simp only at JC m2
  have k1 : IntKind.i64.wrap (x0.day + (days.length : Int)) = x0.day + (days.length : Int) := IntWalk.i64_in _ (by omega)
  have k2 : ((days.length : Int) == 0) = false := beq_eq_false_iff_ne.2 (by omega)
  have k3 : decide ((days.length : Int) = 0) = false := decide_eq_false (by omega)
  replace JC := hide JC
  replace m1 := hide m1
  replace m2 := hide m2
  replace h4 := hide h4
  replace hx0 := hide hx0
  replace hn := hide hn
  obtain ⟨rC0, rC1, rC2, rC3, rC4, rC5, rC6, rC7⟩ := kC.out.cells8
  have zC : bC < w3.heap.size := kC.out.lt
  go_wp2_with fail
  clear rC0 rC1 rC2 rC3 rC4 rC5 rC6 rC7 zC e0 e1 e2 k2 k3
  go_at_call 52
  refine (JC.out w3 B3).mono ?_
  rintro e w4 ⟨rfl, hb⟩
  replace kC := hide (kC.out.grow hb)
  have B4 := bup B3 hb
  clear hb B3
  by_cases hE : E = 0
  case neg =>
    have h8 := m1.out hE
    subst h8
    go_wp2_with fail
    go_ret
    exact ⟨rfl, bup B4 (below1 _ _)⟩
  case pos =>
  subst hE
  obtain ⟨hh, ml, mh⟩ := m2.out rfl
  replace ml := hide ml
  replace mh := hide mh
  clear m1 m2 JC
  obtain ⟨rC0, rC1, rC2, rC3, rC4, rC5, rC6, rC7⟩ := kC.out.cells8
  have zC : bC < w4.heap.size := kC.out.lt
  have zC_1 : bC < w4.heap.size + 1 := by omega
  go_wp2_with fail
  clear rC0 rC1 rC2 rC3 rC4 rC5 rC6 rC7 zC zC_1
  obtain ⟨w5, hw5⟩ : ∃ w5, w5 = (w4.alloc (.cells #[I y, I z] 23)) := ⟨_, rfl⟩
  have kY : Blk w5 (w4.heap.size) 23 #[I y, I z] := by
    rw [hw5]
    have h := Blk.new w4 23 #[I y, I z]
    first | exact h | simpa only [World.size_alloc] using h
  replace kC : Hid (Blk w5 bC 25 #[I c.base, I c.lapse, I c.swing, I c.wettest, I c.coldest, I c.warmest, I c.flo, I c.fhi]) := hide (by rw [hw5]; exact (kC.out).alloc _)
  have B5 : Below w.heap.size w w5 := by rw [hw5]; exact bup B4 (below1 _ _)
  rw [← hw5]
  clear hw5 B4
  obtain ⟨bY, hbY⟩ : ∃ b, w4.heap.size = b := ⟨_, rfl⟩
  rw [hbY] at kY ⊢
  replace kY := hide kY
  clear hbY
  go_loopw [17, 18, 20, 87] (fun nw ok _ i wr => ∃ (k : Nat) (Z : Int), k ≤ days.length ∧ i = I k ∧ nw = I Z ∧ ok = .bool true ∧ Hid ((days.take k).foldl (stepF c h f) X = Z) ∧ 0 ≤ Z ∧ Z ≤ 1073741824 + 1000 * k ∧ Hid (Blk wr bC 25 #[I c.base, I c.lapse, I c.swing, I c.wettest, I c.coldest, I c.warmest, I c.flo, I c.fhi]) ∧ Hid (Blk wr bY 23 #[I y, I z]) ∧ Hid (Below w.heap.size w wr)) (fun _ _ _ i _ => days.length - (intOf i).toNat)
  case atStart => exact ⟨0, X, Nat.zero_le _, rfl, rfl, rfl, hide rfl, g4, by omega, kC, kY, hide B5⟩
  case round =>
  obtain ⟨k, Z, hk, rfl, rfl, rfl, hZ, z0, z1, hC9, hY9, hbw⟩ := hrel
  clear kC kY B5
  have kC := hC9
  have kY := hY9
  have BM := hbw.out
  clear hC9 hY9 hbw
  by_cases hlt : k < days.length
  case neg =>
    have he : k = days.length := by omega
    subst he
    have hz := hZ.out
    rw [List.take_length] at hz
    have p1 := ml.out
    have p2 := mh.out
    rw [hz] at p1 p2
    clear hz hZ
    have q1 : IntKind.i64.wrap (Z - X) = Z - X := IntWalk.i64_in _ (by omega)
    obtain ⟨rY0, rY1⟩ := kY.out.cells2
    have zY := kY.out.lt
    rcases ilt (Z - X) y with u1 | u1
    · have u2 : y = -65536 := by omega
      subst u2
      rcases ilt z (Z - X) with u3 | u3
      · omega
      · (go_wp2_with fail; go_ret; exact ⟨rfl, BM⟩)
    · rcases ilt z (Z - X) with u3 | u3
      · have u4 : z = 65536 := by omega
        subst u4
        (go_wp2_with fail; go_ret; exact ⟨rfl, BM⟩)
      · (go_wp2_with fail; go_ret; exact ⟨rfl, BM⟩)
  case pos =>
  obtain ⟨x, hx⟩ := getElem?_of_lt hlt
  have hw := h4.out x (List.mem_of_getElem? hx)
  have hsn := step_snoc (c := c) (h := h) (f := f) (X := X) hx
  rw [hZ.out] at hsn
  have hst : 0 ≤ stepF c h f Z x ∧ stepF c h f Z x ≤ Z + 1000 := by
    have hco := ClimOk.of h2
    have hxo := WeaOk.of hw
    have m2 := (meltF_bd hco (hxo.t600 hco) (heightB_bd hh) (inB_true.1 h3)).2.1
    have f4 : 0 ≤ (fallF c x h).1 ∧ (fallF c x h).1 ≤ 1000 := by
      have hr := hxo.rain
      have hw := hco.wettest
      unfold fallF
      split <;> simp <;> omega
    unfold stepF
    omega
  obtain ⟨t1, t2⟩ := hst
  have JX := JN.out x Z h2 hw hh h3 z0 (by omega)
  obtain ⟨Z2, hZ2⟩ : ∃ Z2, stepF c h f Z x = Z2 := ⟨_, rfl⟩
  rw [hZ2] at JX hsn t1 t2
  clear hZ2 hZ
  obtain ⟨hzx, e0, e1, e2⟩ := (hd.out.mono BM).weather_at hx
  replace JX := hide JX
  replace hsn := hide hsn
  replace hx := hide hx
  replace hw := hide hw
  clear JN h4 ml mh
  obtain ⟨rC0, rC1, rC2, rC3, rC4, rC5, rC6, rC7⟩ := kC.out.cells8
  have zC : bC < wr.heap.size := kC.out.lt
  have zC_1 : bC < wr.heap.size + 1 := by omega
  go_wp2_with fail
  clear rC0 rC1 rC2 rC3 rC4 rC5 rC6 rC7 zC zC_1
  have hq1 := below1 wr (.cells #[I x.day, I x.temp, I x.rain] 36)
  go_at_call 53
  refine (JX.out _).mono ?_
  rintro e wq ⟨rfl, hb⟩
  replace hb := bup hq1 hb
  go_wp2_with fail
  go_roundw
  case rel => exact ⟨k + 1, Z2, by omega, by go_num, rfl, rfl, hsn, t1, by push_cast; omega, hide (kC.out.grow hb), hide (kY.out.grow hb), hide (bup BM hb)⟩
  case measure => simp [intOf]; omega
end Go.Proofs.YtmjfdobjnnfafaaGreatDoor
