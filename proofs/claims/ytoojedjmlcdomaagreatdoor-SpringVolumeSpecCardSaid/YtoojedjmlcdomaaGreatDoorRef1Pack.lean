/- The reference of chapter 6: its small functions. Conditions stand in the theorems. -/
import Derived.Test.YtoojedjmlcdomaaGreatDoorSpring2Pack
set_option linter.all false
set_option maxHeartbeats 4000000
set_option maxRecDepth 100000
namespace Go.Proofs.YtoojedjmlcdomaaGreatDoor
open Go.RowKit

theorem ref_within (n lo hi : Int) (w : World) : Calls Tryz.prog 77 #[I n, I lo, I hi] w fun e w' => e = .returned (.bool (inB n lo hi)) ∧ w = w' := by
 by_cases h : lo ≤ n
 ·go_enter Tryz.func77, Tryz.ntmps77
  go_wp2
  go_ret
  exact ⟨by simp [inB, h], rfl⟩
 ·go_enter Tryz.func77, Tryz.ntmps77
  go_wp2
  go_ret
  exact ⟨ret_bool (by simp only [inB]; symm; simp; omega), rfl⟩
theorem climateOk_iff {c : Climate} : climateOk c = true ↔ (inB c.base 0 9000 = true ∧ inB c.lapse 0 20 = true ∧ inB c.swing 0 600 = true ∧ inB c.wettest 0 1000 = true) ∧ (-600 ≤ c.coldest ∧ c.coldest ≤ c.warmest ∧ c.warmest ≤ 600) ∧ (0 ≤ c.flo ∧ c.flo ≤ c.fhi ∧ c.fhi ≤ 2000 ∧ c.fhi - c.flo ≤ 50) := by
 simp only [climateOk, Bool.and_eq_true, inB_true]
 omega
theorem climateE_no {c : Climate} (h : ¬ ((inB c.base 0 9000 = true ∧ inB c.lapse 0 20 = true ∧ inB c.swing 0 600 = true ∧ inB c.wettest 0 1000 = true) ∧ (-600 ≤ c.coldest ∧ c.coldest ≤ c.warmest ∧ c.warmest ≤ 600) ∧ (0 ≤ c.flo ∧ c.flo ≤ c.fhi ∧ c.fhi ≤ 2000 ∧ c.fhi - c.flo ≤ 50))) : 61 = climateE c := by
 unfold climateE
 rw [if_neg fun g => h (climateOk_iff.1 g)]
theorem ref_CheckClimate (c : Climate) (w : World) : Calls Tryz.prog 55 #[c.v] w fun e w' => e = .returned (I (climateE c)) ∧ Below w.heap.size w w' := by
 obtain ⟨z, kw⟩ : ∃ z, IntKind.i64.wrap (c.fhi - c.flo) = z := ⟨_, rfl⟩
 have kz : 0 ≤ c.flo → c.flo ≤ c.fhi → c.fhi ≤ 2000 → z = c.fhi - c.flo := fun h1 h2 h3 => by rw [← kw]; exact IntWalk.i64_in _ (by omega)
 replace kz := hide kz
 unfold Climate.v
 go_enter Tryz.func55, Tryz.ntmps55
 go_wp2_with (first | (go_at_call 77; refine (ref_within _ _ _ _).mono ?_; rintro e w' ⟨rfl, rfl⟩))
 all_goals (go_ret; refine ⟨ret_int ?_, below1 _ _⟩)
 all_goals replace kz := kz.out
 all_goals clear kw
 all_goals first
  | (refine climateE_no fun g => ?_; obtain ⟨⟨g1, g2, g3, g4⟩, ⟨g5, g6, g7⟩, g8, g9, g10, g11⟩ := g; have kz1 := kz g8 g9 g10; subst kz1; clear kz; simp_all <;> omega)
  | (have q1 : 0 ≤ c.flo := by simp_all
     have q2 : c.flo ≤ c.fhi := by simp_all
     have q3 : c.fhi ≤ 2000 := by simp_all
     have kz1 := kz q1 q2 q3
     subst kz1
     clear kz
     unfold climateE
     rw [if_pos (climateOk_iff.2 ?_)]
     simp_all <;> omega)
theorem ref_valid (c : Climate) (x : Weather) (w : World) : Calls Tryz.prog 167 #[c.v, x.v] w fun e w' => e = .returned (.bool (weatherOk c x)) ∧ Below w.heap.size w w' := by
 unfold Climate.v Weather.v
 go_enter Tryz.func167, Tryz.ntmps167
 go_wp2_with (first | (go_at_call 77; refine (ref_within _ _ _ _).mono ?_; rintro e w' ⟨rfl, rfl⟩))
 all_goals (go_ret; exact ⟨ret_bool (by simp_all [weatherOk]), below2 _ _ _⟩)
theorem ref_apart (a b : Int) (w : World) (h0 : -1000000000 ≤ a - b) (h1 : a - b ≤ 1000000000) : Calls Tryz.prog 198 #[I a, I b] w fun e w' => e = .returned (I (sizeF (a - b))) ∧ w = w' := by
 have k1 : IntKind.i64.wrap (a - b) = a - b := IntWalk.i64_in _ (by omega)
 have k2 : IntKind.i64.wrap (b - a) = b - a := IntWalk.i64_in _ (by omega)
 rcases ilt (a - b) (b - a) with h | h
 ·go_enter Tryz.func198, Tryz.ntmps198
  go_wp2
  go_ret
  exact ⟨ret_int (by unfold sizeF; omega), rfl⟩
 ·go_enter Tryz.func198, Tryz.ntmps198
  go_wp2
  go_ret
  exact ⟨ret_int (by unfold sizeF; omega), rfl⟩
theorem ref_near (c : Climate) (x y : Weather) (w : World) (hc : ClimOk c) (hx : WeaOk c x) (hy : WeaOk c y) : Calls Tryz.prog 168 #[c.v, x.v, y.v] w fun e w' => e = .returned (.bool (nearB c x y)) ∧ Below w.heap.size w w' := by
 obtain ⟨q1, q2⟩ := hc.swing
 have q3 := hc.cold
 have q4 := hc.warm
 obtain ⟨x1, x2⟩ := hx.day
 obtain ⟨x3, x4⟩ := hx.temp
 obtain ⟨y1, y2⟩ := hy.day
 obtain ⟨y3, y4⟩ := hy.temp
 have hs := sizeF_bd (n := x.day - y.day) (B := 1048576) (by omega) (by omega)
 have m0 : 0 ≤ c.swing * sizeF (x.day - y.day) := Int.mul_nonneg q1 hs.1
 have m1 : c.swing * sizeF (x.day - y.day) ≤ 600 * 1048576 := Int.mul_le_mul q2 hs.2 hs.1 (by omega)
 have hfin : nearB c x y = decide (sizeF (x.temp - y.temp) ≤ c.swing * sizeF (x.day - y.day)) := rfl
 rw [hfin]
 have k3 : IntKind.i64.wrap (c.swing * sizeF (x.day - y.day)) = c.swing * sizeF (x.day - y.day) := IntWalk.i64_in _ (by omega)
 obtain ⟨xd, xt, xr⟩ := x
 obtain ⟨yd, yt, yr⟩ := y
 dsimp only at *
 clear m0 m1 hs hfin hx hy
 unfold Climate.v Weather.v
 go_enter Tryz.func168, Tryz.ntmps168
 go_wp2_with fail
 go_quiet ((go_at_call 198; exact Calls.quiet_of_same ((ref_apart _ _ _ (by omega) (by omega)).mono fun _ _ h => ⟨h.1, h.2.symm⟩)))
 go_wp2_with fail
 go_ret
 exact ⟨rfl, below_drewN (below3 _ _ _ _) _⟩
theorem ref_down (n : Int) (w : World) (h0 : -1000000000 ≤ n) (h1 : n ≤ 1000000000) : Calls Tryz.prog 238 #[I n, I 100] w fun e w' => e = .returned (I (n / 100)) ∧ w = w' := by
 rcases ilt n 0 with hn | hn
 ·have k1 : IntKind.i64.wrap (-n) = -n := IntWalk.i64_in _ (by omega)
  have k2 : IntKind.i64.wrap (-n + 100) = -n + 100 := IntWalk.i64_in _ (by omega)
  have k3 : IntKind.i64.wrap (-n + 100 - 1) = -n + 100 - 1 := IntWalk.i64_in _ (by omega)
  have k4 : (-n + 100 - 1).tdiv 100 = (-n + 100 - 1) / 100 := Int.tdiv_eq_ediv_of_nonneg (by omega)
  have k5 : IntKind.i64.wrap (-((-n + 100 - 1) / 100)) = -((-n + 100 - 1) / 100) := IntWalk.i64_in _ (by omega)
  have hfin := hide (show -((-n + 100 - 1) / 100) = n / 100 by omega)
  rw [← k4] at hfin k5
  obtain ⟨q, hq⟩ : ∃ q, (-n + 100 - 1).tdiv 100 = q := ⟨_, rfl⟩
  rw [hq] at hfin k5
  have hqb : -100000000 ≤ q ∧ q ≤ 100000000 := by rw [← hq, k4]; omega
  clear k4
  go_enter Tryz.func238, Tryz.ntmps238
  go_wp2_with fail
  go_ret
  exact ⟨ret_int (by first | exact hfin.out | (rw [hq]; exact hfin.out)), rfl⟩
 ·have ht : n.tdiv 100 = n / 100 := Int.tdiv_eq_ediv_of_nonneg hn
  obtain ⟨q, hq⟩ : ∃ q, n.tdiv 100 = q := ⟨_, rfl⟩
  have hfin := hide (show q = n / 100 by rw [← hq, ht])
  have kq : IntKind.i64.wrap q = q := IntWalk.i64_in _ (by rw [← hq, ht]; omega)
  clear ht
  go_enter Tryz.func238, Tryz.ntmps238
  go_wp2_with fail
  go_ret
  exact ⟨ret_int (by first | exact hfin.out | (rw [hq]; exact hfin.out)), rfl⟩
theorem ref_at (c : Climate) (t h : Int) (w : World) (hc : ClimOk c) (ht : -600 ≤ t ∧ t ≤ 600) (hh : 0 ≤ h ∧ h ≤ 9000) : Calls Tryz.prog 224 #[c.v, I t, I h] w fun e w' => e = .returned (I (atF c t h)) ∧ Below w.heap.size w w' := by
 obtain ⟨⟨b1, b2⟩, b3, b4⟩ := atF_bd hc ht hh
 obtain ⟨h1, h2⟩ := ht
 obtain ⟨h3, h4⟩ := hh
 obtain ⟨h5, h6⟩ := hc.base
 have k1 : IntKind.i64.wrap (h - c.base) = h - c.base := IntWalk.i64_in _ (by omega)
 have k2 : IntKind.i64.wrap (c.lapse * (h - c.base)) = c.lapse * (h - c.base) := IntWalk.i64_in _ (by omega)
 have k3 : IntKind.i64.wrap (t - c.lapse * (h - c.base) / 100) = t - c.lapse * (h - c.base) / 100 := IntWalk.i64_in _ (by unfold atF at b3 b4; omega)
 unfold atF at b3 b4
 have H := fun (w : World) => ref_down (c.lapse * (h - c.base)) w (by omega) (by omega)
 replace H := hide H
 unfold Climate.v
 go_enter Tryz.func224, Tryz.ntmps224
 go_wp2_with (first | (go_at_call 238; refine (H.out _).mono ?_; rintro e w' ⟨rfl, rfl⟩))
 go_ret
 exact ⟨rfl, below1 _ _⟩
theorem ref_falls (c : Climate) (x : Weather) (h : Int) (w : World) (hc : ClimOk c) (ht : -600 ≤ x.temp ∧ x.temp ≤ 600) (hh : 0 ≤ h ∧ h ≤ 9000) : Calls Tryz.prog 208 #[c.v, x.v, I h] w fun e w' => e = .returned (.tuple #[I (fallF c x h).1, I (fallF c x h).2]) ∧ Below w.heap.size w w' := by
 have H := fun w => ref_at c x.temp h w hc ht hh
 rcases ilt 0 (atF c x.temp h) with g | g
 ·rw [fallF_gt g]
  generalize atF c x.temp h = a at H g
  unfold Climate.v Weather.v at *
  replace H := hide H
  go_enter Tryz.func208, Tryz.ntmps208
  go_wp2_with (go_at_call 224; refine (H.out _).mono ?_; rintro e w1 ⟨rfl, hb1⟩; have hc1 := fun o => (bcell hb1).1 (w.heap.size + 1) o (by simp <;> omega))
  go_quiet (fail)
  go_wp2_with fail
  go_ret2
  exact ⟨rfl, below_drewN (bup (below2 _ _ _) hb1) _⟩
 ·rw [fallF_le g]
  generalize atF c x.temp h = a at H g
  unfold Climate.v Weather.v at *
  replace H := hide H
  go_enter Tryz.func208, Tryz.ntmps208
  go_wp2_with (go_at_call 224; refine (H.out _).mono ?_; rintro e w1 ⟨rfl, hb1⟩; have hc1 := fun o => (bcell hb1).1 (w.heap.size + 1) o (by simp <;> omega))
  go_ret2
  exact ⟨rfl, bup (below2 _ _ _) hb1⟩
theorem ref_melts (c : Climate) (x : Weather) (h f : Int) (w : World) (hc : ClimOk c) (ht : -600 ≤ x.temp ∧ x.temp ≤ 600) (hh : 0 ≤ h ∧ h ≤ 9000) (hf : 0 ≤ f ∧ f ≤ 2000) : Calls Tryz.prog 209 #[c.v, x.v, I h, I f] w fun e w' => e = .returned (I (meltF c x h f)) ∧ Below w.heap.size w w' := by
 have H := fun w => ref_at c x.temp h w hc ht hh
 obtain ⟨hb, hb2⟩ := meltF_bd hc ht hh hf
 have hfin := hide (show (f * max 0 (atF c x.temp h)).tdiv 1000 = meltF c x h f from Int.tdiv_eq_ediv_of_nonneg hb.1)
 have k1 : IntKind.i64.wrap (f * max 0 (atF c x.temp h)) = f * max 0 (atF c x.temp h) := IntWalk.i64_in _ (by omega)
 generalize atF c x.temp h = a at *
 clear hb
 rcases ilt 0 a with g | g
 ·rw [show max 0 a = a by omega] at hfin k1
  obtain ⟨q, hq⟩ : ∃ q, (f * a).tdiv 1000 = q := ⟨_, rfl⟩
  rw [hq] at hfin
  have kq : IntKind.i64.wrap q = q := IntWalk.i64_in _ (by rw [hfin.out]; omega)
  unfold Climate.v Weather.v at *
  replace H := hide H
  go_enter Tryz.func209, Tryz.ntmps209
  go_wp2_with (first | (go_at_call 224; refine (H.out _).mono ?_; rintro e w1 ⟨rfl, hb1⟩))
  go_ret
  exact ⟨ret_int (by first | exact hfin.out | (rw [hq]; exact hfin.out)), bup (below2 _ _ _) hb1⟩
 ·rw [show max 0 a = 0 by omega, Int.mul_zero] at hfin k1
  unfold Climate.v Weather.v at *
  replace H := hide H
  go_enter Tryz.func209, Tryz.ntmps209
  go_wp2_with (first | (go_at_call 224; refine (H.out _).mono ?_; rintro e w1 ⟨rfl, hb1⟩))
  go_ret
  exact ⟨ret_int (by first | exact hfin.out | (rw [← hfin.out]; simp)), bup (below2 _ _ _) hb1⟩

theorem bcase (b : Bool) : b = false ∨ b = true := by cases b <;> simp

def seqAt (c : Climate) (l : List Weather) (i : Nat) : Bool := weatherOk c (l.getD i default) && (i == 0 || nearB c (l.getD (i - 1) default) (l.getD i default))
def seqB (c : Climate) (l : List Weather) : Bool := (List.range l.length).all (seqAt c l)
theorem seqAt_head {c : Climate} {l : List Weather} {k : Nat} {x : Weather} (hx : l[k]? = some x) (h : weatherOk c x = false) : seqAt c l k = false := by simp [seqAt, hx, h]
theorem seqAt_zero {c : Climate} {l : List Weather} {x : Weather} (hx : l[0]? = some x) (h : weatherOk c x = true) : seqAt c l 0 = true := by simp [seqAt, hx, h]
theorem seqAt_pos {c : Climate} {l : List Weather} {k : Nat} {x y : Weather} (hk : 0 < k) (hx : l[k]? = some x) (hy : l[k - 1]? = some y) (h : weatherOk c x = true) : seqAt c l k = nearB c y x := by
 have : (k == 0) = false := by simp; omega
 simp [seqAt, hx, hy, h, this]
theorem seqAt_ok {c : Climate} {l : List Weather} {k : Nat} {x : Weather} (hx : l[k]? = some x) (h : seqAt c l k = true) : weatherOk c x = true := by
 simp only [seqAt, getD_of hx, Bool.and_eq_true] at h; exact h.1
def succRAt (l : List Weather) (i : Nat) : Bool := inB (l.getD i default).day 0 1048576 && (i == 0 || decide ((l.getD (i - 1) default).day + 1 = (l.getD i default).day))
theorem succRAt_pos {l : List Weather} {k : Nat} {x y : Weather} (hk : 0 < k) (hx : l[k]? = some x) (hy : l[k - 1]? = some y) : succRAt l k = (inB x.day 0 1048576 && decide (y.day + 1 = x.day)) := by
 have : (k == 0) = false := by simp; omega
 simp [succRAt, hx, hy, this]
theorem succRAt_zero {l : List Weather} {x : Weather} (hx : l[0]? = some x) : succRAt l 0 = inB x.day 0 1048576 := by simp [succRAt, hx]
theorem succR_to {l : List Weather} {n : Nat} (hn : n ≤ l.length) : AllTo (succRAt l) n ↔ AllTo (succAt l) n := by
 induction n with
 | zero => exact ⟨fun _ => AllTo.zero _, fun _ => AllTo.zero _⟩
 | succ k ih =>
  obtain ⟨x, hx⟩ := getElem?_of_lt (xs := l) (k := k) (by omega)
  obtain ⟨z, hz⟩ := getElem?_of_lt (xs := l) (k := 0) (by omega)
  have h0 := succAt_of hx hz
  have key : AllTo (succAt l) k → (succRAt l k = succAt l k) := fun ha => by
   rcases Nat.lt_or_ge 0 k with hk | hk
   ·obtain ⟨y, hy⟩ := getElem?_of_lt (xs := l) (k := k - 1) (by omega)
    have h1 := ha (k - 1) (by omega)
    rw [succAt_of hy hz] at h1
    simp only [Bool.and_eq_true, decide_eq_true_eq] at h1
    rw [succRAt_pos hk hx hy, h0]
    congr 1
    apply decide_eq_decide.2
    omega
   ·have : k = 0 := by omega
    subst this
    have hxz : x = z := Option.some.inj (hx.symm.trans hz)
    subst hxz
    rw [succRAt_zero hx, h0]
    simp
  constructor
  ·intro ha i hi
   have ha' : AllTo (succAt l) k := (ih (by omega)).1 fun j hj => ha j (by omega)
   rcases Nat.lt_or_ge i k with h | h
   ·exact ha' i h
   ·have : i = k := by omega
    subst this
    rw [← key ha']
    exact ha i (by omega)
  ·intro ha i hi
   have ha' : AllTo (succAt l) k := fun j hj => ha j (by omega)
   rcases Nat.lt_or_ge i k with h | h
   ·exact (ih (by omega)).2 ha' i h
   ·have : i = k := by omega
    subst this
    rw [key ha']
    exact ha i (by omega)
theorem succB_R {l : List Weather} : succB l = (List.range l.length).all (succRAt l) := by
 have h := succR_to (l := l) (n := l.length) (Nat.le_refl _)
 cases h1 : succB l with
 | true =>
  symm
  exact AllTo.all (h.2 fun i hi => List.all_eq_true.1 h1 i (List.mem_range.2 hi))
 | false =>
  cases h2 : (List.range l.length).all (succRAt l) with
  | false => rfl
  | true =>
   have : succB l = true := AllTo.all (h.1 fun i hi => List.all_eq_true.1 h2 i (List.mem_range.2 hi))
   rw [h1] at this
   cases this
theorem seq_linked {c : Climate} {l : List Weather} (h : succB l = true) : seqB c l = linkedB c l := by
 unfold seqB linkedB
 have hs : ∀ i, i < l.length → succRAt l i = true := fun i hi => by
  rw [succB_R] at h
  exact List.all_eq_true.1 h i (List.mem_range.2 hi)
 have key : ∀ i ∈ List.range l.length, seqAt c l i = linkedAt c l i := fun k hk => by
  have hk := List.mem_range.1 hk
  obtain ⟨x, hx⟩ := getElem?_of_lt hk
  rcases Nat.lt_or_ge 0 k with hk0 | hk0
  ·obtain ⟨y, hy⟩ := getElem?_of_lt (xs := l) (k := k - 1) (by omega)
   cases hok : weatherOk c x with
   | false => rw [seqAt_head hx hok, linkedAt_head hx hok]
   | true =>
    have := hs k hk
    rw [succRAt_pos hk0 hx hy] at this
    simp only [Bool.and_eq_true, decide_eq_true_eq] at this
    have hd : decide (y.day < x.day) = true := by simp; omega
    rw [seqAt_pos hk0 hx hy hok, linkedAt_pos hk0 hx hy hok, hd]
    simp
  ·have : k = 0 := by omega
   subst this
   cases hok : weatherOk c x with
   | false => rw [seqAt_head hx hok, linkedAt_head hx hok]
   | true => rw [seqAt_zero hx hok, linkedAt_zero hx hok]
 rw [Bool.eq_iff_iff, List.all_eq_true, List.all_eq_true]
 exact ⟨fun h i hi => (key i hi) ▸ h i hi, fun h i hi => (key i hi).symm ▸ h i hi⟩
theorem ref_sequence (c : Climate) (v : Value) (l : List Weather) (w : World) (hc : ClimOk c) (hv : Sl w 3 Weather.cells v l) : Calls Tryz.prog 116 #[c.v, v] w fun e w' => e = .returned (.bool (seqB c l)) ∧ Below w.heap.size w w' := by
 obtain ⟨A, n, rfl, _, _, hlen, hA⟩ := hv.open_
 replace hv := hide hv
 replace hA := hide hA
 have hbad : ∀ k, k < l.length → seqAt c l k = false → seqB c l = false := fun k hk h => all_of_not hk h
 replace hbad := hide hbad
 have HW := fun x w => ref_valid c x w
 have HN := fun x y hx hy w => ref_near c x y w hc hx hy
 unfold Climate.v Weather.v at *
 replace HW := hide HW
 replace HN := hide HN
 go_enter Tryz.func116, Tryz.ntmps116
 go_wp2_with fail
 obtain ⟨W0, hW0⟩ : ∃ W0, W0 = w.alloc (.cells (c8 c) 25) := ⟨_, rfl⟩
 have hK : ClimAt c w.heap.size W0 := by rw [hW0]; exact ClimAt.new _ _ _
 have hbl : Below w.heap.size w W0 := by rw [hW0]; exact below1 _ _
 rw [← hW0]
 clear hW0
 go_loopw [5] (fun i wr => ∃ k : Nat, k ≤ l.length ∧ i = I k ∧ Hid (AllTo (seqAt c l) k) ∧ Below W0.heap.size W0 wr) (fun i _ => l.length - (intOf i).toNat)
 case atStart => exact ⟨0, Nat.zero_le _, rfl, hide (AllTo.zero _), Below.refl _ _⟩
 case round =>
  obtain ⟨k, hk, rfl, hn, hb⟩ := hrel
  by_cases hlt : k < l.length
  ·obtain ⟨b, off, rfl, hbw⟩ := hA.out k hlt
   obtain ⟨x, hx⟩ := getElem?_of_lt hlt
   obtain ⟨hbx, e0, e1, e2⟩ := ((unhide hv).mono (bup hbl hb)).weather_at hx
   obtain ⟨hgx, q0, q1, q2, q3, q4, q5, q6, q7⟩ := hK.grow hb
   clear hA hK
   rcases bcase (weatherOk c x) with hok | hok
   ·have hfin := hide (hbad.out k hlt (seqAt_head hx hok))
    have H1 := HW.out x
    rw [hok] at H1
    replace H1 := hide H1
    replace hok := hide hok
    clear hbad hx hn HN HW
    go_wp2_with fail
    (refine wp_grow ?_; (repeat go_big_quiet_step ((first | (go_at_call 167; exact calls_grew (H1.out _))))); refine wp_grow0 ?_; intro W1 hW1)
    go_wp2_with fail
    go_ret
    exact ⟨ret_bool hfin.out.symm, bup (bup hbl hb) hW1⟩
   ·have H1 := HW.out x
    rw [hok] at H1
    replace H1 := hide H1
    rcases Nat.lt_or_ge 0 k with hk0 | hk0
    ·obtain ⟨y, hy⟩ := getElem?_of_lt (xs := l) (k := k - 1) (by omega)
     obtain ⟨_, p0, p1, p2⟩ := ((unhide hv).mono (bup hbl hb)).weather_at hy
     have hoky := seqAt_ok hy (hn.out (k - 1) (by omega))
     have hpos := seqAt_pos hk0 hx hy hok
     have H2 := hide (HN.out y x (.of hoky) (.of hok))
     replace hok := hide hok
     replace hoky := hide hoky
     rcases bcase (nearB c y x) with hnr | hnr
     ·have hfin := hide (hbad.out k hlt (by rw [hpos, hnr]))
      rw [hnr] at H2
      replace hnr := hide hnr
      clear hbad hx hn HN HW hy hpos
      go_wp2_with fail
      (refine wp_grow ?_; (repeat go_big_quiet_step ((first | (go_at_call 167; exact calls_grew (H1.out _)) | (go_at_call 168; exact calls_grew (H2.out _))))); refine wp_grow0 ?_; intro W1 hW1)
      go_wp2_with fail
      go_ret
      exact ⟨ret_bool hfin.out.symm, bup (bup hbl hb) hW1⟩
     ·have hg := hide (hn.out.succ (show seqAt c l k = true by rw [hpos, hnr]))
      rw [hnr] at H2
      replace hnr := hide hnr
      clear hbad hx hn HN HW hy hpos
      go_wp2_with fail
      (refine wp_grow ?_; (repeat go_big_quiet_step ((first | (go_at_call 167; exact calls_grew (H1.out _)) | (go_at_call 168; exact calls_grew (H2.out _))))); refine wp_grow0 ?_; intro W1 hW1)
      go_wp2_with fail
      go_roundw
      case rel => exact ⟨k + 1, by omega, by go_num, hg, bup hb hW1⟩
      case measure => simp [intOf]; omega
    ·have hkd : decide (0 < k) = false := by simp; omega
     have hg := hide (hn.out.succ (show seqAt c l k = true by
      have : k = 0 := by omega
      subst this; exact seqAt_zero hx hok))
     replace hok := hide hok
     clear hbad hx hn HN HW
     go_wp2_with fail
     (refine wp_grow ?_; (repeat go_big_quiet_step ((first | (go_at_call 167; exact calls_grew (H1.out _))))); refine wp_grow0 ?_; intro W1 hW1)
     go_wp2_with fail
     go_roundw
     case rel => exact ⟨k + 1, by omega, by go_num, hg, bup hb hW1⟩
     case measure => simp [intOf]; omega
  ·have he : k = l.length := by omega
   subst he
   have hfin := hide (show seqB c l = true from AllTo.all hn.out)
   clear hbad hn HN HW hK hA
   go_wp2_with fail
   go_ret
   exact ⟨ret_bool hfin.out.symm, bup hbl hb⟩

def Flag (e : Ending) : Prop := ∃ q, e = .returned (.bool q)
end Go.Proofs.YtoojedjmlcdomaaGreatDoor
