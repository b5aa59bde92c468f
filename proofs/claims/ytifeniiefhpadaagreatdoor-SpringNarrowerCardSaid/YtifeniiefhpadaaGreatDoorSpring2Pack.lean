/- The package spring: what a day does at a height. Conditions stand in the theorems. -/
import Derived.Test.YtifeniiefhpadaaGreatDoorIndexFuncPack
import Derived.Test.YtifeniiefhpadaaGreatDoorBasePack
import Derived.Deep.RegionHeld3
set_option linter.all false
set_option maxHeartbeats 2000000
set_option maxRecDepth 100000
namespace Go.Proofs.YtifeniiefhpadaaGreatDoor
open Go.RowKit

abbrev ClimAt (c : Climate) (g : Nat) (W : World) : Prop := g < W.heap.size ∧ W.cell? ⟨g, 0, none⟩ = some (I c.base) ∧ W.cell? ⟨g, 1, none⟩ = some (I c.lapse) ∧ W.cell? ⟨g, 2, none⟩ = some (I c.swing) ∧ W.cell? ⟨g, 3, none⟩ = some (I c.wettest) ∧
 W.cell? ⟨g, 4, none⟩ = some (I c.coldest) ∧ W.cell? ⟨g, 5, none⟩ = some (I c.warmest) ∧ W.cell? ⟨g, 6, none⟩ = some (I c.flo) ∧ W.cell? ⟨g, 7, none⟩ = some (I c.fhi)
theorem ClimAt.grow {c : Climate} {g : Nat} {W W' : World} (h : ClimAt c g W) (hb : Below W.heap.size W W') : ClimAt c g W' := by
 obtain ⟨h, h0, h1, h2, h3, h4, h5, h6, h7⟩ := h
 have hc := (bcell hb).1
 exact ⟨Nat.lt_of_lt_of_le h hb.size, (hc _ _ h).trans h0, (hc _ _ h).trans h1, (hc _ _ h).trans h2, (hc _ _ h).trans h3, (hc _ _ h).trans h4, (hc _ _ h).trans h5, (hc _ _ h).trans h6, (hc _ _ h).trans h7⟩
theorem ClimAt.new (c : Climate) (w : World) (t : TypeId) : ClimAt c w.heap.size (w.alloc (.cells (c8 c) t)) := by
 have h := Blk.new w t (c8 c)
 exact ⟨h.lt, h.cell 0, h.cell 1, h.cell 2, h.cell 3, h.cell 4, h.cell 5, h.cell 6, h.cell 7⟩
theorem below_drew' {W W' : World} (h : Below W.drew.heap.size W.drew W') : Below W.heap.size W W' := (below_drewN (Below.refl _ W) 1).trans h
theorem sl_lit {α : Type} {W : World} {g : Nat} {t : TypeId} {cs : Array Value} {enc : α → List Value} {xs : List α} (hb : Blk W g t cs) (h : cs.toList = xs.flatMap enc) (k : Nat) (hlen : ∀ x, (enc x).length = k) (hn : xs.length ≤ 1000) :
  Sl W k enc (.slice (some ⟨g, 0, none⟩) xs.length xs.length) xs := by
 refine ⟨_, _, rfl, Nat.le_refl _, ⟨by unfold maxLen; omega, by omega⟩, fun _ => ⟨_, 0, rfl, hb.lt, fun i x hx j u hu => ?_⟩⟩
 have h1 := flat_at hlen xs i x hx j u hu
 have h2 := hb.cell (i * k + j)
 rw [Nat.zero_add, h2, ← h1, ← h]
 simp
theorem spring_asked_lit (c : Climate) (xs : List Bool) (w : World) (g : Nat) (hg : Blk w g 4 (xs.map Value.bool).toArray) (hn : xs.length ≤ 1000) : Calls Tryz.prog 44 #[.agg (c8 c), .slice (some ⟨g, 0, none⟩) xs.length xs.length] w fun e w' => e = .returned (I (askedE c xs)) ∧ Below w.heap.size w w' :=
 spring_asked c _ xs w (sl_lit hg (by simp [flat_bool]) 1 boolC_len hn)

theorem asked_cases (c : Climate) (xs : List Bool) : (askedE c xs = 0 ∧ climateOk c = true ∧ xs.all id = true) ∨ (askedE c xs ≠ 0 ∧ (climateOk c = false ∨ xs.all id = false)) := by
 unfold askedE
 cases h1 : climateOk c with
 | false => exact .inr ⟨by simp, .inl rfl⟩
 | true =>
  cases h2 : xs.any (fun x => x == false) with
  | true =>
   refine .inr ⟨by simp, .inr ?_⟩
   rw [List.any_eq_true] at h2
   obtain ⟨x, hx, hx2⟩ := h2
   rw [List.all_eq_false]
   exact ⟨x, hx, by simpa using hx2⟩
  | false =>
   refine .inl ⟨by simp, rfl, ?_⟩
   rw [List.any_eq_false] at h2
   rw [List.all_eq_true]
   intro x hx
   have := h2 x hx
   simpa using this
theorem tempB_bd {t : Int} (h : tempB t = true) : -600 ≤ t ∧ t ≤ 600 := inB_true.1 h
theorem heightB_bd {t : Int} (h : heightB t = true) : 0 ≤ t ∧ t ≤ 9000 := inB_true.1 h
def atV (c : Climate) (t h : Int) : Int := if askedE c [tempB t, heightB h] = 0 then atF c t h else 0

theorem spring_At (c : Climate) (t h : Int) (w : World) : Calls Tryz.prog 18 #[c.v, I t, I h] w fun e w' => e = .returned (.tuple #[I (atV c t h), I (askedE c [tempB t, heightB h])]) ∧ Below w.heap.size w w' := by
 rcases asked_cases c [tempB t, heightB h] with ⟨h1, h2, h3⟩ | ⟨h1, _⟩
 ·simp at h3
  have H := fun w => spring_at c t h w (.of h2) (tempB_bd h3.1) (heightB_bd h3.2)
  have hfin := hide (show atV c t h = atF c t h by simp [atV, h1])
  rw [h1]
  replace h1 := hide h1
  unfold Climate.v at H ⊢
  replace H := hide H
  clear h2 h3
  go_enter Tryz.func18, Tryz.ntmps18
  go_wp2_with fail
  go_region_held3 (fun W => W.cell? ⟨w.heap.size, 0, none⟩ = some (I c.base) ∧ W.cell? ⟨w.heap.size, 1, none⟩ = some (I c.lapse) ∧ W.cell? ⟨w.heap.size, 2, none⟩ = some (I c.swing) ∧ W.cell? ⟨w.heap.size, 3, none⟩ = some (I c.wettest) ∧ W.cell? ⟨w.heap.size, 4, none⟩ = some (I c.coldest) ∧ W.cell? ⟨w.heap.size, 5, none⟩ = some (I c.warmest) ∧ W.cell? ⟨w.heap.size, 6, none⟩ = some (I c.flo) ∧ W.cell? ⟨w.heap.size, 7, none⟩ = some (I c.fhi)) (go_keep) (first | (go_at_call 45; refine (spring_temp _ _).mono ?_; rintro e w' ⟨rfl, rfl⟩) | (go_at_call 37; refine (spring_height _ _).mono ?_; rintro e w' ⟨rfl, rfl⟩) | (go_at_call 44; refine (spring_asked_lit c [tempB t, heightB h] _ _ (Blk.drew (blk21 _ _ _ _)) (by simp)).mono ?_; rw [h1.out]; rintro e w1 ⟨rfl, hb1⟩; have hc1 := fun o => (bcell hb1).1 w.heap.size o (by simp <;> omega)))
  go_wp2_with (go_at_call 46; refine (H.out _).mono ?_; rintro e w2 ⟨rfl, hb2⟩)
  go_ret2
  exact ⟨retII hfin.out.symm rfl, bup (bup (below2 _ _ _) (below_drew' hb1)) hb2⟩
 ·have hfin := hide (show atV c t h = 0 by simp [atV, h1])
  obtain ⟨b, hb⟩ : ∃ b, askedE c [tempB t, heightB h] = b := ⟨_, rfl⟩
  rw [hb] at h1 ⊢
  have h0 : (b != 0) = true := by simpa using h1
  replace hb := hide hb
  unfold Climate.v
  go_enter Tryz.func18, Tryz.ntmps18
  go_wp2_with fail
  go_region_held3 (fun W => W.cell? ⟨w.heap.size, 0, none⟩ = some (I c.base) ∧ W.cell? ⟨w.heap.size, 1, none⟩ = some (I c.lapse) ∧ W.cell? ⟨w.heap.size, 2, none⟩ = some (I c.swing) ∧ W.cell? ⟨w.heap.size, 3, none⟩ = some (I c.wettest) ∧ W.cell? ⟨w.heap.size, 4, none⟩ = some (I c.coldest) ∧ W.cell? ⟨w.heap.size, 5, none⟩ = some (I c.warmest) ∧ W.cell? ⟨w.heap.size, 6, none⟩ = some (I c.flo) ∧ W.cell? ⟨w.heap.size, 7, none⟩ = some (I c.fhi)) (go_keep) (first | (go_at_call 45; refine (spring_temp _ _).mono ?_; rintro e w' ⟨rfl, rfl⟩) | (go_at_call 37; refine (spring_height _ _).mono ?_; rintro e w' ⟨rfl, rfl⟩) | (go_at_call 44; refine (spring_asked_lit c [tempB t, heightB h] _ _ (Blk.drew (blk21 _ _ _ _)) (by simp)).mono ?_; rw [hb.out]; rintro e w1 ⟨rfl, hb1⟩; have hc1 := fun o => (bcell hb1).1 w.heap.size o (by simp <;> omega)))
  go_wp2_with fail
  go_ret2
  exact ⟨retII hfin.out.symm rfl, bup (below2 _ _ _) (below_drew' hb1)⟩

theorem fallF_le {c : Climate} {x : Weather} {h : Int} (g : atF c x.temp h ≤ 0) : fallF c x h = (x.rain, 0) := by simp [fallF, g]
theorem fallF_gt {c : Climate} {x : Weather} {h : Int} (g : 0 < atF c x.temp h) : fallF c x h = (0, x.rain) := by simp only [fallF]; rw [if_neg (by omega)]
theorem spring_fall (c : Climate) (x : Weather) (h : Int) (w : World) (hc : ClimOk c) (ht : -600 ≤ x.temp ∧ x.temp ≤ 600) (hh : 0 ≤ h ∧ h ≤ 9000) : Calls Tryz.prog 48 #[c.v, x.v, I h] w fun e w' => e = .returned (.tuple #[I (fallF c x h).1, I (fallF c x h).2]) ∧ Below w.heap.size w w' := by
 have H := fun w => spring_at c x.temp h w hc ht hh
 rcases ilt 0 (atF c x.temp h) with g | g
 ·rw [fallF_gt g]
  generalize atF c x.temp h = a at H g
  unfold Climate.v Weather.v at *
  replace H := hide H
  go_enter Tryz.func48, Tryz.ntmps48
  go_wp2_with (go_at_call 46; refine (H.out _).mono ?_; rintro e w1 ⟨rfl, hb1⟩; have hc1 := fun o => (bcell hb1).1 (w.heap.size + 1) o (by simp <;> omega))
  go_quiet (fail)
  go_wp2_with fail
  go_ret2
  exact ⟨rfl, below_drewN (bup (below2 _ _ _) hb1) _⟩
 ·rw [fallF_le g]
  generalize atF c x.temp h = a at H g
  unfold Climate.v Weather.v at *
  replace H := hide H
  go_enter Tryz.func48, Tryz.ntmps48
  go_wp2_with (go_at_call 46; refine (H.out _).mono ?_; rintro e w1 ⟨rfl, hb1⟩; have hc1 := fun o => (bcell hb1).1 (w.heap.size + 1) o (by simp <;> omega))
  go_ret2
  exact ⟨rfl, bup (below2 _ _ _) hb1⟩

theorem meltF_bd {c : Climate} {x : Weather} {h f : Int} (hc : ClimOk c) (ht : -600 ≤ x.temp ∧ x.temp ≤ 600) (hh : 0 ≤ h ∧ h ≤ 9000) (hf : 0 ≤ f ∧ f ≤ 2000) : (0 ≤ f * max 0 (atF c x.temp h) ∧ f * max 0 (atF c x.temp h) ≤ 4800000) ∧ 0 ≤ meltF c x h f ∧ meltF c x h f ≤ 4800 := by
 have h1 := (atF_bd hc ht hh).2
 have h2 : 0 ≤ f * max 0 (atF c x.temp h) := Int.mul_nonneg hf.1 (by omega)
 have h3 := Int.mul_le_mul (a := f) (c := 2000) (b := max 0 (atF c x.temp h)) (d := 2400) hf.2 (by omega) (by omega) (by omega)
 unfold meltF
 omega
theorem spring_melt (c : Climate) (x : Weather) (h f : Int) (w : World) (hc : ClimOk c) (ht : -600 ≤ x.temp ∧ x.temp ≤ 600) (hh : 0 ≤ h ∧ h ≤ 9000) (hf : 0 ≤ f ∧ f ≤ 2000) : Calls Tryz.prog 50 #[c.v, x.v, I h, I f] w fun e w' => e = .returned (I (meltF c x h f)) ∧ Below w.heap.size w w' := by
 have H := fun w => spring_at c x.temp h w hc ht hh
 have hb := (meltF_bd hc ht hh hf).1
 have HD := fun w => spring_down (f * max 0 (atF c x.temp h)) 1000 w (.inr rfl) (by omega) (by omega)
 have hfin := hide (show meltF c x h f = f * max 0 (atF c x.temp h) / 1000 from rfl)
 have k1 : IntKind.i64.wrap (f * max 0 (atF c x.temp h)) = f * max 0 (atF c x.temp h) := IntWalk.i64_in _ (by omega)
 generalize atF c x.temp h = a at *
 clear hb
 rcases ilt 0 a with g | g
 ·rw [show max 0 a = a by omega] at HD hfin k1
  unfold Climate.v Weather.v at *
  replace H := hide H
  replace HD := hide HD
  go_enter Tryz.func50, Tryz.ntmps50
  go_wp2_with (first | (go_at_call 46; refine (H.out _).mono ?_; rintro e w1 ⟨rfl, hb1⟩) | (go_at_call 83; refine (HD.out _).mono ?_; rintro e w' ⟨rfl, rfl⟩))
  go_ret
  exact ⟨ret_int hfin.out.symm, bup (below2 _ _ _) hb1⟩
 ·rw [show max 0 a = 0 by omega] at HD hfin k1
  rw [Int.mul_zero] at HD hfin
  unfold Climate.v Weather.v at *
  replace H := hide H
  replace HD := hide HD
  go_enter Tryz.func50, Tryz.ntmps50
  go_wp2_with (first | (go_at_call 46; refine (H.out _).mono ?_; rintro e w1 ⟨rfl, hb1⟩) | (go_at_call 83; refine (HD.out _).mono ?_; rintro e w' ⟨rfl, rfl⟩))
  go_ret
  exact ⟨ret_int hfin.out.symm, bup (below2 _ _ _) hb1⟩

theorem spring_day1 (c : Climate) (x : Weather) (v : Value) (xs : List Bool) (w : World) (hv : Sl w 1 boolC v xs) : Calls Tryz.prog 47 #[c.v, x.v, v] w fun e w' => e = .returned (I (dayE1 c x xs)) ∧ Below w.heap.size w w' := by
 have H1 := hide (fun w => spring_CheckClimate c w)
 have H2 := hide (fun w => spring_weather c x w)
 have H3 := hide (fun w hv => spring_asked c v xs w hv)
 replace hv := hide hv
 cases h1 : climateOk c with
 | false =>
  have hE : climateE c = 61 := by simp [climateE, h1]
  have hfin := hide (show dayE1 c x xs = 61 by simp [dayE1, h1])
  unfold Climate.v Weather.v at *
  rw [hE] at H1
  go_enter Tryz.func47, Tryz.ntmps47
  go_wp2_with (first | (go_at_call 32; refine (H1.out _).mono ?_; rintro e w' ⟨rfl, hb1⟩))
  go_ret
  exact ⟨ret_int hfin.out.symm, bup (below2 _ _ _) hb1⟩
 | true =>
  have hE : climateE c = 0 := by simp [climateE, h1]
  cases h2 : weatherOk c x with
  | false =>
   have hfin := hide (show dayE1 c x xs = 60 by simp [dayE1, h1, h2])
   unfold Climate.v Weather.v at *
   rw [hE] at H1
   rw [h2] at H2
   go_enter Tryz.func47, Tryz.ntmps47
   go_wp2_with (first | (go_at_call 32; refine (H1.out _).mono ?_; clear H1; rintro e w1 ⟨rfl, hb1⟩; have hc1 := fun o => (bcell hb1).1 w.heap.size o (by simp <;> omega); have hc2 := fun o => (bcell hb1).1 (w.heap.size + 1) o (by simp <;> omega)) | (go_at_call 74; refine (H2.out _).mono ?_; rintro e w2 ⟨rfl, hb2⟩))
   go_ret
   exact ⟨ret_int hfin.out.symm, bup (bup (below2 _ _ _) hb1) hb2⟩
  | true =>
   have hfin := hide (show dayE1 c x xs = askedE c xs by simp [dayE1, h1, h2])
   unfold Climate.v Weather.v at *
   rw [hE] at H1
   rw [h2] at H2
   go_enter Tryz.func47, Tryz.ntmps47
   go_wp2_with (first | (go_at_call 32; refine (H1.out _).mono ?_; clear H1; rintro e w1 ⟨rfl, hb1⟩; have hc1 := fun o => (bcell hb1).1 w.heap.size o (by simp <;> omega); have hc2 := fun o => (bcell hb1).1 (w.heap.size + 1) o (by simp <;> omega); have hs1 := hb1.size; simp at hs1) | (go_at_call 74; refine (H2.out _).mono ?_; clear H2; rintro e w2 ⟨rfl, hb2⟩; have hd1 := fun o => (bcell hb2).1 w.heap.size o (by omega)) | (go_at_call 44; refine (H3.out _ (hv.out.mono (bup (bup (below2 _ _ _) hb1) hb2))).mono ?_; rintro e w3 ⟨rfl, hb3⟩))
   go_ret
   exact ⟨ret_int hfin.out.symm, bup (bup (bup (below2 _ _ _) hb1) hb2) hb3⟩

theorem day1_cases (c : Climate) (x : Weather) (xs : List Bool) : (dayE1 c x xs = 0 ∧ climateOk c = true ∧ weatherOk c x = true ∧ xs.all id = true) ∨ dayE1 c x xs ≠ 0 := by
 unfold dayE1
 cases h1 : climateOk c with
 | false => exact .inr (by simp)
 | true =>
  cases h2 : weatherOk c x with
  | false => exact .inr (by simp)
  | true =>
   rcases asked_cases c xs with ⟨h3, _, h4⟩ | ⟨h3, _⟩
   ·exact .inl ⟨by simp [h3], rfl, rfl, h4⟩
   ·exact .inr (by simpa using h3)
theorem spring_day1_lit (c : Climate) (x : Weather) (xs : List Bool) (w : World) (g : Nat) (hg : Blk w g 4 (xs.map Value.bool).toArray) (hn : xs.length ≤ 1000) : Calls Tryz.prog 47 #[.agg (c8 c), .agg #[I x.day, I x.temp, I x.rain], .slice (some ⟨g, 0, none⟩) xs.length xs.length] w fun e w' => e = .returned (I (dayE1 c x xs)) ∧ Below w.heap.size w w' :=
 spring_day1 c x _ xs w (sl_lit hg (by simp [flat_bool]) 1 boolC_len hn)
theorem blk32d (w : World) (t : TypeId) (cs : Array Value) (o o' : Obj) : Blk (((w.alloc o).alloc o').alloc (.cells cs t)).drew (w.heap.size + 2) t cs := blk32 w t cs o o'
theorem WeaOk.t600 {c : Climate} {x : Weather} (h : WeaOk c x) (hc : ClimOk c) : -600 ≤ x.temp ∧ x.temp ≤ 600 := by
 have h1 := hc.cold; have h2 := hc.warm; have h3 := h.temp; omega
theorem retIII {a b c a' b' c' : Int} (h1 : a = a') (h2 : b = b') (h3 : c = c') : Ending.returned (.tuple #[I a, I b, I c]) = .returned (.tuple #[I a', I b', I c']) := by rw [h1, h2, h3]
def snowV (c : Climate) (x : Weather) (h : Int) : Int × Int := if dayE1 c x [heightB h] = 0 then fallF c x h else (0, 0)
def meltV (c : Climate) (x : Weather) (h f : Int) : Int := if dayE1 c x [heightB h, inB f 0 2000] = 0 then meltF c x h f else 0

theorem spring_Snow (c : Climate) (x : Weather) (h : Int) (w : World) : Calls Tryz.prog 20 #[c.v, x.v, I h] w fun e w' => e = .returned (.tuple #[I (snowV c x h).1, I (snowV c x h).2, I (dayE1 c x [heightB h])]) ∧ Below w.heap.size w w' := by
 rcases day1_cases c x [heightB h] with ⟨h1, h2, h3, h4⟩ | h1
 ·simp at h4
  have hx := WeaOk.of h3
  have hc := ClimOk.of h2
  have H := fun w => spring_fall c x h w hc (hx.t600 hc) (heightB_bd h4)
  have hfin := hide (show snowV c x h = fallF c x h by simp [snowV, h1])
  rw [h1]
  replace h1 := hide h1
  obtain ⟨p, hp⟩ : ∃ p, fallF c x h = p := ⟨_, rfl⟩
  rw [hp] at hfin
  simp only [hp] at H
  replace hp := hide hp
  unfold Climate.v Weather.v at *
  replace H := hide H
  clear h2 h3 h4 hx hc
  go_enter Tryz.func20, Tryz.ntmps20
  go_wp2_with fail
  go_region_held3 (fun W => (W.cell? ⟨w.heap.size, 0, none⟩ = some (I c.base) ∧ W.cell? ⟨w.heap.size, 1, none⟩ = some (I c.lapse) ∧ W.cell? ⟨w.heap.size, 2, none⟩ = some (I c.swing) ∧ W.cell? ⟨w.heap.size, 3, none⟩ = some (I c.wettest) ∧ W.cell? ⟨w.heap.size, 4, none⟩ = some (I c.coldest) ∧ W.cell? ⟨w.heap.size, 5, none⟩ = some (I c.warmest) ∧ W.cell? ⟨w.heap.size, 6, none⟩ = some (I c.flo) ∧ W.cell? ⟨w.heap.size, 7, none⟩ = some (I c.fhi)) ∧ (W.cell? ⟨(w.heap.size+1), 0, none⟩ = some (I x.day) ∧ W.cell? ⟨(w.heap.size+1), 1, none⟩ = some (I x.temp) ∧ W.cell? ⟨(w.heap.size+1), 2, none⟩ = some (I x.rain))) (go_keep) (first | (go_at_call 37; refine (spring_height _ _).mono ?_; rintro e w' ⟨rfl, rfl⟩) | (go_at_call 47; refine (spring_day1_lit c x [heightB h] _ _ (blk32d _ _ _ _ _) (by simp)).mono ?_; rw [h1.out]; rintro e w1 ⟨rfl, hb1⟩; have hc1 := fun o => (bcell hb1).1 w.heap.size o (by simp <;> omega); have hc2 := fun o => (bcell hb1).1 (w.heap.size+1) o (by simp <;> omega)))
  go_wp2_with (go_at_call 48; refine (H.out _).mono ?_; rintro e w2 ⟨rfl, hb2⟩)
  go_ret3
  exact ⟨retIII (by rw [hfin.out]) (by rw [hfin.out]) rfl, bup (bup (below3 _ _ _ _) (below_drew' hb1)) hb2⟩
 ·have hfin := hide (show snowV c x h = (0, 0) by simp [snowV, h1])
  obtain ⟨b, hb⟩ : ∃ b, dayE1 c x [heightB h] = b := ⟨_, rfl⟩
  rw [hb] at h1 ⊢
  have h0 : (b != 0) = true := by simpa using h1
  replace hb := hide hb
  unfold Climate.v Weather.v
  go_enter Tryz.func20, Tryz.ntmps20
  go_wp2_with fail
  go_region_held3 (fun W => (W.cell? ⟨w.heap.size, 0, none⟩ = some (I c.base) ∧ W.cell? ⟨w.heap.size, 1, none⟩ = some (I c.lapse) ∧ W.cell? ⟨w.heap.size, 2, none⟩ = some (I c.swing) ∧ W.cell? ⟨w.heap.size, 3, none⟩ = some (I c.wettest) ∧ W.cell? ⟨w.heap.size, 4, none⟩ = some (I c.coldest) ∧ W.cell? ⟨w.heap.size, 5, none⟩ = some (I c.warmest) ∧ W.cell? ⟨w.heap.size, 6, none⟩ = some (I c.flo) ∧ W.cell? ⟨w.heap.size, 7, none⟩ = some (I c.fhi)) ∧ (W.cell? ⟨(w.heap.size+1), 0, none⟩ = some (I x.day) ∧ W.cell? ⟨(w.heap.size+1), 1, none⟩ = some (I x.temp) ∧ W.cell? ⟨(w.heap.size+1), 2, none⟩ = some (I x.rain))) (go_keep) (first | (go_at_call 37; refine (spring_height _ _).mono ?_; rintro e w' ⟨rfl, rfl⟩) | (go_at_call 47; refine (spring_day1_lit c x [heightB h] _ _ (blk32d _ _ _ _ _) (by simp)).mono ?_; rw [hb.out]; rintro e w1 ⟨rfl, hb1⟩; have hc1 := fun o => (bcell hb1).1 w.heap.size o (by simp <;> omega); have hc2 := fun o => (bcell hb1).1 (w.heap.size+1) o (by simp <;> omega)))
  go_wp2_with fail
  go_ret3
  exact ⟨retIII (by rw [hfin.out]) (by rw [hfin.out]) rfl, bup (below3 _ _ _ _) (below_drew' hb1)⟩

theorem spring_Melt (c : Climate) (x : Weather) (h f : Int) (w : World) : Calls Tryz.prog 21 #[c.v, x.v, I h, I f] w fun e w' => e = .returned (.tuple #[I (meltV c x h f), I (dayE1 c x [heightB h, inB f 0 2000])]) ∧ Below w.heap.size w w' := by
 rcases day1_cases c x [heightB h, inB f 0 2000] with ⟨h1, h2, h3, h4⟩ | h1
 ·simp at h4
  have hx := WeaOk.of h3
  have hc := ClimOk.of h2
  have H := fun w => spring_melt c x h f w hc (hx.t600 hc) (heightB_bd h4.1) (inB_true.1 h4.2)
  have hfin := hide (show meltV c x h f = meltF c x h f by simp [meltV, h1])
  rw [h1]
  replace h1 := hide h1
  unfold Climate.v Weather.v at *
  replace H := hide H
  clear h2 h3 h4 hx hc
  go_enter Tryz.func21, Tryz.ntmps21
  go_wp2_with fail
  go_region_held3 (fun W => (W.cell? ⟨w.heap.size, 0, none⟩ = some (I c.base) ∧ W.cell? ⟨w.heap.size, 1, none⟩ = some (I c.lapse) ∧ W.cell? ⟨w.heap.size, 2, none⟩ = some (I c.swing) ∧ W.cell? ⟨w.heap.size, 3, none⟩ = some (I c.wettest) ∧ W.cell? ⟨w.heap.size, 4, none⟩ = some (I c.coldest) ∧ W.cell? ⟨w.heap.size, 5, none⟩ = some (I c.warmest) ∧ W.cell? ⟨w.heap.size, 6, none⟩ = some (I c.flo) ∧ W.cell? ⟨w.heap.size, 7, none⟩ = some (I c.fhi)) ∧ (W.cell? ⟨(w.heap.size+1), 0, none⟩ = some (I x.day) ∧ W.cell? ⟨(w.heap.size+1), 1, none⟩ = some (I x.temp) ∧ W.cell? ⟨(w.heap.size+1), 2, none⟩ = some (I x.rain))) (go_keep) (first | (go_at_call 37; refine (spring_height _ _).mono ?_; rintro e w' ⟨rfl, rfl⟩) | (go_at_call 49; refine (spring_in _ _ _ _).mono ?_; rintro e w' ⟨rfl, rfl⟩) | (go_at_call 47; refine (spring_day1_lit c x [heightB h, inB f 0 2000] _ _ (blk32d _ _ _ _ _) (by simp)).mono ?_; rw [h1.out]; rintro e w1 ⟨rfl, hb1⟩; have hc1 := fun o => (bcell hb1).1 w.heap.size o (by simp <;> omega); have hc2 := fun o => (bcell hb1).1 (w.heap.size+1) o (by simp <;> omega)))
  go_wp2_with (go_at_call 50; refine (H.out _).mono ?_; rintro e w2 ⟨rfl, hb2⟩)
  go_ret2
  exact ⟨retII hfin.out.symm rfl, bup (bup (below3 _ _ _ _) (below_drew' hb1)) hb2⟩
 ·have hfin := hide (show meltV c x h f = 0 by simp [meltV, h1])
  obtain ⟨b, hb⟩ : ∃ b, dayE1 c x [heightB h, inB f 0 2000] = b := ⟨_, rfl⟩
  rw [hb] at h1 ⊢
  have h0 : (b != 0) = true := by simpa using h1
  replace hb := hide hb
  unfold Climate.v Weather.v
  go_enter Tryz.func21, Tryz.ntmps21
  go_wp2_with fail
  go_region_held3 (fun W => (W.cell? ⟨w.heap.size, 0, none⟩ = some (I c.base) ∧ W.cell? ⟨w.heap.size, 1, none⟩ = some (I c.lapse) ∧ W.cell? ⟨w.heap.size, 2, none⟩ = some (I c.swing) ∧ W.cell? ⟨w.heap.size, 3, none⟩ = some (I c.wettest) ∧ W.cell? ⟨w.heap.size, 4, none⟩ = some (I c.coldest) ∧ W.cell? ⟨w.heap.size, 5, none⟩ = some (I c.warmest) ∧ W.cell? ⟨w.heap.size, 6, none⟩ = some (I c.flo) ∧ W.cell? ⟨w.heap.size, 7, none⟩ = some (I c.fhi)) ∧ (W.cell? ⟨(w.heap.size+1), 0, none⟩ = some (I x.day) ∧ W.cell? ⟨(w.heap.size+1), 1, none⟩ = some (I x.temp) ∧ W.cell? ⟨(w.heap.size+1), 2, none⟩ = some (I x.rain))) (go_keep) (first | (go_at_call 37; refine (spring_height _ _).mono ?_; rintro e w' ⟨rfl, rfl⟩) | (go_at_call 49; refine (spring_in _ _ _ _).mono ?_; rintro e w' ⟨rfl, rfl⟩) | (go_at_call 47; refine (spring_day1_lit c x [heightB h, inB f 0 2000] _ _ (blk32d _ _ _ _ _) (by simp)).mono ?_; rw [hb.out]; rintro e w1 ⟨rfl, hb1⟩; have hc1 := fun o => (bcell hb1).1 w.heap.size o (by simp <;> omega); have hc2 := fun o => (bcell hb1).1 (w.heap.size+1) o (by simp <;> omega)))
  go_wp2_with fail
  go_ret2
  exact ⟨retII hfin.out.symm rfl, bup (below3 _ _ _ _) (below_drew' hb1)⟩

def frostR (c : Climate) (t : Int) (n k : Nat) : Int × Int := match frostF c t n k with | some h => ((h : Int), 0) | none => (0, 4)
theorem frostR_zero (c : Climate) (t : Int) (k : Nat) : frostR c t 0 k = (0, 4) := rfl
theorem frostR_yes {c : Climate} {t : Int} {n k : Nat} (h : atF c t k ≤ 0) : frostR c t (n + 1) k = ((k : Int), 0) := by simp [frostR, frostF, h]
theorem frostR_no {c : Climate} {t : Int} {n k : Nat} (h : 0 < atF c t k) : frostR c t (n + 1) k = frostR c t n (k + 1) := by
 have : ¬ atF c t k ≤ 0 := by omega
 simp [frostR, frostF, this]
def frostV (c : Climate) (t : Int) : Int × Int := if askedE c [tempB t] = 0 then frostR c t 9001 0 else (0, askedE c [tempB t])
theorem spring_Frost (c : Climate) (t : Int) (w : World) : Calls Tryz.prog 19 #[c.v, I t] w fun e w' => e = .returned (.tuple #[I (frostV c t).1, I (frostV c t).2]) ∧ Below w.heap.size w w' := by
 rcases asked_cases c [tempB t] with ⟨h1, h2, h3⟩ | ⟨h1, _⟩
 ·simp at h3
  have hc := ClimOk.of h2
  have H := fun (k : Nat) (hk : k ≤ 9000) w => spring_at c t k w hc (tempB_bd h3) (by omega)
  have hfin := hide (show frostV c t = frostR c t 9001 0 by simp [frostV, h1])
  replace h1 := hide h1
  unfold Climate.v at *
  replace H := hide H
  clear h2 h3 hc
  go_enter Tryz.func19, Tryz.ntmps19
  go_wp2_with fail
  go_region_held3 (fun W => W.cell? ⟨w.heap.size, 0, none⟩ = some (I c.base) ∧ W.cell? ⟨w.heap.size, 1, none⟩ = some (I c.lapse) ∧ W.cell? ⟨w.heap.size, 2, none⟩ = some (I c.swing) ∧ W.cell? ⟨w.heap.size, 3, none⟩ = some (I c.wettest) ∧ W.cell? ⟨w.heap.size, 4, none⟩ = some (I c.coldest) ∧ W.cell? ⟨w.heap.size, 5, none⟩ = some (I c.warmest) ∧ W.cell? ⟨w.heap.size, 6, none⟩ = some (I c.flo) ∧ W.cell? ⟨w.heap.size, 7, none⟩ = some (I c.fhi)) (go_keep) (first | (go_at_call 45; refine (spring_temp _ _).mono ?_; rintro e w' ⟨rfl, rfl⟩) | (go_at_call 44; refine (spring_asked_lit c [tempB t] _ _ (Blk.drew (blk21 _ _ _ _)) (by simp)).mono ?_; rw [h1.out]; rintro e w1 ⟨rfl, hb1⟩; have hc1 := fun o => (bcell hb1).1 w.heap.size o (by simp <;> omega)))
  have hK : ClimAt c w.heap.size w1 := (((ClimAt.new c w 25).grow (below1 _ _))).grow (below_drew' hb1)
  have hB := bup (below2 _ _ _) (below_drew' hb1)
  rename_i hS
  clear hS hb1 hc1
  go_wp2_with fail
  go_loopw [16] (fun i wr => ∃ k : Nat, k ≤ 9001 ∧ i = I k ∧ Hid (frostR c t 9001 0 = frostR c t (9001 - k) k) ∧ Below w1.heap.size w1 wr) (fun i _ => 9001 - (intOf i).toNat)
  case atStart => exact ⟨0, by omega, rfl, hide rfl, Below.refl _ _⟩
  case round =>
   obtain ⟨k, hk, rfl, hr, hb⟩ := hrel
   obtain ⟨_, q0, q1, q2, q3, q4, q5, q6, q7⟩ := hK.grow hb
   by_cases hlt : k < 9001
   ·have H1 := hide (H.out k (by omega))
    rcases ilt 0 (atF c t k) with g | g
    ·have hs := hide (show frostR c t 9001 0 = frostR c t (9001 - (k + 1)) (k + 1) from hr.out.trans (by rw [show 9001 - k = (9001 - (k + 1)) + 1 by omega]; exact frostR_no g))
     clear hr H
     generalize atF c t k = a at *
     go_wp2_with (go_at_call 46; refine (H1.out _).mono ?_; rintro e w2 ⟨rfl, hb2⟩)
     go_roundw
     case rel => exact ⟨k + 1, by omega, by go_num, hs, bup hb hb2⟩
     case measure => simp [intOf]; omega
    ·have hs := hide (show frostV c t = ((k : Int), 0) from (hfin.out.trans hr.out).trans (by rw [show 9001 - k = (9001 - (k + 1)) + 1 by omega]; exact frostR_yes g))
     clear hr H
     generalize atF c t k = a at *
     go_wp2_with (go_at_call 46; refine (H1.out _).mono ?_; rintro e w2 ⟨rfl, hb2⟩)
     go_ret2
     exact ⟨retII (by rw [hs.out]) (by rw [hs.out]), bup (bup hB hb) hb2⟩
   ·have he : k = 9001 := by omega
    subst he
    have hs := hide (hfin.out.trans (hr.out.trans (frostR_zero c t 9001)))
    clear hr
    go_wp2_with fail
    go_ret2
    exact ⟨retII (by rw [hs.out]) (by rw [hs.out]), bup hB hb⟩
 ·obtain ⟨b, hb⟩ : ∃ b, askedE c [tempB t] = b := ⟨_, rfl⟩
  rw [hb] at h1
  have hfin := hide (show frostV c t = (0, b) by simp [frostV, h1, hb])
  have h0 : (b != 0) = true := by simpa using h1
  replace hb := hide hb
  unfold Climate.v
  go_enter Tryz.func19, Tryz.ntmps19
  go_wp2_with fail
  go_region_held3 (fun W => W.cell? ⟨w.heap.size, 0, none⟩ = some (I c.base) ∧ W.cell? ⟨w.heap.size, 1, none⟩ = some (I c.lapse) ∧ W.cell? ⟨w.heap.size, 2, none⟩ = some (I c.swing) ∧ W.cell? ⟨w.heap.size, 3, none⟩ = some (I c.wettest) ∧ W.cell? ⟨w.heap.size, 4, none⟩ = some (I c.coldest) ∧ W.cell? ⟨w.heap.size, 5, none⟩ = some (I c.warmest) ∧ W.cell? ⟨w.heap.size, 6, none⟩ = some (I c.flo) ∧ W.cell? ⟨w.heap.size, 7, none⟩ = some (I c.fhi)) (go_keep) (first | (go_at_call 45; refine (spring_temp _ _).mono ?_; rintro e w' ⟨rfl, rfl⟩) | (go_at_call 44; refine (spring_asked_lit c [tempB t] _ _ (Blk.drew (blk21 _ _ _ _)) (by simp)).mono ?_; rw [hb.out]; rintro e w1 ⟨rfl, hb1⟩; have hc1 := fun o => (bcell hb1).1 w.heap.size o (by simp <;> omega)))
  go_wp2_with fail
  go_ret2
  exact ⟨retII (by rw [hfin.out]) (by rw [hfin.out]), bup (below2 _ _ _) (below_drew' hb1)⟩

theorem linkedAt_head {c : Climate} {l : List Weather} {k : Nat} {x : Weather} (hx : l[k]? = some x) (h : weatherOk c x = false) : linkedAt c l k = false := by simp [linkedAt, hx, h]
theorem linkedAt_zero {c : Climate} {l : List Weather} {x : Weather} (hx : l[0]? = some x) (h : weatherOk c x = true) : linkedAt c l 0 = true := by simp [linkedAt, hx, h]
theorem linkedAt_pos {c : Climate} {l : List Weather} {k : Nat} {x y : Weather} (hk : 0 < k) (hx : l[k]? = some x) (hy : l[k - 1]? = some y) (h : weatherOk c x = true) : linkedAt c l k = (decide (y.day < x.day) && nearB c y x) := by
 have : (k == 0) = false := by simp; omega
 simp [linkedAt, hx, hy, h, this]
theorem linkedAt_ok {c : Climate} {l : List Weather} {k : Nat} {x : Weather} (hx : l[k]? = some x) (h : linkedAt c l k = true) : weatherOk c x = true := by
 simp only [linkedAt, getD_of hx, Bool.and_eq_true] at h; exact h.1

theorem spring_linked (c : Climate) (v : Value) (l : List Weather) (w : World) (hc : ClimOk c) (hv : Sl w 3 Weather.cells v l) : Calls Tryz.prog 33 #[c.v, v] w fun e w' => e = .returned (.bool (linkedB c l)) ∧ Below w.heap.size w w' := by
 obtain ⟨A, n, rfl, _, _, hlen, hA⟩ := hv.open_
 replace hv := hide hv
 replace hA := hide hA
 have hbad : ∀ k, k < l.length → linkedAt c l k = false → linkedB c l = false := fun k hk h => all_of_not hk h
 replace hbad := hide hbad
 have HW := fun x w => spring_weather c x w
 have HN := fun x y hx hy w => spring_near c x y w hc hx hy
 unfold Climate.v Weather.v at *
 replace HW := hide HW
 replace HN := hide HN
 go_enter Tryz.func33, Tryz.ntmps33
 go_wp2_with fail
 obtain ⟨W0, hW0⟩ : ∃ W0, W0 = w.alloc (.cells (c8 c) 25) := ⟨_, rfl⟩
 have hK : ClimAt c w.heap.size W0 := by rw [hW0]; exact ClimAt.new _ _ _
 have hbl : Below w.heap.size w W0 := by rw [hW0]; exact below1 _ _
 rw [← hW0]
 clear hW0
 go_loopw [8] (fun i wr => ∃ k : Nat, k ≤ l.length ∧ i = I k ∧ Hid (AllTo (linkedAt c l) k) ∧ Below W0.heap.size W0 wr) (fun i _ => l.length - (intOf i).toNat)
 case atStart => exact ⟨0, Nat.zero_le _, rfl, hide (AllTo.zero _), Below.refl _ _⟩
 case round =>
  obtain ⟨k, hk, rfl, hn, hb⟩ := hrel
  by_cases hlt : k < l.length
  ·obtain ⟨b, off, rfl, hbw⟩ := hA.out k hlt
   obtain ⟨x, hx⟩ := getElem?_of_lt hlt
   obtain ⟨hbx, e0, e1, e2⟩ := ((unhide hv).mono (bup hbl hb)).weather_at hx
   obtain ⟨hgx, q0, q1, q2, q3, q4, q5, q6, q7⟩ := hK.grow hb
   clear hA hK
   cases hok : weatherOk c x with
   | false =>
    have hfin := hide (hbad.out k hlt (linkedAt_head hx hok))
    have H1 := HW.out x
    rw [hok] at H1
    replace H1 := hide H1
    replace hok := hide hok
    clear hbad hx hn HN HW
    go_wp2_with fail
    (refine wp_grow ?_; (repeat go_big_quiet_step ((go_at_call 74; exact calls_grew (H1.out _)))); refine wp_grow0 ?_; intro W1 hW1)
    go_wp2_with fail
    go_ret
    exact ⟨ret_bool hfin.out.symm, bup (bup hbl hb) hW1⟩
   | true =>
    have H1 := HW.out x
    rw [hok] at H1
    replace H1 := hide H1
    rcases Nat.lt_or_ge 0 k with hk0 | hk0
    ·obtain ⟨y, hy⟩ := getElem?_of_lt (xs := l) (k := k - 1) (by omega)
     obtain ⟨_, p0, p1, p2⟩ := ((unhide hv).mono (bup hbl hb)).weather_at hy
     have hoky := linkedAt_ok hy (hn.out (k - 1) (by omega))
     have hpos := linkedAt_pos hk0 hx hy hok
     have H2 := hide (HN.out y x (.of hoky) (.of hok))
     replace hok := hide hok
     replace hoky := hide hoky
     rcases ilt y.day x.day with hd | hd
     ·cases hnr : nearB c y x with
      | false =>
       have hfin := hide (hbad.out k hlt (by rw [hpos, hnr]; simp))
       have hyd : decide (x.day ≤ y.day) = false := by simp; omega
       rw [hnr] at H2
       replace hnr := hide hnr
       clear hbad hx hn HN HW hy hpos
       go_wp2_with fail
       (refine wp_grow ?_; (repeat go_big_quiet_step ((first | (go_at_call 74; exact calls_grew (H1.out _)) | (go_at_call 75; exact calls_grew (H2.out _))))); refine wp_grow0 ?_; intro W1 hW1)
       go_wp2_with fail
       go_ret
       exact ⟨ret_bool hfin.out.symm, bup (bup hbl hb) hW1⟩
      | true =>
       have hyd : decide (x.day ≤ y.day) = false := by simp; omega
       have hg := hide (hn.out.succ (show linkedAt c l k = true by rw [hpos, hnr]; simpa using hd))
       rw [hnr] at H2
       replace hnr := hide hnr
       clear hbad hx hn HN HW hy hpos
       go_wp2_with fail
       (refine wp_grow ?_; (repeat go_big_quiet_step ((first | (go_at_call 74; exact calls_grew (H1.out _)) | (go_at_call 75; exact calls_grew (H2.out _))))); refine wp_grow0 ?_; intro W1 hW1)
       go_wp2_with fail
       go_roundw
       case rel => exact ⟨k + 1, by omega, by go_num, hg, bup hb hW1⟩
       case measure => simp [intOf]; omega
     ·have hfin := hide (hbad.out k hlt (by rw [hpos]; simp; omega))
      have hyd : decide (x.day ≤ y.day) = true := by simp; omega
      clear hbad hx hn HN HW hy hpos H2
      go_wp2_with fail
      (refine wp_grow ?_; (repeat go_big_quiet_step ((first | (go_at_call 74; exact calls_grew (H1.out _))))); refine wp_grow0 ?_; intro W1 hW1)
      go_wp2_with fail
      go_ret
      exact ⟨ret_bool hfin.out.symm, bup (bup hbl hb) hW1⟩
    ·have hkd : decide (0 < k) = false := by simp; omega
     have hg := hide (hn.out.succ (show linkedAt c l k = true by
      have : k = 0 := by omega
      subst this; exact linkedAt_zero hx hok))
     replace hok := hide hok
     clear hbad hx hn HN HW
     go_wp2_with fail
     (refine wp_grow ?_; (repeat go_big_quiet_step ((first | (go_at_call 74; exact calls_grew (H1.out _))))); refine wp_grow0 ?_; intro W1 hW1)
     go_wp2_with fail
     go_roundw
     case rel => exact ⟨k + 1, by omega, by go_num, hg, bup hb hW1⟩
     case measure => simp [intOf]; omega
  ·have he : k = l.length := by omega
   subst he
   have hfin := hide (show linkedB c l = true from AllTo.all hn.out)
   clear hbad hn HN HW hK hA
   go_wp2_with fail
   go_ret
   exact ⟨ret_bool hfin.out.symm, bup hbl hb⟩

theorem spring_CheckLog (c : Climate) (v : Value) (l : List Weather) (w : World) (hv : Sl w 3 Weather.cells v l) : Calls Tryz.prog 9 #[c.v, v] w fun e w' => e = .returned (I (logE c l)) ∧ Below w.heap.size w w' := by
 obtain ⟨A, n, rfl, _, _, hlen, hA⟩ := hv.open_
 clear hA
 have H1 := hide (fun w => spring_CheckClimate c w)
 cases h1 : climateOk c with
 | false =>
  have hE : climateE c = 61 := by simp [climateE, h1]
  have hfin := hide (show logE c l = 61 by simp [logE, h1])
  unfold Climate.v at *
  rw [hE] at H1
  go_enter Tryz.func9, Tryz.ntmps9
  go_wp2_with (first | (go_at_call 32; refine (H1.out _).mono ?_; rintro e w' ⟨rfl, hb1⟩))
  go_ret
  exact ⟨ret_int hfin.out.symm, bup (below1 _ _) hb1⟩
 | true =>
  have hE : climateE c = 0 := by simp [climateE, h1]
  have H2 := hide (fun w hv => spring_linked c (.slice A l.length n) l w (.of h1) hv)
  replace hv := hide hv
  rcases Nat.lt_or_ge 512 l.length with h2 | h2
  ·have hfin := hide (show logE c l = 60 by simp [logE, h1, h2])
   have i1 : decide ((512 : Int) < (l.length : Int)) = true := by simp; omega
   have i2 : decide (512 < l.length) = true := by simp; omega
   unfold Climate.v at *
   rw [hE] at H1
   go_enter Tryz.func9, Tryz.ntmps9
   go_wp2_with (first | (go_at_call 32; refine (H1.out _).mono ?_; clear H1; rintro e w1 ⟨rfl, hb1⟩; have hc1 := fun o => (bcell hb1).1 w.heap.size o (by simp <;> omega)))
   go_ret
   exact ⟨ret_int hfin.out.symm, bup (below1 _ _) hb1⟩
  ·have i1 : decide ((512 : Int) < (l.length : Int)) = false := by simp; omega
   have i2 : decide (512 < l.length) = false := by simp; omega
   have i3 : ¬ 512 < l.length := by omega
   cases h3 : linkedB c l with
   | false =>
    have hfin := hide (show logE c l = 60 by simp [logE, h1, h3])
    unfold Climate.v at *
    rw [hE] at H1
    rw [h3] at H2
    go_enter Tryz.func9, Tryz.ntmps9
    go_wp2_with (first | (go_at_call 32; refine (H1.out _).mono ?_; clear H1; rintro e w1 ⟨rfl, hb1⟩; have hc1 := fun o => (bcell hb1).1 w.heap.size o (by simp <;> omega)) | (go_at_call 33; refine (H2.out _ (hv.out.mono (bup (below1 _ _) hb1))).mono ?_; rintro e w2 ⟨rfl, hb2⟩))
    go_ret
    exact ⟨ret_int hfin.out.symm, bup (bup (below1 _ _) hb1) hb2⟩
   | true =>
    have hfin := hide (show logE c l = 0 by simp only [logE, h1, h3]; simp; omega)
    unfold Climate.v at *
    rw [hE] at H1
    rw [h3] at H2
    go_enter Tryz.func9, Tryz.ntmps9
    go_wp2_with (first | (go_at_call 32; refine (H1.out _).mono ?_; clear H1; rintro e w1 ⟨rfl, hb1⟩; have hc1 := fun o => (bcell hb1).1 w.heap.size o (by simp <;> omega)) | (go_at_call 33; refine (H2.out _ (hv.out.mono (bup (below1 _ _) hb1))).mono ?_; rintro e w2 ⟨rfl, hb2⟩))
    go_ret
    exact ⟨ret_int hfin.out.symm, bup (bup (below1 _ _) hb1) hb2⟩

theorem succAt_of {l : List Weather} {k : Nat} {x y : Weather} (hx : l[k]? = some x) (hy : l[0]? = some y) : succAt l k = (inB x.day 0 1048576 && decide (x.day = y.day + k)) := by simp [succAt, hx, hy]
theorem spring_successive (v : Value) (l : List Weather) (w : World) (hl : l.length ≤ 1000000) (hv : Sl w 3 Weather.cells v l) : Calls Tryz.prog 54 #[v] w fun e w' => e = .returned (.bool (succB l)) ∧ Below w.heap.size w w' := by
 obtain ⟨A, n, rfl, _, _, hlen, hA⟩ := hv.open_
 replace hv := hide hv
 replace hA := hide hA
 have hbad : ∀ k, k < l.length → succAt l k = false → succB l = false := fun k hk h => all_of_not hk h
 replace hbad := hide hbad
 go_enter Tryz.func54, Tryz.ntmps54
 go_wp2_with fail
 go_loopw [6] (fun i wr => ∃ k : Nat, k ≤ l.length ∧ i = I k ∧ Hid (AllTo (succAt l) k) ∧ Below w.heap.size w wr) (fun i _ => l.length - (intOf i).toNat)
 case atStart => exact ⟨0, Nat.zero_le _, rfl, hide (AllTo.zero _), Below.refl _ _⟩
 case round =>
  obtain ⟨k, hk, rfl, hn, hb⟩ := hrel
  by_cases hlt : k < l.length
  ·obtain ⟨b, off, rfl, hbw⟩ := hA.out k hlt
   obtain ⟨x, hx⟩ := getElem?_of_lt hlt
   obtain ⟨y, hy⟩ := getElem?_of_lt (xs := l) (k := 0) (by omega)
   obtain ⟨hbx, e0, _, _⟩ := ((unhide hv).mono hb).weather_at hx
   obtain ⟨_, p0, _, _⟩ := ((unhide hv).mono hb).weather_at hy
   rw [Nat.zero_mul, Nat.add_zero] at p0
   have hpos := succAt_of hx hy
   have h0l : 0 < l.length := by omega
   clear hA
   have H1 := fun w => spring_day x.day w
   cases hok : inB x.day 0 1048576 with
   | false =>
    rw [hok] at H1
    replace H1 := hide H1
    have hfin := hide (hbad.out k hlt (by rw [hpos, hok]; simp))
    clear hbad hx hn hpos hy
    go_wp2_with fail
    (refine wp_grow ?_; (repeat go_big_quiet_step ((go_at_call 35; exact calls_grew_same (H1.out _)))); refine wp_grow0 ?_; intro W1 hW1)
    go_wp2_with fail
    go_ret
    exact ⟨ret_bool hfin.out.symm, bup hb hW1⟩
   | true =>
    rw [hok] at H1
    replace H1 := hide H1
    have hyd : 0 ≤ y.day ∧ y.day ≤ 1048576 := by
     rcases Nat.lt_or_ge 0 k with h | h
     ·have := hn.out 0 h
      rw [succAt_of hy hy] at this
      simp only [Bool.and_eq_true] at this
      exact inB_true.1 this.1
     ·have : k = 0 := by omega
      subst this
      rw [hx] at hy; cases hy
      exact inB_true.1 hok
    obtain ⟨y1, y2⟩ := hyd
    have hwr : IntKind.i64.wrap (y.day + (k : Int)) = y.day + (k : Int) := IntWalk.i64_in _ (by omega)
    by_cases hd : x.day = y.day + k
    ·have hg := hide (hn.out.succ (show succAt l k = true by rw [hpos, hok]; simpa using hd))
     have hdn : (x.day != y.day + (k : Int)) = false := by simpa using hd
     clear hbad hx hn hpos hy
     replace hd := hide hd
     go_wp2_with fail
     (refine wp_grow ?_; (repeat go_big_quiet_step ((go_at_call 35; exact calls_grew_same (H1.out _)))); refine wp_grow0 ?_; intro W1 hW1)
     go_wp2_with fail
     go_roundw
     case rel => exact ⟨k + 1, by omega, by go_num, hg, bup hb hW1⟩
     case measure => simp [intOf]; omega
    ·have hfin := hide (hbad.out k hlt (by rw [hpos, hok]; simpa using hd))
     have hdn : (x.day != y.day + (k : Int)) = true := by simpa using hd
     clear hbad hx hn hpos hy
     go_wp2_with fail
     (refine wp_grow ?_; (repeat go_big_quiet_step ((go_at_call 35; exact calls_grew_same (H1.out _)))); refine wp_grow0 ?_; intro W1 hW1)
     go_wp2_with fail
     go_ret
     exact ⟨ret_bool hfin.out.symm, bup hb hW1⟩
  ·have he : k = l.length := by omega
   subst he
   have hfin := hide (show succB l = true from AllTo.all hn.out)
   clear hbad hn hA
   go_wp2_with fail
   go_ret
   exact ⟨ret_bool hfin.out.symm, hb⟩

theorem spring_CheckSpring (c : Climate) (no : Int) (v : Value) (l : List Weather) (w : World) (hv : Sl w 3 Weather.cells v l) : Calls Tryz.prog 29 #[c.v, .agg #[I no, v]] w fun e w' => e = .returned (I (springE c ⟨no, l⟩)) ∧ Below w.heap.size w w' := by
 obtain ⟨A, n, rfl, _, _, hlen, hA⟩ := hv.open_
 clear hA
 have H1 := hide (fun w => spring_CheckClimate c w)
 cases h1 : climateOk c with
 | false =>
  have hE : climateE c = 61 := by simp [climateE, h1]
  have hfin := hide (show springE c ⟨no, l⟩ = 61 by simp [springE, h1])
  unfold Climate.v at *
  rw [hE] at H1
  go_enter Tryz.func29, Tryz.ntmps29
  go_wp2_with (first | (go_at_call 32; refine (H1.out _).mono ?_; rintro e w' ⟨rfl, hb1⟩))
  go_ret
  exact ⟨ret_int hfin.out.symm, bup (below2 _ _ _) hb1⟩
 | true =>
  have hE : climateE c = 0 := by simp [climateE, h1]
  have H2 := hide (fun w hv => spring_linked c (.slice A l.length n) l w (.of h1) hv)
  replace hv := hide hv
  have hgen : springE c ⟨no, l⟩ = if (inB no 0 4095 && inB l.length 1 512 && succB l && linkedB c l) then 0 else 62 := by
   cases h : (inB no 0 4095 && inB l.length 1 512 && succB l && linkedB c l) <;> simp [springE, h1, springOk, h]
  cases h2 : inB no 0 4095 with
  | false =>
   have hfin := hide (show springE c ⟨no, l⟩ = 62 by rw [hgen, h2]; simp)
   have H3 := hide (fun w => spring_in no 0 4095 w)
   rw [h2] at H3
   clear hgen
   unfold Climate.v at *
   rw [hE] at H1
   go_enter Tryz.func29, Tryz.ntmps29
   go_wp2_with (first | (go_at_call 32; refine (H1.out _).mono ?_; clear H1; rintro e w1 ⟨rfl, hb1⟩; have hc1 := fun o => (bcell hb1).1 w.heap.size o (by simp <;> omega); have hc2 := fun o => (bcell hb1).1 (w.heap.size + 1) o (by simp <;> omega)) | (go_at_call 49; refine (H3.out _).mono ?_; rintro e w' ⟨rfl, rfl⟩))
   go_ret
   exact ⟨ret_int hfin.out.symm, bup (below2 _ _ _) hb1⟩
  | true =>
   have H3 := hide (fun w => spring_in no 0 4095 w)
   rw [h2] at H3
   cases h3 : inB l.length 1 512 with
   | false =>
    have hfin := hide (show springE c ⟨no, l⟩ = 62 by rw [hgen, h3]; simp)
    have H4 := hide (fun w => spring_in l.length 1 512 w)
    rw [h3] at H4
    clear hgen
    unfold Climate.v at *
    rw [hE] at H1
    go_enter Tryz.func29, Tryz.ntmps29
    go_wp2_with (first | (go_at_call 32; refine (H1.out _).mono ?_; clear H1; rintro e w1 ⟨rfl, hb1⟩; have hc1 := fun o => (bcell hb1).1 w.heap.size o (by simp <;> omega); have hc2 := fun o => (bcell hb1).1 (w.heap.size + 1) o (by simp <;> omega)) | (go_at_call 49; refine (H3.out _).mono ?_; clear H3; rintro e w' ⟨rfl, rfl⟩) | (go_at_call 49; refine (H4.out _).mono ?_; rintro e w' ⟨rfl, rfl⟩))
    go_ret
    exact ⟨ret_int hfin.out.symm, bup (below2 _ _ _) hb1⟩
   | true =>
    have hl := inB_true.1 h3
    have H4 := hide (fun w => spring_in l.length 1 512 w)
    rw [h3] at H4
    have H5 := hide (fun w hv => spring_successive (.slice A l.length n) l w (by omega) hv)
    cases h4 : succB l with
    | false =>
     have hfin := hide (show springE c ⟨no, l⟩ = 62 by rw [hgen, h4]; simp)
     rw [h4] at H5
     clear hgen hl
     unfold Climate.v at *
     rw [hE] at H1
     go_enter Tryz.func29, Tryz.ntmps29
     go_wp2_with (first | (go_at_call 32; refine (H1.out _).mono ?_; clear H1; rintro e w1 ⟨rfl, hb1⟩; have hc1 := fun o => (bcell hb1).1 w.heap.size o (by simp <;> omega); have hc2 := fun o => (bcell hb1).1 (w.heap.size + 1) o (by simp <;> omega)) | (go_at_call 49; refine (H3.out _).mono ?_; clear H3; rintro e w' ⟨rfl, rfl⟩) | (go_at_call 49; refine (H4.out _).mono ?_; rintro e w' ⟨rfl, rfl⟩) | (go_at_call 54; refine (H5.out _ (hv.out.mono (bup (below2 _ _ _) hb1))).mono ?_; rintro e w2 ⟨rfl, hb2⟩))
     go_ret
     exact ⟨ret_int hfin.out.symm, bup (bup (below2 _ _ _) hb1) hb2⟩
    | true =>
     rw [h4] at H5
     cases h5 : linkedB c l with
     | false =>
      have hfin := hide (show springE c ⟨no, l⟩ = 62 by rw [hgen, h5]; simp)
      rw [h5] at H2
      clear hgen hl
      unfold Climate.v at *
      rw [hE] at H1
      go_enter Tryz.func29, Tryz.ntmps29
      go_wp2_with (first | (go_at_call 32; refine (H1.out _).mono ?_; clear H1; rintro e w1 ⟨rfl, hb1⟩; have hc1 := fun o => (bcell hb1).1 w.heap.size o (by simp <;> omega); have hc2 := fun o => (bcell hb1).1 (w.heap.size + 1) o (by simp <;> omega); have hs1 := hb1.size; simp at hs1) | (go_at_call 49; refine (H3.out _).mono ?_; clear H3; rintro e w' ⟨rfl, rfl⟩) | (go_at_call 49; refine (H4.out _).mono ?_; rintro e w' ⟨rfl, rfl⟩) | (go_at_call 54; refine (H5.out _ (hv.out.mono (bup (below2 _ _ _) hb1))).mono ?_; rintro e w2 ⟨rfl, hb2⟩; have hd1 := fun o => (bcell hb2).1 w.heap.size o (by omega); have hd2 := fun o => (bcell hb2).1 (w.heap.size + 1) o (by omega)) | (go_at_call 33; refine (H2.out _ (hv.out.mono (bup (bup (below2 _ _ _) hb1) hb2))).mono ?_; rintro e w3 ⟨rfl, hb3⟩))
      go_ret
      exact ⟨ret_int hfin.out.symm, bup (bup (bup (below2 _ _ _) hb1) hb2) hb3⟩
     | true =>
      have hfin := hide (show springE c ⟨no, l⟩ = 0 by rw [hgen, h2, h3, h4, h5]; simp)
      rw [h5] at H2
      clear hgen hl
      unfold Climate.v at *
      rw [hE] at H1
      go_enter Tryz.func29, Tryz.ntmps29
      go_wp2_with (first | (go_at_call 32; refine (H1.out _).mono ?_; clear H1; rintro e w1 ⟨rfl, hb1⟩; have hc1 := fun o => (bcell hb1).1 w.heap.size o (by simp <;> omega); have hc2 := fun o => (bcell hb1).1 (w.heap.size + 1) o (by simp <;> omega); have hs1 := hb1.size; simp at hs1) | (go_at_call 49; refine (H3.out _).mono ?_; clear H3; rintro e w' ⟨rfl, rfl⟩) | (go_at_call 49; refine (H4.out _).mono ?_; rintro e w' ⟨rfl, rfl⟩) | (go_at_call 54; refine (H5.out _ (hv.out.mono (bup (below2 _ _ _) hb1))).mono ?_; rintro e w2 ⟨rfl, hb2⟩; have hd1 := fun o => (bcell hb2).1 w.heap.size o (by omega); have hd2 := fun o => (bcell hb2).1 (w.heap.size + 1) o (by omega)) | (go_at_call 33; refine (H2.out _ (hv.out.mono (bup (bup (below2 _ _ _) hb1) hb2))).mono ?_; rintro e w3 ⟨rfl, hb3⟩))
      go_ret
      exact ⟨ret_int hfin.out.symm, bup (bup (bup (below2 _ _ _) hb1) hb2) hb3⟩
end Go.Proofs.YtifeniiefhpadaaGreatDoor
