/- What a log grants: gaps, nearness of all pairs, what a sequence that agrees lies within, and what fill makes. Conditions stand in the theorems. -/
import Derived.Test.YtmjfdobjnnfafaaGreatDoorSpring14
import Derived.Test.YtmjfdobjnnfafaaGreatDoorAgainSpring9
set_option linter.all false
namespace Go.Proofs.YtmjfdobjnnfafaaGreatDoor
open Go.RowKit

theorem sizeF_zle (n : Int) : 0 ≤ sizeF n := by unfold sizeF; omega
theorem sizeF_sub (a b : Int) : sizeF (a - b) = sizeF (b - a) := by unfold sizeF; omega
theorem swing_mono {c : Climate} (hs : 0 ≤ c.swing) {m n : Int} (h : m ≤ n) : c.swing * m ≤ c.swing * n := Int.mul_le_mul_of_nonneg_left h hs
/-- The temperatures of two weathers can be those of their days. -/
def NearP (c : Climate) (x y : Weather) : Prop := sizeF (x.temp - y.temp) ≤ c.swing * sizeF (x.day - y.day)
theorem nearP_of {c : Climate} {x y : Weather} (h : nearB c x y = true) : NearP c x y := by unfold NearP; simpa [nearB] using h
theorem nearP_to {c : Climate} {x y : Weather} (h : NearP c x y) : nearB c x y = true := by unfold NearP at h; simpa [nearB] using h
theorem NearP.symm {c : Climate} {x y : Weather} (h : NearP c x y) : NearP c y x := by
 unfold NearP at h ⊢
 rw [sizeF_sub y.temp, sizeF_sub y.day]
 exact h
theorem NearP.refl {c : Climate} (hs : 0 ≤ c.swing) (x : Weather) : NearP c x x := by
 unfold NearP
 rw [Int.sub_self, Int.sub_self]
 have : sizeF 0 = 0 := rfl
 rw [this]
 simp
theorem NearP.trans {c : Climate} {x y z : Weather} (h1 : NearP c x y) (h2 : NearP c y z) (hb : sizeF (x.day - y.day) + sizeF (y.day - z.day) = sizeF (x.day - z.day)) : NearP c x z := by
 unfold NearP at *
 rw [← hb, Int.mul_add]
 have : sizeF (x.temp - z.temp) ≤ sizeF (x.temp - y.temp) + sizeF (y.temp - z.temp) := by unfold sizeF; omega
 omega
/-- The same with the days' distance only bounded. -/
theorem NearP.via {c : Climate} (hs : 0 ≤ c.swing) {x y : Weather} (h : NearP c x y) (d : Int) : sizeF (x.temp - y.temp) ≤ c.swing * sizeF (x.day - d) + c.swing * sizeF (y.day - d) := by
 unfold NearP at h
 have h1 : sizeF (x.day - y.day) ≤ sizeF (x.day - d) + sizeF (y.day - d) := by unfold sizeF; omega
 have h2 := swing_mono hs h1
 rw [Int.mul_add] at h2
 omega
theorem linked_step {c : Climate} {l : List Weather} (h : linkedB c l = true) {k : Nat} {x y : Weather} (hy : l[k]? = some y) (hx : l[k + 1]? = some x) : y.day < x.day ∧ NearP c y x := by
 have hm := linkedB_ok h x (List.mem_of_getElem? hx)
 have := List.all_eq_true.1 h (k + 1) (List.mem_range.2 (List.getElem?_eq_some_iff.1 hx).1)
 have hw : weatherOk c x = true := linkedAt_ok hx this
 rw [linkedAt_pos (by omega) hx (by simpa using hy) hw] at this
 simp only [Bool.and_eq_true, decide_eq_true_eq] at this
 exact ⟨this.1, nearP_of this.2⟩
theorem linked_pair {c : Climate} {l : List Weather} (h : linkedB c l = true) {i : Nat} {x : Weather} (hx : l[i]? = some x) : ∀ (n : Nat) (y : Weather), l[i + n + 1]? = some y → x.day < y.day ∧ NearP c x y
 | 0, y, hy => linked_step h hx hy
 | n + 1, y, hy => by
  obtain ⟨z, hz⟩ := getElem?_of_lt (xs := l) (k := i + n + 1) (by have := (List.getElem?_eq_some_iff.1 hy).1; omega)
  obtain ⟨h1, h2⟩ := linked_pair h hx n z hz
  obtain ⟨h3, h4⟩ := linked_step h hz (by rw [show i + n + 1 + 1 = i + (n + 1) + 1 by omega]; exact hy)
  exact ⟨by omega, h2.trans h4 (by unfold sizeF; omega)⟩
theorem linked_near {c : Climate} (hs : 0 ≤ c.swing) {l : List Weather} (h : linkedB c l = true) {x y : Weather} (hx : x ∈ l) (hy : y ∈ l) : NearP c x y ∧ (x.day = y.day → x = y) := by
 obtain ⟨i, hi⟩ := List.getElem?_of_mem hx
 obtain ⟨j, hj⟩ := List.getElem?_of_mem hy
 rcases Nat.lt_trichotomy i j with hij | hij | hij
 ·have := linked_pair h hi (j - i - 1) y (by rw [show i + (j - i - 1) + 1 = j by omega]; exact hj)
  exact ⟨this.2, fun he => by omega⟩
 ·subst hij
  have : x = y := Option.some.inj (hi.symm.trans hj)
  subst this
  exact ⟨.refl hs _, fun _ => rfl⟩
 ·have := linked_pair h hj (i - j - 1) x (by rw [show j + (i - j - 1) + 1 = i by omega]; exact hi)
  exact ⟨this.2.symm, fun he => by omega⟩
/-- What a fold of gapStep is. -/
structure GapIs (c : Climate) (d : Int) (l : List Weather) (g G : Gap) : Prop where
 lo : g.tlo ≤ G.tlo
 los : ∀ x ∈ l, x.temp - c.swing * sizeF (x.day - d) ≤ G.tlo
 lo' : G.tlo = g.tlo ∨ ∃ x ∈ l, G.tlo = x.temp - c.swing * sizeF (x.day - d)
 hi : G.thi ≤ g.thi
 his : ∀ x ∈ l, G.thi ≤ x.temp + c.swing * sizeF (x.day - d)
 hi' : G.thi = g.thi ∨ ∃ x ∈ l, G.thi = x.temp + c.swing * sizeF (x.day - d)
 rain : ((∀ x ∈ l, x.day ≠ d) ∧ G.rlo = g.rlo ∧ G.rhi = g.rhi) ∨ ∃ x ∈ l, x.day = d ∧ G.rlo = x.rain ∧ G.rhi = x.rain
theorem gap_fold (c : Climate) (d : Int) : ∀ (l : List Weather) (g : Gap), GapIs c d l g (l.foldl (gapStep c d) g)
 | [], g => ⟨Int.le_refl _, fun _ h => by simp at h, .inl rfl, Int.le_refl _, fun _ h => by simp at h, .inl rfl, .inl ⟨fun _ h => by simp at h, rfl, rfl⟩⟩
 | x :: xs, g => by
  have ih := gap_fold c d xs (gapStep c d g x)
  rw [List.foldl_cons]
  generalize xs.foldl (gapStep c d) (gapStep c d g x) = G at ih ⊢
  have e1 : (gapStep c d g x).tlo = max g.tlo (x.temp - c.swing * sizeF (x.day - d)) := rfl
  have e2 : (gapStep c d g x).thi = min g.thi (x.temp + c.swing * sizeF (x.day - d)) := rfl
  have e3 : (gapStep c d g x).rlo = if x.day = d then x.rain else g.rlo := rfl
  have e4 : (gapStep c d g x).rhi = if x.day = d then x.rain else g.rhi := rfl
  have h1 := ih.lo
  have h2 := ih.hi
  rw [e1] at h1
  rw [e2] at h2
  refine ⟨by omega, ?_, ?_, by omega, ?_, ?_, ?_⟩
  ·intro y hy
   rcases List.mem_cons.1 hy with rfl | hy
   ·omega
   ·exact ih.los y hy
  ·rcases ih.lo' with h | ⟨y, hy, h⟩
   ·rw [e1] at h
    rcases ilt g.tlo (x.temp - c.swing * sizeF (x.day - d)) with g1 | g1
    ·exact .inr ⟨x, List.mem_cons_self .., by omega⟩
    ·exact .inl (by omega)
   ·exact .inr ⟨y, List.mem_cons_of_mem _ hy, h⟩
  ·intro y hy
   rcases List.mem_cons.1 hy with rfl | hy
   ·omega
   ·exact ih.his y hy
  ·rcases ih.hi' with h | ⟨y, hy, h⟩
   ·rw [e2] at h
    rcases ilt (x.temp + c.swing * sizeF (x.day - d)) g.thi with g1 | g1
    ·exact .inr ⟨x, List.mem_cons_self .., by omega⟩
    ·exact .inl (by omega)
   ·exact .inr ⟨y, List.mem_cons_of_mem _ hy, h⟩
  ·rcases ih.rain with ⟨h, h3, h4⟩ | ⟨y, hy, h⟩
   ·rw [e3] at h3
    rw [e4] at h4
    by_cases hx : x.day = d
    ·rw [if_pos hx] at h3 h4
     exact .inr ⟨x, List.mem_cons_self .., hx, h3, h4⟩
    ·rw [if_neg hx] at h3 h4
     refine .inl ⟨fun y hy => ?_, h3, h4⟩
     rcases List.mem_cons.1 hy with rfl | hy
     ·exact hx
     ·exact h y hy
   ·exact .inr ⟨y, List.mem_cons_of_mem _ hy, h⟩
theorem gap_is (c : Climate) (l : List Weather) (d : Int) : GapIs c d l ⟨c.coldest, c.warmest, 0, c.wettest⟩ (gapF c l d) := gap_fold c d l _
/-- A gap of a valid log is a valid span of temperatures and of precipitation. -/
theorem gap_valid {c : Climate} {l : List Weather} (h : LogOk c l) (d : Int) : (c.coldest ≤ (gapF c l d).tlo ∧ (gapF c l d).tlo ≤ (gapF c l d).thi ∧ (gapF c l d).thi ≤ c.warmest) ∧ 0 ≤ (gapF c l d).rlo ∧ (gapF c l d).rlo ≤ (gapF c l d).rhi ∧ (gapF c l d).rhi ≤ c.wettest := by
 have hG := gap_is c l d
 generalize gapF c l d = G at hG ⊢
 have hs := h.clim.swing.1
 have hcw := h.clim.cw
 have hwt := h.clim.wettest.1
 have k0 : ∀ x : Weather, 0 ≤ c.swing * sizeF (x.day - d) := fun x => Int.mul_nonneg hs (sizeF_zle _)
 refine ⟨⟨hG.lo, ?_, hG.hi⟩, ?_⟩
 ·rcases hG.lo' with h1 | ⟨x, hx, h1⟩ <;> rcases hG.hi' with h2 | ⟨y, hy, h2⟩ <;> rw [h1, h2]
  ·exact hcw
  ·have := (h.mem y hy).temp
   have := k0 y
   show c.coldest ≤ _
   omega
  ·have := (h.mem x hx).temp
   have := k0 x
   show _ ≤ c.warmest
   omega
  ·have h3 := ((linked_near hs h.link hx hy).1).via hs d
   have h4 : x.temp - y.temp ≤ sizeF (x.temp - y.temp) := by unfold sizeF; omega
   omega
 ·rcases hG.rain with ⟨_, h1, h2⟩ | ⟨x, hx, _, h1, h2⟩
  ·rw [h1, h2]
   exact ⟨Int.le_refl _, hwt, Int.le_refl _⟩
  ·rw [h1, h2]
   have := (h.mem x hx).rain
   exact ⟨this.1, Int.le_refl _, this.2⟩
/-- What agrees with a log: valid days in a row, each weather of the log near each of them, and the same where it is of the same day. -/
structure AgreeIs (c : Climate) (l days : List Weather) : Prop where
 link : linkedB c days = true
 succ : succB days = true
 n1 : 1 ≤ days.length
 n2 : days.length ≤ 512
 near : ∀ x ∈ l, ∀ w ∈ days, NearP c x w ∧ (x.day = w.day → x = w)
theorem agree_is {c : Climate} {l days : List Weather} (hc : ClimOk c) (h : agreesB c l days = true) (hs : succB days = true) (h1 : 1 ≤ days.length) (h2 : days.length ≤ 512) : AgreeIs c l days := by
 have hsw := hc.swing.1
 simp only [agreesB, Bool.and_eq_true] at h
 obtain ⟨hl, ha⟩ := h
 refine ⟨hl, hs, h1, h2, fun x hx w hw => ?_⟩
 obtain ⟨y0, hy0⟩ := getElem?_of_lt (xs := days) (k := 0) (by omega)
 obtain ⟨i, hi⟩ := List.getElem?_of_mem hw
 have hil := (List.getElem?_eq_some_iff.1 hi).1
 have hwd := (succB_ok hs _ _ _ hi hy0).2
 have hkl : nextTo days x < days.length := by unfold nextTo; omega
 obtain ⟨y, hy⟩ := getElem?_of_lt hkl
 have hyd := (succB_ok hs _ _ _ hy hy0).2
 have hax := List.all_eq_true.1 ha x hx
 rw [agreesAt_eq hy] at hax
 simp only [Bool.and_eq_true, Bool.or_eq_true, decide_eq_true_eq] at hax
 obtain ⟨a1, a2⟩ := hax
 have hk : nextTo days x = (min (max (x.day - y0.day) 0) (days.length - 1)).toNat := by unfold nextTo; rw [getD_of hy0]
 have hyw := linked_near hsw hl (List.mem_of_getElem? hy) hw
 refine ⟨(nearP_of a1).trans hyw.1 (by unfold sizeF; omega), fun he => ?_⟩
 have hyx : x.day = y.day := by omega
 have hxy : x = y := by
  rcases a2 with a2 | a2
  ·exact absurd hyx a2
  ·exact a2
 rw [hxy]
 exact hyw.2 (by omega)
/-- What agrees lies in the gaps. -/
theorem agree_in {c : Climate} {l days : List Weather} (h : AgreeIs c l days) {w : Weather} (hw : w ∈ days) : ((gapF c l w.day).tlo ≤ w.temp ∧ w.temp ≤ (gapF c l w.day).thi) ∧ (gapF c l w.day).rlo ≤ w.rain ∧ w.rain ≤ (gapF c l w.day).rhi := by
 have hG := gap_is c l w.day
 have hwo := linkedB_ok h.link w hw
 generalize gapF c l w.day = G at hG ⊢
 refine ⟨⟨?_, ?_⟩, ?_⟩
 ·rcases hG.lo' with h1 | ⟨x, hx, h1⟩ <;> rw [h1]
  ·exact hwo.temp.1
  ·have := (h.near x hx w hw).1
   unfold NearP at this
   have h4 : x.temp - w.temp ≤ sizeF (x.temp - w.temp) := by unfold sizeF; omega
   omega
 ·rcases hG.hi' with h1 | ⟨x, hx, h1⟩ <;> rw [h1]
  ·exact hwo.temp.2
  ·have := (h.near x hx w hw).1
   unfold NearP at this
   have h4 : w.temp - x.temp ≤ sizeF (x.temp - w.temp) := by unfold sizeF; omega
   omega
 ·rcases hG.rain with ⟨_, h1, h2⟩ | ⟨x, hx, hd, h1, h2⟩ <;> rw [h1, h2]
  ·exact hwo.rain
  ·rw [(h.near x hx w hw).2 hd]
   exact ⟨Int.le_refl _, Int.le_refl _⟩
theorem warmW_day (c : Climate) (l : List Weather) (t : Bool) (d : Int) : (warmW c l t d).day = d := by cases t <;> rfl
theorem warmW_temp (c : Climate) (l : List Weather) (t : Bool) (d : Int) : (warmW c l t d).temp = if t = true then (gapF c l d).thi else (gapF c l d).tlo := by cases t <;> rfl
theorem warmW_rain (c : Climate) (l : List Weather) (t : Bool) (d : Int) : (warmW c l t d).rain = if t = true then (gapF c l d).rlo else (gapF c l d).rhi := by cases t <;> rfl
theorem warmW_ok {c : Climate} {l : List Weather} (h : LogOk c l) (t : Bool) {d : Int} (hd : 0 ≤ d ∧ d ≤ 1048576) : weatherOk c (warmW c l t d) = true := by
 obtain ⟨⟨g1, g2, g3⟩, g4, g5, g6⟩ := gap_valid h d
 simp only [weatherOk, Bool.and_eq_true, inB_true]
 rw [warmW_day, warmW_temp, warmW_rain]
 refine ⟨⟨hd, ?_⟩, ?_⟩ <;> cases t <;> simp <;> omega
theorem warmW_near {c : Climate} {l : List Weather} (h : LogOk c l) (t : Bool) (d : Int) : nearB c (warmW c l t d) (warmW c l t (d + 1)) = true := by
 have hs := h.clim.swing.1
 have ha := gap_is c l d
 have hb := gap_is c l (d + 1)
 refine nearP_to ?_
 unfold NearP
 rw [warmW_day, warmW_day, warmW_temp, warmW_temp]
 have h1 : sizeF (d - (d + 1)) = 1 := by unfold sizeF; omega
 rw [h1, Int.mul_one]
 generalize gapF c l d = A at ha ⊢
 generalize gapF c l (d + 1) = B at hb ⊢
 have hk : ∀ x : Weather, c.swing * sizeF (x.day - (d + 1)) ≤ c.swing * sizeF (x.day - d) + c.swing ∧ c.swing * sizeF (x.day - d) ≤ c.swing * sizeF (x.day - (d + 1)) + c.swing := fun x => by
  have p1 := swing_mono hs (show sizeF (x.day - (d + 1)) ≤ sizeF (x.day - d) + 1 by unfold sizeF; omega)
  have p2 := swing_mono hs (show sizeF (x.day - d) ≤ sizeF (x.day - (d + 1)) + 1 by unfold sizeF; omega)
  rw [Int.mul_add, Int.mul_one] at p1 p2
  exact ⟨p1, p2⟩
 have t1 : A.tlo ≤ B.tlo + c.swing := by
  rcases ha.lo' with e | ⟨x, hx, e⟩
  ·have := hb.lo; rw [e]; simp only at this ⊢; omega
  ·have := hb.los x hx; have := (hk x).1; omega
 have t2 : B.tlo ≤ A.tlo + c.swing := by
  rcases hb.lo' with e | ⟨x, hx, e⟩
  ·have := ha.lo; rw [e]; simp only at this ⊢; omega
  ·have := ha.los x hx; have := (hk x).2; omega
 have t3 : A.thi ≤ B.thi + c.swing := by
  rcases hb.hi' with e | ⟨x, hx, e⟩
  ·have := ha.hi; rw [e]; simp only at this ⊢; omega
  ·have := ha.his x hx; have := (hk x).2; omega
 have t4 : B.thi ≤ A.thi + c.swing := by
  rcases ha.hi' with e | ⟨x, hx, e⟩
  ·have := hb.hi; rw [e]; simp only at this ⊢; omega
  ·have := hb.his x hx; have := (hk x).1; omega
 cases t <;> simp <;> unfold sizeF <;> omega
theorem fillF_at {c : Climate} {l : List Weather} {a : Int} {n : Nat} {t : Bool} {i : Nat} (hi : i < n) : (fillF c l a n t)[i]? = some (warmW c l t (a + i)) := by
 simp [fillF, hi]
theorem fillF_get {c : Climate} {l : List Weather} {a : Int} {n : Nat} {t : Bool} {i : Nat} {x : Weather} (hx : (fillF c l a n t)[i]? = some x) : i < n ∧ x = warmW c l t (a + i) := by
 have hi : i < n := by
  have := (List.getElem?_eq_some_iff.1 hx).1
  simpa [fillF] using this
 rw [fillF_at hi] at hx
 exact ⟨hi, (Option.some.inj hx).symm⟩
theorem fillF_length (c : Climate) (l : List Weather) (a : Int) (n : Nat) (t : Bool) : (fillF c l a n t).length = n := by simp [fillF]
theorem fill_succ {c : Climate} {l : List Weather} {a : Int} {n : Nat} {t : Bool} (ha : 0 ≤ a) (hb : a + n ≤ 1048577) : succB (fillF c l a n t) = true := by
 refine List.all_eq_true.2 fun i hi => ?_
 rw [List.mem_range, fillF_length] at hi
 rw [succAt_of (fillF_at hi) (fillF_at (show 0 < n by omega)), warmW_day, warmW_day]
 simp only [Bool.and_eq_true, decide_eq_true_eq]
 exact ⟨inB_true.2 (by omega), by omega⟩
theorem fill_linked {c : Climate} {l : List Weather} (h : LogOk c l) {a : Int} {n : Nat} {t : Bool} (ha : 0 ≤ a) (hb : a + n ≤ 1048577) : linkedB c (fillF c l a n t) = true := by
 refine List.all_eq_true.2 fun i hi => ?_
 rw [List.mem_range, fillF_length] at hi
 have hw := warmW_ok h t (d := a + i) (by omega)
 cases i with
 | zero => exact linkedAt_zero (fillF_at hi) hw
 | succ i =>
  rw [linkedAt_pos (by omega) (fillF_at hi) (y := warmW c l t (a + i)) (by simpa using fillF_at (show i < n by omega)) hw, warmW_day, warmW_day]
  have hn := warmW_near h t (a + i)
  rw [show a + (i : Int) + 1 = a + ((i + 1 : Nat) : Int) by push_cast; omega] at hn
  simp only [Bool.and_eq_true, decide_eq_true_eq]
  exact ⟨by push_cast; omega, hn⟩
/-- Each weather of a log lies as near to the ends of a gap as its day is. -/
theorem warmW_log {c : Climate} {l : List Weather} (h : LogOk c l) (t : Bool) (d : Int) {x : Weather} (hx : x ∈ l) : NearP c x (warmW c l t d) ∧ (x.day = d → x = warmW c l t d) := by
 have hs := h.clim.swing.1
 have hG := gap_is c l d
 have hv := gap_valid h d
 have hxo := h.mem x hx
 have k0 : 0 ≤ c.swing * sizeF (x.day - d) := Int.mul_nonneg hs (sizeF_zle _)
 have hgen : ∀ G : Gap, GapIs c d l ⟨c.coldest, c.warmest, 0, c.wettest⟩ G → (G.thi ≤ x.temp + c.swing * sizeF (x.day - d) ∧ x.temp - c.swing * sizeF (x.day - d) ≤ G.thi) ∧ (G.tlo ≤ x.temp + c.swing * sizeF (x.day - d) ∧ x.temp - c.swing * sizeF (x.day - d) ≤ G.tlo) := fun G hG => by
  refine ⟨⟨hG.his x hx, ?_⟩, ?_, hG.los x hx⟩
  ·rcases hG.hi' with e | ⟨y, hy, e⟩
   ·rw [e]; have := hxo.temp.2; show _ ≤ c.warmest; omega
   ·have h3 := ((linked_near hs h.link hx hy).1).via hs d
    have h4 : x.temp - y.temp ≤ sizeF (x.temp - y.temp) := by unfold sizeF; omega
    omega
  ·rcases hG.lo' with e | ⟨y, hy, e⟩
   ·rw [e]; have := hxo.temp.1; show c.coldest ≤ _; omega
   ·have h3 := ((linked_near hs h.link hx hy).1).via hs d
    have h4 : y.temp - x.temp ≤ sizeF (x.temp - y.temp) := by unfold sizeF; omega
    omega
 obtain ⟨⟨b1, b2⟩, b3, b4⟩ := hgen _ hG
 refine ⟨?_, fun he => ?_⟩
 ·unfold NearP
  rw [warmW_day, warmW_temp]
  cases t <;> simp <;> unfold sizeF at * <;> omega
 ·have hz : c.swing * sizeF (x.day - d) = 0 := by rw [he, Int.sub_self, show sizeF 0 = 0 from rfl, Int.mul_zero]
  have hr : (gapF c l d).rlo = x.rain ∧ (gapF c l d).rhi = x.rain := by
   rcases hG.rain with ⟨e, _⟩ | ⟨y, hy, hyd, e1, e2⟩
   ·exact absurd he (e x hx)
   ·have := (linked_near hs h.link hx hy).2 (by omega)
    rw [this]
    exact ⟨e1, e2⟩
  rw [Weather.eq_iff, warmW_day, warmW_temp, warmW_rain]
  refine ⟨he, ?_, ?_⟩ <;> cases t <;> simp <;> omega
theorem fill_agrees {c : Climate} {l : List Weather} (h : LogOk c l) {a : Int} {n : Nat} {t : Bool} (ha : 0 ≤ a) (hn : 0 < n) (hb : a + n ≤ 1048577) : agreesB c l (fillF c l a n t) = true := by
 simp only [agreesB, Bool.and_eq_true]
 refine ⟨fill_linked h ha hb, List.all_eq_true.2 fun x hx => ?_⟩
 have hkl : nextTo (fillF c l a n t) x < n := by unfold nextTo; rw [fillF_length]; omega
 rw [agreesAt_eq (fillF_at hkl)]
 obtain ⟨h1, h2⟩ := warmW_log h t (a + nextTo (fillF c l a n t) x) hx
 rw [warmW_day]
 simp only [Bool.and_eq_true, Bool.or_eq_true, decide_eq_true_eq]
 refine ⟨nearP_to h1, ?_⟩
 by_cases he : x.day = a + (nextTo (fillF c l a n t) x : Int)
 ·exact .inr (h2 he)
 ·exact .inl he
theorem loggedE_zero {c : Climate} {l : List Weather} {xs : List Bool} (h : loggedE c l xs = 0) : logE c l = 0 ∧ climateOk c = true ∧ xs.all id = true := by
 unfold loggedE at h
 split at h
 ·rename_i h1
  rcases asked_cases c xs with ⟨_, g2, g3⟩ | ⟨g, _⟩
  ·exact ⟨h1, g2, g3⟩
  ·exact absurd h g
 ·rename_i h1; exact absurd h h1
theorem loggedE_ok {c : Climate} {l : List Weather} {xs : List Bool} (h : logE c l = 0) (hc : climateOk c = true) (hx : xs.all id = true) : loggedE c l xs = 0 := by
 unfold loggedE
 rw [if_pos h]
 unfold askedE
 rw [if_neg (by simp [hc]), if_neg]
 simpa using hx
theorem allow_is {c : Climate} {l days : List Weather} (h : allowV c l days = true) : logE c l = 0 ∧ climateOk c = true ∧ allowE c l days = 0 ∧ LogOk c l ∧ AgreeIs c l days := by
 simp only [allowV, Bool.and_eq_true, decide_eq_true_eq] at h
 obtain ⟨h1, h2⟩ := h
 obtain ⟨g1, g2, g3⟩ := loggedE_zero h1
 simp at g3
 have hl := LogOk.of g1
 have hn := inB_true.1 g3.1
 exact ⟨g1, g2, h1, hl, agree_is hl.clim h2 g3.2 (by omega) (by omega)⟩
theorem gapE_zero {c : Climate} {l : List Weather} {d : Int} (h : logE c l = 0) (hc : climateOk c = true) (hd : 0 ≤ d ∧ d ≤ 1048576) : gapE c l d = 0 := loggedE_ok h hc (by simp [inB_true.2 hd])
theorem agree_day {c : Climate} {l days : List Weather} (h : AgreeIs c l days) {w : Weather} (hw : w ∈ days) : 0 ≤ w.day ∧ w.day ≤ 1048576 := (linkedB_ok h.link w hw).day
theorem fill_is {c : Climate} {l : List Weather} {a b : Int} (h : fillE c l a b = 0) : logE c l = 0 ∧ climateOk c = true ∧ LogOk c l ∧ 0 ≤ a ∧ a < b ∧ b ≤ 1048576 ∧ b - a ≤ 512 ∧ ∀ t, fillV c l a b t = fillF c l a (b - a).toNat t := by
 have h0 := h
 unfold fillE at h
 split at h
 ·rename_i h1
  obtain ⟨g1, g2, _⟩ := loggedE_zero h1
  obtain ⟨s1, s2, s3, s4⟩ := stretch_ok h
  exact ⟨g1, g2, .of g1, s1, s2, s3, s4, fun t => by rw [fillV, if_pos h0]⟩
 ·rename_i h1; exact absurd h h1
theorem fill_allowed {c : Climate} {l : List Weather} {a b : Int} (h : fillE c l a b = 0) (t : Bool) : allowV c l (fillV c l a b t) = true ∧ allowE c l (fillV c l a b t) = 0 := by
 obtain ⟨g1, g2, g3, s1, s2, s3, s4, hf⟩ := fill_is h
 have hE : allowE c l (fillV c l a b t) = 0 := by
  refine loggedE_ok g1 g2 ?_
  rw [hf, fillF_length]
  simp
  exact ⟨inB_true.2 (by omega), fill_succ s1 (by omega)⟩
 refine ⟨?_, hE⟩
 simp only [allowV, Bool.and_eq_true, decide_eq_true_eq]
 refine ⟨hE, ?_⟩
 rw [hf]
 exact fill_agrees g3 s1 (by omega) (by omega)
end Go.Proofs.YtmjfdobjnnfafaaGreatDoor
