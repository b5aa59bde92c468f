/- What a log grants: gaps, nearness of all pairs, what a sequence that agrees lies within, and what fill makes. Conditions stand in the theorems. -/
import Derived.Test.YtifeniiefhpadaaGreatDoorSpring14
set_option linter.all false
namespace Go.Proofs.YtifeniiefhpadaaGreatDoor
open Go.RowKit

theorem sizeF_zle (n : Int) : 0 ≤ sizeF n := by unfold sizeF; omega
theorem sizeF_sub (a b : Int) : sizeF (a - b) = sizeF (b - a) := by unfold sizeF; omega
theorem swing_mono {c : Climate} (hs : 0 ≤ c.swing) {m n : Int} (h : m ≤ n) : c.swing * m ≤ c.swing * n := Int.mul_le_mul_of_nonneg_left h hs
def NearP (c : Climate) (x y : Weather) : Prop := sizeF (x.temp - y.temp) ≤ c.swing * sizeF (x.day - y.day)
theorem nearP_of {c : Climate} {x y : Weather} (h : nearB c x y = true) : NearP c x y := by unfold NearP; simpa [nearB] using h
theorem NearP.symm {c : Climate} {x y : Weather} (h : NearP c x y) : NearP c y x := by
 unfold NearP at h ⊢
 rw [sizeF_sub y.temp, sizeF_sub y.day]
 exact h
theorem NearP.refl {c : Climate} (hs : 0 ≤ c.swing) (x : Weather) : NearP c x x := by
 unfold NearP
 rw [Int.sub_self, Int.sub_self]
 have : sizeF 0 = 0 := rfl
 rw [this]
 simp
theorem NearP.trans {c : Climate} {x y z : Weather} (h1 : NearP c x y) (h2 : NearP c y z) (hb : sizeF (x.day - y.day) + sizeF (y.day - z.day) = sizeF (x.day - z.day)) : NearP c x z := by
 unfold NearP at *
 rw [← hb, Int.mul_add]
 have : sizeF (x.temp - z.temp) ≤ sizeF (x.temp - y.temp) + sizeF (y.temp - z.temp) := by unfold sizeF; omega
 omega
theorem NearP.via {c : Climate} (hs : 0 ≤ c.swing) {x y : Weather} (h : NearP c x y) (d : Int) : sizeF (x.temp - y.temp) ≤ c.swing * sizeF (x.day - d) + c.swing * sizeF (y.day - d) := by
 unfold NearP at h
 have h1 : sizeF (x.day - y.day) ≤ sizeF (x.day - d) + sizeF (y.day - d) := by unfold sizeF; omega
 have h2 := swing_mono hs h1
 rw [Int.mul_add] at h2
 omega
theorem linked_step {c : Climate} {l : List Weather} (h : linkedB c l = true) {k : Nat} {x y : Weather} (hy : l[k]? = some y) (hx : l[k + 1]? = some x) : y.day < x.day ∧ NearP c y x := by
 have hm := linkedB_ok h x (List.mem_of_getElem? hx)
 have := List.all_eq_true.1 h (k + 1) (List.mem_range.2 (List.getElem?_eq_some_iff.1 hx).1)
 have hw : weatherOk c x = true := linkedAt_ok hx this
 rw [linkedAt_pos (by omega) hx (by simpa using hy) hw] at this
 simp only [Bool.and_eq_true, decide_eq_true_eq] at this
 exact ⟨this.1, nearP_of this.2⟩
theorem linked_pair {c : Climate} {l : List Weather} (h : linkedB c l = true) {i : Nat} {x : Weather} (hx : l[i]? = some x) : ∀ (n : Nat) (y : Weather), l[i + n + 1]? = some y → x.day < y.day ∧ NearP c x y
 | 0, y, hy => linked_step h hx hy
 | n + 1, y, hy => by
  obtain ⟨z, hz⟩ := getElem?_of_lt (xs := l) (k := i + n + 1) (by have := (List.getElem?_eq_some_iff.1 hy).1; omega)
  obtain ⟨h1, h2⟩ := linked_pair h hx n z hz
  obtain ⟨h3, h4⟩ := linked_step h hz (by rw [show i + n + 1 + 1 = i + (n + 1) + 1 by omega]; exact hy)
  exact ⟨by omega, h2.trans h4 (by unfold sizeF; omega)⟩
theorem linked_near {c : Climate} (hs : 0 ≤ c.swing) {l : List Weather} (h : linkedB c l = true) {x y : Weather} (hx : x ∈ l) (hy : y ∈ l) : NearP c x y ∧ (x.day = y.day → x = y) := by
 obtain ⟨i, hi⟩ := List.getElem?_of_mem hx
 obtain ⟨j, hj⟩ := List.getElem?_of_mem hy
 rcases Nat.lt_trichotomy i j with hij | hij | hij
 ·have := linked_pair h hi (j - i - 1) y (by rw [show i + (j - i - 1) + 1 = j by omega]; exact hj)
  exact ⟨this.2, fun he => by omega⟩
 ·subst hij
  have : x = y := Option.some.inj (hi.symm.trans hj)
  subst this
  exact ⟨.refl hs _, fun _ => rfl⟩
 ·have := linked_pair h hj (i - j - 1) x (by rw [show j + (i - j - 1) + 1 = i by omega]; exact hi)
  exact ⟨this.2.symm, fun he => by omega⟩
structure GapIs (c : Climate) (d : Int) (l : List Weather) (g G : Gap) : Prop where
 lo : g.tlo ≤ G.tlo
 los : ∀ x ∈ l, x.temp - c.swing * sizeF (x.day - d) ≤ G.tlo
 lo' : G.tlo = g.tlo ∨ ∃ x ∈ l, G.tlo = x.temp - c.swing * sizeF (x.day - d)
 hi : G.thi ≤ g.thi
 his : ∀ x ∈ l, G.thi ≤ x.temp + c.swing * sizeF (x.day - d)
 hi' : G.thi = g.thi ∨ ∃ x ∈ l, G.thi = x.temp + c.swing * sizeF (x.day - d)
 rain : ((∀ x ∈ l, x.day ≠ d) ∧ G.rlo = g.rlo ∧ G.rhi = g.rhi) ∨ ∃ x ∈ l, x.day = d ∧ G.rlo = x.rain ∧ G.rhi = x.rain
theorem gap_fold (c : Climate) (d : Int) : ∀ (l : List Weather) (g : Gap), GapIs c d l g (l.foldl (gapStep c d) g)
 | [], g => ⟨Int.le_refl _, fun _ h => by simp at h, .inl rfl, Int.le_refl _, fun _ h => by simp at h, .inl rfl, .inl ⟨fun _ h => by simp at h, rfl, rfl⟩⟩
 | x :: xs, g => by
  have ih := gap_fold c d xs (gapStep c d g x)
  rw [List.foldl_cons]
  generalize xs.foldl (gapStep c d) (gapStep c d g x) = G at ih ⊢
  have e1 : (gapStep c d g x).tlo = max g.tlo (x.temp - c.swing * sizeF (x.day - d)) := rfl
  have e2 : (gapStep c d g x).thi = min g.thi (x.temp + c.swing * sizeF (x.day - d)) := rfl
  have e3 : (gapStep c d g x).rlo = if x.day = d then x.rain else g.rlo := rfl
  have e4 : (gapStep c d g x).rhi = if x.day = d then x.rain else g.rhi := rfl
  have h1 := ih.lo
  have h2 := ih.hi
  rw [e1] at h1
  rw [e2] at h2
  refine ⟨by omega, ?_, ?_, by omega, ?_, ?_, ?_⟩
  ·intro y hy
   rcases List.mem_cons.1 hy with rfl | hy
   ·omega
   ·exact ih.los y hy
  ·rcases ih.lo' with h | ⟨y, hy, h⟩
   ·rw [e1] at h
    rcases ilt g.tlo (x.temp - c.swing * sizeF (x.day - d)) with g1 | g1
    ·exact .inr ⟨x, List.mem_cons_self .., by omega⟩
    ·exact .inl (by omega)
   ·exact .inr ⟨y, List.mem_cons_of_mem _ hy, h⟩
  ·intro y hy
   rcases List.mem_cons.1 hy with rfl | hy
   ·omega
   ·exact ih.his y hy
  ·rcases ih.hi' with h | ⟨y, hy, h⟩
   ·rw [e2] at h
    rcases ilt (x.temp + c.swing * sizeF (x.day - d)) g.thi with g1 | g1
    ·exact .inr ⟨x, List.mem_cons_self .., by omega⟩
    ·exact .inl (by omega)
   ·exact .inr ⟨y, List.mem_cons_of_mem _ hy, h⟩
  ·rcases ih.rain with ⟨h, h3, h4⟩ | ⟨y, hy, h⟩
   ·rw [e3] at h3
    rw [e4] at h4
    by_cases hx : x.day = d
    ·rw [if_pos hx] at h3 h4
     exact .inr ⟨x, List.mem_cons_self .., hx, h3, h4⟩
    ·rw [if_neg hx] at h3 h4
     refine .inl ⟨fun y hy => ?_, h3, h4⟩
     rcases List.mem_cons.1 hy with rfl | hy
     ·exact hx
     ·exact h y hy
   ·exact .inr ⟨y, List.mem_cons_of_mem _ hy, h⟩
theorem gap_is (c : Climate) (l : List Weather) (d : Int) : GapIs c d l ⟨c.coldest, c.warmest, 0, c.wettest⟩ (gapF c l d) := gap_fold c d l _
theorem gap_valid {c : Climate} {l : List Weather} (h : LogOk c l) (d : Int) : (c.coldest ≤ (gapF c l d).tlo ∧ (gapF c l d).tlo ≤ (gapF c l d).thi ∧ (gapF c l d).thi ≤ c.warmest) ∧ 0 ≤ (gapF c l d).rlo ∧ (gapF c l d).rlo ≤ (gapF c l d).rhi ∧ (gapF c l d).rhi ≤ c.wettest := by
 have hG := gap_is c l d
 generalize gapF c l d = G at hG ⊢
 have hs := h.clim.swing.1
 have hcw := h.clim.cw
 have hwt := h.clim.wettest.1
 have k0 : ∀ x : Weather, 0 ≤ c.swing * sizeF (x.day - d) := fun x => Int.mul_nonneg hs (sizeF_zle _)
 refine ⟨⟨hG.lo, ?_, hG.hi⟩, ?_⟩
 ·rcases hG.lo' with h1 | ⟨x, hx, h1⟩ <;> rcases hG.hi' with h2 | ⟨y, hy, h2⟩ <;> rw [h1, h2]
  ·exact hcw
  ·have := (h.mem y hy).temp
   have := k0 y
   show c.coldest ≤ _
   omega
  ·have := (h.mem x hx).temp
   have := k0 x
   show _ ≤ c.warmest
   omega
  ·have h3 := ((linked_near hs h.link hx hy).1).via hs d
   have h4 : x.temp - y.temp ≤ sizeF (x.temp - y.temp) := by unfold sizeF; omega
   omega
 ·rcases hG.rain with ⟨_, h1, h2⟩ | ⟨x, hx, _, h1, h2⟩
  ·rw [h1, h2]
   exact ⟨Int.le_refl _, hwt, Int.le_refl _⟩
  ·rw [h1, h2]
   have := (h.mem x hx).rain
   exact ⟨this.1, Int.le_refl _, this.2⟩
structure AgreeIs (c : Climate) (l days : List Weather) : Prop where
 link : linkedB c days = true
 succ : succB days = true
 n1 : 1 ≤ days.length
 n2 : days.length ≤ 512
 near : ∀ x ∈ l, ∀ w ∈ days, NearP c x w ∧ (x.day = w.day → x = w)
end Go.Proofs.YtifeniiefhpadaaGreatDoor
