/- A further weather in a log: gaps, changes and the springs that fit are no wider. Conditions stand in the theorems. -/
import Derived.Test.YtifeniiefhpadaaGreatDoorOneLog
import Derived.Test.YtifeniiefhpadaaGreatDoorOneAllPack
set_option linter.all false
namespace Go.Proofs.YtifeniiefhpadaaGreatDoor
open Go.RowKit

theorem nar_at {c : Climate} {t t' h : Int} (g : t ≤ t') : atF c t h ≤ atF c t' h := by
 unfold atF
 omega
theorem nar_fall {c : Climate} {x y : Weather} {h : Int} (ht : x.temp ≤ y.temp) (hr : y.rain ≤ x.rain) (h0 : 0 ≤ x.rain) : (fallF c y h).1 ≤ (fallF c x h).1 := by
 have := nar_at (c := c) (h := h) ht
 unfold fallF
 split <;> split <;> simp <;> omega
theorem nar_melt {c : Climate} {x y : Weather} {h f : Int} (ht : x.temp ≤ y.temp) (hf : 0 ≤ f) : meltF c x h f ≤ meltF c y h f := by
 have h1 := nar_at (c := c) (h := h) ht
 unfold meltF
 refine Int.ediv_le_ediv (by omega) ?_
 exact Int.mul_le_mul_of_nonneg_left (by omega) hf
theorem nar_gap {c : Climate} {l m : List Weather} (hl : LogOk c l) (hm : LogOk c m) (hs : ∀ x ∈ l, x ∈ m) (d : Int) :
  ((gapF c l d).tlo ≤ (gapF c m d).tlo ∧ (gapF c m d).thi ≤ (gapF c l d).thi) ∧ (gapF c l d).rlo ≤ (gapF c m d).rlo ∧ (gapF c m d).rhi ≤ (gapF c l d).rhi := by
 have hv := (gap_valid hm d).2
 have hL := gap_is c l d
 have hM := gap_is c m d
 have hn := fun x y hx hy => linked_near (x := x) (y := y) hm.clim.swing.1 hm.link hx hy
 generalize gapF c l d = G at hL ⊢
 generalize gapF c m d = H at hM hv ⊢
 refine ⟨⟨?_, ?_⟩, ?_⟩
 ·rcases hL.lo' with h | ⟨x, hx, h⟩
  ·rw [h]; exact hM.lo
  ·rw [h]; exact hM.los x (hs x hx)
 ·rcases hL.hi' with h | ⟨x, hx, h⟩
  ·rw [h]; exact hM.hi
  ·rw [h]; exact hM.his x (hs x hx)
 ·rcases hL.rain with ⟨_, h1, h2⟩ | ⟨x, hx, hxd, h1, h2⟩
  ·rw [h1, h2]
   simp only
   omega
  ·rcases hM.rain with ⟨h3, _, _⟩ | ⟨y, hy, hyd, h3, h4⟩
   ·exact absurd hxd (h3 x (hs x hx))
   ·have := (hn x y (hs x hx) hy).2 (by omega)
    subst this
    omega
theorem nar_gapE {c : Climate} {l m : List Weather} (hl : logE c l = 0) (hm : logE c m = 0) (d : Int) : gapE c m d = gapE c l d := by simp [gapE, loggedE, hl, hm]
theorem nar_gapV {c : Climate} {l m : List Weather} (hl : logE c l = 0) (hm : logE c m = 0) (hs : ∀ x ∈ l, x ∈ m) (d : Int) :
  ((gapV c l d).tlo ≤ (gapV c m d).tlo ∧ (gapV c m d).thi ≤ (gapV c l d).thi) ∧ (gapV c l d).rlo ≤ (gapV c m d).rlo ∧ (gapV c m d).rhi ≤ (gapV c l d).rhi := by
 unfold gapV
 rw [nar_gapE hl hm]
 split
 ·exact nar_gap (.of hl) (.of hm) hs d
 ·simp
theorem nar_changeE {c : Climate} {l m : List Weather} (hl : logE c l = 0) (hm : logE c m = 0) (h a b : Int) : changeE c m h a b = changeE c l h a b := by simp [changeE, loggedE, hl, hm]
theorem nar_low {c : Climate} {h : Int} (hf : 0 ≤ c.fhi) : ∀ (n : Nat) (p q : Nat → Weather) (X Y : Int), X ≤ Y → (∀ i, i < n → (q i).temp ≤ (p i).temp ∧ (p i).rain ≤ (q i).rain ∧ 0 ≤ (q i).rain) →
  ((List.range n).map p).foldl (lowStep c h) X ≤ ((List.range n).map q).foldl (lowStep c h) Y
 | 0, p, q, X, Y, hXY, _ => by simpa using hXY
 | n + 1, p, q, X, Y, hXY, hpq => by
  have ih := nar_low (h := h) hf n p q X Y hXY fun i hi => hpq i (by omega)
  rw [List.range_succ, List.map_append, List.map_append, List.foldl_append, List.foldl_append]
  obtain ⟨h1, h2, h3⟩ := hpq n (by omega)
  have h4 := nar_fall (c := c) (h := h) h1 h2 h3
  have h5 := nar_melt (c := c) (h := h) h1 hf
  simp only [List.map_cons, List.map_nil, List.foldl_cons, List.foldl_nil, lowStep]
  omega
theorem nar_high {c : Climate} {h : Int} (hf : 0 ≤ c.flo) : ∀ (n : Nat) (p q : Nat → Weather) (X Y : Int), Y ≤ X → (∀ i, i < n → (p i).temp ≤ (q i).temp ∧ (q i).rain ≤ (p i).rain ∧ 0 ≤ (p i).rain) →
  ((List.range n).map q).foldl (highStep c h) Y ≤ ((List.range n).map p).foldl (highStep c h) X
 | 0, p, q, X, Y, hXY, _ => by simpa using hXY
 | n + 1, p, q, X, Y, hXY, hpq => by
  have ih := nar_high (h := h) hf n p q X Y hXY fun i hi => hpq i (by omega)
  rw [List.range_succ, List.map_append, List.map_append, List.foldl_append, List.foldl_append]
  obtain ⟨h1, h2, h3⟩ := hpq n (by omega)
  have h4 := nar_fall (c := c) (h := h) h1 h2 h3
  have h5 := nar_melt (c := c) (h := h) h1 hf
  simp only [List.map_cons, List.map_nil, List.foldl_cons, List.foldl_nil, highStep]
  omega
theorem nar_change {c : Climate} {l m : List Weather} (hl : LogOk c l) (hm : LogOk c m) (hs : ∀ x ∈ l, x ∈ m) (h a b : Int) :
  (changeF c l h a b).1 ≤ (changeF c m h a b).1 ∧ (changeF c m h a b).2 ≤ (changeF c l h a b).2 := by
 have hg := fun d => nar_gap hl hm hs d
 have hvl := fun d => gapF_in (l := l) d hl.clim hl.mem
 have hvm := fun d => gapF_in (l := m) d hm.clim hm.mem
 have h1 := nar_low (h := h) (c := c) (by have h1 := hl.clim.flo; have h2 := hl.clim.fl; omega) (b - a).toNat (fun i => warmW c l true (a + i)) (fun i => warmW c m true (a + i)) 0 0 (Int.le_refl _) fun i _ => by
  have := hg (a + i)
  have := hvm (a + i)
  simp only [warmW]
  exact ⟨(hg (a + i)).1.2, (hg (a + i)).2.1, (hvm (a + i)).rlo.1⟩
 have h2 := nar_high (h := h) (c := c) (by have := hl.clim.flo; omega) (b - a).toNat (fun i => warmW c l false (a + i)) (fun i => warmW c m false (a + i)) 0 0 (Int.le_refl _) fun i _ => by
  simp only [warmW]
  exact ⟨(hg (a + i)).1.1, (hg (a + i)).2.2, (hvl (a + i)).rhi.1⟩
 unfold changeF clipF fillF
 simp only
 omega
theorem nar_changeV {c : Climate} {l m : List Weather} (hl : logE c l = 0) (hm : logE c m = 0) (hs : ∀ x ∈ l, x ∈ m) (h a b : Int) :
  (changeV c l h a b).1 ≤ (changeV c m h a b).1 ∧ (changeV c m h a b).2 ≤ (changeV c l h a b).2 := by
 unfold changeV
 rw [nar_changeE hl hm]
 split
 ·exact nar_change (.of hl) (.of hm) hs h a b
 ·simp
theorem nar_leftE {c : Climate} {l m : List Weather} (hl : logE c l = 0) (hm : logE c m = 0) (xs : List SprL) : leftE c m xs = leftE c l xs := by simp [leftE, hl, hm]
theorem nar_left {c : Climate} {l m : List Weather} (hl : logE c l = 0) (hm : logE c m = 0) (hs : ∀ x ∈ l, x ∈ m) (xs : List SprL) : ∀ n ∈ leftV c m xs, n ∈ leftV c l xs := by
 unfold leftV
 rw [nar_leftE hl hm]
 split
 ·intro n hn
  unfold leftF at hn ⊢
  obtain ⟨x, hx, rfl⟩ := List.mem_map.1 hn
  obtain ⟨hx, ha⟩ := List.mem_filter.1 hx
  refine List.mem_map.2 ⟨x, List.mem_filter.2 ⟨hx, ?_⟩, rfl⟩
  unfold agreesB at ha ⊢
  simp only [Bool.and_eq_true, List.all_eq_true] at ha ⊢
  exact ⟨ha.1, fun y hy => ha.2 y (hs y hy)⟩
 ·exact fun _ h => h
end Go.Proofs.YtifeniiefhpadaaGreatDoor
