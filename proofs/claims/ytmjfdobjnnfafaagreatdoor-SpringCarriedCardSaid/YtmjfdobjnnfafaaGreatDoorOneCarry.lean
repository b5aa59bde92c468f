/- Snow changes from a morning of a hidden sequence to a later one by no less and no more than Changes says; the water of a cell on a morning. Conditions stand in the theorems. -/
import Derived.Test.YtmjfdobjnnfafaaGreatDoorOneChg
import Derived.Test.YtmjfdobjnnfafaaGreatDoorOneLog
import Derived.Test.YtmjfdobjnnfafaaGreatDoorNext
import Derived.Deep.DeepCutAuto
import Derived.Test.YtmjfdobjnnfafaaGreatDoorAgainSpring9
set_option linter.all false
namespace Go.Proofs.YtmjfdobjnnfafaaGreatDoor
open Go.RowKit

theorem weather_okc {c : Climate} {days : List Weather} (h : linkedB c days = true) {x : Weather} (hx : x ∈ days) : weatherOk c x = true := by
  obtain ⟨i, hi⟩ := List.getElem?_of_mem hx
  exact linkedAt_ok hi (List.all_eq_true.1 h i (List.mem_range.2 (List.getElem?_eq_some_iff.1 hi).1))
theorem atc_mono {c : Climate} {t t' h : Int} (g : t ≤ t') : atF c t h ≤ atF c t' h := by
  unfold atF
  omega
theorem fallc_less {c : Climate} {x y : Weather} {h : Int} (ht : x.temp ≤ y.temp) (hr : y.rain ≤ x.rain) (h0 : 0 ≤ x.rain) : (fallF c y h).1 ≤ (fallF c x h).1 := by
  have := atc_mono (c := c) (h := h) ht
  unfold fallF
  split <;> split <;> simp <;> omega
theorem meltc_more {c : Climate} {x y : Weather} {h f g : Int} (ht : x.temp ≤ y.temp) (hf : 0 ≤ f) (hfg : f ≤ g) : meltF c x h f ≤ meltF c y h g := by
  have h0 := atc_mono (c := c) (h := h) ht
  unfold meltF
  have h1 : f * max 0 (atF c x.temp h) ≤ f * max 0 (atF c y.temp h) := Int.mul_le_mul_of_nonneg_left (by omega) hf
  have h2 : f * max 0 (atF c y.temp h) ≤ g * max 0 (atF c y.temp h) := Int.mul_le_mul_of_nonneg_right hfg (by omega)
  omega
theorem fillc_snoc (c : Climate) (l : List Weather) (a : Int) (k : Nat) (t : Bool) : fillF c l a (k + 1) t = fillF c l a k t ++ [warmW c l t (a + k)] := by
  simp [fillF, List.range_succ]
theorem stepc_snoc {c : Climate} {h f X : Int} {l : List Weather} {k : Nat} {x : Weather} (hx : l[k]? = some x) : (l.take (k + 1)).foldl (stepF c h f) X = stepF c h f ((l.take k).foldl (stepF c h f) X) x := by
  rw [take_succ_of hx, List.foldl_append]
  rfl
/-- From the day with the index m on, k days long. -/
theorem part_between {c : Climate} {l days : List Weather} {h f X a : Int} (hl : LogOk c l) (hd : AgreeIs c l days) (ha : ∀ (i : Nat) x, days[i]? = some x → x.day = a + i) (hf : c.flo ≤ f ∧ f ≤ c.fhi) (m : Nat) (hY : 0 ≤ (days.take m).foldl (stepF c h f) X) :
    ∀ k, m + k ≤ days.length → (fillF c l (a + m) k true).foldl (lowStep c h) 0 ≤ (days.take (m + k)).foldl (stepF c h f) X - (days.take m).foldl (stepF c h f) X ∧ (days.take (m + k)).foldl (stepF c h f) X - (days.take m).foldl (stepF c h f) X ≤ (fillF c l (a + m) k false).foldl (highStep c h) 0 ∧ 0 ≤ (fillF c l (a + m) k false).foldl (highStep c h) 0
  | 0, _ => by simp [fillF]
  | k + 1, hk => by
    obtain ⟨x, hx⟩ := getElem?_of_lt (xs := days) (k := m + k) (by omega)
    obtain ⟨h1, h2, h3⟩ := part_between (h := h) hl hd ha hf m hY k (by omega)
    have hm := List.mem_of_getElem? hx
    have hda := ha (m + k) x hx
    obtain ⟨⟨g1, g2⟩, g3, g4⟩ := agree_in hd hm
    have e0 : a + ((m + k : Nat) : Int) = a + m + k := by omega
    rw [hda, e0] at g1 g2 g3 g4
    have hxo := linkedB_ok hd.link x hm
    have hflo := hl.clim.flo
    rw [← Nat.add_assoc, fillc_snoc, fillc_snoc, List.foldl_append, List.foldl_append, stepc_snoc hx]
    generalize (fillF c l (a + m) k true).foldl (lowStep c h) 0 = L at *
    generalize (fillF c l (a + m) k false).foldl (highStep c h) 0 = H at *
    generalize (days.take (m + k)).foldl (stepF c h f) X = Y at *
    generalize (days.take m).foldl (stepF c h f) X = Z at *
    simp only [List.foldl_cons, List.foldl_nil, lowStep, highStep, stepF]
    have p1 : (fallF c (warmW c l true (a + m + k)) h).1 ≤ (fallF c x h).1 := fallc_less (by rw [warmW_temp]; simpa using g2) (by rw [warmW_rain]; simpa using g3) hxo.rain.1
    have p2 : meltF c x h f ≤ meltF c (warmW c l true (a + m + k)) h c.fhi := meltc_more (by rw [warmW_temp]; simpa using g2) (by omega) hf.2
    have p3 : (fallF c x h).1 ≤ (fallF c (warmW c l false (a + m + k)) h).1 := fallc_less (by rw [warmW_temp]; simpa using g1) (by rw [warmW_rain]; simpa using g4) (by rw [warmW_rain]; simp; have := hxo.rain.1; omega)
    have p4 : meltF c (warmW c l false (a + m + k)) h c.flo ≤ meltF c x h f := meltc_more (by rw [warmW_temp]; simpa using g1) hflo hf.1
    omega
/-- Whether the water of a cell on a morning can be told, and what it is then. -/
def wOk (X d a : Int) (n : Nat) : Bool := inB X 0 65536 && inB d a (a + n)
def wV (c : Climate) (h f X d a : Int) (days : List Weather) : Int := if wOk X d a days.length then (days.take (d - a).toNat).foldl (stepF c h f) X else X
theorem wOk_parts {X d a : Int} {n : Nat} (h : wOk X d a n = true) : (0 ≤ X ∧ X ≤ 65536) ∧ a ≤ d ∧ d ≤ a + n := by
  unfold wOk at h
  rw [Bool.and_eq_true] at h
  exact ⟨inB_true.1 h.1, inB_true.1 h.2⟩
theorem step_pos {c : Climate} {h f X : Int} {x : Weather} : 0 ≤ stepF c h f X x := by unfold stepF; omega
theorem fold_pos {c : Climate} {h f X : Int} (hX : 0 ≤ X) (l : List Weather) : 0 ≤ l.foldl (stepF c h f) X := by
  rcases List.eq_nil_or_concat l with rfl | ⟨xs, x, rfl⟩
  · exact hX
  · rw [List.concat_eq_append, List.foldl_append]; exact step_pos
theorem chgsTo_get {c : Climate} {l : List Weather} {b : Basin} {ds : List Int} {j q : Nat} {x : Cell} (hx : b.cells[j]? = some x) : ∀ {k : Nat}, q < k → (chgsTo c l b ds k)[q * b.cells.length + j]? = some (chgAt c l ds q x)
  | 0, h => absurd h (by omega)
  | k + 1, h => by
    have hj := (List.getElem?_eq_some_iff.1 hx).1
    rw [chgsTo_succ, List.take_length]
    rcases Nat.lt_or_ge q k with h1 | h1
    · rw [List.getElem?_append_left]
      · exact chgsTo_get hx h1
      · rw [chgsTo_len]
        have := Nat.mul_le_mul_right b.cells.length (show q + 1 ≤ k by omega)
        rw [Nat.add_mul] at this
        omega
    · have : q = k := by omega
      subst this
      rw [List.getElem?_append_right (by rw [chgsTo_len]; omega), chgsTo_len, List.getElem?_map, show q * b.cells.length + j - q * b.cells.length = j by omega, hx]
      rfl
theorem chgs_parts {c : Climate} {l : List Weather} {b : Basin} {ds : List Int} (h : chgsE c l b ds = 0) : (logE c l = 0 ∧ basinE b = 0 ∧ (1 ≤ ds.length ∧ ds.length ≤ 16)) ∧ ∀ q d1 d2, ds[q]? = some d1 → ds[q + 1]? = some d2 → (0 ≤ d1 ∧ d1 < d2 ∧ d2 ≤ 1048576) ∧ d2 - d1 ≤ 512 := by
  unfold chgsE at h
  split at h
  · contradiction
  rename_i h1
  split at h
  · cases h
  rename_i h2
  split at h
  · rename_i h3
    split at h
    · rename_i h4
      simp only [Bool.and_eq_true] at h3
      refine ⟨⟨by simpa using h1, by simpa using h2, by have := inB_true.1 h3.2; omega⟩, fun q d1 d2 e1 e2 => ?_⟩
      have hl2 := (List.getElem?_eq_some_iff.1 e2).1
      have a1 := List.all_eq_true.1 h3.1 q (List.mem_range.2 (by omega))
      have a2 := List.all_eq_true.1 h3.1 (q + 1) (List.mem_range.2 hl2)
      have b1 := chDay_get e1 a1
      have b2 := chDay_get e2 a2
      have b3 := chDay_lt e1 e2 a2
      have a3 := List.all_eq_true.1 h4 q (List.mem_range.2 (by omega))
      rw [chStep_at e1 e2] at a3
      exact ⟨⟨b1.1, b3, b2.2⟩, by simpa using a3⟩
    · cases h
  · cases h
theorem carry_math {c : Climate} {l days : List Weather} {b : Basin} {ds : List Int} {f : Int} (hA : allowV c l days = true) (hf : inB f c.flo c.fhi = true) {x0 : Weather} (h0 : days[0]? = some x0) {q : Nat} {d1 d2 : Int} (e1 : ds[q]? = some d1) (e2 : ds[q + 1]? = some d2) (hE : chgsE c l b ds = 0) (x : Cell) {X : Int}
    (o1 : wOk X d1 x0.day days.length = true) (o2 : wOk X d2 x0.day days.length = true) :
    ((chgAt c l ds q x).lo ≤ wV c x.height f X d2 x0.day days - wV c x.height f X d1 x0.day days ∨ (chgAt c l ds q x).lo ≤ -65536) ∧ (wV c x.height f X d2 x0.day days - wV c x.height f X d1 x0.day days ≤ (chgAt c l ds q x).hi ∨ 65536 ≤ (chgAt c l ds q x).hi) := by
  obtain ⟨g1, g2, g3, g4, g5⟩ := allow_is hA
  have hf2 := inB_true.1 hf
  have hday := fun (i : Nat) (x : Weather) (hx : days[i]? = some x) => (succB_ok g5.succ i x x0 hx h0).2
  obtain ⟨⟨hX, _⟩, p1, p2⟩ := wOk_parts o1
  obtain ⟨_, p3, p4⟩ := wOk_parts o2
  obtain ⟨⟨r1, r2, r3⟩, r4⟩ := (chgs_parts hE).2 q d1 d2 e1 e2
  obtain ⟨m, hm⟩ : ∃ m : Nat, d1 = x0.day + m := ⟨(d1 - x0.day).toNat, by omega⟩
  obtain ⟨k, hk⟩ : ∃ k : Nat, d2 = d1 + k := ⟨(d2 - d1).toNat, by omega⟩
  have hb := part_between (h := x.height) (X := X) g4 g5 hday hf2 m (fold_pos hX _) k (by omega)
  have v1 : (chgAt c l ds q x).lo = clipF ((fillF c l (x0.day + m) k true).foldl (lowStep c x.height) 0) := by
    simp only [chgAt, changeF, List.getD_eq_getElem?_getD, e1, e2, Option.getD_some]
    rw [show (d2 - d1).toNat = k by omega, hm]
  have v2 : (chgAt c l ds q x).hi = clipF ((fillF c l (x0.day + m) k false).foldl (highStep c x.height) 0) := by
    simp only [chgAt, changeF, List.getD_eq_getElem?_getD, e1, e2, Option.getD_some]
    rw [show (d2 - d1).toNat = k by omega, hm]
  rw [v1, v2]
  unfold wV
  rw [if_pos o1, if_pos o2, show (d1 - x0.day).toNat = m by omega, show (d2 - x0.day).toNat = m + k by omega]
  generalize (fillF c l (x0.day + m) k true).foldl (lowStep c x.height) 0 = L at *
  generalize (fillF c l (x0.day + m) k false).foldl (highStep c x.height) 0 = H at *
  generalize (days.take (m + k)).foldl (stepF c x.height f) X = Y at *
  generalize (days.take m).foldl (stepF c x.height f) X = Z at *
  simp only [clipF]
  omega
end Go.Proofs.YtmjfdobjnnfafaaGreatDoor
