/- What the rounds of trip say: the quickest walks of so many tracks, by the place and the courses that they come to. No condition. -/
import Derived.Test.YtgbbljfmngmjeaaGreatCrewWalkPack
import Derived.Test.YtgbbljfmngmjeaaGreatCrew2Pack
import Derived.Test.YtgbbljfmngmjeaaGreatCrew12Pack
import Derived.Test.YtgbbljfmngmjeaaGreatCrew16Pack
import Derived.Test.YtgbbljfmngmjeaaGreatCrew20Pack
set_option linter.all false
namespace Go.Proofs.YtgbbljfmngmjeaaGreat
open Go.RowKit

def StWalk (ss : List Site) (bit : Nat → Nat) : Nat → List Track → Nat → Prop
 | i, [], j => i = j
 | i, t :: l, j => ∃ z, ArcT ss t (i % ss.length) z ∧ StWalk ss bit (goJ ss.length bit i z) l j
section
variable {ss : List Site} {O : List Track} {bit : Nat → Nat} {N M : Nat}
theorem goJ_mod {n i z : Nat} (hz : z < n) : goJ n bit i z % n = z := by
 unfold goJ
 rw [Nat.add_mul_mod_self_left, Nat.mod_eq_of_lt hz]
theorem goJ_div {n i z : Nat} (hz : z < n) : goJ n bit i z / n = i / n ||| bit z := by
 unfold goJ
 rw [Nat.add_mul_div_left _ _ (by omega), Nat.div_eq_of_lt hz, Nat.zero_add]
theorem StWalk.append {i j k : Nat} {b : List Track} : ∀ {a : List Track} {i : Nat}, StWalk ss bit i a j → StWalk ss bit j b k → StWalk ss bit i (a ++ b) k
 | [], _, h, h2 => by cases h; exact h2
 | _ :: _, _, ⟨z, h1, h⟩, h2 => ⟨z, h1, StWalk.append (i := i) h h2⟩
theorem StWalk.split {k : Nat} {b : List Track} : ∀ {a : List Track} {i : Nat}, StWalk ss bit i (a ++ b) k → ∃ j, StWalk ss bit i a j ∧ StWalk ss bit j b k
 | [], i, h => ⟨i, rfl, h⟩
 | _ :: _, _, ⟨z, h1, h⟩ => by
  obtain ⟨j, h2, h3⟩ := StWalk.split h
  exact ⟨j, ⟨z, h1, h2⟩, h3⟩
theorem StWalk.walk (hO : NetT ss O ss.length) : ∀ {l : List Track} {i j : Nat}, SubT l O → StWalk ss bit i l j → WalkT ss (i % ss.length) l (j % ss.length)
 | [], _, _, _, h => by cases h; exact rfl
 | t :: l, i, j, hs, ⟨z, h1, h⟩ => by
  have hz := (hO.arc (hs t (List.mem_cons_self ..)) h1).2
  have ih := StWalk.walk hO (fun u hu => hs u (List.mem_cons_of_mem _ hu)) h
  rw [goJ_mod hz] at ih
  exact ⟨z, h1, ih⟩
theorem StWalk.of (hO : NetT ss O ss.length) : ∀ {l : List Track} {i y : Nat}, SubT l O → WalkT ss (i % ss.length) l y → ∃ j, StWalk ss bit i l j ∧ j % ss.length = y
 | [], i, y, _, h => ⟨i, rfl, h⟩
 | t :: l, i, y, hs, ⟨z, h1, h⟩ => by
  have hz := (hO.arc (hs t (List.mem_cons_self ..)) h1).2
  obtain ⟨j, h2, h3⟩ := StWalk.of (i := goJ ss.length bit i z) hO (fun u hu => hs u (List.mem_cons_of_mem _ hu)) (by rw [goJ_mod hz]; exact h)
  exact ⟨j, ⟨z, h1, h2⟩, h3⟩
theorem StWalk.lt {m : Nat} (hO : NetT ss O ss.length) (hb : ∀ y, bit y < 2 ^ m) : ∀ {l : List Track} {i j : Nat}, SubT l O → i < ss.length * 2 ^ m → StWalk ss bit i l j → j < ss.length * 2 ^ m
 | [], _, _, _, hi, h => by cases h; exact hi
 | t :: l, i, j, hs, hi, ⟨z, h1, h⟩ => by
  have hz := (hO.arc (hs t (List.mem_cons_self ..)) h1).2
  exact StWalk.lt hO hb (fun u hu => hs u (List.mem_cons_of_mem _ hu)) (goJ_lt hi hz (hb z)) h
theorem goT_min {n i x y j : Nat} {row l : List Stp} {t : Track} (hJ : goJ n bit i y < l.length) : minS (goT n bit row i l x y t) j = if (x = i % n ∧ minS row i + t.minutes < minS l (goJ n bit i y)) ∧ goJ n bit i y = j then minS row i + t.minutes else minS l j := by
 unfold goT minS
 split
 ·rename_i h
  rw [getD_set_stp hJ]
  split
  ·rename_i h2
   rw [if_pos ⟨h, h2⟩]
  ·rename_i h2
   rw [if_neg fun e => h2 e.2]
 ·rename_i h
  rw [if_neg fun e => h e.1]
theorem goT_le {n i x y j : Nat} {row l : List Stp} {t : Track} (hJ : goJ n bit i y < l.length) : minS (goT n bit row i l x y t) j ≤ minS l j := by
 rw [goT_min hJ]
 split
 ·rename_i h
  obtain ⟨⟨_, h1⟩, rfl⟩ := h
  omega
 ·exact Int.le_refl _
theorem goT_low {n i x y : Nat} {row l : List Stp} {t : Track} (hJ : goJ n bit i y < l.length) (hx : x = i % n) : minS (goT n bit row i l x y t) (goJ n bit i y) ≤ minS row i + t.minutes := by
 rw [goT_min hJ]
 split
 ·exact Int.le_refl _
 ·rename_i h
  have : ¬ minS row i + t.minutes < minS l (goJ n bit i y) := fun e => h ⟨⟨hx, e⟩, rfl⟩
  omega
theorem goT_len {n i x y : Nat} {row l : List Stp} {t : Track} : (goT n bit row i l x y t).length = l.length := by
 unfold goT
 split
 ·rw [List.length_set]
 ·rfl
def Ent (ss : List Site) (O : List Track) (bit : Nat → Nat) (N : Nat) (row l : List Stp) : Prop :=
 ∀ j, j < N → minS l j = farN ∨ ∃ (i : Nat) (t : Track) (z : Nat), i < N ∧ t ∈ O ∧ minS row i ≠ farN ∧ ArcT ss t (i % ss.length) z ∧ goJ ss.length bit i z = j ∧ l.getD j default = ⟨minS row i + t.minutes, i, t.no⟩
theorem goT_ent {i x y : Nat} {row l : List Stp} {t : Track} (h : Ent ss O bit N row l) (hJ : goJ ss.length bit i y < l.length) (hi : i < N) (ht : t ∈ O) (hf : minS row i ≠ farN) (ha : ArcT ss t x y) : Ent ss O bit N row (goT ss.length bit row i l x y t) := by
 intro j hj
 by_cases hc : (x = i % ss.length ∧ minS row i + t.minutes < minS l (goJ ss.length bit i y)) ∧ goJ ss.length bit i y = j
 ·obtain ⟨⟨rfl, h2⟩, rfl⟩ := hc
  refine .inr ⟨i, t, y, hi, ht, hf, ha, rfl, ?_⟩
  unfold goT
  rw [if_pos ⟨rfl, h2⟩, getD_set_stp hJ, if_pos rfl]
  rfl
 ·have e : (goT ss.length bit row i l x y t).getD j default = l.getD j default := by
   unfold goT
   split
   ·rename_i h2
    rw [getD_set_stp hJ, if_neg fun e => hc ⟨h2, e⟩]
   ·rfl
  have e2 : minS (goT ss.length bit row i l x y t) j = minS l j := by unfold minS; rw [e]
  rw [e, e2]
  exact h j hj
structure RowT (ss : List Site) (O : List Track) (bit : Nat → Nat) (N : Nat) (row l : List Stp) : Prop where
 len : l.length = N
 ent : Ent ss O bit N row l
theorem goK_row {m i : Nat} {row l : List Stp} {t : Track} (hO : NetT ss O ss.length) (hb : ∀ y, bit y < 2 ^ m) (h : RowT ss O bit (ss.length * 2 ^ m) row l) (hi : i < ss.length * 2 ^ m) (hf : minS row i ≠ farN) (ht : t ∈ O) :
  RowT ss O bit (ss.length * 2 ^ m) row (goK ss bit row i l t 2) ∧ (∀ j, minS (goK ss bit row i l t 2) j ≤ minS l j) ∧ ∀ z, ArcT ss t (i % ss.length) z → minS (goK ss bit row i l t 2) (goJ ss.length bit i z) ≤ minS row i + t.minutes := by
 have hp := (hO.at_ t ht).2
 have j1 : goJ ss.length bit i (pB ss t) < l.length := by rw [h.len]; exact goJ_lt hi hp.2 (hb _)
 have j2 : goJ ss.length bit i (pA ss t) < (goT ss.length bit row i l (pA ss t) (pB ss t) t).length := by rw [goT_len, h.len]; exact goJ_lt hi hp.1 (hb _)
 have e : goK ss bit row i l t 2 = goT ss.length bit row i (goT ss.length bit row i l (pA ss t) (pB ss t) t) (pB ss t) (pA ss t) t := rfl
 rw [e]
 refine ⟨⟨by rw [goT_len, goT_len, h.len], goT_ent (goT_ent h.ent j1 hi ht hf (.inl ⟨rfl, rfl⟩)) j2 hi ht hf (.inr ⟨rfl, rfl⟩)⟩, fun j => Int.le_trans (goT_le j2) (goT_le j1), fun z hz => ?_⟩
 rcases hz with ⟨h1, rfl⟩ | ⟨h1, rfl⟩
 ·exact Int.le_trans (goT_le j2) (goT_low j1 h1.symm)
 ·exact goT_low j2 h1.symm
theorem goS_fold {m i : Nat} {row : List Stp} (hO : NetT ss O ss.length) (hb : ∀ y, bit y < 2 ^ m) (hi : i < ss.length * 2 ^ m) (hf : minS row i ≠ farN) : ∀ (ts : List Track) (l : List Stp), SubT ts O → RowT ss O bit (ss.length * 2 ^ m) row l →
  RowT ss O bit (ss.length * 2 ^ m) row (ts.foldl (fun l t => goK ss bit row i l t 2) l) ∧ (∀ j, minS (ts.foldl (fun l t => goK ss bit row i l t 2) l) j ≤ minS l j) ∧ ∀ t ∈ ts, ∀ z, ArcT ss t (i % ss.length) z → minS (ts.foldl (fun l t => goK ss bit row i l t 2) l) (goJ ss.length bit i z) ≤ minS row i + t.minutes
 | [], l, _, h => ⟨h, fun _ => Int.le_refl _, fun _ ht => (by cases ht)⟩
 | t :: ts, l, hs, h => by
  obtain ⟨h1, h2, h3⟩ := goK_row hO hb h hi hf (hs t (List.mem_cons_self ..))
  obtain ⟨g1, g2, g3⟩ := goS_fold hO hb hi hf ts _ (fun u hu => hs u (List.mem_cons_of_mem _ hu)) h1
  refine ⟨g1, fun j => Int.le_trans (g2 j) (h2 j), fun u hu z hz => ?_⟩
  rcases List.mem_cons.1 hu with rfl | hu
  ·exact Int.le_trans (g2 _) (h3 z hz)
  ·exact g3 u hu z hz
theorem goR_row {m : Nat} {row : List Stp} (hO : NetT ss O ss.length) (hb : ∀ y, bit y < 2 ^ m) (hl : row.length = ss.length * 2 ^ m) : ∀ k, k ≤ ss.length * 2 ^ m → RowT ss O bit (ss.length * 2 ^ m) row (goR ss O bit row k) ∧
  ∀ i, i < k → minS row i ≠ farN → ∀ t ∈ O, ∀ z, ArcT ss t (i % ss.length) z → minS (goR ss O bit row k) (goJ ss.length bit i z) ≤ minS row i + t.minutes
 | 0, _ => by
  refine ⟨⟨by rw [goR, List.length_replicate, hl], fun j hj => .inl ?_⟩, fun i hi => by omega⟩
  simp [goR, minS, hl, hj]
 | k + 1, hk => by
  obtain ⟨h1, h2⟩ := goR_row hO hb hl k (by omega)
  rw [goR, goS]
  split
  ·rename_i hf
   refine ⟨h1, fun i hi hne => ?_⟩
   rcases Nat.lt_or_ge i k with h3 | h3
   ·exact h2 i h3 hne
   ·obtain rfl : i = k := by omega
    exact absurd hf hne
  ·rename_i hf
   obtain ⟨g1, g2, g3⟩ := goS_fold (row := row) hO hb (show k < ss.length * 2 ^ m by omega) hf O _ (fun _ h => h) h1
   refine ⟨g1, fun i hi hne t ht z hz => ?_⟩
   rcases Nat.lt_or_ge i k with h3 | h3
   ·exact Int.le_trans (g2 _) (h2 i h3 hne t ht z hz)
   ·obtain rfl : i = k := by omega
    exact g3 t ht z hz
theorem row_low {m hut : Nat} (hO : NetT ss O ss.length) (hb : ∀ y, bit y < 2 ^ m) (hh : hut < ss.length) : ∀ (k : Nat), k ≤ 64 → ∀ L j, SubT L O → L.length = k → StWalk ss bit hut L j → minS (rowT ss O bit (ss.length * 2 ^ m) hut k) j ≤ costT L
 | 0, _, L, j, _, hk, hw => by
  obtain rfl : L = [] := List.length_eq_zero_iff.1 hk
  have hw : hut = j := hw
  subst hw
  have hN : hut < ss.length * 2 ^ m := Nat.lt_of_lt_of_le hh (Nat.le_mul_of_pos_right _ (Nat.two_pow_pos m))
  rw [rowT, minS, startF, getD_set_stp (by simpa using hN), if_pos rfl]
  exact Int.le_refl _
 | k + 1, hk, L, j, hs, hlen, hw => by
  have hne : L ≠ [] := by rintro rfl; simp at hlen
  have e := List.dropLast_concat_getLast hne
  have hl2 : L.dropLast.length = k := by rw [List.length_dropLast]; omega
  rw [← e] at hw hs ⊢
  obtain ⟨i, h1, z, h2, rfl⟩ := StWalk.split hw
  have hN : hut < ss.length * 2 ^ m := Nat.lt_of_lt_of_le hh (Nat.le_mul_of_pos_right _ (Nat.two_pow_pos m))
  have hi := StWalk.lt hO hb hs.left hN h1
  have ih := row_low hO hb hh k (by omega) _ i hs.left hl2 h1
  have hc := costT_le (fun t ht => (hO.at_ t ht).1.2) hs.left
  rw [hl2] at hc
  have hrl : (rowT ss O bit (ss.length * 2 ^ m) hut k).length = ss.length * 2 ^ m := (rowT_ok (fun t ht => ⟨by have := (hO.at_ t ht).1.1; omega, (hO.at_ t ht).1.2⟩) k).1
  have hnf : minS (rowT ss O bit (ss.length * 2 ^ m) hut k) i ≠ farN := by unfold farN; omega
  have h3 := (goR_row hO hb hrl _ (Nat.le_refl _)).2 i hi hnf _ (hs _ (by simp)) z h2
  rw [rowT, hrl, costT_append]
  simp only [costT]
  omega
theorem row_back {m hut : Nat} (hO : NetT ss O ss.length) (hb : ∀ y, bit y < 2 ^ m) (hh : hut < ss.length) : ∀ (k j : Nat), j < ss.length * 2 ^ m → minS (rowT ss O bit (ss.length * 2 ^ m) hut k) j ≠ farN →
  ∃ L, SubT L O ∧ L.length = k ∧ StWalk ss bit hut L j ∧ costT L = minS (rowT ss O bit (ss.length * 2 ^ m) hut k) j ∧ (backF (rowT ss O bit (ss.length * 2 ^ m) hut) k j).reverse = L.map Track.no
 | 0, j, hj, hf => by
  have hN : hut < ss.length * 2 ^ m := Nat.lt_of_lt_of_le hh (Nat.le_mul_of_pos_right _ (Nat.two_pow_pos m))
  have h0 : minS (rowT ss O bit (ss.length * 2 ^ m) hut 0) j = if hut = j then 0 else farN := by
   rw [rowT, minS, startF, getD_set_stp (by simpa using hN)]
   split
   ·rfl
   ·simp [hj]
  by_cases he : hut = j
  ·refine ⟨[], SubT.nil O, rfl, he, ?_, rfl⟩
   rw [h0, if_pos he]
   rfl
  ·rw [h0, if_neg he] at hf
   exact absurd rfl hf
 | k + 1, j, hj, hf => by
  have hrl : (rowT ss O bit (ss.length * 2 ^ m) hut k).length = ss.length * 2 ^ m := (rowT_ok (fun t ht => ⟨by have := (hO.at_ t ht).1.1; omega, (hO.at_ t ht).1.2⟩) k).1
  have hent := (goR_row hO hb hrl _ (Nat.le_refl _)).1.ent j hj
  have er : rowT ss O bit (ss.length * 2 ^ m) hut (k + 1) = goR ss O bit (rowT ss O bit (ss.length * 2 ^ m) hut k) (ss.length * 2 ^ m) := by rw [rowT, hrl]
  rw [← er] at hent
  rcases hent with h1 | ⟨i, t, z, hi, ht, hif, ha, rfl, he⟩
  ·exact absurd h1 hf
  ·obtain ⟨L, g1, g2, g3, g4, g5⟩ := row_back hO hb hh k i hi hif
   have hm : minS (rowT ss O bit (ss.length * 2 ^ m) hut (k + 1)) (goJ ss.length bit i z) = minS (rowT ss O bit (ss.length * 2 ^ m) hut k) i + t.minutes := by
    unfold minS at he ⊢
    rw [he]
   refine ⟨L ++ [t], g1.append (SubT.cons ht (SubT.nil O)), by rw [List.length_append, g2]; rfl, StWalk.append (i := hut) g3 ⟨z, ha, rfl⟩, ?_, ?_⟩
   ·rw [costT_append, g4, hm]
    simp [costT]
   ·rw [backF, Int.toNat_natCast, he, List.reverse_cons]
    simp only
    rw [g5]
    simp
end
section
variable {ss : List Site} {R : Nat → List Stp} {full : Nat}
structure Pick (ss : List Site) (R : Nat → List Stp) (full k i : Nat) (b : Option (Nat × Nat)) : Prop where
 none_ : b = none → ∀ k' i', (k' < k ∧ i' < ss.length) ∨ (k' = k ∧ i' < i) → (ss.getD i' default).kind = 1 → ¬ minS (R k') (i' + ss.length * full) < farN
 some_ : ∀ a j, b = some (a, j) → (∃ i', i' < ss.length ∧ j = i' + ss.length * full ∧ (ss.getD i' default).kind = 1) ∧ minS (R a) j < farN ∧ a ≤ k ∧
  (∀ k' i', (k' < k ∧ i' < ss.length) ∨ (k' = k ∧ i' < i) → (ss.getD i' default).kind = 1 → minS (R a) j ≤ minS (R k') (i' + ss.length * full)) ∧
  ∀ k' i', k' < a → i' < ss.length → (ss.getD i' default).kind = 1 → minS (R a) j < minS (R k') (i' + ss.length * full)
theorem Pick.step {k i : Nat} {b : Option (Nat × Nat)} (h : Pick ss R full k i b) (hi : i < ss.length) : Pick ss R full k (i + 1) (pickS ss R full k b i) := by
 unfold pickS
 split
 ·rename_i hc
  obtain ⟨h1, h2, h3⟩ := hc
  refine ⟨fun e => (by cases e), fun a j e => ?_⟩
  injection e with e
  injection e with e1 e2
  subst e1 e2
  have hlt : ∀ k' i', (k' < k ∧ i' < ss.length) ∨ (k' = k ∧ i' < i) → (ss.getD i' default).kind = 1 → minS (R k) (i + ss.length * full) < minS (R k') (i' + ss.length * full) := fun k' i' hki hk => by
   cases b with
   | none =>
    have := h.none_ rfl k' i' hki hk
    unfold minS at *
    omega
   | some p =>
    obtain ⟨a, j⟩ := p
    have := (h.some_ a j rfl).2.2.2.1 k' i' hki hk
    simp only [Option.all_some, decide_eq_true_eq] at h3
    unfold minS at *
    omega
  refine ⟨⟨i, hi, rfl, h1⟩, h2, Nat.le_refl _, fun k' i' hki hk => ?_, fun k' i' hk' hi' hk => hlt k' i' (.inl ⟨hk', hi'⟩) hk⟩
  rcases hki with hki | ⟨rfl, h4⟩
  ·exact Int.le_of_lt (hlt k' i' (.inl hki) hk)
  ·rcases Nat.lt_or_ge i' i with h5 | h5
   ·exact Int.le_of_lt (hlt k' i' (.inr ⟨rfl, h5⟩) hk)
   ·obtain rfl : i' = i := by omega
    exact Int.le_refl _
 ·rename_i hc
  refine ⟨fun e k' i' hki hk => ?_, fun a j e => ?_⟩
  ·subst e
   rcases hki with hki | ⟨rfl, h4⟩
   ·exact h.none_ rfl k' i' (.inl hki) hk
   ·rcases Nat.lt_or_ge i' i with h5 | h5
    ·exact h.none_ rfl k' i' (.inr ⟨rfl, h5⟩) hk
    ·obtain rfl : i' = i := by omega
     exact fun h6 => hc ⟨hk, h6, rfl⟩
  ·obtain ⟨g1, g2, g3, g4, g5⟩ := h.some_ a j e
   refine ⟨g1, g2, g3, fun k' i' hki hk => ?_, g5⟩
   rcases hki with hki | ⟨rfl, h4⟩
   ·exact g4 k' i' (.inl hki) hk
   ·rcases Nat.lt_or_ge i' i with h5 | h5
    ·exact g4 k' i' (.inr ⟨rfl, h5⟩) hk
    ·obtain rfl : i' = i := by omega
     subst e
     by_cases h6 : minS (R k') (i' + ss.length * full) < farN
     ·have h7 : ¬ minS (R k') (i' + ss.length * full) < minS (R a) j := fun h8 => hc ⟨hk, h6, by
       simp only [Option.all_some, decide_eq_true_eq]
       exact h8⟩
      omega
     ·omega
theorem Pick.row {k : Nat} {b : Option (Nat × Nat)} (h : Pick ss R full k 0 b) : ∀ i, i ≤ ss.length → Pick ss R full k i (pickK ss R full k b i)
 | 0, _ => h
 | i + 1, hi => (Pick.row h i (by omega)).step (by omega)
theorem Pick.next {k : Nat} {b : Option (Nat × Nat)} (h : Pick ss R full k ss.length b) : Pick ss R full (k + 1) 0 b := by
 have hx : ∀ k' i', (k' < k + 1 ∧ i' < ss.length) ∨ (k' = k + 1 ∧ i' < 0) → (k' < k ∧ i' < ss.length) ∨ (k' = k ∧ i' < ss.length) := fun k' i' hh => by
  rcases hh with ⟨h1, h2⟩ | ⟨_, h2⟩
  ·rcases Nat.lt_or_ge k' k with h3 | h3
   ·exact .inl ⟨h3, h2⟩
   ·exact .inr ⟨by omega, h2⟩
  ·omega
 refine ⟨fun e k' i' hki hk => h.none_ e k' i' (hx k' i' hki) hk, fun a j e => ?_⟩
 obtain ⟨g1, g2, g3, g4, g5⟩ := h.some_ a j e
 exact ⟨g1, g2, by omega, fun k' i' hki hk => g4 k' i' (hx k' i' hki) hk, g5⟩
theorem Pick.all : ∀ k, Pick ss R full k 0 (pickN ss R full k)
 | 0 => ⟨fun _ k' i' h => by omega, fun _ _ h => by cases h⟩
 | k + 1 => ((Pick.all k).row ss.length (Nat.le_refl _)).next
end

theorem seen_on {ss : List Site} {ts : List Track} {s : Scene} {day : Int} {q : Bool} (h : seenE ss ts s day q = 0) : seenE ss ts s day true = 0 := by
 obtain ⟨_, _, _, rfl, _⟩ := seen_zero h
 exact h
section
variable {ss : List Site} {ts : List Track} {bit : Nat → Nat}
theorem arc_step {t : Track} {a : Int} {x : Nat} (hti : TrackIn ss t) (ha : placeS ss a = x) : (∀ z, ArcT ss t x z → ∃ b, stepTo t a = some b ∧ placeS ss b = z) ∧ ∀ b, stepTo t a = some b → ArcT ss t x (placeS ss b).toNat ∧ 0 ≤ placeS ss b := by
 have h1 := hti.a
 have h2 := hti.b
 have h3 := hti.ab
 refine ⟨fun z hz => ?_, fun b hb => ?_⟩
 ·rcases hz with ⟨e1, e2⟩ | ⟨e1, e2⟩
  ·have ea : a = t.a := place_no ha (by unfold pA at e1; omega)
   exact ⟨t.b, by rw [stepTo, if_pos ea], by unfold pB at e2; omega⟩
  ·have ea : a = t.b := place_no ha (by unfold pB at e1; omega)
   refine ⟨t.a, ?_, by unfold pA at e2; omega⟩
   rw [stepTo, if_neg (fun e => h3 (e.symm.trans ea)), if_pos ea]
 ·unfold stepTo at hb
  split at hb
  ·rename_i e
   injection hb with hb
   subst hb
   subst e
   exact ⟨.inl ⟨by unfold pA; omega, rfl⟩, h2⟩
  ·split at hb
   ·rename_i e
    injection hb with hb
    subst hb
    subst e
    exact ⟨.inr ⟨by unfold pB; omega, rfl⟩, h1⟩
   ·cases hb
theorem arc_uniq {t : Track} {x z z' : Nat} (hti : TrackIn ss t) (h : ArcT ss t x z) (h' : ArcT ss t x z') : z = z' := by
 have hne : pA ss t ≠ pB ss t := fun e => by
  have h1 := hti.a
  have h2 := hti.b
  unfold pA pB at e
  exact hti.ab (place_no (ss := ss) (x := (placeS ss t.a).toNat) (by omega) (by omega))
 rcases h with ⟨e1, e2⟩ | ⟨e1, e2⟩ <;> rcases h' with ⟨g1, g2⟩ | ⟨g1, g2⟩
 ·omega
 ·exact absurd (e1.symm.trans g1) hne
 ·exact absurd (g1.symm.trans e1) hne
 ·omega
theorem StWalk.uniq {l : List Track} : ∀ {i j j' : Nat}, (∀ t ∈ l, TrackIn ss t) → StWalk ss bit i l j → StWalk ss bit i l j' → j = j' := by
 induction l with
 | nil => intro i j j' _ h h'; exact h.symm.trans h'
 | cons t l ih =>
  rintro i j j' ht ⟨z, h1, h2⟩ ⟨z', h1', h2'⟩
  obtain rfl := arc_uniq (ht t (List.mem_cons_self ..)) h1 h1'
  exact ih (fun u hu => ht u (List.mem_cons_of_mem _ hu)) h2 h2'
def maskD (ss : List Site) (bit : Nat → Nat) (D : List Int) (i : Nat) : Nat := D.foldl (fun m no => m ||| bit (placeS ss no).toNat) i
theorem walk_st (hr : RangeOk ss ts) : ∀ (l : List Int) (a : Int) (i : Nat) (C : List Int), (∀ no ∈ l, 0 ≤ placeT ts no) → placeS ss a = ((i % ss.length : Nat) : Int) →
  match l.foldl (walkS ts) (some (a, C)) with
  | none => ∀ j, ¬ StWalk ss bit i (l.map (trackAt ts)) j
  | some p => ∃ j D, StWalk ss bit i (l.map (trackAt ts)) j ∧ placeS ss p.1 = ((j % ss.length : Nat) : Int) ∧ p.2 = C ++ D ∧ j / ss.length = maskD ss bit D (i / ss.length) ∧ ∀ x ∈ D, 0 ≤ placeS ss x
 | [], a, i, C, _, ha => ⟨i, [], rfl, ha, by simp, rfl, fun _ h => by cases h⟩
 | no :: l, a, i, C, hp, ha => by
  obtain ⟨t, ht, hta, -⟩ := trackAt_of (hp no (List.mem_cons_self ..))
  have hti := hr.tr (List.mem_of_getElem? ht)
  obtain ⟨s1, s2⟩ := arc_step hti ha
  have hw : walkS ts (some (a, C)) no = (stepTo t a).map fun b => (b, C ++ [b]) := by simp [walkS, hta]
  rw [List.foldl_cons, hw, List.map_cons, hta]
  cases hs : stepTo t a with
  | none =>
   rw [Option.map_none, walk_none]
   rintro j ⟨z, h1, _⟩
   obtain ⟨b, h2, _⟩ := s1 z h1
   rw [hs] at h2
   cases h2
  | some b =>
   obtain ⟨h1, h2⟩ := s2 b hs
   have hlt := placeS_lt h2
   have hz : (placeS ss b).toNat < ss.length := by omega
   have ih := walk_st hr l b (goJ ss.length bit i (placeS ss b).toNat) (C ++ [b]) (fun x hx => hp x (List.mem_cons_of_mem _ hx)) (by rw [goJ_mod hz]; omega)
   rw [Option.map_some]
   revert ih
   cases l.foldl (walkS ts) (some (b, C ++ [b])) with
   | none =>
    intro ih
    rintro j ⟨z, h3, h4⟩
    obtain rfl := arc_uniq hti h3 h1
    exact ih j h4
   | some p =>
    rintro ⟨j, D, g1, g2, g3, g4, g5⟩
    refine ⟨j, b :: D, ⟨_, h1, g1⟩, g2, by rw [g3]; simp, ?_, fun x hx => ?_⟩
    ·rw [g4, goJ_div hz]
     rfl
    ·rcases List.mem_cons.1 hx with rfl | hx
     ·exact h2
     ·exact g5 x hx
theorem maskD_bit (k : Nat) : ∀ (D : List Int) (i : Nat), (maskD ss bit D i).testBit k = (i.testBit k || D.any fun no => (bit (placeS ss no).toNat).testBit k)
 | [], i => by simp [maskD]
 | x :: D, i => by
  have ih := maskD_bit k D (i ||| bit (placeS ss x).toNat)
  unfold maskD at ih ⊢
  rw [List.foldl_cons, ih, Nat.testBit_or, List.any_cons, Bool.or_assoc]
theorem maskD_lt {m : Nat} (hb : ∀ y, bit y < 2 ^ m) : ∀ (D : List Int) (i : Nat), i < 2 ^ m → maskD ss bit D i < 2 ^ m
 | [], _, hi => hi
 | _ :: D, _, hi => maskD_lt hb D _ (Nat.or_lt_two_pow hi (hb _))
theorem visit_at {cs : List Int} (hv : visitsB ss cs = true) {k : Nat} {c : Int} (hc : cs[k]? = some c) : 0 ≤ placeS ss c ∧ (siteAt ss c).kind = 2 ∧ idxBy (fun x => x == c) cs = k := by
 have hg := (visits_zero hv).2
 have h1 := hg k (List.getElem?_eq_some_iff.1 hc).1
 simp only [visitGood, Bool.and_eq_true, decide_eq_true_eq, beq_iff_eq] at h1
 have hd : cs.getD k 0 = c := by simp [hc]
 rw [hd] at h1
 refine ⟨h1.1.1, h1.1.2, idx_uniq hc (by simp) fun j y hj hy => ?_⟩
 have := rise_all (f := fun x : Int => x) (xs := cs) (fun i a b ha hb => by
  have h2 := hg (i + 1) (List.getElem?_eq_some_iff.1 hb).1
  simp only [visitGood, Bool.and_eq_true, Bool.or_eq_true, decide_eq_true_eq, Nat.add_sub_cancel] at h2
  have e1 : cs.getD i 0 = a := by simp [ha]
  have e2 : cs.getD (i + 1) 0 = b := by simp [hb]
  rw [e1, e2] at h2
  rcases h2.2 with h2 | h2
  ·simp at h2
  ·exact h2) (k - j - 1) j y c hy (by rw [← hc]; congr 1; omega)
 simp
 omega
theorem full_iff (hr : RangeOk ss ts) {cs : List Int} (hv : visitsB ss cs = true) {D : List Int} (hD : ∀ x ∈ D, 0 ≤ placeS ss x) : maskD ss (bitF ss cs) D 0 = 2 ^ cs.length - 1 ↔ ∀ c ∈ cs, c ∈ D := by
 have hbit : ∀ no, 0 ≤ placeS ss no → ∀ k, ((bitF ss cs (placeS ss no).toNat).testBit k = true ↔ cs[k]? = some no) := fun no hp k => by
  obtain ⟨x, hx, hxa, hxn⟩ := siteAt_of hp
  have hg : ss.getD (placeS ss no).toNat default = x := by simp [hx]
  unfold bitF
  rw [hg, hxn]
  constructor
  ·intro h
   split at h
   ·rename_i hc
    rw [Nat.testBit_two_pow] at h
    simp only [decide_eq_true_eq] at h
    obtain ⟨y, hy, hye⟩ := idxBy_at _ cs hc.1
    rw [h] at hy
    rw [hy]
    simp at hye
    rw [hye]
   ·simp at h
  ·intro h
   obtain ⟨_, h2, h3⟩ := visit_at hv h
   rw [hxa] at h2
   rw [h3, if_pos ⟨by omega, h2⟩, Int.toNat_natCast, Nat.testBit_two_pow]
   simp
 constructor
 ·intro h c hc
  obtain ⟨k, hk⟩ := List.mem_iff_getElem?.1 hc
  have hkl := (List.getElem?_eq_some_iff.1 hk).1
  have h1 : (maskD ss (bitF ss cs) D 0).testBit k = true := by rw [h, Nat.testBit_two_pow_sub_one]; simpa using hkl
  rw [maskD_bit] at h1
  simp only [Nat.zero_testBit, Bool.false_or] at h1
  obtain ⟨no, hn, hb⟩ := List.any_eq_true.1 h1
  have := (hbit no (hD no hn) k).1 hb
  rw [hk] at this
  injection this with this
  rw [this]
  exact hn
 ·intro h
  refine Nat.eq_of_testBit_eq fun k => ?_
  rw [Nat.testBit_two_pow_sub_one]
  rcases Nat.lt_or_ge k cs.length with hk | hk
  ·rw [decide_eq_true hk, maskD_bit]
   simp only [Nat.zero_testBit, Bool.false_or]
   obtain ⟨c, hc⟩ := getElem?_of_lt hk
   have hcd := h c (List.mem_of_getElem? hc)
   exact List.any_eq_true.2 ⟨c, hcd, (hbit c (hD c hcd) k).2 hc⟩
  ·rw [decide_eq_false (by omega)]
   have h1 := maskD_lt (ss := ss) (m := cs.length) (bit := bitF ss cs) (fun y => bitF_lt) D 0 (Nat.two_pow_pos _)
   exact Nat.testBit_lt_two_pow (Nat.lt_of_lt_of_le h1 (Nat.pow_le_pow_right (by omega) hk))
theorem follow_iff (hr : RangeOk ss ts) {c : Crew} {l cs : List Int} (hh : hiredB ss c = true) (hv : visitsB ss cs = true) (hl : ∀ no ∈ l, 0 ≤ placeT ts no) :
  followB ss ts c.hut l cs = true ↔ ∃ j, StWalk ss (bitF ss cs) (placeS ss c.hut).toNat (l.map (trackAt ts)) j ∧ j / ss.length = 2 ^ cs.length - 1 ∧ (ss.getD (j % ss.length) default).kind = 1 := by
 have hp := (hired_zero hh).1
 have hk : (siteAt ss c.hut).kind = 1 := by
  simp only [hiredB, Bool.and_eq_true, beq_iff_eq] at hh
  exact hh.1.1.2
 have hlt := placeS_lt hp
 have hin : (placeS ss c.hut).toNat < ss.length := by omega
 have hm := walk_st (bit := bitF ss cs) hr l c.hut (placeS ss c.hut).toNat [c.hut] hl (by rw [Nat.mod_eq_of_lt hin]; omega)
 have hd0 : (placeS ss c.hut).toNat / ss.length = 0 := Nat.div_eq_of_lt hin
 rw [hd0] at hm
 have hT : ∀ t ∈ l.map (trackAt ts), TrackIn ss t := fun t ht => by
  obtain ⟨no, hno, rfl⟩ := List.mem_map.1 ht
  obtain ⟨x, hx, hxa, -⟩ := trackAt_of (hl no hno)
  rw [hxa]
  exact hr.tr (List.mem_of_getElem? hx)
 unfold followB walkF
 revert hm
 cases l.foldl (walkS ts) (some (c.hut, [c.hut])) with
 | none =>
  intro hm
  simp only [Bool.false_eq_true, false_iff]
  rintro ⟨j, h1, _⟩
  exact hm j h1
 | some p =>
  rintro ⟨j, D, g1, g2, g3, g4, g5⟩
  have hall : (cs.all fun no => p.2.any fun x => x == no) = true ↔ ∀ c ∈ cs, c ∈ D := by
   simp only [List.all_eq_true, List.any_eq_true, beq_iff_eq]
   constructor
   ·intro h c' hc
    obtain ⟨x, hx, rfl⟩ := h c' hc
    rw [g3] at hx
    rcases List.mem_append.1 hx with hx | hx
    ·obtain rfl : x = c.hut := by simpa using hx
     obtain ⟨k, hk2⟩ := List.mem_iff_getElem?.1 hc
     have := (visit_at hv hk2).2.1
     rw [hk] at this
     cases this
    ·exact hx
   ·intro h c' hc
    exact ⟨c', by rw [g3]; exact List.mem_append_right _ (h c' hc), rfl⟩
  have hkj : (siteAt ss p.1).kind = (ss.getD (j % ss.length) default).kind := by
   unfold siteAt
   rw [g2, Int.toNat_natCast]
  simp only [Bool.and_eq_true, beq_iff_eq]
  rw [hall, ← full_iff hr hv g5, ← g4, hkj]
  constructor
  ·exact fun h => ⟨j, g1, h.1, h.2⟩
  ·rintro ⟨j', h1, h2, h3⟩
   obtain rfl := StWalk.uniq hT g1 h1
   exact ⟨h2, h3⟩
theorem sum_cost (l : List Int) : sumF ts l = costT (l.map (trackAt ts)) := by
 have h : ∀ (l : List Int) (n : Int), l.foldl (fun n no => n + (trackAt ts no).minutes) n = n + costT (l.map (trackAt ts)) := by
  intro l
  induction l with
  | nil => intro n; simp [costT]
  | cons x l ih => intro n; rw [List.foldl_cons, ih, List.map_cons]; simp only [costT]; omega
 rw [sumF, h, Int.zero_add]
theorem clock_mono {c : Crew} {a b n : Int} (hl : 0 ≤ c.load) (h : a ≤ b) : clockF c a n ≤ clockF c b n := by
 unfold clockF
 have := Int.mul_le_mul_of_nonneg_right h (show 0 ≤ 100 + c.load by omega)
 omega
theorem nos_back (hr : RangeOk ss ts) {m : Int → Option Int} {L : List Track} (h : SubT L (openF m ts)) : (∀ no ∈ L.map Track.no, 0 ≤ placeT ts no) ∧ (L.map Track.no).map (trackAt ts) = L ∧ ((L.map Track.no).all fun no => safeB m (trackAt ts no)) = true := by
 have h2 : (L.map Track.no).map (trackAt ts) = L := by
  rw [List.map_map]
  exact (List.map_congr_left fun t ht => (open_no hr (h t ht)).2.1).trans (List.map_id _)
 refine ⟨fun no hn => ?_, h2, ?_⟩
 ·obtain ⟨t, ht, rfl⟩ := List.mem_map.1 hn
  exact (open_no hr (h t ht)).1
 ·rw [List.all_eq_true]
  intro no hn
  obtain ⟨t, ht, rfl⟩ := List.mem_map.1 hn
  rw [(open_no hr (h t ht)).2.1]
  exact (List.mem_filter.1 (h t ht)).2
end
section
variable {ss : List Site} {ts : List Track} {s : Scene} {c : Crew} {day : Int} {cs l : List Int}
theorem check_zero (hE : tripE ss ts s c day cs = 0) : checkE ss ts s c day l cs = 0 ↔ walkedB ts l = true ∧ followB ss ts c.hut l cs = true ∧ (l.all fun no => safeB (hwF s day) (trackAt ts no)) = true ∧ clockF c (sumF ts l) cs.length ≤ lightF day := by
 obtain ⟨hr, hs, hd, hq, hg⟩ := seen_zero hE
 simp only [tripA, Bool.and_eq_true] at hq
 have e : tripQ ss ts c l cs = walkedB ts l := by simp [tripQ, hq.1, hq.2]
 have hz : seenE ss ts s day true = 0 := seen_on hE
 unfold checkE
 rw [e]
 cases hw : walkedB ts l with
 | false =>
  have : seenE ss ts s day false ≠ 0 := fun h => by
   obtain ⟨_, _, _, h, _⟩ := seen_zero h
   cases h
  rw [if_pos this]
  simp [this]
 | true =>
  rw [hz, if_neg (by simp)]
  unfold tripZ
  cases hf : followB ss ts c.hut l cs with
  | false => simp
  | true =>
   cases ha : (l.all fun no => safeB (hwF s day) (trackAt ts no)) with
   | false => simp
   | true =>
    simp only [Bool.true_eq_false, if_false, true_and]
    split
    ·rename_i h
     constructor
     ·intro h2; cases h2
     ·intro h2; omega
    ·rename_i h
     exact ⟨fun _ => by omega, fun _ => rfl⟩
theorem walk_of_check (hr : RangeOk ss ts) {m : Int → Option Int} (hw : walkedB ts l = true) (ha : (l.all fun no => safeB m (trackAt ts no)) = true) : SubT (l.map (trackAt ts)) (openF m ts) := fun t ht => by
 obtain ⟨no, hno, rfl⟩ := List.mem_map.1 ht
 obtain ⟨x, hx, hxa, -⟩ := trackAt_of ((walked_zero hw).2 no hno)
 have h2 := List.all_eq_true.1 ha no hno
 rw [hxa] at h2 ⊢
 exact List.mem_filter.2 ⟨List.mem_of_getElem? hx, h2⟩
structure Found (ss : List Site) (ts : List Track) (s : Scene) (c : Crew) (day : Int) (cs : List Int) (a j : Nat) (L : List Track) : Prop where
 sub : SubT L (openF (hwF s day) ts)
 len : L.length = a ∧ a ≤ 64
 walk : StWalk ss (bitF ss cs) (placeS ss c.hut).toNat L j
 full : j / ss.length = 2 ^ cs.length - 1
 hut : (ss.getD (j % ss.length) default).kind = 1
 list : tripT ss ts s c day cs = L.map Track.no
 light : clockF c (costT L) cs.length ≤ lightF day
 best : ∀ l, walkedB ts l = true → (l.all fun no => safeB (hwF s day) (trackAt ts no)) = true → followB ss ts c.hut l cs = true → costT L ≤ sumF ts l
 least : cs = [] → L = []
theorem trip_look (hE : tripE ss ts s c day cs = 0) : (∀ a j, tripF ss ts s c day cs = some (a, j) → ∃ L, Found ss ts s c day cs a j L) ∧
  (tripF ss ts s c day cs = none → ∀ l, walkedB ts l = true → (l.all fun no => safeB (hwF s day) (trackAt ts no)) = true → followB ss ts c.hut l cs = true → lightF day < clockF c (sumF ts l) cs.length) := by
 obtain ⟨hr, _, _, hq, _⟩ := seen_zero hE
 simp only [tripA, Bool.and_eq_true] at hq
 obtain ⟨hh, hv⟩ := hq
 obtain ⟨hp, _, hld⟩ := hired_zero hh
 have hlt := placeS_lt hp
 have hin : (placeS ss c.hut).toNat < ss.length := by omega
 have hN := net_open hr (hwF s day)
 have hb : ∀ y, bitF ss cs y < 2 ^ cs.length := fun y => bitF_lt
 have hP := Pick.all (ss := ss) (R := tripRow ss ts s c day cs) (full := 2 ^ cs.length - 1) 65
 have hlow : ∀ l, walkedB ts l = true → (l.all fun no => safeB (hwF s day) (trackAt ts no)) = true → followB ss ts c.hut l cs = true → ∃ k i, k < 65 ∧ i < ss.length ∧ (ss.getD i default).kind = 1 ∧ minS (tripRow ss ts s c day cs k) (i + ss.length * (2 ^ cs.length - 1)) ≤ sumF ts l ∧ sumF ts l ≤ 92160 := fun l hw ha hf => by
  have hz := walked_zero hw
  obtain ⟨j, h1, h2, h3⟩ := (follow_iff hr hh hv hz.2).1 hf
  have hs := walk_of_check hr hw ha
  have h4 := row_low hN hb hin l.length hz.1 _ j hs (by rw [List.length_map]) h1
  refine ⟨l.length, j % ss.length, by omega, Nat.mod_lt _ (by omega), h3, ?_, (sum_bd hr hw).2⟩
  rw [sum_cost, ← h2, Nat.mod_add_div]
  exact h4
 have hfull : ∀ i, i < ss.length → i + ss.length * (2 ^ cs.length - 1) < ss.length * 2 ^ cs.length := fun i hi => by
  have h1 : 1 ≤ 2 ^ cs.length := Nat.two_pow_pos _
  have h2 : ss.length * (2 ^ cs.length - 1) + ss.length = ss.length * 2 ^ cs.length := by
   rw [← Nat.mul_succ]
   congr 1
   omega
  omega
 have hF : tripF ss ts s c day cs = match pickN ss (tripRow ss ts s c day cs) (2 ^ cs.length - 1) 65 with
  | none => none
  | some (a, j) => if lightF day < clockF c (minS (tripRow ss ts s c day cs a) j) cs.length then none else some (a, j) := rfl
 rw [hF]
 revert hP
 cases hpk : pickN ss (tripRow ss ts s c day cs) (2 ^ cs.length - 1) 65 with
 | none =>
  intro hP
  refine ⟨fun a j h => (by cases h), fun _ l hw ha hf => ?_⟩
  obtain ⟨k, i, hk, hi, hki, h1, h2⟩ := hlow l hw ha hf
  exact absurd (by unfold farN; omega) (hP.none_ rfl k i (.inl ⟨hk, hi⟩) hki)
 | some p =>
  obtain ⟨a, j⟩ := p
  intro hP
  obtain ⟨⟨i, hi, hj, hki⟩, g1, g2, g3, g4⟩ := hP.some_ a j rfl
  have ha64 : a ≤ 64 := by
   have := PickOk.pickN (ss := ss) (R := tripRow ss ts s c day cs) (N := ss.length * 2 ^ cs.length) (full := 2 ^ cs.length - 1) (by have := hfull 0 (by omega); have h1 : 1 ≤ 2 ^ cs.length := Nat.two_pow_pos _; have h2 : ss.length * (2 ^ cs.length - 1) + ss.length = ss.length * 2 ^ cs.length := (by rw [← Nat.mul_succ]; congr 1; omega); omega) 65 a j hpk
   omega
  have hjl : j < ss.length * 2 ^ cs.length := hj ▸ hfull i hi
  obtain ⟨L, k1, k2, k3, k4, k5⟩ := row_back hN hb hin a j hjl (by have := g1; unfold tripRow at this; omega)
  have hd : costT L = minS (tripRow ss ts s c day cs a) j := k4
  have hjd : j / ss.length = 2 ^ cs.length - 1 := by rw [hj, Nat.add_mul_div_left _ _ (by omega), Nat.div_eq_of_lt hi, Nat.zero_add]
  have hjm : j % ss.length = i := by rw [hj, Nat.add_mul_mod_self_left, Nat.mod_eq_of_lt hi]
  have hbest : ∀ l, walkedB ts l = true → (l.all fun no => safeB (hwF s day) (trackAt ts no)) = true → followB ss ts c.hut l cs = true → costT L ≤ sumF ts l := fun l hw ha hf => by
   obtain ⟨k, i', hk, hi', hki', h1, h2⟩ := hlow l hw ha hf
   have := g3 k i' (.inl ⟨hk, hi'⟩) hki'
   omega
  by_cases hc : lightF day < clockF c (minS (tripRow ss ts s c day cs a) j) cs.length
  ·have e : (if lightF day < clockF c (minS (tripRow ss ts s c day cs a) j) cs.length then none else some (a, j)) = (none : Option (Nat × Nat)) := if_pos hc
   refine ⟨fun a' j' h => ?_, fun _ l hw ha hf => ?_⟩
   ·simp only at h
    rw [e] at h
    cases h
   ·have h1 := clock_mono (c := c) (n := cs.length) hld.1 (hbest l hw ha hf)
    rw [hd] at h1
    omega
  ·have e : (if lightF day < clockF c (minS (tripRow ss ts s c day cs a) j) cs.length then none else some (a, j)) = some (a, j) := if_neg hc
   refine ⟨fun a' j' h => ?_, fun h => ?_⟩
   ·simp only at h
    rw [e] at h
    injection h with h
    injection h with h1 h2
    subst h1 h2
    have hT : tripT ss ts s c day cs = L.map Track.no := by
     have e2 : tripF ss ts s c day cs = some (a, j) := by rw [hF, hpk]; exact e
     rw [tripT, e2, tripL]
     exact k5
    refine ⟨L, k1, ⟨k2, ha64⟩, k3, hjd, by rw [hjm]; exact hki, hT, by rw [hd]; omega, hbest, fun hcs => ?_⟩
    subst hcs
    have h0 : a = 0 := by
     rcases Nat.eq_zero_or_pos a with h | h
     ·exact h
     ·have h5 := g4 0 (placeS ss c.hut).toNat h hin (by
       simp only [hiredB, Bool.and_eq_true, beq_iff_eq] at hh
       exact hh.1.1.2)
      have h6 := row_low (O := openF (hwF s day) ts) (bit := bitF ss []) (m := 0) hN hb hin 0 (by omega) [] (placeS ss c.hut).toNat (SubT.nil _) rfl rfl
      have h7 : 0 ≤ costT L := costT_nonneg (fun t ht => (hN.pos t ht).1) k1
      simp only [costT] at h6
      have e3 : minS (tripRow ss ts s c day [] 0) ((placeS ss c.hut).toNat + ss.length * (2 ^ ([] : List Int).length - 1)) = minS (rowT ss (openF (hwF s day) ts) (bitF ss []) (ss.length * 2 ^ 0) (placeS ss c.hut).toNat 0) (placeS ss c.hut).toNat := by simp [tripRow]
      omega
    exact List.length_eq_zero_iff.1 (by omega)
   ·simp only at h
    rw [e] at h
    cases h
end

section
variable {ss : List Site} {ts : List Track} {s : Scene} {c : Crew} {day : Int} {cs : List Int}
theorem trip_bad (hE : tripE ss ts s c day cs ≠ 0) : tripB ss ts s c day cs = false ∧ tripV ss ts s c day cs = [] ∧ ∀ l, checkE ss ts s c day l cs ≠ 0 := by
 refine ⟨by simp [tripB, hE], by simp [tripV, hE], fun l h => hE ?_⟩
 unfold checkE at h
 split at h
 ·rename_i h1; exact absurd h h1
 ·rename_i h1
  have h1 : seenE ss ts s day (tripQ ss ts c l cs) = 0 := Classical.byContradiction h1
  obtain ⟨_, _, _, hq, _⟩ := seen_zero h1
  obtain ⟨q1, _, q3⟩ := tripQ_true hq
  rw [hq] at h1
  have e : tripA ss c cs = true := by simp [tripA, q1, q3]
  rw [tripE, e]
  exact h1
theorem trip_none (hE : tripE ss ts s c day cs = 0) (hF : tripF ss ts s c day cs = none) : tripB ss ts s c day cs = false ∧ tripV ss ts s c day cs = [] ∧ ∀ l, checkE ss ts s c day l cs ≠ 0 := by
 refine ⟨by simp [tripB, hF], by simp [tripV, hE, tripT, hF, tripL], fun l h => ?_⟩
 obtain ⟨h1, h2, h3, h4⟩ := (check_zero hE).1 h
 have := (trip_look hE).2 hF l h1 h3 h2
 omega
theorem mins_zero (hE : tripE ss ts s c day cs = 0) {l : List Int} (h : walkedB ts l = true) : minutesE ss ts c l cs = 0 ∧ minutesV ss ts c l cs = clockF c (sumF ts l) cs.length := by
 obtain ⟨hr, _, _, hq, _⟩ := seen_zero hE
 simp only [tripA, Bool.and_eq_true] at hq
 have hr0 : rangeE ss ts = 0 := by
  unfold tripE seenE at hE
  split at hE
  ·rename_i h1; exact absurd hE h1
  ·rename_i h1; exact Classical.byContradiction h1
 have e : minutesE ss ts c l cs = 0 := by simp [minutesE, hr0, hq.1, hq.2, h]
 exact ⟨e, by simp [minutesV, e]⟩
theorem trip_good (hE : tripE ss ts s c day cs = 0) {a j : Nat} (hF : tripF ss ts s c day cs = some (a, j)) : tripB ss ts s c day cs = true ∧ checkE ss ts s c day (tripV ss ts s c day cs) cs = 0 ∧ minutesE ss ts c (tripV ss ts s c day cs) cs = 0 ∧
  minutesV ss ts c (tripV ss ts s c day cs) cs ≤ lightF day ∧ (tripV ss ts s c day cs).length ≤ 64 ∧ walkedB ts (tripV ss ts s c day cs) = true ∧
  (∀ l, checkE ss ts s c day l cs = 0 → minutesE ss ts c l cs = 0 ∧ minutesV ss ts c (tripV ss ts s c day cs) cs ≤ minutesV ss ts c l cs) ∧
  (∀ l, walkedB ts l = true → (l.all fun no => safeB (hwF s day) (trackAt ts no)) = true → followB ss ts c.hut l cs = true → sumF ts (tripV ss ts s c day cs) ≤ sumF ts l) ∧
  (cs = [] → tripV ss ts s c day cs = [] ∧ minutesV ss ts c (tripV ss ts s c day cs) cs = 0) := by
 obtain ⟨hr, _, _, hq, _⟩ := seen_zero hE
 simp only [tripA, Bool.and_eq_true] at hq
 obtain ⟨hh, hv⟩ := hq
 obtain ⟨_, _, hld⟩ := hired_zero hh
 obtain ⟨L, f⟩ := (trip_look hE).1 a j hF
 have hV : tripV ss ts s c day cs = L.map Track.no := by simp [tripV, hE, f.list]
 obtain ⟨n1, n2, n3⟩ := nos_back hr f.sub
 have hlen : (L.map Track.no).length ≤ 64 := by rw [List.length_map, f.len.1]; exact f.len.2
 have hw : walkedB ts (L.map Track.no) = true := by
  have h1 : ((L.map Track.no).any fun no => decide (placeT ts no < 0)) = false := by
   rw [Bool.eq_false_iff]
   intro h
   obtain ⟨no, hn, hp⟩ := List.any_eq_true.1 h
   have := n1 no hn
   simp at hp
   omega
  simp only [walkedB, h1, decide_eq_true hlen]
  rfl
 have hsum : sumF ts (L.map Track.no) = costT L := by rw [sum_cost, n2]
 have hfo : followB ss ts c.hut (L.map Track.no) cs = true := (follow_iff hr hh hv n1).2 ⟨j, by rw [n2]; exact f.walk, f.full, f.hut⟩
 have hm := mins_zero hE hw
 rw [hV]
 refine ⟨by simp [tripB, hE, hF], (check_zero hE).2 ⟨hw, hfo, n3, by rw [hsum]; exact f.light⟩, hm.1, by rw [hm.2, hsum]; exact f.light, hlen, hw, fun l hl => ?_, fun l g1 g2 g3 => by rw [hsum]; exact f.best l g1 g2 g3, fun hc => ?_⟩
 ·obtain ⟨g1, g2, g3, g4⟩ := (check_zero hE).1 hl
  have h2 := mins_zero hE g1
  refine ⟨h2.1, ?_⟩
  rw [hm.2, h2.2, hsum]
  exact clock_mono hld.1 (f.best l g1 g3 g2)
 ·have hL := f.least hc
  subst hL
  refine ⟨rfl, ?_⟩
  rw [hm.2, hc]
  simp [sumF, clockF]
theorem trip_day (hE : tripE ss ts s c day cs = 0) : lightV day = lightF day ∧ dayE day = 0 := by
 obtain ⟨_, _, hd, _, hg⟩ := seen_zero hE
 have hi : inB day 0 1048576 = true := inB_true.2 (day_in (great_scene hg) hd)
 exact ⟨by simp [lightV, hi], by simp [dayE, hi]⟩
theorem visits_less {k : Nat} (hv : visitsB ss cs = true) : visitsB ss (cs.eraseIdx k) = true := by
 obtain ⟨h8, hg⟩ := visits_zero hv
 have hup : ∀ i j x y, i < j → cs[i]? = some x → cs[j]? = some y → x < y := fun i j x y hij hx hy => rise_all (f := fun x : Int => x) (xs := cs) (fun i a b ha hb => by
  have h2 := hg (i + 1) (List.getElem?_eq_some_iff.1 hb).1
  simp only [visitGood, Bool.and_eq_true, Bool.or_eq_true, decide_eq_true_eq, Nat.add_sub_cancel] at h2
  have e1 : cs.getD i 0 = a := by simp [ha]
  have e2 : cs.getD (i + 1) 0 = b := by simp [hb]
  rw [e1, e2] at h2
  rcases h2.2 with h2 | h2
  ·simp at h2
  ·exact h2) (j - i - 1) i x y hx (by rw [← hy]; congr 1; omega)
 have hat : ∀ (i : Nat) x, (cs.eraseIdx k)[i]? = some x → ∃ i', i' < cs.length ∧ cs[i']? = some x ∧ i' = if i < k then i else i + 1 := fun i x hx => by
  rw [List.getElem?_eraseIdx] at hx
  split at hx
  ·rename_i h; exact ⟨i, (List.getElem?_eq_some_iff.1 hx).1, hx, by rw [if_pos h]⟩
  ·rename_i h; exact ⟨i + 1, (List.getElem?_eq_some_iff.1 hx).1, hx, by rw [if_neg h]⟩
 have hlen : (cs.eraseIdx k).length ≤ 8 := Nat.le_trans (List.length_eraseIdx_le ..) h8
 have hall : ∀ i, i < (cs.eraseIdx k).length → visitGood ss (cs.eraseIdx k) i = true := fun i hi => by
  obtain ⟨x, hx⟩ := getElem?_of_lt hi
  obtain ⟨i', h1, h2, h3⟩ := hat i x hx
  have hgi := hg i' h1
  have e1 : cs.getD i' 0 = x := by simp [h2]
  have e2 : (cs.eraseIdx k).getD i 0 = x := by simp [hx]
  simp only [visitGood, Bool.and_eq_true] at hgi ⊢
  rw [e1] at hgi
  rw [e2]
  refine ⟨hgi.1, ?_⟩
  cases i with
  | zero => simp
  | succ i =>
   obtain ⟨y, hy⟩ := getElem?_of_lt (xs := cs.eraseIdx k) (k := i) (by omega)
   obtain ⟨i2, g1, g2, g3⟩ := hat i y hy
   have e3 : (cs.eraseIdx k).getD (i + 1 - 1) 0 = y := by simp [hy]
   rw [e3]
   have hlt : i2 < i' := by
    rw [h3, g3]
    split <;> split <;> omega
   have := hup i2 i' y x hlt g2 h2
   simp [this]
 simp only [visitsB, Bool.and_eq_true, decide_eq_true_eq]
 exact ⟨hlen, List.all_eq_true.2 fun i hi => hall i (List.mem_range.1 hi)⟩
theorem trip_less (hE : tripE ss ts s c day cs = 0) {a j : Nat} (hF : tripF ss ts s c day cs = some (a, j)) (k : Nat) : tripE ss ts s c day (cs.eraseIdx k) = 0 ∧ tripB ss ts s c day (cs.eraseIdx k) = true ∧ minutesE ss ts c (tripV ss ts s c day (cs.eraseIdx k)) (cs.eraseIdx k) = 0 ∧
  minutesV ss ts c (tripV ss ts s c day (cs.eraseIdx k)) (cs.eraseIdx k) ≤ minutesV ss ts c (tripV ss ts s c day cs) cs ∧ (tripV ss ts s c day (cs.eraseIdx k)).length ≤ 64 := by
 obtain ⟨hr, _, _, hq, _⟩ := seen_zero hE
 simp only [tripA, Bool.and_eq_true] at hq
 obtain ⟨hh, hv⟩ := hq
 obtain ⟨_, hwk, hld⟩ := hired_zero hh
 have hv2 := visits_less (k := k) hv
 have hE2 : tripE ss ts s c day (cs.eraseIdx k) = 0 := by
  have e : tripA ss c (cs.eraseIdx k) = true := by simp [tripA, hh, hv2]
  rw [tripE, e]
  exact seen_on hE
 obtain ⟨L, f⟩ := (trip_look hE).1 a j hF
 obtain ⟨g1, g2, g3, g4, g5, g6, _⟩ := trip_good hE hF
 obtain ⟨z1, z2, z3, z4⟩ := (check_zero hE).1 g2
 have hf2 : followB ss ts c.hut (tripV ss ts s c day cs) (cs.eraseIdx k) = true := by
  unfold followB at z2 ⊢
  split at z2
  ·cases z2
  ·simp only [Bool.and_eq_true, List.all_eq_true] at z2 ⊢
   exact ⟨fun x hx => z2.1 x (List.eraseIdx_subset hx), z2.2⟩
 have hcl : ∀ n, clockF c n (cs.eraseIdx k).length ≤ clockF c n cs.length := fun n => by
  unfold clockF
  have h1 : ((cs.eraseIdx k).length : Int) ≤ (cs.length : Int) := by have := List.length_eraseIdx_le cs k; omega
  have := Int.mul_le_mul_of_nonneg_right h1 hwk.1
  omega
 have hm := mins_zero hE g6
 rw [hm.2] at g4 ⊢
 have hck : checkE ss ts s c day (tripV ss ts s c day cs) (cs.eraseIdx k) = 0 := (check_zero hE2).2 ⟨z1, hf2, z3, Int.le_trans (hcl _) z4⟩
 cases hF2 : tripF ss ts s c day (cs.eraseIdx k) with
 | none => exact absurd hck ((trip_none hE2 hF2).2.2 _)
 | some p =>
  obtain ⟨a2, j2⟩ := p
  obtain ⟨k1, k2, k3, k4, k5, k6, k7, k8, _⟩ := trip_good hE2 hF2
  refine ⟨hE2, k1, k3, ?_, k5⟩
  have h1 := (k7 _ hck).2
  rw [(mins_zero hE2 g6).2] at h1
  exact Int.le_trans h1 (hcl _)
end
end Go.Proofs.YtgbbljfmngmjeaaGreat
