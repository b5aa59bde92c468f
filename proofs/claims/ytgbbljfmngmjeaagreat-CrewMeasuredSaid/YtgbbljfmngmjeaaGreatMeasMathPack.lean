/- What a measurement is worth: scenes that allow less, and the worst case. No condition. -/
import Derived.Test.YtgbbljfmngmjeaaGreatRefNetPack
import Derived.Test.YtgbbljfmngmjeaaGreatCrew14Pack
set_option linter.all false
namespace Go.Proofs.YtgbbljfmngmjeaaGreat
open Go.RowKit

def Pot (s : Scene) (π : Nat → Int) : Prop := ∀ d ∈ layD s, π d.to.toNat ≤ π d.frm.toNat + d.most
def topP (s : Scene) (i : Nat) : Int := (endsL (nodesN s) (layD s)).getD i 0
def botP (s : Scene) (i : Nat) : Int := (botL (nodesN s) (layD s)).getD i 0
section
variable {s : Scene}
theorem top_is (h : sceneE s = 0) (hg : greatE s = 0) : Pot s (topP s) ∧ topP s 0 = 0 ∧ ∀ π, Pot s π → ∀ i, i < nodesN s → π i - π 0 ≤ topP s i := by
 have hs := SceneOk.of h
 rw [great_is h] at hg
 exact fed_top (nodes_pos hs) hs.net.hds (lay_fed hs).1 hg
theorem bot_is (h : sceneE s = 0) (hg : greatE s = 0) : Pot s (botP s) ∧ botP s 0 = 0 ∧ ∀ π, Pot s π → ∀ i, i < nodesN s → botP s i ≤ π i - π 0 := by
 have hs := SceneOk.of h
 rw [← least_great h, least_is h] at hg
 obtain ⟨h1, h2, h3⟩ := fed_top (nodes_pos hs) hs.net.turn.hds (lay_fed hs).2 hg
 have e : ∀ i, botP s i = -((endsL (nodesN s) ((layD s).map turnD)).getD i 0) := fun i => by
  unfold botP botL
  rw [List.getD_eq_getElem?_getD, List.getD_eq_getElem?_getD, List.getElem?_map]
  cases (endsL (nodesN s) ((layD s).map turnD))[i]? <;> simp
 refine ⟨fun d hd => ?_, by rw [e, h2]; rfl, fun π hπ i hi => ?_⟩
 ·have := h1 (turnD d) (List.mem_map.2 ⟨d, hd, rfl⟩)
  simp only [turnD] at this
  rw [e, e]
  omega
 ·have := h3 (fun i => - π i) (fun d hd => by
   obtain ⟨e, he, rfl⟩ := List.mem_map.1 hd
   have := hπ e he
   simp only [turnD]
   omega) i hi
  rw [e]
  omega
def InS (s : Scene) (p : Int × Int) : Prop := (0 ≤ p.1 ∧ p.1 < s.basin.cells.length) ∧ 0 ≤ p.2 ∧ p.2 < s.days.length
def nodeP (s : Scene) (p : Int × Int) : Nat := 1 + p.2.toNat * s.basin.cells.length + p.1.toNat
theorem high_top {p : Int × Int} (hp : InS s p) : highAt s p = topP s (nodeP s p) := by
 obtain ⟨⟨h1, h2⟩, h3, h4⟩ := hp
 unfold highAt greatF topP nodeP
 exact rows_at (by omega) (by omega)
theorem low_bot {p : Int × Int} (hp : InS s p) : lowAt s p = botP s (nodeP s p) := by
 obtain ⟨⟨h1, h2⟩, h3, h4⟩ := hp
 unfold lowAt leastF botP nodeP
 exact rows_at (by omega) (by omega)
theorem nodeP_lt {p : Int × Int} (hp : InS s p) : nodeP s p < nodesN s := by
 obtain ⟨⟨h1, h2⟩, h3, h4⟩ := hp
 exact rows_in (by omega) (by omega)
theorem low_le_high (h : sceneE s = 0) (hg : greatE s = 0) {p : Int × Int} (hp : InS s p) : lowAt s p ≤ highAt s p := by
 rw [high_top hp, low_bot hp]
 obtain ⟨t1, t2, _⟩ := top_is h hg
 have := (bot_is h hg).2.2 _ t1 _ (nodeP_lt hp)
 omega
end
structure Weak (s1 s2 : Scene) : Prop where
 basin : s2.basin = s1.basin
 days : s2.days = s1.days
 e1 : sceneE s1 = 0
 e2 : sceneE s2 = 0
 pot : ∀ π, Pot s2 π → Pot s1 π
theorem Weak.inS {s1 s2 : Scene} (W : Weak s1 s2) {p : Int × Int} (hp : InS s1 p) : InS s2 p := by
 unfold InS at hp ⊢
 rw [W.basin, W.days]
 exact hp
theorem Weak.node {s1 s2 : Scene} (W : Weak s1 s2) (p : Int × Int) : nodeP s2 p = nodeP s1 p := by unfold nodeP; rw [W.basin]
theorem Weak.span {s1 s2 : Scene} (W : Weak s1 s2) (hg : greatE s2 = 0) : greatE s1 = 0 ∧ ∀ p, InS s1 p → lowAt s1 p ≤ lowAt s2 p ∧ highAt s2 p ≤ highAt s1 p := by
 obtain ⟨t1, t2, _⟩ := top_is W.e2 hg
 obtain ⟨b1, b2, _⟩ := bot_is W.e2 hg
 have hg1 : greatE s1 = 0 := (great_pot W.e1).2 ⟨_, W.pot _ t1⟩
 refine ⟨hg1, fun p hp => ?_⟩
 rw [high_top hp, low_bot hp, high_top (W.inS hp), low_bot (W.inS hp), W.node]
 have h1 := (top_is W.e1 hg1).2.2 _ (W.pot _ t1) _ (nodeP_lt hp)
 have h2 := (bot_is W.e1 hg1).2.2 _ (W.pot _ b1) _ (nodeP_lt hp)
 omega
theorem fold_le {s1 s2 : Scene} {f g : Int → Int} (hb : s2.basin = s1.basin) : ∀ (l : List Int) (a b : Int), a ≤ b → (∀ no ∈ l, 0 ≤ areaAt s1 no ∧ f no ≤ g no) → l.foldl (fun a no => a + areaAt s2 no * f no) a ≤ l.foldl (fun a no => a + areaAt s1 no * g no) b
 | [], a, b, h, _ => h
 | no :: l, a, b, h, hl => by
  have h1 := hl no (List.mem_cons_self ..)
  have e : areaAt s2 no = areaAt s1 no := by unfold areaAt; rw [hb]
  rw [List.foldl_cons, List.foldl_cons]
  refine fold_le hb l _ _ ?_ fun x hx => hl x (List.mem_cons_of_mem _ hx)
  rw [e]
  have := Int.mul_le_mul_of_nonneg_left h1.2 h1.1
  omega
theorem val_zero {s : Scene} {cells : List Int} {day : Int} (h : valE s cells day = 0) : spotsE s cells day = 0 ∧ greatE s = 0 ∧ wideV s cells day = valHi s day cells - valLo s day cells := by
 have h1 : spotsE s cells day = 0 := Classical.byContradiction fun e => by simp [valE, e] at h
 have h2 : spansE s = 0 := by simpa [valE, h1] using h
 exact ⟨h1, (spans_zero h2).2, by simp [wideV, valV, h]⟩
theorem spot_inS {s : Scene} {cells : List Int} {day : Int} (h : spotsE s cells day = 0) : ∀ no ∈ cells, InS s (spotAt s day no) ∧ 0 ≤ areaAt s no := by
 obtain ⟨h0, _, _, _, h4⟩ := spotsB_in h
 intro no hn
 have h5 := spot_in h (spotAt s day no) (List.mem_map.2 ⟨no, hn, rfl⟩)
 obtain ⟨x, _, e, h6, _⟩ := area_in (SceneOk.of h0) (h4 no hn)
 exact ⟨h5, by omega⟩
theorem wide_nonneg {s : Scene} {cells : List Int} {day : Int} (h : valE s cells day = 0) : 0 ≤ wideV s cells day := by
 obtain ⟨h1, h2, h3⟩ := val_zero h
 have hs := spot_inS h1
 have h0 := (spotsB_in h1).1
 have := fold_le (s1 := s) (s2 := s) (f := fun no => lowAt s (spotAt s day no)) (g := fun no => highAt s (spotAt s day no)) rfl cells 0 0 (Int.le_refl _) fun no hn => ⟨(hs no hn).2, low_le_high h0 h2 (hs no hn).1⟩
 have e1 : valLo s day cells = cells.foldl (fun a no => a + areaAt s no * lowAt s (spotAt s day no)) 0 := rfl
 have e2 : valHi s day cells = cells.foldl (fun a no => a + areaAt s no * highAt s (spotAt s day no)) 0 := rfl
 rw [h3, e1, e2]
 omega
theorem Weak.spots {s1 s2 : Scene} (W : Weak s1 s2) (cells : List Int) (day : Int) : spotsE s2 cells day = spotsE s1 cells day := by
 simp [spotsE, spotsB, W.e1, W.e2, W.basin, W.days]
theorem Weak.wide {s1 s2 : Scene} (W : Weak s1 s2) {cells : List Int} {day : Int} (h : valE s2 cells day = 0) : valE s1 cells day = 0 ∧ wideV s2 cells day ≤ wideV s1 cells day := by
 obtain ⟨h1, h2, h3⟩ := val_zero h
 obtain ⟨hg1, hsp⟩ := W.span h2
 have h1' : spotsE s1 cells day = 0 := by rw [← W.spots]; exact h1
 have hE : valE s1 cells day = 0 := by
  have : spansE s1 = 0 := by
   unfold spansE
   rw [least_great W.e1, hg1]
   rfl
  simp [valE, h1', this]
 obtain ⟨_, _, h3'⟩ := val_zero hE
 have hs := spot_inS h1'
 have es : ∀ no, spotAt s2 day no = spotAt s1 day no := fun no => by unfold spotAt; rw [W.basin, W.days]
 have u1 := fold_le (s1 := s1) (s2 := s2) (f := fun no => highAt s2 (spotAt s1 day no)) (g := fun no => highAt s1 (spotAt s1 day no)) W.basin cells 0 0 (Int.le_refl _) fun no hn => ⟨(hs no hn).2, (hsp _ (hs no hn).1).2⟩
 have u2 := fold_le (s1 := s2) (s2 := s1) (f := fun no => lowAt s1 (spotAt s1 day no)) (g := fun no => lowAt s2 (spotAt s1 day no)) W.basin.symm cells 0 0 (Int.le_refl _) fun no hn => ⟨by have := (hs no hn).2; unfold areaAt at this ⊢; rw [W.basin]; exact this, (hsp _ (hs no hn).1).1⟩
 refine ⟨hE, ?_⟩
 rw [h3, h3']
 have a1 : valHi s2 day cells = cells.foldl (fun a no => a + areaAt s2 no * highAt s2 (spotAt s1 day no)) 0 := by unfold valHi sumBy; simp only [es]
 have a2 : valLo s2 day cells = cells.foldl (fun a no => a + areaAt s2 no * lowAt s2 (spotAt s1 day no)) 0 := by unfold valLo sumBy; simp only [es]
 have a3 : valHi s1 day cells = cells.foldl (fun a no => a + areaAt s1 no * highAt s1 (spotAt s1 day no)) 0 := rfl
 have a4 : valLo s1 day cells = cells.foldl (fun a no => a + areaAt s1 no * lowAt s1 (spotAt s1 day no)) 0 := rfl
 rw [a1, a2, a3, a4]
 omega
theorem with_okM {s : Scene} {x : Sight} (h : sceneE s = 0) (hw : withE s x = 0) : sceneE (withS s x) = 0 ∧ sightOk s x = true ∧ s.sights.length ≠ 256 := by
 have hs := SceneOk.of h
 unfold withE at hw
 rw [if_neg (by omega)] at hw
 split at hw
 ·cases hw
 split at hw
 ·cases hw
 rename_i h1 h2
 refine ⟨?_, by simpa using h2, h1⟩
 unfold sceneE at h ⊢
 split at h
 ·cases h
 split at h
 ·cases h
 split at h
 ·cases h
 split at h
 ·cases h
 split at h
 ·cases h
 rename_i g1 g2 g3 g4 g5
 have e1 : (withS s x).basin = s.basin := rfl
 have e2 : (withS s x).days = s.days := rfl
 have e3 : (withS s x).changes = s.changes := rfl
 have e4 : (withS s x).sights = s.sights ++ [x] := rfl
 have e5 : sightOk (withS s x) = sightOk s := rfl
 have e6 : changeOk (withS s x) = changeOk s := rfl
 rw [e1, e2, e3, e4, e5, e6, if_neg g1, if_neg g2, if_neg (by simp only [List.length_append, List.length_cons, List.length_nil]; have := hs.hsl; omega), if_neg (by
  rw [List.all_append]
  rw [Bool.not_eq_false] at g4 h2
  simp [g4, h2]), if_neg g5]
theorem with_mem {s : Scene} {x : Sight} {d : Diff} : d ∈ layD (withS s x) ↔ d ∈ layD s ∨ d ∈ sightD s x := by
 have e : layD (withS s x) = (List.range s.days.length).flatMap (dayD s.basin) ++ (s.sights ++ [x]).flatMap (sightD s) ++ s.changes.flatMap (changeD s) := rfl
 rw [e]
 unfold layD
 rw [List.flatMap_append]
 simp only [List.mem_append, List.flatMap_cons, List.flatMap_nil, List.append_nil]
 constructor
 ·rintro ((h | h | h) | h)
  ·exact .inl (.inl (.inl h))
  ·exact .inl (.inl (.inr h))
  ·exact .inr h
  ·exact .inl (.inr h)
 ·rintro (((h | h) | h) | h)
  ·exact .inl (.inl h)
  ·exact .inl (.inr (.inl h))
  ·exact .inr h
  ·exact .inl (.inr (.inr h))
theorem weak_with {s : Scene} {x : Sight} (h : sceneE s = 0) (hw : withE s x = 0) : Weak s (withS s x) :=
 ⟨rfl, rfl, h, (with_okM h hw).1, fun π hπ d hd => hπ d (with_mem.2 (.inl hd))⟩
theorem weak_two {s : Scene} {x y : Sight} (h : sceneE s = 0) (hx : withE s x = 0) (hy : withE s y = 0) (hc : x.cell = y.cell) (hd : x.day = y.day) (hl : x.lo ≤ y.lo) (hh : y.hi ≤ x.hi) : Weak (withS s x) (withS s y) := by
 refine ⟨rfl, rfl, (with_okM h hx).1, (with_okM h hy).1, fun π hπ d hdm => ?_⟩
 rcases with_mem.1 hdm with h1 | h1
 ·exact hπ d (with_mem.2 (.inl h1))
 ·have e : placeN s x.cell x.day = placeN s y.cell y.day := by rw [hc, hd]
  have y1 := hπ ⟨0, placeN s y.cell y.day, y.hi⟩ (with_mem.2 (.inr (by simp [sightD])))
  have y2 := hπ ⟨placeN s y.cell y.day, 0, -y.lo⟩ (with_mem.2 (.inr (by simp [sightD])))
  simp only [sightD, List.mem_cons, List.not_mem_nil, or_false, e] at h1
  rcases h1 with rfl | rfl
  ·simp only at y1 ⊢; omega
  ·simp only at y2 ⊢; omega
theorem with_free {s : Scene} {x : Sight} (h : sceneE s = 0) (hg : greatE s = 0) (hw : withE s x = 0) (h1 : x.lo ≤ highAt s (spotAt s x.day x.cell)) (h2 : lowAt s (spotAt s x.day x.cell) ≤ x.hi) : greatE (withS s x) = 0 := by
 obtain ⟨k1, k2, _⟩ := with_okM h hw
 simp only [sightOk, Bool.and_eq_true, decide_eq_true_eq] at k2
 obtain ⟨⟨⟨⟨⟨_, c1⟩, c2⟩, _⟩, c3⟩, _⟩ := k2
 have c2 : 0 ≤ placeD s.days x.day := by
  unfold hasD at c2
  have := idxBy_nonneg (fun y => y == x.day) s.days
  rw [c2] at this
  exact of_decide_eq_true this
 have hp : InS s (spotAt s x.day x.cell) := ⟨⟨c1, idxBy_lt c1⟩, c2, placeD_lt (s := s) c2⟩
 have hlh := low_le_high h hg hp
 have hnd : (placeN s x.cell x.day).toNat = nodeP s (spotAt s x.day x.cell) := by
  unfold placeN nodeF nodeP spotAt
  simp only
  obtain ⟨a, ha⟩ : ∃ a : Nat, placeC s.basin.cells x.cell = a := ⟨_, (Int.toNat_of_nonneg c1).symm⟩
  obtain ⟨b, hb⟩ : ∃ b : Nat, placeD s.days x.day = b := ⟨_, (Int.toNat_of_nonneg c2).symm⟩
  rw [ha, hb]
  have : (1 : Int) + (b : Int) * (s.basin.cells.length : Int) + (a : Int) = ((1 + b * s.basin.cells.length + a : Nat) : Int) := by push_cast; rfl
  rw [this, Int.toNat_natCast, Int.toNat_natCast, Int.toNat_natCast]
 rw [high_top hp] at h1 hlh
 rw [low_bot hp] at h2 hlh
 obtain ⟨t1, t2, _⟩ := top_is h hg
 obtain ⟨b1, b2, _⟩ := bot_is h hg
 obtain ⟨u, hu⟩ : ∃ u, max x.lo (botP s (nodeP s (spotAt s x.day x.cell))) - botP s (nodeP s (spotAt s x.day x.cell)) = u := ⟨_, rfl⟩
 refine (great_pot k1).2 ⟨fun i => min (topP s i) (botP s i + u), fun d hd => ?_⟩
 rcases with_mem.1 hd with h3 | h3
 ·have a1 := t1 d h3
  have a2 := b1 d h3
  show min (topP s d.to.toNat) (botP s d.to.toNat + u) ≤ min (topP s d.frm.toNat) (botP s d.frm.toNat + u) + d.most
  omega
 ·simp only [sightD, List.mem_cons, List.not_mem_nil, or_false] at h3
  rcases h3 with rfl | rfl
  ·show min (topP s (placeN s x.cell x.day).toNat) (botP s (placeN s x.cell x.day).toNat + u) ≤ min (topP s 0) (botP s 0 + u) + x.hi
   rw [hnd, t2, b2]
   omega
  ·show min (topP s 0) (botP s 0 + u) ≤ min (topP s (placeN s x.cell x.day).toNat) (botP s (placeN s x.cell x.day).toNat + u) + -x.lo
   rw [hnd, t2, b2]
   omega

section
variable {s : Scene} {cells : List Int} {day cell width : Int}
structure WorstAt (s : Scene) (cells : List Int) (day cell width v0 : Int) (k : Nat) (b : Outc) : Prop where
 all : ∀ j : Nat, j < k → withE s (toldAt s cell day width (v0 + j)) = 0 ∧ valE (withS s (toldAt s cell day width (v0 + j))) cells day = 0 ∧ wideV (withS s (toldAt s cell day width (v0 + j))) cells day ≤ b.wide
 best : b.wide = -1 ∨ ∃ j : Nat, j < k ∧ b.lo = max (v0 + j) 0 ∧ b.hi = min (v0 + j + width) 65536 ∧ b.wide = wideV (withS s (toldAt s cell day width (v0 + j))) cells day
theorem worst_at {v0 : Int} : ∀ (k : Nat) (b : Outc), worstK s cells day cell width v0 k = .inr b → WorstAt s cells day cell width v0 k b
 | 0, b, h => by
  injection h with h
  subst h
  exact ⟨fun j hj => by omega, .inl rfl⟩
 | k + 1, b, h => by
  rw [worstK] at h
  cases h0 : worstK s cells day cell width v0 k with
  | inl e => rw [h0] at h; cases h
  | inr b0 =>
   rw [h0] at h
   simp only at h
   obtain ⟨a1, a2⟩ := worst_at k b0 h0
   unfold worstS at h
   split at h
   ·rename_i hc
    injection h with h
    subst h
    obtain ⟨⟨c1, c2⟩, c3⟩ := hc
    rcases a2 with a2 | ⟨j, hj, b1, b2, b3⟩
    ·omega
    ·have e : toldAt s cell day width (v0 + k) = toldAt s cell day width (v0 + j) := by
      unfold toldAt
      rw [c1, c2, b1, b2]
     refine ⟨fun i hi => ?_, .inr ⟨j, by omega, b1, b2, b3⟩⟩
     rcases Nat.lt_or_ge i k with h1 | h1
     ·exact a1 i h1
     ·obtain rfl : i = k := by omega
      rw [e]
      exact a1 j hj
   ·split at h
    ·cases h
    ·rename_i h1
     have h1 : withE s (toldAt s cell day width (v0 + k)) = 0 := Classical.byContradiction h1
     split at h
     ·cases h
     ·rename_i h2
      have h2 : valE (withS s (toldAt s cell day width (v0 + k))) cells day = 0 := Classical.byContradiction h2
      split at h
      ·rename_i h3
       injection h with h
       subst h
       refine ⟨fun i hi => ?_, .inr ⟨k, by omega, rfl, rfl, rfl⟩⟩
       rcases Nat.lt_or_ge i k with h4 | h4
       ·have := a1 i h4
        exact ⟨this.1, this.2.1, by simp only; omega⟩
       ·obtain rfl : i = k := by omega
        exact ⟨h1, h2, Int.le_refl _⟩
      ·rename_i h3
       injection h with h
       subst h
       refine ⟨fun i hi => ?_, ?_⟩
       ·rcases Nat.lt_or_ge i k with h4 | h4
        ·exact a1 i h4
        ·obtain rfl : i = k := by omega
         exact ⟨h1, h2, by omega⟩
       ·rcases a2 with a2 | ⟨j, hj, a2⟩
        ·exact .inl a2
        ·exact .inr ⟨j, by omega, a2⟩
theorem worst_inl {v0 e : Int} : ∀ k, worstK s cells day cell width v0 k = .inl e → e ≠ 0
 | 0, h => by cases h
 | k + 1, h => by
  rw [worstK] at h
  cases h0 : worstK s cells day cell width v0 k with
  | inl e' =>
   rw [h0] at h
   injection h with h
   subst h
   exact worst_inl k h0
  | inr b =>
   rw [h0] at h
   simp only at h
   unfold worstS at h
   split at h
   ·cases h
   split at h
   ·rename_i h1
    injection h with h
    rw [← h]
    exact h1
   split at h
   ·rename_i h1
    injection h with h
    rw [← h]
    exact h1
   split at h <;> cases h
structure Meas (s : Scene) (cells : List Int) (day cell width : Int) (b : Outc) : Prop where
 scene : sceneE s = 0
 wd : 0 ≤ width ∧ width ≤ 65536
 great : greatE s = 0
 val : valE s cells day = 0
 cellz : cellE s cell day = 0
 span : cellV s cell day = spanAt s (spotAt s day cell)
 ins : InS s (spotAt s day cell)
 hasd : hasD s.days day = true
 lim : ¬ (128 < (cellV s cell day).hi - (cellV s cell day).lo + width ∨ s.sights.length = 256)
 all : ∀ v, (cellV s cell day).lo - width ≤ v → v ≤ (cellV s cell day).hi → withE s (toldAt s cell day width v) = 0 ∧ valE (withS s (toldAt s cell day width v)) cells day = 0 ∧ wideV (withS s (toldAt s cell day width v)) cells day ≤ b.wide
 best : ∃ v, (cellV s cell day).lo - width ≤ v ∧ v ≤ (cellV s cell day).hi ∧ b.lo = max v 0 ∧ b.hi = min (v + width) 65536 ∧ b.wide = wideV (withS s (toldAt s cell day width v)) cells day
theorem meas_spots (h0 : sceneE s = 0) (hd : hasD s.days day = true) (hm : measB s cells width = true) : spotsE s cells day = 0 := by
 simp only [measB, Bool.and_eq_true, List.all_eq_true, List.mem_range, decide_eq_true_eq] at hm
 obtain ⟨m1, m2, _⟩ := hm
 have hD : 0 ≤ placeD s.days day := by
  have := idxBy_nonneg (fun y => y == day) s.days
  unfold hasD at hd
  rw [hd] at this
  exact of_decide_eq_true this
 have h1 : risingB cells = true := List.all_eq_true.2 fun i hi => by
  have := m1 i (List.mem_range.1 hi)
  simp only [measGood, Bool.and_eq_true] at this
  exact this.2
 have h2 : (cells.all fun no => decide (0 ≤ placeC s.basin.cells no)) = true := List.all_eq_true.2 fun no hn => by
  obtain ⟨i, hi⟩ := List.mem_iff_getElem?.1 hn
  have := m1 i (List.getElem?_eq_some_iff.1 hi).1
  simp only [measGood, Bool.and_eq_true] at this
  have e : cells.getD i 0 = no := by simp [hi]
  rw [e] at this
  exact this.1
 have h3 : (cells == []) = false := by
  cases cells with
  | nil => simp at m2
  | cons x l => rfl
 have hb : spotsB s cells day = true := by unfold spotsB; rw [decide_eq_true hD, h3, h1, h2]; rfl
 simp [spotsE, h0, hb]
theorem meas_of (hE : outE (worstR s cells day cell width) = 0) : Meas s cells day cell width (outV (worstR s cells day cell width)) := by
 unfold worstR at hE ⊢
 split at hE
 ·rename_i h; exact absurd hE h
 rename_i h0
 have h0 : sceneE s = 0 := Classical.byContradiction h0
 split at hE
 ·cases hE
 rename_i h1
 split at hE
 ·rename_i h; exact absurd hE h
 rename_i h2
 have h2 : cellE s cell day = 0 := Classical.byContradiction h2
 split at hE
 ·cases hE
 rename_i h3
 rw [if_neg (by omega), if_neg h1, if_neg (by omega), if_neg h3]
 have hq : worstQ s cells day cell width = true := by simpa using h1
 simp only [worstQ, Bool.and_eq_true] at hq
 obtain ⟨⟨q1, q2⟩, q3⟩ := hq
 have hwd : 0 ≤ width ∧ width ≤ 65536 := by
  simp only [measB, Bool.and_eq_true, inB_true] at q1
  exact q1.2.2
 have hsc : spotsE s [cell] day = 0 := meas_spots h0 q3 q2
 have hsp : spansE s = 0 := by simpa [cellE, hsc] using h2
 have hg := (spans_zero hsp).2
 have hins := (spot_inS hsc cell (by simp)).1
 have hV : valE s cells day = 0 := by simp [valE, meas_spots h0 q3 q1, hsp]
 have hcv : cellV s cell day = spanAt s (spotAt s day cell) := by simp [cellV, h2]
 have hlh := low_le_high h0 hg hins
 have hlo : (cellV s cell day).lo ≤ (cellV s cell day).hi := by rw [hcv]; exact hlh
 revert hE
 unfold worstZ
 cases hk : worstK s cells day cell width ((cellV s cell day).lo - width) (worstN s cell day width) with
 | inl e => exact fun hE => absurd hE (worst_inl _ hk)
 | inr b =>
  intro _
  obtain ⟨a1, a2⟩ := worst_at _ b hk
  have hN : (worstN s cell day width : Int) = (cellV s cell day).hi - ((cellV s cell day).lo - width) + 1 := by unfold worstN; omega
  have hall : ∀ v, (cellV s cell day).lo - width ≤ v → v ≤ (cellV s cell day).hi → withE s (toldAt s cell day width v) = 0 ∧ valE (withS s (toldAt s cell day width v)) cells day = 0 ∧ wideV (withS s (toldAt s cell day width v)) cells day ≤ b.wide := fun v g1 g2 => by
   have h5 := a1 (v - ((cellV s cell day).lo - width)).toNat (by omega)
   have e : (cellV s cell day).lo - width + (((v - ((cellV s cell day).lo - width)).toNat : Nat) : Int) = v := by omega
   rw [e] at h5
   exact h5
  refine ⟨h0, hwd, hg, hV, h2, hcv, hins, q3, h3, hall, ?_⟩
  have h6 := hall ((cellV s cell day).lo - width) (Int.le_refl _) (by omega)
  have h7 := wide_nonneg h6.2.1
  show ∃ v, _ ∧ _ ∧ b.lo = _ ∧ b.hi = _ ∧ b.wide = _
  rcases a2 with a2 | ⟨j, hj, b1, b2, b3⟩
  ·omega
  ·exact ⟨_, by omega, by omega, b1, b2, b3⟩
theorem told_ok {b : Outc} (m : Meas s cells day cell width b) {wider v : Int} (hw : 0 ≤ wider ∧ wider ≤ 65536) (h1 : (cellV s cell day).lo - wider ≤ v) (h2 : v ≤ (cellV s cell day).hi) :
  withE s (toldAt s cell day wider v) = 0 ∧ valE (withS s (toldAt s cell day wider v)) cells day = 0 := by
 have hbd := cell_bd s cell day (SceneOk.of m.scene)
 have hpc : 0 ≤ placeC s.basin.cells cell := m.ins.1.1
 have hok : sightOk s (toldAt s cell day wider v) = true := by
  have d1 : decide (0 ≤ placeC s.basin.cells cell) = true := decide_eq_true hpc
  have d2 : decide (0 ≤ max v 0) = true := decide_eq_true (by omega)
  have d3 : decide (max v 0 ≤ min (v + wider) 65536) = true := decide_eq_true (by omega)
  have d4 : decide (min (v + wider) 65536 ≤ 65536) = true := decide_eq_true (by omega)
  show (inB 0 0 8191 && decide (0 ≤ placeC s.basin.cells cell) && hasD s.days day && decide (0 ≤ max v 0) && decide (max v 0 ≤ min (v + wider) 65536) && decide (min (v + wider) 65536 ≤ 65536)) = true
  rw [d1, d2, d3, d4, m.hasd]
  rfl
 have hwE : withE s (toldAt s cell day wider v) = 0 := by
  unfold withE
  rw [if_neg (by have := m.scene; omega), if_neg (fun e => m.lim (.inr e)), if_neg (by rw [hok]; simp)]
 refine ⟨hwE, ?_⟩
 have e1 : (cellV s cell day).lo = lowAt s (spotAt s day cell) := by rw [m.span]; rfl
 have e2 : (cellV s cell day).hi = highAt s (spotAt s day cell) := by rw [m.span]; rfl
 have hg := with_free (x := toldAt s cell day wider v) m.scene m.great hwE (by show max v 0 ≤ highAt s (spotAt s day cell); rw [← e2]; omega) (by show lowAt s (spotAt s day cell) ≤ min (v + wider) 65536; rw [← e1]; omega)
 have W := weak_with m.scene hwE
 have hsp : spotsE (withS s (toldAt s cell day wider v)) cells day = 0 := by
  rw [W.spots]
  exact (val_zero m.val).1
 have hss : spansE (withS s (toldAt s cell day wider v)) = 0 := by
  unfold spansE
  rw [least_great W.e2, hg]
  rfl
 simp [valE, hsp, hss]
theorem meas_wider {b : Outc} (m : Meas s cells day cell width b) (hm : measB s cells width = true) (hm1 : measB s [cell] width = true) {wider : Int} (h1 : width ≤ wider) (h2 : wider ≤ 65536) :
  outE (worstR s cells day cell wider) = 2 ∨ outE (worstR s cells day cell wider) = 0 ∧ b.wide ≤ (outV (worstR s cells day cell wider)).wide := by
 have hwd := m.wd
 have hmw : ∀ l, measB s l width = true → measB s l wider = true := fun l h => by
  simp only [measB, Bool.and_eq_true, inB_true] at h ⊢
  exact ⟨h.1, h.2.1, by omega⟩
 have hq : worstQ s cells day cell wider = true := by simp [worstQ, hmw _ hm, hmw _ hm1, m.hasd]
 have hcz := m.cellz
 have hlo : (cellV s cell day).lo ≤ (cellV s cell day).hi := by
  rw [m.span]
  exact low_le_high m.scene m.great m.ins
 by_cases hl : 128 < (cellV s cell day).hi - (cellV s cell day).lo + wider ∨ s.sights.length = 256
 ·left
  unfold worstR
  rw [if_neg (by have := m.scene; omega), if_neg (by rw [hq]; simp), if_neg (by omega), if_pos hl]
  rfl
 ·right
  have hN : (worstN s cell day wider : Int) = (cellV s cell day).hi - ((cellV s cell day).lo - wider) + 1 := by unfold worstN; omega
  have hrun : ∀ k, k ≤ worstN s cell day wider → ∃ b', worstK s cells day cell wider ((cellV s cell day).lo - wider) k = .inr b' := fun k => by
   induction k with
   | zero => exact fun _ => ⟨_, rfl⟩
   | succ k ih =>
    intro hk
    obtain ⟨b', hb'⟩ := ih (by omega)
    obtain ⟨t1, t2⟩ := told_ok m (wider := wider) (v := (cellV s cell day).lo - wider + k) (by omega) (by omega) (by omega)
    rw [worstK, hb']
    simp only [worstS]
    rw [if_neg (show ¬ withE s (toldAt s cell day wider ((cellV s cell day).lo - wider + k)) ≠ 0 by omega), if_neg (show ¬ valE (withS s (toldAt s cell day wider ((cellV s cell day).lo - wider + k))) cells day ≠ 0 by omega)]
    split
    ·exact ⟨_, rfl⟩
    ·split
     ·exact ⟨_, rfl⟩
     ·exact ⟨_, rfl⟩
  obtain ⟨b', hb'⟩ := hrun _ (Nat.le_refl _)
  have e : worstR s cells day cell wider = .inr b' := by
   unfold worstR
   rw [if_neg (by have := m.scene; omega), if_neg (by rw [hq]; simp), if_neg (by omega), if_neg hl]
   exact hb'
  have hE : outE (worstR s cells day cell wider) = 0 := by rw [e]; rfl
  refine ⟨hE, ?_⟩
  have m' := meas_of hE
  obtain ⟨v, g1, g2, g3, g4, g5⟩ := m.best
  obtain ⟨a1, _, a3⟩ := m'.all v (by omega) g2
  obtain ⟨c1, c2, _⟩ := m.all v g1 g2
  have W := weak_two (x := toldAt s cell day wider v) (y := toldAt s cell day width v) m.scene a1 c1 rfl rfl (Int.le_refl _) (by show min (v + width) 65536 ≤ min (v + wider) 65536; omega)
  have := (W.wide c2).2
  omega
end
end Go.Proofs.YtgbbljfmngmjeaaGreat
