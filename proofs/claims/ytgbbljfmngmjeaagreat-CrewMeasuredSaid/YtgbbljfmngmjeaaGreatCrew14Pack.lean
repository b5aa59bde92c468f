/- The package crew: worst. Conditions stand in the theorem. -/
import Derived.Test.YtgbbljfmngmjeaaGreatCrew12Pack
set_option linter.all false
set_option maxHeartbeats 8000000
set_option maxRecDepth 100000
namespace Go.Proofs.YtgbbljfmngmjeaaGreat
open Go.RowKit

theorem set3 {w : World} {g : Nat} {t : TypeId} {a0 a1 a2 b0 b1 b2 : Value} (h : Blk w g t #[a0, a1, a2]) : Blk (((w.setCell ⟨g, 0, none⟩ b0).setCell ⟨g, 1, none⟩ b1).setCell ⟨g, 2, none⟩ b2) g t #[b0, b1, b2] := by
 have := ((h.set_ 0 b0).set_ 1 b1).set_ 2 b2
 simpa using this
theorem below3s {w W : World} {B g : Nat} (h : Below B w W) (hg : B ≤ g) (b0 b1 b2 : Value) : Below B w (((W.setCell ⟨g, 0, none⟩ b0).setCell ⟨g, 1, none⟩ b1).setCell ⟨g, 2, none⟩ b2) := bset (bset (bset h g 0 hg b0) g 1 hg b1) g 2 hg b2
structure Outc where
 lo : Int
 hi : Int
 wide : Int
deriving DecidableEq, Inhabited
def toldAt (s : Scene) (cell day width v : Int) : Sight := ⟨0, cell, day, max v 0, min (v + width) 65536⟩
def worstS (s : Scene) (cells : List Int) (day cell width : Int) (b : Outc) (v : Int) : Int ⊕ Outc :=
 if (max v 0 = b.lo ∧ min (v + width) 65536 = b.hi) ∧ 0 ≤ b.wide then .inr b
 else if withE s (toldAt s cell day width v) ≠ 0 then .inl (withE s (toldAt s cell day width v))
 else if valE (withS s (toldAt s cell day width v)) cells day ≠ 0 then .inl (valE (withS s (toldAt s cell day width v)) cells day)
 else if b.wide < wideV (withS s (toldAt s cell day width v)) cells day then .inr ⟨max v 0, min (v + width) 65536, wideV (withS s (toldAt s cell day width v)) cells day⟩ else .inr b
def worstK (s : Scene) (cells : List Int) (day cell width v0 : Int) : Nat → Int ⊕ Outc
 | 0 => .inr ⟨0, 0, -1⟩
 | k + 1 => match worstK s cells day cell width v0 k with
  | .inl e => .inl e
  | .inr b => worstS s cells day cell width b (v0 + k)
def worstQ (s : Scene) (cells : List Int) (day cell width : Int) : Bool := measB s cells width && measB s [cell] width && hasD s.days day
def worstN (s : Scene) (cell day width : Int) : Nat := ((cellV s cell day).hi - ((cellV s cell day).lo - width) + 1).toNat
def worstZ (s : Scene) (cells : List Int) (day cell width : Int) : Int ⊕ Outc := worstK s cells day cell width ((cellV s cell day).lo - width) (worstN s cell day width)
def worstR (s : Scene) (cells : List Int) (day cell width : Int) : Int ⊕ Outc :=
 if sceneE s ≠ 0 then .inl (sceneE s) else if worstQ s cells day cell width = false then .inl 1 else if cellE s cell day ≠ 0 then .inl (cellE s cell day)
 else if 128 < (cellV s cell day).hi - (cellV s cell day).lo + width ∨ s.sights.length = 256 then .inl 2 else worstZ s cells day cell width
def outE : Int ⊕ Outc → Int
 | .inl e => e
 | .inr _ => 0
def outV : Int ⊕ Outc → Outc
 | .inl _ => ⟨0, 0, 0⟩
 | .inr b => b
theorem cell_bd (s : Scene) (cell day : Int) (hs : SceneOk s) : 0 ≤ (cellV s cell day).lo ∧ (cellV s cell day).lo ≤ 65536 ∧ 0 ≤ (cellV s cell day).hi ∧ (cellV s cell day).hi ≤ 65536 := by
 unfold cellV
 split
 ·rename_i h
  have h2 : spansE s = 0 := by
   unfold cellE at h
   split at h
   ·rename_i h2; exact absurd h h2
   ·exact h
  obtain ⟨hle, hge⟩ := spans_zero h2
  have h3 := low_in hs hle (spotAt s day cell)
  have h4 := high_in hs hge (spotAt s day cell)
  exact ⟨h3.1, h3.2, h4.1, h4.2⟩
 ·simp
theorem worst_stop {s : Scene} {cells : List Int} {day cell width v0 : Int} {k : Nat} {e : Int} (h : worstK s cells day cell width v0 k = .inl e) : ∀ n, k ≤ n → worstK s cells day cell width v0 n = .inl e
 | 0, hn => by
  obtain rfl : k = 0 := by omega
  exact h
 | n + 1, hn => by
  rcases Nat.lt_or_ge k (n + 1) with h1 | h1
  ·have ih := worst_stop h n (by omega)
   simp only [worstK, ih]
  ·obtain rfl : k = n + 1 := by omega
   exact h
theorem crew_worst (s : Scene) (V : SceneV) (vl : Value) (cells : List Int) (day cell width : Int) (w : World) (hS : SceneAt w s V) (hl : Sl w 1 intC vl cells) :
  Calls Tryz.prog 115 #[s.v V, vl, I day, I cell, I width] w fun e w' => e = .returned (.tuple #[.agg #[I (outV (worstR s cells day cell width)).lo, I (outV (worstR s cells day cell width)).hi, I (outV (worstR s cells day cell width)).wide], I (outE (worstR s cells day cell width))]) ∧ Below w.heap.size w w' := by
 have JC := fun w' (hb : Below w.heap.size w w') => basin_Check s V w' (hS.mono hb)
 have JM := fun w' (hb : Below w.heap.size w w') => crew_measured s V vl cells width w' (hS.mono hb) (hl.mono hb)
 have JM1 := fun vl w' (hb : Below w.heap.size w w') (hl : Sl w' 1 intC vl [cell]) => crew_measured s V vl [cell] width w' (hS.mono hb) hl
 have JD := fun w' (hb : Below w.heap.size w w') => contains_int V.days s.days day w' (hS.days.mono hb)
 have JX := fun w' (hb : Below w.heap.size w w') => basin_Cell s V cell day w' (hS.mono hb)
 have JW := fun x w' (hb : Below w.heap.size w w') => basin_With s V x w' (hS.mono hb)
 have JV := fun (t : Scene) (V' : SceneV) w' (hb : Below w.heap.size w w') (hT : SceneAt w' t V') => crew_wide t V' vl cells day w' hT (hl.mono hb)
 obtain ⟨Ac, nc, hcc, _⟩ := hS.cells.open_
 obtain ⟨Ap, np, hpp, _⟩ := hS.pairs.open_
 obtain ⟨Ad, nd, hdd, _⟩ := hS.days.open_
 obtain ⟨As, ns, hsi, _⟩ := hS.sights.open_
 obtain ⟨Ah, nh, hch, _⟩ := hS.changes.open_
 obtain ⟨D, nl, rfl, _⟩ := hl.open_
 unfold Scene.v at *
 rw [hcc, hpp, hdd, hsi, hch] at JC JM JM1 JX JW ⊢
 rw [hdd] at JD
 clear hcc hpp hdd hsi hch hS hl
 have h1 : sceneE s ≠ 0 → worstR s cells day cell width = .inl (sceneE s) := fun h => by rw [worstR, if_pos h]
 have h2 : sceneE s = 0 → worstQ s cells day cell width = false → worstR s cells day cell width = .inl 1 := fun h q => by rw [worstR, if_neg (by omega), if_pos q]
 have h3 : sceneE s = 0 → worstQ s cells day cell width = true → cellE s cell day ≠ 0 → worstR s cells day cell width = .inl (cellE s cell day) := fun h q c => by rw [worstR, if_neg (by omega), if_neg (by rw [q]; simp), if_pos c]
 have h4 : sceneE s = 0 → worstQ s cells day cell width = true → cellE s cell day = 0 → (128 < (cellV s cell day).hi - (cellV s cell day).lo + width ∨ s.sights.length = 256) → worstR s cells day cell width = .inl 2 := fun h q c l => by rw [worstR, if_neg (by omega), if_neg (by rw [q]; simp), if_neg (by omega), if_pos l]
 have h5 : sceneE s = 0 → worstQ s cells day cell width = true → cellE s cell day = 0 → ¬ (128 < (cellV s cell day).hi - (cellV s cell day).lo + width ∨ s.sights.length = 256) → worstR s cells day cell width = worstZ s cells day cell width := fun h q c l => by rw [worstR, if_neg (by omega), if_neg (by rw [q]; simp), if_neg (by omega), if_neg l]
 have hQ := show worstQ s cells day cell width = (measB s cells width && measB s [cell] width && hasD s.days day) from rfl
 have hJD : hasD s.days day = s.days.any fun x => x == day := rfl
 rw [← hJD] at JD
 clear hJD
 obtain ⟨R, hR⟩ : ∃ r, worstR s cells day cell width = r := ⟨_, rfl⟩
 rw [hR] at h1 h2 h3 h4 h5 ⊢
 clear hR
 obtain ⟨w1, hw1, hb1, kS, kO⟩ := al2 w (s8 s Ac nc Ap np Ad nd As ns Ah nh) 42 #[I 0, I 0, I 0] 154
 have kF := hide (fun (W : World) (hW : Below w1.heap.size w1 W) => (kS.grow hW).cells8)
 have zF := hide (fun (W : World) (hW : Below w1.heap.size w1 W) => (kS.grow hW).lt)
 clear kS
 replace kO := hide kO
 obtain ⟨q0, q1, q2, q3, q4, q5, q6, q7⟩ := kF.out _ (Below.refl _ _)
 have zS := zF.out _ (Below.refl _ _)
 by_cases hz : sceneE s = 0
 case neg =>
  obtain rfl := h1 hz
  obtain ⟨E, hEE⟩ : ∃ E, sceneE s = E := ⟨_, rfl⟩
  rw [hEE] at JC hz ⊢
  have hne : (E != 0) = true := by simpa using hz
  replace hz := hide hz
  replace JC := hide JC
  simp only [outV, outE]
  clear h1 h2 h3 h4 h5 hEE
  go_enter Tryz.func115, Tryz.ntmps115
  go_upto_region 1 with fail
  rw [← hw1]
  clear hw1
  go_wp2_with fail
  go_at_call 55
  refine (JC.out _ hb1).mono ?_
  rintro e w2 ⟨rfl, hb2⟩
  have kO3 := kO.out.grow hb2
  obtain ⟨p0, p1, p2⟩ := kO3.cells3
  have zO := kO3.lt
  have f0 := kO3.frozen 0
  have f1 := kO3.frozen 1
  have f2 := kO3.frozen 2
  have kO4 := hide (set3 (b0 := I 0) (b1 := I 0) (b2 := I 0) kO3)
  have hb4 := hide (below3s (bup hb1 hb2) (g := w.heap.size + 1) (by omega) (I 0) (I 0) (I 0))
  clear kO3
  go_wp2_with fail
  (try simp only [Exit.inBlock, Exit.then])
  exact bodyPost_ret (results_row2 (P := Tryz.prog) rfl _ _ (w.heap.size + 1) 154 _ _ rfl kO4.out Tryz.underlying154 rfl (by kernel_rfl)) rfl ⟨rfl, hb4.out⟩
 rw [hz] at JC
 replace JC := hide JC
 replace JM := hide JM
 replace JM1 := hide JM1
 replace JX := hide JX
 replace JW := hide JW
 replace JV := hide JV
 replace JD := hide JD
 replace h2 := h2 hz
 replace h3 := h3 hz
 replace h4 := h4 hz
 replace h5 := h5 hz
 replace hz := hide hz
 clear h1
 obtain ⟨a, ha⟩ : ∃ q, measB s cells width = q := ⟨_, rfl⟩
 obtain ⟨b, hb⟩ : ∃ q, measB s [cell] width = q := ⟨_, rfl⟩
 obtain ⟨d, hd⟩ : ∃ q, hasD s.days day = q := ⟨_, rfl⟩
 rw [ha, hb, hd] at hQ
 rw [ha] at JM
 rw [hb] at JM1
 rw [hd] at JD
 have hwd : a = true → (0 ≤ width ∧ width ≤ 65536) := fun h => by
  rw [← ha] at h
  simp only [measB, Bool.and_eq_true, inB_true] at h
  exact h.2.2
 clear ha hb hd
 by_cases hq : worstQ s cells day cell width = false
 case pos =>
  obtain rfl := h2 hq
  simp only [outV, outE]
  rw [hq] at hQ
  clear h2 h3 h4 h5 hwd
  rcases a with _ | _
  ·clear hQ
   go_enter Tryz.func115, Tryz.ntmps115
   go_upto_region 1 with fail
   rw [← hw1]
   clear hw1
   go_wp2_with (first | (go_at_call 55; refine (JC.out _ hb1).mono ?_; clear q0 q1 q2 q3 q4 q5 q6 q7 zS; rintro e w2 ⟨rfl, hb2⟩; obtain ⟨q0, q1, q2, q3, q4, q5, q6, q7⟩ := kF.out _ hb2; have zS := zF.out _ hb2) | (go_at_call 163; refine (JM.out _ (bup hb1 hb2)).mono ?_; rintro e w3 ⟨rfl, hb3⟩; have kO3 := (kO.out.grow hb2).grow hb3; obtain ⟨p0, p1, p2⟩ := kO3.cells3; have zO := kO3.lt; have f0 := kO3.frozen 0; have f1 := kO3.frozen 1; have f2 := kO3.frozen 2; have kO4 := hide (set3 (b0 := I 0) (b1 := I 0) (b2 := I 0) kO3); have hb4 := hide (below3s (bup (bup hb1 hb2) hb3) (g := w.heap.size + 1) (by omega) (I 0) (I 0) (I 0)); clear kO3))
   (try simp only [Exit.inBlock, Exit.then])
   exact bodyPost_ret (results_row2 (P := Tryz.prog) rfl _ _ (w.heap.size + 1) 154 _ _ rfl kO4.out Tryz.underlying154 rfl (by kernel_rfl)) rfl ⟨rfl, hb4.out⟩
  ·rcases b with _ | _
   ·clear hQ
    go_enter Tryz.func115, Tryz.ntmps115
    go_upto_region 1 with fail
    rw [← hw1]
    clear hw1
    go_wp2_with (first | (go_at_call 55; refine (JC.out _ hb1).mono ?_; clear q0 q1 q2 q3 q4 q5 q6 q7 zS; rintro e w2 ⟨rfl, hb2⟩; obtain ⟨q0, q1, q2, q3, q4, q5, q6, q7⟩ := kF.out _ hb2; have zS := zF.out _ hb2) | (go_at_call 163; refine (JM.out _ (bup hb1 hb2)).mono ?_; clear JM q0 q1 q2 q3 q4 q5 q6 q7 zS; rintro e w3 ⟨rfl, hb3⟩; obtain ⟨q0, q1, q2, q3, q4, q5, q6, q7⟩ := kF.out _ (bup hb2 hb3); have zS := zF.out _ (bup hb2 hb3)))
    go_at_call 163
    refine (JM1.out _ _ (bup (bup (bup hb1 hb2) hb3) (below1 _ _)) (blk_sl (l := [cell]) (n := 1) (Blk.new _ _ _) rfl (by omega))).mono ?_
    rintro e w4 ⟨rfl, hb4'⟩
    have kO3 := (((kO.out.grow hb2).grow hb3).grow (below1 w3 (.cells #[I cell] 3))).grow hb4'
    have hb9 := bup (bup (bup (bup hb1 hb2) hb3) (below1 w3 (.cells #[I cell] 3))) hb4'
    obtain ⟨p0, p1, p2⟩ := kO3.cells3
    have zO := kO3.lt
    have f0 := kO3.frozen 0
    have f1 := kO3.frozen 1
    have f2 := kO3.frozen 2
    have kO4 := hide (set3 (b0 := I 0) (b1 := I 0) (b2 := I 0) kO3)
    have hb4 := hide (below3s (hb9) (g := w.heap.size + 1) (by omega) (I 0) (I 0) (I 0))
    clear kO3
    go_wp2_with fail
    (try simp only [Exit.inBlock, Exit.then])
    exact bodyPost_ret (results_row2 (P := Tryz.prog) rfl _ _ (w.heap.size + 1) 154 _ _ rfl kO4.out Tryz.underlying154 rfl (by kernel_rfl)) rfl ⟨rfl, hb4.out⟩
   ·obtain rfl : d = false := by simpa using hQ
    clear hQ
    go_enter Tryz.func115, Tryz.ntmps115
    go_upto_region 1 with fail
    rw [← hw1]
    clear hw1
    go_wp2_with (first | (go_at_call 55; refine (JC.out _ hb1).mono ?_; clear q0 q1 q2 q3 q4 q5 q6 q7 zS; rintro e w2 ⟨rfl, hb2⟩; obtain ⟨q0, q1, q2, q3, q4, q5, q6, q7⟩ := kF.out _ hb2; have zS := zF.out _ hb2) | (go_at_call 163; refine (JM.out _ (bup hb1 hb2)).mono ?_; clear JM q0 q1 q2 q3 q4 q5 q6 q7 zS; rintro e w3 ⟨rfl, hb3⟩; obtain ⟨q0, q1, q2, q3, q4, q5, q6, q7⟩ := kF.out _ (bup hb2 hb3); have zS := zF.out _ (bup hb2 hb3)))
    go_at_call 163
    refine (JM1.out _ _ (bup (bup (bup hb1 hb2) hb3) (below1 _ _)) (blk_sl (l := [cell]) (n := 1) (Blk.new _ _ _) rfl (by omega))).mono ?_
    clear q0 q1 q2 q3 q4 q5 q6 q7 zS
    rintro e w4 ⟨rfl, hb4'⟩
    have hW4 := bup (bup (bup hb2 hb3) (below1 w3 (.cells #[I cell] 3))) hb4'
    obtain ⟨q0, q1, q2, q3, q4, q5, q6, q7⟩ := kF.out _ hW4
    have zS := zF.out _ hW4
    have kO3 := (((kO.out.grow hb2).grow hb3).grow (below1 w3 (.cells #[I cell] 3))).grow hb4'
    have hb9 := bup (bup (bup (bup hb1 hb2) hb3) (below1 w3 (.cells #[I cell] 3))) hb4'
    obtain ⟨p0, p1, p2⟩ := kO3.cells3
    have zO := kO3.lt
    have f0 := kO3.frozen 0
    have f1 := kO3.frozen 1
    have f2 := kO3.frozen 2
    have kO4 := hide (set3 (b0 := I 0) (b1 := I 0) (b2 := I 0) kO3)
    have hb4 := hide (below3s hb9 (g := w.heap.size + 1) (by omega) (I 0) (I 0) (I 0))
    have JDD := hide (JD.out _ hb9)
    clear kO3 hb9 hW4
    go_wp2_with (go_at_call 48; refine JDD.out.mono ?_; rintro e w5 ⟨rfl, rfl⟩)
    (try simp only [Exit.inBlock, Exit.then])
    exact bodyPost_ret (results_row2 (P := Tryz.prog) rfl _ _ (w.heap.size + 1) 154 _ _ rfl kO4.out Tryz.underlying154 rfl (by kernel_rfl)) rfl ⟨rfl, hb4.out⟩
 have hq1 : worstQ s cells day cell width = true := by simpa using hq
 obtain ⟨⟨rfl, rfl⟩, rfl⟩ : (a = true ∧ b = true) ∧ d = true := by rw [hq1] at hQ; simpa using hQ.symm
 replace h3 := h3 hq1
 replace h4 := h4 hq1
 replace h5 := h5 hq1
 have hwd2 := hwd rfl
 clear h2 hq hq1 hQ hwd
 obtain ⟨hc1, hc2, hc3, hc4⟩ := cell_bd s cell day (SceneOk.of hz.out)
 have hZ := show worstZ s cells day cell width = worstK s cells day cell width ((cellV s cell day).lo - width) ((cellV s cell day).hi - ((cellV s cell day).lo - width) + 1).toNat from rfl
 obtain ⟨Z, hZZ⟩ : ∃ z, worstZ s cells day cell width = z := ⟨_, rfl⟩
 obtain ⟨X, hX⟩ : ∃ x, cellV s cell day = x := ⟨_, rfl⟩
 rw [hX] at hc1 hc2 hc3 hc4 hZ h4 h5 JX
 rw [hZZ] at hZ h5
 clear hX hZZ
 by_cases hce : cellE s cell day = 0
 case neg =>
  obtain rfl := h3 hce
  simp only [outV, outE]
  obtain ⟨E, hEE⟩ : ∃ E, cellE s cell day = E := ⟨_, rfl⟩
  rw [hEE] at JX hce ⊢
  have hne : (E != 0) = true := by simpa using hce
  replace hce := hide hce
  clear h3 h4 h5 hEE hZ
  go_enter Tryz.func115, Tryz.ntmps115
  go_upto_region 1 with fail
  rw [← hw1]
  clear hw1
  go_wp2_with (first | (go_at_call 55; refine (JC.out _ hb1).mono ?_; clear q0 q1 q2 q3 q4 q5 q6 q7 zS; rintro e w2 ⟨rfl, hb2⟩; obtain ⟨q0, q1, q2, q3, q4, q5, q6, q7⟩ := kF.out _ hb2; have zS := zF.out _ hb2) | (go_at_call 163; refine (JM.out _ (bup hb1 hb2)).mono ?_; clear JM q0 q1 q2 q3 q4 q5 q6 q7 zS; rintro e w3 ⟨rfl, hb3⟩; obtain ⟨q0, q1, q2, q3, q4, q5, q6, q7⟩ := kF.out _ (bup hb2 hb3); have zS := zF.out _ (bup hb2 hb3)))
  go_at_call 163
  refine (JM1.out _ _ (bup (bup (bup hb1 hb2) hb3) (below1 _ _)) (blk_sl (l := [cell]) (n := 1) (Blk.new _ _ _) rfl (by omega))).mono ?_
  clear q0 q1 q2 q3 q4 q5 q6 q7 zS
  rintro e w4 ⟨rfl, hb4'⟩
  have hW4 := bup (bup (bup hb2 hb3) (below1 w3 (.cells #[I cell] 3))) hb4'
  obtain ⟨q0, q1, q2, q3, q4, q5, q6, q7⟩ := kF.out _ hW4
  have zS := zF.out _ hW4
  have kO9 := hide ((((kO.out.grow hb2).grow hb3).grow (below1 w3 (.cells #[I cell] 3))).grow hb4')
  have hb9 := bup (bup (bup (bup hb1 hb2) hb3) (below1 w3 (.cells #[I cell] 3))) hb4'
  clear hb1 hb2 hb3 hb4'
  go_wp2_with fail
  go_at_call 48
  refine (JD.out _ hb9).mono ?_
  rintro e w5 ⟨rfl, rfl⟩
  go_wp2_with fail
  go_at_call 58
  refine (JX.out _ hb9).mono ?_
  clear q0 q1 q2 q3 q4 q5 q6 q7 zS
  rintro e w6 ⟨rfl, hb6⟩
  have kO3 := (kO9.out.grow hb6).grow (below1 w6 (.cells #[I X.lo, I X.hi] 67))
  obtain ⟨p0, p1, p2⟩ := kO3.cells3
  have zO := kO3.lt
  have f0 := kO3.frozen 0
  have f1 := kO3.frozen 1
  have f2 := kO3.frozen 2
  have kO4 := hide (set3 (b0 := I 0) (b1 := I 0) (b2 := I 0) kO3)
  have hb4 := hide (below3s (bup (bup hb9 hb6) (below1 w6 (.cells #[I X.lo, I X.hi] 67))) (g := w.heap.size + 1) (by omega) (I 0) (I 0) (I 0))
  clear kO3
  go_wp2_with fail
  (try simp only [Exit.inBlock, Exit.then])
  exact bodyPost_ret (results_row2 (P := Tryz.prog) rfl _ _ (w.heap.size + 1) 154 _ _ rfl kO4.out Tryz.underlying154 rfl (by kernel_rfl)) rfl ⟨rfl, hb4.out⟩
 rw [hce] at JX
 replace h4 := h4 hce
 replace h5 := h5 hce
 replace hce := hide hce
 clear h3
 by_cases hlim : 128 < X.hi - X.lo + width ∨ s.sights.length = 256
 case pos =>
  obtain rfl := h4 hlim
  simp only [outV, outE]
  clear h4 h5 hZ
  by_cases hl1 : 128 < X.hi - X.lo + width
  ·have hld : decide (128 < X.hi - X.lo + width) = true := by simpa using hl1
   replace hlim := hide hlim
   go_enter Tryz.func115, Tryz.ntmps115
   go_upto_region 1 with fail
   rw [← hw1]
   clear hw1
   go_wp2_with (first | (go_at_call 55; refine (JC.out _ hb1).mono ?_; clear q0 q1 q2 q3 q4 q5 q6 q7 zS; rintro e w2 ⟨rfl, hb2⟩; obtain ⟨q0, q1, q2, q3, q4, q5, q6, q7⟩ := kF.out _ hb2; have zS := zF.out _ hb2) | (go_at_call 163; refine (JM.out _ (bup hb1 hb2)).mono ?_; clear JM q0 q1 q2 q3 q4 q5 q6 q7 zS; rintro e w3 ⟨rfl, hb3⟩; obtain ⟨q0, q1, q2, q3, q4, q5, q6, q7⟩ := kF.out _ (bup hb2 hb3); have zS := zF.out _ (bup hb2 hb3)))
   go_at_call 163
   refine (JM1.out _ _ (bup (bup (bup hb1 hb2) hb3) (below1 _ _)) (blk_sl (l := [cell]) (n := 1) (Blk.new _ _ _) rfl (by omega))).mono ?_
   clear q0 q1 q2 q3 q4 q5 q6 q7 zS
   rintro e w4 ⟨rfl, hb4'⟩
   have hW4 := bup (bup (bup hb2 hb3) (below1 w3 (.cells #[I cell] 3))) hb4'
   obtain ⟨q0, q1, q2, q3, q4, q5, q6, q7⟩ := kF.out _ hW4
   have zS := zF.out _ hW4
   have kO9 := hide ((((kO.out.grow hb2).grow hb3).grow (below1 w3 (.cells #[I cell] 3))).grow hb4')
   have hb9 := bup (bup (bup (bup hb1 hb2) hb3) (below1 w3 (.cells #[I cell] 3))) hb4'
   clear hb1 hb2 hb3 hb4'
   go_wp2_with fail
   go_at_call 48
   refine (JD.out _ hb9).mono ?_
   rintro e w5 ⟨rfl, rfl⟩
   go_wp2_with fail
   go_at_call 58
   refine (JX.out _ hb9).mono ?_
   clear q0 q1 q2 q3 q4 q5 q6 q7 zS
   rintro e w6 ⟨rfl, hb6⟩
   have kO3 := (kO9.out.grow hb6).grow (below1 w6 (.cells #[I X.lo, I X.hi] 67))
   obtain ⟨p0, p1, p2⟩ := kO3.cells3
   have zO := kO3.lt
   have f0 := kO3.frozen 0
   have f1 := kO3.frozen 1
   have f2 := kO3.frozen 2
   have kO4 := hide (set3 (b0 := I 0) (b1 := I 0) (b2 := I 0) kO3)
   have hb4 := hide (below3s (bup (bup hb9 hb6) (below1 w6 (.cells #[I X.lo, I X.hi] 67))) (g := w.heap.size + 1) (by omega) (I 0) (I 0) (I 0))
   clear kO3
   go_wp2_with fail
   (try simp only [Exit.inBlock, Exit.then])
   exact bodyPost_ret (results_row2 (P := Tryz.prog) rfl _ _ (w.heap.size + 1) 154 _ _ rfl kO4.out Tryz.underlying154 rfl (by kernel_rfl)) rfl ⟨rfl, hb4.out⟩
  ·have hld : decide (128 < X.hi - X.lo + width) = false := by simpa using hl1
   have hl2 : s.sights.length = 256 := by
    rcases hlim with h | h
    ·exact absurd h hl1
    ·exact h
   have hle : ((s.sights.length : Int) == 256) = true := by rw [hl2]; rfl
   replace hlim := hide hlim
   replace hl1 := hide hl1
   replace hl2 := hide hl2
   go_enter Tryz.func115, Tryz.ntmps115
   go_upto_region 1 with fail
   rw [← hw1]
   clear hw1
   go_wp2_with (first | (go_at_call 55; refine (JC.out _ hb1).mono ?_; clear q0 q1 q2 q3 q4 q5 q6 q7 zS; rintro e w2 ⟨rfl, hb2⟩; obtain ⟨q0, q1, q2, q3, q4, q5, q6, q7⟩ := kF.out _ hb2; have zS := zF.out _ hb2) | (go_at_call 163; refine (JM.out _ (bup hb1 hb2)).mono ?_; clear JM q0 q1 q2 q3 q4 q5 q6 q7 zS; rintro e w3 ⟨rfl, hb3⟩; obtain ⟨q0, q1, q2, q3, q4, q5, q6, q7⟩ := kF.out _ (bup hb2 hb3); have zS := zF.out _ (bup hb2 hb3)))
   go_at_call 163
   refine (JM1.out _ _ (bup (bup (bup hb1 hb2) hb3) (below1 _ _)) (blk_sl (l := [cell]) (n := 1) (Blk.new _ _ _) rfl (by omega))).mono ?_
   clear q0 q1 q2 q3 q4 q5 q6 q7 zS
   rintro e w4 ⟨rfl, hb4'⟩
   have hW4 := bup (bup (bup hb2 hb3) (below1 w3 (.cells #[I cell] 3))) hb4'
   obtain ⟨q0, q1, q2, q3, q4, q5, q6, q7⟩ := kF.out _ hW4
   have zS := zF.out _ hW4
   have kO9 := hide ((((kO.out.grow hb2).grow hb3).grow (below1 w3 (.cells #[I cell] 3))).grow hb4')
   have hb9 := bup (bup (bup (bup hb1 hb2) hb3) (below1 w3 (.cells #[I cell] 3))) hb4'
   clear hb1 hb2 hb3 hb4'
   go_wp2_with fail
   go_at_call 48
   refine (JD.out _ hb9).mono ?_
   rintro e w5 ⟨rfl, rfl⟩
   go_wp2_with fail
   go_at_call 58
   refine (JX.out _ hb9).mono ?_
   clear q0 q1 q2 q3 q4 q5 q6 q7 zS
   rintro e w6 ⟨rfl, hb6⟩
   have kO3 := (kO9.out.grow hb6).grow (below1 w6 (.cells #[I X.lo, I X.hi] 67))
   obtain ⟨q0, q1, q2, q3, q4, q5, q6, q7⟩ := kF.out _ (bup (bup hW4 hb6) (below1 w6 (.cells #[I X.lo, I X.hi] 67)))
   have zS := zF.out _ (bup (bup hW4 hb6) (below1 w6 (.cells #[I X.lo, I X.hi] 67)))
   obtain ⟨p0, p1, p2⟩ := kO3.cells3
   have zO := kO3.lt
   have f0 := kO3.frozen 0
   have f1 := kO3.frozen 1
   have f2 := kO3.frozen 2
   have kO4 := hide (set3 (b0 := I 0) (b1 := I 0) (b2 := I 0) kO3)
   have hb4 := hide (below3s (bup (bup hb9 hb6) (below1 w6 (.cells #[I X.lo, I X.hi] 67))) (g := w.heap.size + 1) (by omega) (I 0) (I 0) (I 0))
   clear kO3
   go_wp2_with fail
   (try simp only [Exit.inBlock, Exit.then])
   exact bodyPost_ret (results_row2 (P := Tryz.prog) rfl _ _ (w.heap.size + 1) 154 _ _ rfl kO4.out Tryz.underlying154 rfl (by kernel_rfl)) rfl ⟨rfl, hb4.out⟩
 obtain rfl := h5 hlim
 have hld : decide (128 < X.hi - X.lo + width) = false := by
  have h9 : ¬ 128 < X.hi - X.lo + width := fun h => hlim (.inl h)
  simpa using h9
 have hl128 : X.hi - X.lo + width ≤ 128 := by
  have h9 : ¬ 128 < X.hi - X.lo + width := fun h => hlim (.inl h)
  omega
 have hle : ((s.sights.length : Int) == 256) = false := by
  have h9 : ¬ s.sights.length = 256 := fun h => hlim (.inr h)
  have : ¬ (s.sights.length : Int) = 256 := by omega
  simpa using this
 replace hlim := hide hlim
 clear h4 h5
 obtain ⟨v0, hv0⟩ : ∃ v, X.lo - width = v := ⟨_, rfl⟩
 obtain ⟨N, hN⟩ : ∃ n, (X.hi - v0 + 1).toNat = n := ⟨_, rfl⟩
 rw [hv0, hN] at hZ
 obtain ⟨hw0, hw1'⟩ := hwd2
 have hv1 : -65536 ≤ v0 ∧ v0 ≤ 65536 := by omega
 have hNb : N ≤ 200 := by omega
 have hNi : (X.hi - v0 + 1 ≤ N ∧ (N : Int) ≤ X.hi - v0 + 1) ∨ (N = 0 ∧ X.hi < v0) := by omega
 replace hZ := hide hZ
 replace hN := hide hN
 go_enter Tryz.func115, Tryz.ntmps115
 go_upto_region 1 with fail
 rw [← hw1]
 clear hw1
 go_wp2_with (first | (go_at_call 55; refine (JC.out _ hb1).mono ?_; clear q0 q1 q2 q3 q4 q5 q6 q7 zS; rintro e w2 ⟨rfl, hb2⟩; obtain ⟨q0, q1, q2, q3, q4, q5, q6, q7⟩ := kF.out _ hb2; have zS := zF.out _ hb2) | (go_at_call 163; refine (JM.out _ (bup hb1 hb2)).mono ?_; clear JM q0 q1 q2 q3 q4 q5 q6 q7 zS; rintro e w3 ⟨rfl, hb3⟩; obtain ⟨q0, q1, q2, q3, q4, q5, q6, q7⟩ := kF.out _ (bup hb2 hb3); have zS := zF.out _ (bup hb2 hb3)))
 go_at_call 163
 refine (JM1.out _ _ (bup (bup (bup hb1 hb2) hb3) (below1 _ _)) (blk_sl (l := [cell]) (n := 1) (Blk.new _ _ _) rfl (by omega))).mono ?_
 clear q0 q1 q2 q3 q4 q5 q6 q7 zS
 rintro e w4 ⟨rfl, hb4'⟩
 have hW4 := bup (bup (bup hb2 hb3) (below1 w3 (.cells #[I cell] 3))) hb4'
 obtain ⟨q0, q1, q2, q3, q4, q5, q6, q7⟩ := kF.out _ hW4
 have zS := zF.out _ hW4
 have kO9 := hide ((((kO.out.grow hb2).grow hb3).grow (below1 w3 (.cells #[I cell] 3))).grow hb4')
 have hb9 := bup (bup (bup (bup hb1 hb2) hb3) (below1 w3 (.cells #[I cell] 3))) hb4'
 clear hb1 hb2 hb3 hb4'
 go_wp2_with fail
 go_at_call 48
 refine (JD.out _ hb9).mono ?_
 rintro e w5 ⟨rfl, rfl⟩
 go_wp2_with fail
 go_at_call 58
 refine (JX.out _ hb9).mono ?_
 clear q0 q1 q2 q3 q4 q5 q6 q7 zS
 rintro e w6 ⟨rfl, hb6⟩
 have hbw7 := bup (bup hb9 hb6) (below1 w6 (.cells #[I X.lo, I X.hi] 67))
 have hW7 := bup (bup hW4 hb6) (below1 w6 (.cells #[I X.lo, I X.hi] 67))
 obtain ⟨q0, q1, q2, q3, q4, q5, q6, q7⟩ := kF.out _ hW7
 have zS := zF.out _ hW7
 go_upto_region 11 with fail
 clear q0 q1 q2 q3 q4 q5 q6 q7 zS
 obtain ⟨w7, hw7, hb7, kX⟩ := al1 w6 #[I X.lo, I X.hi] 67
 rw [← hw7] at hbw7 hW7 ⊢
 clear hw7
 have kO7 := hide ((kO9.out.grow hb6).grow hb7)
 obtain ⟨gX, hgX⟩ : ∃ g, w6.heap.size = g := ⟨_, rfl⟩
 rw [hgX] at kX ⊢
 go_upto_region 12 with fail
 obtain ⟨w8, hw8, hb8, kB⟩ := al1 w7 #[I 0, I 0, I (-1)] 154
 rw [← hw8]
 clear hw8
 obtain ⟨gB, hgB⟩ : ∃ g, w7.heap.size = g := ⟨_, rfl⟩
 rw [hgB] at kB ⊢
 have hgXB : gX < gB := by have := kX.lt; omega
 have hgOB : w.heap.size + 1 < gB := by have := kO7.out.lt; omega
 obtain ⟨x0, x1⟩ := (kX.grow hb8).cells2
 have zX := (kX.grow hb8).lt
 go_wp2_with fail
 clear x0 x1 zX
 rw [hgB] at hb8
 replace kX := hide kX
 replace hgB := hide hgB
 go_loopw [16] (fun v wr => ∃ (k : Nat) (b : Outc), k ≤ N ∧ v = I (v0 + k) ∧ Hid (worstK s cells day cell width v0 k = .inr b) ∧ Hid (Blk wr gB 154 #[I b.lo, I b.hi, I b.wide]) ∧ Hid (Below gB w7 wr)) (fun v _ => N - (intOf v - v0).toNat)
 case atStart => exact ⟨0, ⟨0, 0, -1⟩, Nat.zero_le _, by simp, hide rfl, hide kB, hide hb8⟩
 case round =>
  obtain ⟨k, b, hk, rfl, hwk, hB, hb⟩ := hrel
  have sr := hb.out.size
  have hbr : Below w7.heap.size w7 wr := by rw [hgB.out]; exact hb.out
  have hbw := bup hbw7 hbr
  have kXr := kX.out.grow hbr
  obtain ⟨x0, x1⟩ := kXr.cells2
  have zX := kXr.lt
  obtain ⟨b0, b1, b2⟩ := hB.out.cells3
  have zB := hB.out.lt
  obtain ⟨q0, q1, q2, q3, q4, q5, q6, q7⟩ := kF.out _ (bup hW7 hbr)
  have zS := zF.out _ (bup hW7 hbr)
  replace kXr := hide kXr
  by_cases hlt : v0 + k ≤ X.hi
  ·have hkN : k < N := by omega
   obtain ⟨v, hv⟩ : ∃ v, v0 + (k : Int) = v := ⟨_, rfl⟩
   rw [hv] at hlt ⊢
   have hv2 : -65536 ≤ v ∧ v ≤ 65536 := by omega
   have hst := show worstK s cells day cell width v0 (k + 1) = worstS s cells day cell width b v by
    simp only [worstK, hwk.out, hv]
   have hld2 : decide (v ≤ X.hi) = true := by simpa using hlt
   replace hlt := hide hlt
   replace hst := hide hst
   obtain ⟨L, hL⟩ : ∃ l, max v 0 = l := ⟨_, rfl⟩
   obtain ⟨H, hH⟩ : ∃ l, min (v + width) 65536 = l := ⟨_, rfl⟩
   have hL2 : (if v < 0 then 0 else v) = L := by rw [← hL]; split <;> omega
   have hH2 : (if 65536 < v + width then 65536 else v + width) = H := by rw [← hH]; split <;> omega
   have hsS := show worstS s cells day cell width b v = if (max v 0 = b.lo ∧ min (v + width) 65536 = b.hi) ∧ 0 ≤ b.wide then .inr b
    else if withE s ⟨0, cell, day, max v 0, min (v + width) 65536⟩ ≠ 0 then .inl (withE s ⟨0, cell, day, max v 0, min (v + width) 65536⟩)
    else if valE (withS s ⟨0, cell, day, max v 0, min (v + width) 65536⟩) cells day ≠ 0 then .inl (valE (withS s ⟨0, cell, day, max v 0, min (v + width) 65536⟩) cells day)
    else if b.wide < wideV (withS s ⟨0, cell, day, max v 0, min (v + width) 65536⟩) cells day then .inr ⟨max v 0, min (v + width) 65536, wideV (withS s ⟨0, cell, day, max v 0, min (v + width) 65536⟩) cells day⟩ else .inr b from rfl
   rw [hL, hH] at hsS
   rw [hsS] at hst
   clear hsS
   obtain ⟨T, hT⟩ : ∃ t : Sight, t = ⟨0, cell, day, L, H⟩ := ⟨_, rfl⟩
   have JWT := JW.out T
   rw [hT] at JWT
   simp only at JWT
   rw [← hT] at JWT hst
   replace hT := hide hT
   obtain ⟨WE, hWE⟩ : ∃ e, withE s T = e := ⟨_, rfl⟩
   obtain ⟨S2, hS2⟩ : ∃ e, withS s T = e := ⟨_, rfl⟩
   obtain ⟨VE, hVE⟩ : ∃ e, valE S2 cells day = e := ⟨_, rfl⟩
   obtain ⟨WV, hWV⟩ : ∃ e, wideV S2 cells day = e := ⟨_, rfl⟩
   rw [hWE, hS2] at JWT hst
   rw [hVE, hWV] at hst
   have JVT := hide (fun V' w' hb hT => hWV ▸ hVE ▸ JV.out S2 V' w' hb hT)
   replace JWT := hide JWT
   clear hWE hS2 hVE hWV hL hH
   go_upto_region 16 with fail
   (try rw [hL2, hH2])
   obtain ⟨w9, hw9, hb9', kP⟩ := al1 wr #[I L, I H] 203
   rw [← hw9]
   clear hw9 hL2 hH2
   have hbw9 := hide (bup hbw hb9')
   have hbr9 := hide (hb.out.trans (hb9'.mono (by omega)))
   obtain ⟨gP, hgP⟩ : ∃ g, wr.heap.size = g := ⟨_, rfl⟩
   rw [hgP] at kP ⊢
   have kB9 := hide (hB.out.grow hb9')
   have hgPB : gB < gP := by have := hB.out.lt; omega
   have hkP := hide kP
   clear q0 q1 q2 q3 q4 q5 q6 q7 zS b0 b1 b2 zB x0 x1 zX
   obtain ⟨b0, b1, b2⟩ := kB9.out.cells3
   have zB := kB9.out.lt
   obtain ⟨p0, p1⟩ := kP.cells2
   have zP := kP.lt
   obtain ⟨q0, q1, q2, q3, q4, q5, q6, q7⟩ := kF.out _ (bup (bup hW7 hbr) hb9')
   have zS := zF.out _ (bup (bup hW7 hbr) hb9')
   have hW9 := hide (bup (bup hW7 hbr) hb9')
   clear kP
   have kOr := hide ((kO7.out.grow hbr).grow hb9')
   clear hB hb hbw hb9' hbr
   by_cases hsame : L = b.lo ∧ H = b.hi
   ·have e1 : (L == b.lo) = true := by simpa using hsame.1
    have e2 : (H == b.hi) = true := by simpa using hsame.2
    by_cases hwd0 : 0 ≤ b.wide
    ·have hs2 := hst.out
     rw [if_pos ⟨hsame, hwd0⟩] at hs2
     have e3 : decide (0 ≤ b.wide) = true := by simpa using hwd0
     replace hsame := hide hsame
     replace hwd0 := hide hwd0
     replace hs2 := hide hs2
     go_wp2_with fail
     go_roundw
     case rel => exact ⟨k + 1, b, by omega, by rw [← hv]; go_num, hs2, kB9, hbr9⟩
     case measure => simp only [intOf]; omega
    ·have hs2 := hst.out
     rw [if_neg (fun h => hwd0 h.2)] at hs2
     have e3 : decide (0 ≤ b.wide) = false := by simpa using hwd0
     replace hsame := hide hsame
     replace hwd0 := hide hwd0
     replace hs2 := hide hs2
     go_wp2_with fail
     go_at_call 51
     refine (JWT.out _ hbw9.out).mono ?_
     clear q0 q1 q2 q3 q4 q5 q6 q7 zS b0 b1 b2 zB p0 p1 zP
     rintro e w10 ⟨u, rfl, hu0, hu1, hb10⟩
     by_cases hwe : WE = 0
     case neg =>
      have hs3 := hs2.out
      rw [if_pos hwe] at hs3
      have hZe := hide (show R = .inl WE by rw [hZ.out]; exact worst_stop hs3 N (by omega))
      have hne : (WE != 0) = true := by simpa using hwe
      obtain rfl := hu1 hwe
      unfold zScene
      have kO3 := (kOr.out.grow hb10).grow (below1 w10 (.cells #[.slice none 0 0, .slice none 0 0, I 0, I 0, I 0, .slice none 0 0, .slice none 0 0, .slice none 0 0] 42))
      replace hwe := hide hwe
      replace hs3 := hide hs3
      obtain ⟨p0, p1, p2⟩ := kO3.cells3
      have zO := kO3.lt
      have f0 := kO3.frozen 0
      have f1 := kO3.frozen 1
      have f2 := kO3.frozen 2
      have kO4 := hide (set3 (b0 := I 0) (b1 := I 0) (b2 := I 0) kO3)
      have hb4 := hide (below3s (bup (bup hbw9.out hb10) (below1 w10 (.cells #[.slice none 0 0, .slice none 0 0, I 0, I 0, I 0, .slice none 0 0, .slice none 0 0, .slice none 0 0] 42))) (g := w.heap.size + 1) (by omega) (I 0) (I 0) (I 0))
      clear kO3
      go_wp2_with fail
      (try simp only [Exit.inBlock, Exit.then])
      exact bodyPost_ret (results_row2 (P := Tryz.prog) rfl _ _ (w.heap.size + 1) 154 _ _ rfl kO4.out Tryz.underlying154 rfl (by kernel_rfl)) rfl ⟨by rw [hZe.out]; rfl, hb4.out⟩
     case pos =>
      subst hwe
      obtain ⟨⟨vc, vp, vd, vs, vh⟩, rfl, hT2⟩ := hu0 rfl
      have hs3 := hs2.out
      rw [if_neg (by simp)] at hs3
      have i1 : Sl w10 4 Cell.cells vc S2.basin.cells := hT2.cells
      have i2 : Sl w10 2 pairC vp S2.basin.pairs := hT2.pairs
      have i3 : Sl w10 1 intC vd S2.days := hT2.days
      have i4 : Sl w10 5 Sight.cells vs S2.sights := hT2.sights
      have i5 : Sl w10 5 Change.cells vh S2.changes := hT2.changes
      obtain ⟨Ac3, nc3, rfl, _⟩ := i1.open_
      obtain ⟨Ap3, np3, rfl, _⟩ := i2.open_
      obtain ⟨Ad3, nd3, rfl, _⟩ := i3.open_
      obtain ⟨As3, ns3, rfl, _⟩ := i4.open_
      obtain ⟨Ah3, nh3, rfl, _⟩ := i5.open_
      clear i1 i2 i3 i4 i5 hu0 hu1
      (try unfold Scene.v)
      simp only
      obtain ⟨w11, hw11, hb11, kN⟩ := al1 w10 #[.slice Ac3 S2.basin.cells.length nc3, .slice Ap3 S2.basin.pairs.length np3, I S2.basin.gain, I S2.basin.slack, I S2.basin.deep, .slice Ad3 S2.days.length nd3, .slice As3 S2.sights.length ns3, .slice Ah3 S2.changes.length nh3] 42
      obtain ⟨n0, n1, n2, n3, n4, n5, n6, n7⟩ := kN.cells8
      have zN := kN.lt
      have hbw11 := hide (bup (bup hbw9.out hb10) hb11)
      have JV2 := JVT.out _ w11 hbw11.out (hT2.mono hb11)
      simp only at JV2
      replace JV2 := hide JV2
      replace hs3 := hide hs3
      replace hT2 := hide hT2
      clear kN
      go_upto_region 20 with fail
      rw [← hw11]
      clear hw11
      go_wp2_with fail
      go_at_call 118
      refine JV2.out.mono ?_
      clear n0 n1 n2 n3 n4 n5 n6 n7 zN
      rintro e w12 ⟨rfl, hb12⟩
      have hW12 := hide (bup (bup hb10 hb11) hb12)
      clear hb10 hb11 hb12 JV2
      by_cases hve : VE = 0
      case neg =>
       have hs4 := hs3.out
       rw [if_pos hve] at hs4
       have hZe := hide (show R = .inl VE by rw [hZ.out]; exact worst_stop hs4 N (by omega))
       have hne : (VE != 0) = true := by simpa using hve
       have kO3 := kOr.out.grow hW12.out
       replace hve := hide hve
       replace hs4 := hide hs4
       obtain ⟨p0, p1, p2⟩ := kO3.cells3
       have zO := kO3.lt
       have f0 := kO3.frozen 0
       have f1 := kO3.frozen 1
       have f2 := kO3.frozen 2
       have kO4 := hide (set3 (b0 := I 0) (b1 := I 0) (b2 := I 0) kO3)
       have hb4 := hide (below3s (bup hbw9.out hW12.out) (g := w.heap.size + 1) (by omega) (I 0) (I 0) (I 0))
       clear kO3
       go_wp2_with fail
       (try simp only [Exit.inBlock, Exit.then])
       exact bodyPost_ret (results_row2 (P := Tryz.prog) rfl _ _ (w.heap.size + 1) 154 _ _ rfl kO4.out Tryz.underlying154 rfl (by kernel_rfl)) rfl ⟨by rw [hZe.out]; rfl, hb4.out⟩
      case pos =>
       subst hve
       have hs4 := hs3.out
       rw [if_neg (by simp)] at hs4
       have kB12 := kB9.out.grow hW12.out
       obtain ⟨b0, b1, b2⟩ := kB12.cells3
       have zB := kB12.lt
       obtain ⟨p0, p1⟩ := (hkP.out.grow hW12.out).cells2
       have zP := (hkP.out.grow hW12.out).lt
       have hbr12 := hbr9.out.trans (hW12.out.mono (show gB ≤ w9.heap.size by have := kB9.out.lt; omega))
       by_cases hlt9 : b.wide < WV
       ·rw [if_pos hlt9] at hs4
        have hld9 : decide (b.wide < WV) = true := by simpa using hlt9
        have f0 := kB12.frozen 0
        have f1 := kB12.frozen 1
        have f2 := kB12.frozen 2
        have kBN := hide (set3 (b0 := I L) (b1 := I H) (b2 := I WV) kB12)
        have hbN := hide (below3s hbr12 (g := gB) (Nat.le_refl _) (I L) (I H) (I WV))
        replace hs4 := hide hs4
        replace hlt9 := hide hlt9
        clear kB12 hbr12
        go_wp2_with fail
        go_roundw
        case rel => exact ⟨k + 1, ⟨L, H, WV⟩, by omega, by rw [← hv]; go_num, hs4, kBN, hbN⟩
        case measure => simp only [intOf]; omega
       ·rw [if_neg hlt9] at hs4
        have hld9 : decide (b.wide < WV) = false := by simpa using hlt9
        replace hs4 := hide hs4
        replace hlt9 := hide hlt9
        replace kB12 := hide kB12
        replace hbr12 := hide hbr12
        go_wp2_with fail
        go_roundw
        case rel => exact ⟨k + 1, b, by omega, by rw [← hv]; go_num, hs4, kB12, hbr12⟩
        case measure => simp only [intOf]; omega
   ·have hs2 := hst.out
    rw [if_neg (fun h => hsame h.1)] at hs2
    have e1 : (L == b.lo && H == b.hi) = false := by
     rcases Decidable.em (L = b.lo) with h | h
     ·have : ¬ H = b.hi := fun h2 => hsame ⟨h, h2⟩
      simp [this]
     ·simp [h]
    have e4 : (decide (L = b.lo) && decide (H = b.hi)) = false := by
     rcases Decidable.em (L = b.lo) with h | h
     ·have : ¬ H = b.hi := fun h2 => hsame ⟨h, h2⟩
      simp [this]
     ·simp [h]
    replace hsame := hide hsame
    replace hs2 := hide hs2
    go_wp2_with fail
    go_at_call 51
    refine (JWT.out _ hbw9.out).mono ?_
    clear q0 q1 q2 q3 q4 q5 q6 q7 zS b0 b1 b2 zB p0 p1 zP
    rintro e w10 ⟨u, rfl, hu0, hu1, hb10⟩
    by_cases hwe : WE = 0
    case neg =>
     have hs3 := hs2.out
     rw [if_pos hwe] at hs3
     have hZe := hide (show R = .inl WE by rw [hZ.out]; exact worst_stop hs3 N (by omega))
     have hne : (WE != 0) = true := by simpa using hwe
     obtain rfl := hu1 hwe
     unfold zScene
     have kO3 := (kOr.out.grow hb10).grow (below1 w10 (.cells #[.slice none 0 0, .slice none 0 0, I 0, I 0, I 0, .slice none 0 0, .slice none 0 0, .slice none 0 0] 42))
     replace hwe := hide hwe
     replace hs3 := hide hs3
     obtain ⟨p0, p1, p2⟩ := kO3.cells3
     have zO := kO3.lt
     have f0 := kO3.frozen 0
     have f1 := kO3.frozen 1
     have f2 := kO3.frozen 2
     have kO4 := hide (set3 (b0 := I 0) (b1 := I 0) (b2 := I 0) kO3)
     have hb4 := hide (below3s (bup (bup hbw9.out hb10) (below1 w10 (.cells #[.slice none 0 0, .slice none 0 0, I 0, I 0, I 0, .slice none 0 0, .slice none 0 0, .slice none 0 0] 42))) (g := w.heap.size + 1) (by omega) (I 0) (I 0) (I 0))
     clear kO3
     go_wp2_with fail
     (try simp only [Exit.inBlock, Exit.then])
     exact bodyPost_ret (results_row2 (P := Tryz.prog) rfl _ _ (w.heap.size + 1) 154 _ _ rfl kO4.out Tryz.underlying154 rfl (by kernel_rfl)) rfl ⟨by rw [hZe.out]; rfl, hb4.out⟩
    case pos =>
     subst hwe
     obtain ⟨⟨vc, vp, vd, vs, vh⟩, rfl, hT2⟩ := hu0 rfl
     have hs3 := hs2.out
     rw [if_neg (by simp)] at hs3
     have i1 : Sl w10 4 Cell.cells vc S2.basin.cells := hT2.cells
     have i2 : Sl w10 2 pairC vp S2.basin.pairs := hT2.pairs
     have i3 : Sl w10 1 intC vd S2.days := hT2.days
     have i4 : Sl w10 5 Sight.cells vs S2.sights := hT2.sights
     have i5 : Sl w10 5 Change.cells vh S2.changes := hT2.changes
     obtain ⟨Ac3, nc3, rfl, _⟩ := i1.open_
     obtain ⟨Ap3, np3, rfl, _⟩ := i2.open_
     obtain ⟨Ad3, nd3, rfl, _⟩ := i3.open_
     obtain ⟨As3, ns3, rfl, _⟩ := i4.open_
     obtain ⟨Ah3, nh3, rfl, _⟩ := i5.open_
     clear i1 i2 i3 i4 i5 hu0 hu1
     (try unfold Scene.v)
     simp only
     obtain ⟨w11, hw11, hb11, kN⟩ := al1 w10 #[.slice Ac3 S2.basin.cells.length nc3, .slice Ap3 S2.basin.pairs.length np3, I S2.basin.gain, I S2.basin.slack, I S2.basin.deep, .slice Ad3 S2.days.length nd3, .slice As3 S2.sights.length ns3, .slice Ah3 S2.changes.length nh3] 42
     obtain ⟨n0, n1, n2, n3, n4, n5, n6, n7⟩ := kN.cells8
     have zN := kN.lt
     have hbw11 := hide (bup (bup hbw9.out hb10) hb11)
     have JV2 := JVT.out _ w11 hbw11.out (hT2.mono hb11)
     simp only at JV2
     replace JV2 := hide JV2
     replace hs3 := hide hs3
     replace hT2 := hide hT2
     clear kN
     go_upto_region 20 with fail
     rw [← hw11]
     clear hw11
     go_wp2_with fail
     go_at_call 118
     refine JV2.out.mono ?_
     clear n0 n1 n2 n3 n4 n5 n6 n7 zN
     rintro e w12 ⟨rfl, hb12⟩
     have hW12 := hide (bup (bup hb10 hb11) hb12)
     clear hb10 hb11 hb12 JV2
     by_cases hve : VE = 0
     case neg =>
      have hs4 := hs3.out
      rw [if_pos hve] at hs4
      have hZe := hide (show R = .inl VE by rw [hZ.out]; exact worst_stop hs4 N (by omega))
      have hne : (VE != 0) = true := by simpa using hve
      have kO3 := kOr.out.grow hW12.out
      replace hve := hide hve
      replace hs4 := hide hs4
      obtain ⟨p0, p1, p2⟩ := kO3.cells3
      have zO := kO3.lt
      have f0 := kO3.frozen 0
      have f1 := kO3.frozen 1
      have f2 := kO3.frozen 2
      have kO4 := hide (set3 (b0 := I 0) (b1 := I 0) (b2 := I 0) kO3)
      have hb4 := hide (below3s (bup hbw9.out hW12.out) (g := w.heap.size + 1) (by omega) (I 0) (I 0) (I 0))
      clear kO3
      go_wp2_with fail
      (try simp only [Exit.inBlock, Exit.then])
      exact bodyPost_ret (results_row2 (P := Tryz.prog) rfl _ _ (w.heap.size + 1) 154 _ _ rfl kO4.out Tryz.underlying154 rfl (by kernel_rfl)) rfl ⟨by rw [hZe.out]; rfl, hb4.out⟩
     case pos =>
      subst hve
      have hs4 := hs3.out
      rw [if_neg (by simp)] at hs4
      have kB12 := kB9.out.grow hW12.out
      obtain ⟨b0, b1, b2⟩ := kB12.cells3
      have zB := kB12.lt
      obtain ⟨p0, p1⟩ := (hkP.out.grow hW12.out).cells2
      have zP := (hkP.out.grow hW12.out).lt
      have hbr12 := hbr9.out.trans (hW12.out.mono (show gB ≤ w9.heap.size by have := kB9.out.lt; omega))
      by_cases hlt9 : b.wide < WV
      ·rw [if_pos hlt9] at hs4
       have hld9 : decide (b.wide < WV) = true := by simpa using hlt9
       have f0 := kB12.frozen 0
       have f1 := kB12.frozen 1
       have f2 := kB12.frozen 2
       have kBN := hide (set3 (b0 := I L) (b1 := I H) (b2 := I WV) kB12)
       have hbN := hide (below3s hbr12 (g := gB) (Nat.le_refl _) (I L) (I H) (I WV))
       replace hs4 := hide hs4
       replace hlt9 := hide hlt9
       clear kB12 hbr12
       go_wp2_with fail
       go_roundw
       case rel => exact ⟨k + 1, ⟨L, H, WV⟩, by omega, by rw [← hv]; go_num, hs4, kBN, hbN⟩
       case measure => simp only [intOf]; omega
      ·rw [if_neg hlt9] at hs4
       have hld9 : decide (b.wide < WV) = false := by simpa using hlt9
       replace hs4 := hide hs4
       replace hlt9 := hide hlt9
       replace kB12 := hide kB12
       replace hbr12 := hide hbr12
       go_wp2_with fail
       go_roundw
       case rel => exact ⟨k + 1, b, by omega, by rw [← hv]; go_num, hs4, kB12, hbr12⟩
       case measure => simp only [intOf]; omega
  ·have he : N = k := by omega
   have hZe : R = .inr b := by rw [hZ.out, he]; exact hwk.out
   have hld2 : decide (v0 + k ≤ X.hi) = false := by simpa using hlt
   obtain ⟨p0, p1, p2⟩ := (kO7.out.grow hbr).cells3
   have kO3 := kO7.out.grow hbr
   have zO := kO3.lt
   have f0 := kO3.frozen 0
   have f1 := kO3.frozen 1
   have f2 := kO3.frozen 2
   have kO4 := hide (set3 (b0 := I b.lo) (b1 := I b.hi) (b2 := I b.wide) kO3)
   have hb4 := hide (below3s hbw (g := w.heap.size + 1) (by omega) (I b.lo) (I b.hi) (I b.wide))
   replace hlt := hide hlt
   replace he := hide he
   replace hZe := hide hZe
   clear kO3
   go_wp2_with fail
   (try simp only [Exit.inBlock, Exit.then])
   exact bodyPost_ret (results_row2 (P := Tryz.prog) rfl _ _ (w.heap.size + 1) 154 _ _ rfl kO4.out Tryz.underlying154 rfl (by kernel_rfl)) rfl ⟨by rw [hZe.out]; rfl, hb4.out⟩

theorem out_wide {R : Int ⊕ Outc} (h : outE R ≠ 0) : outV R = ⟨0, 0, 0⟩ := by
 rcases R with e | b
 ·rfl
 ·exact absurd rfl h
theorem crew_Worst (s : Scene) (V : SceneV) (vl : Value) (cells : List Int) (day cell width : Int) (w : World) (hS : SceneAt w s V) (hl : Sl w 1 intC vl cells) :
  Calls Tryz.prog 42 #[s.v V, vl, I day, I cell, I width] w fun e w' => e = .returned (.tuple #[I (outV (worstR s cells day cell width)).wide, I (outE (worstR s cells day cell width))]) ∧ Below w.heap.size w w' := by
 have JW := fun w' (hb : Below w.heap.size w w') => crew_worst s V vl cells day cell width w' (hS.mono hb) (hl.mono hb)
 obtain ⟨Ac, nc, hcc, _⟩ := hS.cells.open_
 obtain ⟨Ap, np, hpp, _⟩ := hS.pairs.open_
 obtain ⟨Ad, nd, hdd, _⟩ := hS.days.open_
 obtain ⟨As, ns, hsi, _⟩ := hS.sights.open_
 obtain ⟨Ah, nh, hch, _⟩ := hS.changes.open_
 obtain ⟨D, nl, rfl, _⟩ := hl.open_
 unfold Scene.v at *
 rw [hcc, hpp, hdd, hsi, hch] at JW ⊢
 clear hcc hpp hdd hsi hch hS hl
 have hz := out_wide (R := worstR s cells day cell width)
 obtain ⟨E, hE⟩ : ∃ q, outE (worstR s cells day cell width) = q := ⟨_, rfl⟩
 obtain ⟨⟨L, H, WV⟩, hO⟩ : ∃ q, outV (worstR s cells day cell width) = q := ⟨_, rfl⟩
 rw [hE, hO] at JW hz
 rw [hE, hO]
 clear hE hO
 replace JW := hide JW
 obtain ⟨w1, hw1, hb1, kS⟩ := al1 w (s8 s Ac nc Ap np Ad nd As ns Ah nh) 42
 obtain ⟨q0, q1, q2, q3, q4, q5, q6, q7⟩ := kS.cells8
 have zS := kS.lt
 clear kS
 by_cases h0 : E = 0
 case neg =>
  have hne : (E != 0) = true := by simpa using h0
  obtain ⟨rfl, rfl, rfl⟩ := Outc.mk.inj (hz h0)
  clear hz
  replace h0 := hide h0
  go_enter Tryz.func42, Tryz.ntmps42
  go_upto_region 1 with fail
  rw [← hw1]
  clear hw1
  go_wp2_with fail
  go_at_call 115
  refine (JW.out _ hb1).mono ?_
  clear q0 q1 q2 q3 q4 q5 q6 q7 zS
  rintro e w2 ⟨rfl, hb2⟩
  go_wp2_with fail
  go_ret2
  exact ⟨rfl, bup (bup hb1 hb2) (below1 _ _)⟩
 subst h0
 clear hz
 go_enter Tryz.func42, Tryz.ntmps42
 go_upto_region 1 with fail
 rw [← hw1]
 clear hw1
 go_wp2_with fail
 go_at_call 115
 refine (JW.out _ hb1).mono ?_
 clear q0 q1 q2 q3 q4 q5 q6 q7 zS
 rintro e w2 ⟨rfl, hb2⟩
 go_wp2_with fail
 go_ret2
 exact ⟨rfl, bup (bup hb1 hb2) (below1 _ _)⟩

theorem results_cell3 {fn : Func} {p u v : Tmp} {ty : TypeId} (h : fn.results = #[.cell p ty, .tmp u, .tmp v]) (tmps : Array Value) (P : Program) (w : World) :
  (results fn tmps).run P w =
   ((asAddr (tmps.getD p undef)).run P w).andThen fun a w₁ => ((loadVar ty a).run P w₁).andThen fun x w₂ => .ok (.tuple #[x, tmps.getD u undef, tmps.getD v undef]) w₂ := by
 simp only [results, h]
 simp [Sem.run_bind, Result.andThen]
theorem results_row3 {P : Program} {fn : Func} {p u v : Tmp} {ty : TypeId} (h : fn.results = #[.cell p ty, .tmp u, .tmp v]) (tmps : Array Value) (w : World) (g : Nat) (t : TypeId) (cs : Array Value) (d : TypeDesc)
  (hp : tmps.getD p undef = .pointer (some ⟨g, 0, none⟩)) (hg : Blk w g t cs) (hu : P.underlying ty = some d) (hd : (match d with | .struct _ | .array _ _ => true | _ => false) = true) (hi : (P.info? ty).map (·.size) = some cs.size) :
  (results fn tmps).run P w = .ok (.tuple #[.agg cs, tmps.getD u undef, tmps.getD v undef]) w := by
 rw [results_cell3 h]
 rw [hp]
 simp [asAddr, run_loadVar_row w g t ty cs (0, 0) d hg hu hd hi, Result.andThen]
def toldE (s : Scene) (cells : List Int) (day cell width : Int) : Int := if outE (worstR s cells day cell width) ≠ 0 then outE (worstR s cells day cell width) else valE s cells day
def toldV (s : Scene) (cells : List Int) (day cell width : Int) : Span := if toldE s cells day cell width = 0 then ⟨(outV (worstR s cells day cell width)).lo, (outV (worstR s cells day cell width)).hi⟩ else ⟨0, 0⟩
def toldB (s : Scene) (cells : List Int) (day cell width : Int) : Bool := decide (toldE s cells day cell width = 0) && decide ((outV (worstR s cells day cell width)).wide < wideV s cells day)
theorem crew_Told (s : Scene) (V : SceneV) (vl : Value) (cells : List Int) (day cell width : Int) (w : World) (hS : SceneAt w s V) (hl : Sl w 1 intC vl cells) :
  Calls Tryz.prog 44 #[s.v V, vl, I day, I cell, I width] w fun e w' => e = .returned (.tuple #[.agg #[I (toldV s cells day cell width).lo, I (toldV s cells day cell width).hi], .bool (toldB s cells day cell width), I (toldE s cells day cell width)]) ∧ Below w.heap.size w w' := by
 have JW := fun w' (hb : Below w.heap.size w w') => crew_worst s V vl cells day cell width w' (hS.mono hb) (hl.mono hb)
 have JV := fun w' (hb : Below w.heap.size w w') => crew_wide s V vl cells day w' (hS.mono hb) (hl.mono hb)
 obtain ⟨Ac, nc, hcc, _⟩ := hS.cells.open_
 obtain ⟨Ap, np, hpp, _⟩ := hS.pairs.open_
 obtain ⟨Ad, nd, hdd, _⟩ := hS.days.open_
 obtain ⟨As, ns, hsi, _⟩ := hS.sights.open_
 obtain ⟨Ah, nh, hch, _⟩ := hS.changes.open_
 obtain ⟨D, nl, rfl, _⟩ := hl.open_
 unfold Scene.v at *
 rw [hcc, hpp, hdd, hsi, hch] at JW JV ⊢
 clear hcc hpp hdd hsi hch hS hl
 have hTE : toldE s cells day cell width = if outE (worstR s cells day cell width) ≠ 0 then outE (worstR s cells day cell width) else valE s cells day := rfl
 have hTV : toldV s cells day cell width = if toldE s cells day cell width = 0 then ⟨(outV (worstR s cells day cell width)).lo, (outV (worstR s cells day cell width)).hi⟩ else ⟨0, 0⟩ := rfl
 have hTB : toldB s cells day cell width = (decide (toldE s cells day cell width = 0) && decide ((outV (worstR s cells day cell width)).wide < wideV s cells day)) := rfl
 obtain ⟨TE, hT1⟩ : ∃ q, toldE s cells day cell width = q := ⟨_, rfl⟩
 obtain ⟨TV, hT2⟩ : ∃ q, toldV s cells day cell width = q := ⟨_, rfl⟩
 obtain ⟨TB, hT3⟩ : ∃ q, toldB s cells day cell width = q := ⟨_, rfl⟩
 obtain ⟨VE, hVE⟩ : ∃ q, valE s cells day = q := ⟨_, rfl⟩
 obtain ⟨VW, hVW⟩ : ∃ q, wideV s cells day = q := ⟨_, rfl⟩
 obtain ⟨E, hE⟩ : ∃ q, outE (worstR s cells day cell width) = q := ⟨_, rfl⟩
 obtain ⟨⟨L, H, WV⟩, hO⟩ : ∃ q, outV (worstR s cells day cell width) = q := ⟨_, rfl⟩
 simp only [hT1, hT2, hT3, hE, hO, hVE, hVW] at JW JV hTE hTV hTB ⊢
 clear hE hO hT1 hT2 hT3 hVE hVW
 replace JW := hide JW
 replace JV := hide JV
 obtain ⟨w1, hw1, hb1, kS, kO⟩ := al2 w (s8 s Ac nc Ap np Ad nd As ns Ah nh) 42 #[I 0, I 0] 67
 have kF := hide (fun (W : World) (hW : Below w1.heap.size w1 W) => (kS.grow hW).cells8)
 have zF := hide (fun (W : World) (hW : Below w1.heap.size w1 W) => (kS.grow hW).lt)
 clear kS
 replace kO := hide kO
 obtain ⟨q0, q1, q2, q3, q4, q5, q6, q7⟩ := kF.out _ (Below.refl _ _)
 have zS := zF.out _ (Below.refl _ _)
 by_cases h0 : E = 0
 case neg =>
  have hne : (E != 0) = true := by simpa using h0
  rw [if_pos h0] at hTE
  obtain rfl := hTE
  rw [if_neg h0] at hTV
  rw [decide_eq_false h0, Bool.false_and] at hTB
  subst hTV hTB
  replace h0 := hide h0
  go_enter Tryz.func44, Tryz.ntmps44
  go_upto_region 1 with fail
  rw [← hw1]
  clear hw1
  go_wp2_with fail
  go_at_call 115
  refine (JW.out _ hb1).mono ?_
  clear q0 q1 q2 q3 q4 q5 q6 q7 zS
  rintro e w2 ⟨rfl, hb2⟩
  have kO3 := (kO.out.grow hb2).grow (below1 w2 (.cells #[I L, I H, I WV] 154))
  obtain ⟨p0, p1⟩ := kO3.cells2
  have zO := kO3.lt
  have f0 := kO3.frozen 0
  have f1 := kO3.frozen 1
  have kO4 := hide (set2 (b0 := I 0) (b1 := I 0) kO3)
  have hb4 := hide (below2s (bup (bup hb1 hb2) (below1 w2 (.cells #[I L, I H, I WV] 154))) (g := w.heap.size + 1) (by omega) (I 0) (I 0))
  clear kO3
  go_wp2_with fail
  (try simp only [Exit.inBlock, Exit.then])
  exact bodyPost_ret (results_row3 (P := Tryz.prog) rfl _ _ (w.heap.size + 1) 67 _ _ rfl kO4.out Tryz.underlying67 rfl (by kernel_rfl)) rfl ⟨rfl, hb4.out⟩
 subst h0
 rw [if_neg (by simp)] at hTE
 obtain rfl := hTE
 by_cases h1 : TE = 0
 case neg =>
  have hne : (TE != 0) = true := by simpa using h1
  rw [if_neg h1] at hTV
  rw [decide_eq_false h1, Bool.false_and] at hTB
  subst hTV hTB
  replace h1 := hide h1
  go_enter Tryz.func44, Tryz.ntmps44
  go_upto_region 1 with fail
  rw [← hw1]
  clear hw1
  go_wp2_with fail
  go_at_call 115
  refine (JW.out _ hb1).mono ?_
  clear q0 q1 q2 q3 q4 q5 q6 q7 zS
  rintro e w2 ⟨rfl, hb2⟩
  obtain ⟨q0, q1, q2, q3, q4, q5, q6, q7⟩ := kF.out _ (bup hb2 (below1 w2 (.cells #[I L, I H, I WV] 154)))
  have zS := zF.out _ (bup hb2 (below1 w2 (.cells #[I L, I H, I WV] 154)))
  go_wp2_with fail
  go_at_call 118
  refine (JV.out _ (bup (bup hb1 hb2) (below1 _ _))).mono ?_
  clear q0 q1 q2 q3 q4 q5 q6 q7 zS
  rintro e w3 ⟨rfl, hb3⟩
  have kO3 := ((kO.out.grow hb2).grow (below1 w2 (.cells #[I L, I H, I WV] 154))).grow hb3
  obtain ⟨p0, p1⟩ := kO3.cells2
  have zO := kO3.lt
  have f0 := kO3.frozen 0
  have f1 := kO3.frozen 1
  have kO4 := hide (set2 (b0 := I 0) (b1 := I 0) kO3)
  have hb4 := hide (below2s (bup (bup (bup hb1 hb2) (below1 w2 (.cells #[I L, I H, I WV] 154))) hb3) (g := w.heap.size + 1) (by omega) (I 0) (I 0))
  clear kO3
  go_wp2_with fail
  (try simp only [Exit.inBlock, Exit.then])
  exact bodyPost_ret (results_row3 (P := Tryz.prog) rfl _ _ (w.heap.size + 1) 67 _ _ rfl kO4.out Tryz.underlying67 rfl (by kernel_rfl)) rfl ⟨rfl, hb4.out⟩
 subst h1
 rw [if_pos rfl] at hTV
 rw [decide_eq_true rfl, Bool.true_and] at hTB
 subst hTV hTB
 go_enter Tryz.func44, Tryz.ntmps44
 go_upto_region 1 with fail
 rw [← hw1]
 clear hw1
 go_wp2_with fail
 go_at_call 115
 refine (JW.out _ hb1).mono ?_
 clear q0 q1 q2 q3 q4 q5 q6 q7 zS
 rintro e w2 ⟨rfl, hb2⟩
 obtain ⟨q0, q1, q2, q3, q4, q5, q6, q7⟩ := kF.out _ (bup hb2 (below1 w2 (.cells #[I L, I H, I WV] 154)))
 have zS := zF.out _ (bup hb2 (below1 w2 (.cells #[I L, I H, I WV] 154)))
 go_wp2_with fail
 go_at_call 118
 refine (JV.out _ (bup (bup hb1 hb2) (below1 _ _))).mono ?_
 clear q0 q1 q2 q3 q4 q5 q6 q7 zS
 rintro e w3 ⟨rfl, hb3⟩
 have kX := (Blk.new w2 _ _ : Blk (w2.alloc (.cells #[I L, I H, I WV] 154)) w2.heap.size 154 #[I L, I H, I WV]).grow hb3
 obtain ⟨x0, x1, x2⟩ := kX.cells3
 have zX := kX.lt
 have kO3 := ((kO.out.grow hb2).grow (below1 w2 (.cells #[I L, I H, I WV] 154))).grow hb3
 obtain ⟨p0, p1⟩ := kO3.cells2
 have zO := kO3.lt
 have f0 := kO3.frozen 0
 have f1 := kO3.frozen 1
 have kO4 := hide ((set2 (b0 := I L) (b1 := I H) kO3).grow (Below.refl _ _).drew)
 have hb4 := hide (below2s (bup (bup (bup hb1 hb2) (below1 w2 (.cells #[I L, I H, I WV] 154))) hb3) (g := w.heap.size + 1) (by omega) (I L) (I H)).drew
 clear kO3 kX
 go_upto_region 7 with fail
 go_region
 go_wp2_with fail
 (try simp only [Exit.inBlock, Exit.then])
 exact bodyPost_ret (results_row3 (P := Tryz.prog) rfl _ _ (w.heap.size + 1) 67 _ _ rfl kO4.out Tryz.underlying67 rfl (by kernel_rfl)) rfl ⟨rfl, hb4.out⟩
end Go.Proofs.YtgbbljfmngmjeaaGreat
