/- The law SpringWhen: the earliest and the latest day by which so much has come. Conditions stand in the theorems. -/
import Derived.Test.YtmjfdobjnnfafaaGreatDoorSpring28
import Derived.Deep.DeepCutAuto
import Derived.Test.YtmjfdobjnnfafaaGreatDoorOneVol
import Derived.Test.YtmjfdobjnnfafaaGreatDoorOneSkip
import Derived.Test.YtmjfdobjnnfafaaGreatDoorOneField
import Derived.Test.YtmjfdobjnnfafaaGreatDoorAgainSpring9
set_option linter.all false
namespace Go.Proofs.YtmjfdobjnnfafaaGreatDoor
open Go.RowKit

theorem came_begin {c : Climate} {p : Spring} {f : Int} (h : SprOk c p) : ∀ (cs : List Cell) (ws : List Int), cameF c p.days f (beginF p) cs ws = 0
  | [], _ => by simp [cameF]
  | x :: cs, [] => by simp [cameF]
  | x :: cs, u :: ws => by
    have ih := came_begin (f := f) h cs ws
    simp only [cameF, ih]
    have hn := h.n1
    cases hd : p.days with
    | nil => rw [hd] at hn; simp at hn
    | cons y ys =>
      have hb : beginF p = y.day := by simp [beginF, hd]
      rw [hb, relF_stop (Int.le_refl _)]
      simp
theorem first_is (c : Climate) (p : Spring) (cs : List Cell) (ws : List Int) (f v : Int) :
    (firstF c p cs ws f v = 1048578 ∧ ∀ k : Nat, k ≤ p.days.length → cameF c p.days f (beginF p + (k : Nat)) cs ws < v) ∨
      ∃ k : Nat, k ≤ p.days.length ∧ firstF c p cs ws f v = beginF p + (k : Nat) ∧ v ≤ cameF c p.days f (beginF p + (k : Nat)) cs ws ∧ ∀ j : Nat, j < k → cameF c p.days f (beginF p + (j : Nat)) cs ws < v := by
  unfold firstF
  cases hf : (List.range (p.days.length + 1)).find? (fun k => decide (v ≤ cameF c p.days f (beginF p + (k : Nat)) cs ws)) with
  | none =>
    refine .inl ⟨rfl, fun k hk => ?_⟩
    have := List.find?_eq_none.1 hf k (List.mem_range.2 (by omega))
    simp at this
    omega
  | some k =>
    obtain ⟨h1, h2, h3⟩ := List.find?_range_eq_some.1 hf
    simp only [decide_eq_true_eq] at h1
    refine .inr ⟨k, by have := List.mem_range.1 h2; omega, rfl, h1, fun j hj => ?_⟩
    have := h3 j hj
    simp at this
    omega
theorem spr_end {c : Climate} {p : Spring} (h : SprOk c p) : endF p ≤ 1048577 := by
  obtain ⟨y, hy⟩ := getElem?_of_lt (xs := p.days) (k := p.days.length - 1) (by have := h.n1; omega)
  obtain ⟨x, hx⟩ := getElem?_of_lt (xs := p.days) (k := 0) (by have := h.n1; omega)
  have hb : beginF p = x.day := by simp only [beginF]; rw [getD_of hx]
  have := succB_ok h.succ _ _ _ hy hx
  have := h.n1
  unfold endF
  omega
theorem when_zero {c : Climate} {p : Spring} {s : Scene} {l : List Int} {v : Int} (h : whenE c p s l v ≠ 0) : whenB c p s l v = false ∧ whenV c p s l v = (0, 0) := by
  have : whenB c p s l v = false := by simp [whenB, h]
  exact ⟨this, by simp [whenV, this]⟩
theorem when_math {c : Climate} {p : Spring} {s : Scene} {l : List Int} {v : Int} (h : whenE c p s l v = 0) :
    (0 ≤ beginF p ∧ beginF p ≤ 1048576 ∧ endF p ≤ 1048577 ∧ beginF p ≤ endF p) ∧ (∀ d, beginF p ≤ d → d ≤ endF p → volE c p s l (beginF p) d = 0) ∧
    (whenB c p s l v = false → whenV c p s l v = (0, 0) ∧ (volV c p s l (beginF p) (endF p)).2 < v) ∧
    (whenB c p s l v = true → (beginF p ≤ (whenV c p s l v).1 ∧ (whenV c p s l v).1 ≤ endF p ∧ v ≤ (volV c p s l (beginF p) (whenV c p s l v).1).2 ∧ (beginF p < (whenV c p s l v).1 → (volV c p s l (beginF p) ((whenV c p s l v).1 - 1)).2 < v)) ∧
      (((whenV c p s l v).2 = 1048578 ∧ (volV c p s l (beginF p) (endF p)).1 < v) ∨ ((whenV c p s l v).2 ≠ 1048578 ∧ (whenV c p s l v).1 ≤ (whenV c p s l v).2 ∧ (whenV c p s l v).2 ≤ endF p ∧ v ≤ (volV c p s l (beginF p) (whenV c p s l v).2).1 ∧ ((whenV c p s l v).2 = beginF p ∨ (beginF p < (whenV c p s l v).2 ∧ (volV c p s l (beginF p) ((whenV c p s l v).2 - 1)).1 < v))))) := by
  have h0 := h
  unfold whenE at h
  split at h
  · rename_i g; exact absurd h g
  rename_i g1
  split at h
  · rename_i g; exact absurd h g
  rename_i g2
  split at h
  · cases h
  rename_i g3
  split at h
  · cases h
  rename_i g4
  split at h
  · cases h
  have e1 : springE c p = 0 := Classical.byContradiction g1
  have e2 : sceneE s = 0 := Classical.byContradiction g2
  obtain ⟨e3, e4⟩ := poolsE_zero h
  have hP : PoolIs c p s l := pool_is e1 e2 e3 e4
  have hS := hP.spr
  have hc := hS.clim
  have hEnd := spr_end hS
  have hen : endF p = beginF p + (p.days.length : Int) := rfl
  have hV : ∀ d, beginF p ≤ d → d ≤ endF p → volE c p s l (beginF p) d = 0 := fun d h1 h2 => by
    unfold volE
    rw [if_neg g1, if_neg g2, if_neg g3, if_neg g4, if_neg, h]
    simp [spellB, h1, h2]
  have hml := mem_facL.2 ⟨Int.le_refl c.flo, hc.fl⟩
  have hmh := mem_facL.2 ⟨hc.fl, Int.le_refl c.fhi⟩
  have hlo : ∀ d, beginF p ≤ d → d ≤ endF p → (volV c p s l (beginF p) d).1 = cameF c p.days c.flo d (pickC s.basin.cells l) (lowW s l) := fun d h1 h2 => by
    rw [(vol_is (hV d h1 h2)).2.2.2.2.2.2]
    obtain ⟨x, f, y, z⟩ := loF_is (p := p.days) (cs := pickC s.basin.cells l) (ws := lowW s l) (frm := beginF p) (til := d) hc.fl (fun f hf => by have := hP.came hf (beginF p); have := hP.came hf d; omega)
    have a1 := x c.flo hml
    have a2 := came_hotter (c := c) (l := p.days) (f := c.flo) (g := f) (d := d) (mem_facL.1 y).1 (pickC s.basin.cells l) (lowW s l) hP.cells
    rw [came_begin hS] at a1 z
    simp only
    omega
  have hhi : ∀ d, beginF p ≤ d → d ≤ endF p → (volV c p s l (beginF p) d).2 = cameF c p.days c.fhi d (pickC s.basin.cells l) (highW s l) := fun d h1 h2 => by
    rw [(vol_is (hV d h1 h2)).2.2.2.2.2.2]
    obtain ⟨x, f, y, z⟩ := hiF_is (p := p.days) (cs := pickC s.basin.cells l) (ws := highW s l) (frm := beginF p) (til := d) hc.fl (fun f hf => by have := hP.came hf (beginF p); have := hP.came hf d; omega)
    have a1 := x c.fhi hmh
    have a2 := came_hotter (c := c) (l := p.days) (f := f) (g := c.fhi) (d := d) (mem_facL.1 y).2 (pickC s.basin.cells l) (highW s l) hP.cells
    rw [came_begin hS] at a1 z
    simp only
    omega
  have hle : ∀ d, beginF p ≤ d → cameF c p.days c.flo d (pickC s.basin.cells l) (lowW s l) ≤ cameF c p.days c.fhi d (pickC s.basin.cells l) (highW s l) := fun d h1 => by
    have a1 := came_between (c := c) (l := p.days) (f := c.flo) (d := beginF p) (e := d) hc hS.mem (by have := hc.flo; have := hc.fl; have := hc.fhi; omega) h1 _ _ _ hP.cells hP.le
    have a2 := came_hotter (c := c) (l := p.days) (f := c.flo) (g := c.fhi) (d := d) hc.fl (pickC s.basin.cells l) (highW s l) hP.cells
    rw [came_begin hS, came_begin hS] at a1
    omega
  refine ⟨⟨hS.beg.1, hS.beg.2, hEnd, by omega⟩, hV, fun hB => ?_, fun hB => ?_⟩
  · refine ⟨by simp [whenV, hB], ?_⟩
    rw [hhi _ (by omega) (Int.le_refl _), hen]
    have hB2 : ¬ whenLo c p s l v ≤ 1048577 := by simpa [whenB, h0] using hB
    rcases first_is c p (pickC s.basin.cells l) (highW s l) c.fhi v with ⟨_, k2⟩ | ⟨k, k1, k2, _, _⟩
    · exact k2 _ (Nat.le_refl _)
    · exfalso
      apply hB2
      unfold whenLo
      rw [k2]
      omega
  · have hB2 : whenLo c p s l v ≤ 1048577 := by simpa [whenB, h0] using hB
    have hVV : whenV c p s l v = (whenLo c p s l v, whenHi c p s l v) := by simp [whenV, hB]
    rw [hVV]
    simp only
    rcases first_is c p (pickC s.basin.cells l) (highW s l) c.fhi v with ⟨k2, _⟩ | ⟨k, k1, k2, k3, k4⟩
    · exfalso
      unfold whenLo at hB2
      omega
    have hLo : whenLo c p s l v = beginF p + (k : Nat) := k2
    rw [hLo]
    refine ⟨⟨by omega, by omega, by rw [hhi _ (by omega) (by omega)]; exact k3, fun hlt => ?_⟩, ?_⟩
    · rw [hhi _ (by omega) (by omega)]
      have := k4 (k - 1) (by omega)
      rwa [show beginF p + ((k - 1 : Nat) : Int) = beginF p + (k : Int) - 1 by omega] at this
    · rcases first_is c p (pickC s.basin.cells l) (lowW s l) c.flo v with ⟨m2, m3⟩ | ⟨m, m1, m2, m3, m4⟩
      · refine .inl ⟨m2, ?_⟩
        rw [hlo _ (by omega) (Int.le_refl _), hen]
        exact m3 _ (Nat.le_refl _)
      · have hHi : whenHi c p s l v = beginF p + (m : Nat) := m2
        rw [hHi]
        refine .inr ⟨by omega, ?_, by omega, by rw [hlo _ (by omega) (by omega)]; exact m3, ?_⟩
        · rcases Nat.lt_or_ge m k with hmk | hmk
          · have a1 := k4 m hmk
            have a2 := hle (beginF p + (m : Nat)) (by omega)
            omega
          · omega
        · rcases Nat.eq_zero_or_pos m with hm0 | hm0
          · exact .inl (by omega)
          · refine .inr ⟨by omega, ?_⟩
            rw [hlo _ (by omega) (by omega)]
            have := m4 (m - 1) (by omega)
            rwa [show beginF p + ((m - 1 : Nat) : Int) = beginF p + (m : Int) - 1 by omega] at this

set_option maxRecDepth 100000 in
set_option maxHeartbeats 4000000 in
theorem law_by (c : Climate) (no : Int) (vd : Value) (p : List Weather) (s : Scene) (V : SceneV) (vl : Value) (l : List Int) (f d : Int) (bC bS bX bL bF : Nat) (w : World) (hE : volE c ⟨no, p⟩ s l f d = 0) (hd : Sl w 3 Weather.cells vd p) (hs : SceneAt w s V) (hl : Sl w 1 intC vl l)
    (kC : Blk w bC 25 #[I c.base, I c.lapse, I c.swing, I c.wettest, I c.coldest, I c.warmest, I c.flo, I c.fhi]) (kS : Blk w bS 28 #[I no, vd]) (kX : Blk w bX 63 #[V.cells, V.pairs, I s.basin.gain, I s.basin.slack, I s.basin.deep, V.days, V.sights, V.changes]) (kL : w.cell? ⟨bL, 0, none⟩ = some vl) (zL : bL < w.heap.size) (kF : w.cell? ⟨bF, 0, none⟩ = some (I f)) (zF : bF < w.heap.size) :
    Calls Tryz.prog 55 #[I d, .pointer (some ⟨bC, 0, none⟩), .pointer (some ⟨bS, 0, none⟩), .pointer (some ⟨bX, 0, none⟩), .pointer (some ⟨bL, 0, none⟩), .pointer (some ⟨bF, 0, none⟩)] w fun e w' => e = .returned (.agg #[I (volV c ⟨no, p⟩ s l f d).1, I (volV c ⟨no, p⟩ s l f d).2]) ∧ Below w.heap.size w w' := by
  obtain ⟨Ac, nc, hcc, _⟩ := hs.cells.open_
  obtain ⟨Ap, np, hpp, _⟩ := hs.pairs.open_
  obtain ⟨Ad, nd, hdd, _⟩ := hs.days.open_
  obtain ⟨As, ns, hss, _⟩ := hs.sights.open_
  obtain ⟨Ah, nh, hch, _⟩ := hs.changes.open_
  obtain ⟨Aw, nw, hvd, _⟩ := hd.open_
  obtain ⟨Al, nl2, hvl, _⟩ := hl.open_
  have J := spring_Volume c no vd p s V vl l f d (w.alloc (.cells #[I 0, I 0] 23)) (hs.mono (below1 _ _)) (hl.mono (below1 _ _)) (hd.mono (below1 _ _))
  rw [hE] at J
  obtain ⟨P, hP⟩ : ∃ z, volV c ⟨no, p⟩ s l f d = z := ⟨_, rfl⟩
  rw [hP] at J ⊢
  obtain ⟨x, y⟩ := P
  simp only at J
  unfold Scene.v at *
  simp only [hcc, hpp, hdd, hss, hch, hvd, hvl] at J kS kX kL
  (try unfold Climate.v at *)
  clear hcc hpp hdd hss hch hvd hvl hs hl hd hE hP
  obtain ⟨c0, c1, c2, c3, c4, c5, c6, c7⟩ := kC.cells8
  obtain ⟨s0, s1⟩ := kS.cells2
  obtain ⟨x0, x1, x2, x3, x4, x5, x6, x7⟩ := kX.cells8
  have zC := kC.lt
  have zS := kS.lt
  have zX := kX.lt
  replace kC := hide kC
  replace kS := hide kS
  replace kX := hide kX
  replace J := hide J
  go_enter Tryz.func55, Tryz.ntmps55
  go_wp2_with fail
  go_at_call 54
  refine J.out.mono ?_
  rintro e w1 ⟨rfl, hb1⟩
  have hR := hide ((Blk.new w 23 #[I 0, I 0]).grow hb1)
  have hz := hb1.size
  simp at hz
  obtain ⟨z5, r0, r1, r2, r3⟩ := blk_box hR.out
  have hz2 : w.heap.size ≠ w1.heap.size := by omega
  have hz3 : w1.heap.size ≠ w.heap.size := by omega
  clear J
  go_wp2_with fail
  obtain ⟨v1, v2⟩ := ((gap_set2 (r := I x) (s := I y) hR.out).alloc (.cells #[I x, I y] 23)).cells2
  refine bodyPost_ret (v := .agg #[I x, I y]) ?_ rfl ⟨rfl, (gap_below2 (bup (below1 _ _) hb1) (Nat.le_refl _)).alloc (by have := hb1.size; simp at this ⊢; omega) _⟩
  simp [results, Tryz.results55, go_sem] at v1 v2 ⊢
  simp [v1, v2]

set_option maxRecDepth 100000 in
set_option maxHeartbeats 8000000 in
theorem law_When (c : Climate) (no : Int) (vd : Value) (p : List Weather) (s : Scene) (V : SceneV) (vl : Value) (l : List Int) (v : Int) (w : World) (hp : Pow10 w) (hd : Sl w 3 Weather.cells vd p) (hs : SceneAt w s V) (hl : Sl w 1 intC vl l) :
    Calls Tryz.prog 14 #[c.v, .agg #[I no, vd], s.v V, vl, I v] w fun e w' => e = .returned (.bool true) ∧ Below w.heap.size w w' := by
  obtain ⟨Ac, nc, hcc, _⟩ := hs.cells.open_
  obtain ⟨Ap, np, hpp, _⟩ := hs.pairs.open_
  obtain ⟨Ad, nd, hdd, _⟩ := hs.days.open_
  obtain ⟨As, ns, hss, _⟩ := hs.sights.open_
  obtain ⟨Ah, nh, hch, _⟩ := hs.changes.open_
  obtain ⟨Aw, nw, hvd, _⟩ := hd.open_
  obtain ⟨Al, nl2, hvl, _⟩ := hl.open_
  have JW := fun w' (hb : Below w.heap.size w w') => spring_When c no vd p s V vl l v w' (hs.mono hb) (hl.mono hb) (hd.mono hb)
  have JS := fun w' (hb : Below w.heap.size w w') => law_skip_nil s V w' (hs.mono hb)
  have JB := fun (d : Int) (hE : volE c ⟨no, p⟩ s l (beginF ⟨no, p⟩) d = 0) (bC bS bX bL bF : Nat) w' (hb : Below w.heap.size w w') kC kS kX kL zL kF zF => law_by c no vd p s V vl l (beginF ⟨no, p⟩) d bC bS bX bL bF w' hE (hd.mono hb) (hs.mono hb) (hl.mono hb) kC kS kX kL zL kF zF
  have HM := fun h => when_math (c := c) (p := ⟨no, p⟩) (s := s) (l := l) (v := v) h
  have HZ := fun h => when_zero (c := c) (p := ⟨no, p⟩) (s := s) (l := l) (v := v) h
  have HB : ∀ x0, p[0]? = some x0 → beginF ⟨no, p⟩ = x0.day := fun x0 h => by simp only [beginF]; rw [getD_of h]
  have HE : ∀ x0 y, whenE c ⟨no, p⟩ s l v = 0 → p[0]? = some x0 → p[p.length - 1]? = some y → y.day + 1 = endF ⟨no, p⟩ := fun x0 y hz h0 h1 => by
    have hsp : springE c ⟨no, p⟩ = 0 := by
      unfold whenE at hz
      split at hz
      · rename_i g; exact absurd hz g
      · rename_i g; exact Classical.byContradiction g
    have hS := SprOk.of hsp
    have := (succB_ok hS.succ _ _ _ h1 h0).2
    have hn := hS.n1
    unfold endF
    rw [HB x0 h0]
    simp only at hn ⊢
    omega
  obtain ⟨Z, hZ⟩ : ∃ z, whenV c ⟨no, p⟩ s l v = z := ⟨_, rfl⟩
  obtain ⟨B, hB⟩ : ∃ z, whenB c ⟨no, p⟩ s l v = z := ⟨_, rfl⟩
  obtain ⟨E, hE⟩ : ∃ z, whenE c ⟨no, p⟩ s l v = z := ⟨_, rfl⟩
  obtain ⟨vv, hvv⟩ : ∃ z, volV c ⟨no, p⟩ s l (beginF ⟨no, p⟩) = z := ⟨_, rfl⟩
  obtain ⟨ve, hve⟩ : ∃ z, volE c ⟨no, p⟩ s l (beginF ⟨no, p⟩) = z := ⟨_, rfl⟩
  obtain ⟨bg, hbg⟩ : ∃ z, beginF ⟨no, p⟩ = z := ⟨_, rfl⟩
  obtain ⟨en, hen⟩ : ∃ z, endF ⟨no, p⟩ = z := ⟨_, rfl⟩
  simp only [hZ, hB, hE, hvv, hve, hbg, hen] at JW JB HM HZ HB HE
  clear hZ hB hE hvv hve hbg hen
  obtain ⟨z1, z2⟩ := Z
  simp only at JW HM HZ
  unfold Scene.v at *
  simp only [hcc, hpp, hdd, hss, hch, hvd, hvl] at JW JS JB ⊢
  (try unfold Climate.v at *)
  replace hd : Sl w 3 Weather.cells (.slice Aw p.length nw) p := hvd ▸ hd
  obtain ⟨_, _, hx, _, _, hlen, hA⟩ := hd.open_
  clear hcc hpp hdd hss hch hvd hvl hx
  replace JW := hide JW
  replace JB := hide JB
  replace JS := hide JS
  replace HM := hide HM
  replace HZ := hide HZ
  replace HB := hide HB
  replace HE := hide HE
  replace hs := hide hs
  replace hl := hide hl
  replace hd := hide hd
  clear hA
  replace hp := hide hp
  (try unfold Climate.v at *)
  (try unfold Weather.v at *)
  go_enter Tryz.func14, Tryz.ntmps14
  have B0 : Below w.heap.size w w := Below.refl _ _
  go_wp2_with fail
  obtain ⟨w1, hw1⟩ : ∃ w1, w1 = ((((w.alloc (.cells #[I c.base, I c.lapse, I c.swing, I c.wettest, I c.coldest, I c.warmest, I c.flo, I c.fhi] 25)).alloc (.cells #[I no, .slice Aw p.length nw] 28)).alloc (.cells #[.slice Ac s.basin.cells.length nc, .slice Ap s.basin.pairs.length np, I s.basin.gain, I s.basin.slack, I s.basin.deep, .slice Ad s.days.length nd, .slice As s.sights.length ns, .slice Ah s.changes.length nh] 63)).alloc (.cells #[.slice Al l.length nl2] 59)) := ⟨_, rfl⟩
  have kC : Blk w1 (w.heap.size) 25 #[I c.base, I c.lapse, I c.swing, I c.wettest, I c.coldest, I c.warmest, I c.flo, I c.fhi] := by
    rw [hw1]
    refine Blk.alloc ?_ _
    refine Blk.alloc ?_ _
    refine Blk.alloc ?_ _
    have h := Blk.new w 25 #[I c.base, I c.lapse, I c.swing, I c.wettest, I c.coldest, I c.warmest, I c.flo, I c.fhi]
    first | exact h | simpa only [World.size_alloc] using h
  have kS : Blk w1 (w.heap.size + 1) 28 #[I no, .slice Aw p.length nw] := by
    rw [hw1]
    refine Blk.alloc ?_ _
    refine Blk.alloc ?_ _
    have h := Blk.new (w.alloc (.cells #[I c.base, I c.lapse, I c.swing, I c.wettest, I c.coldest, I c.warmest, I c.flo, I c.fhi] 25)) 28 #[I no, .slice Aw p.length nw]
    first | exact h | simpa only [World.size_alloc] using h
  have kX : Blk w1 (w.heap.size + 1 + 1) 63 #[.slice Ac s.basin.cells.length nc, .slice Ap s.basin.pairs.length np, I s.basin.gain, I s.basin.slack, I s.basin.deep, .slice Ad s.days.length nd, .slice As s.sights.length ns, .slice Ah s.changes.length nh] := by
    rw [hw1]
    refine Blk.alloc ?_ _
    have h := Blk.new ((w.alloc (.cells #[I c.base, I c.lapse, I c.swing, I c.wettest, I c.coldest, I c.warmest, I c.flo, I c.fhi] 25)).alloc (.cells #[I no, .slice Aw p.length nw] 28)) 63 #[.slice Ac s.basin.cells.length nc, .slice Ap s.basin.pairs.length np, I s.basin.gain, I s.basin.slack, I s.basin.deep, .slice Ad s.days.length nd, .slice As s.sights.length ns, .slice Ah s.changes.length nh]
    first | exact h | simpa only [World.size_alloc] using h
  have kL : Blk w1 (w.heap.size + 1 + 1 + 1) 59 #[.slice Al l.length nl2] := by
    rw [hw1]
    have h := Blk.new (((w.alloc (.cells #[I c.base, I c.lapse, I c.swing, I c.wettest, I c.coldest, I c.warmest, I c.flo, I c.fhi] 25)).alloc (.cells #[I no, .slice Aw p.length nw] 28)).alloc (.cells #[.slice Ac s.basin.cells.length nc, .slice Ap s.basin.pairs.length np, I s.basin.gain, I s.basin.slack, I s.basin.deep, .slice Ad s.days.length nd, .slice As s.sights.length ns, .slice Ah s.changes.length nh] 63)) 59 #[.slice Al l.length nl2]
    first | exact h | simpa only [World.size_alloc] using h
  have B1 : Below w.heap.size w w1 := by rw [hw1]; exact bup B0 (below4 _ _ _ _ _)
  rw [← hw1]
  clear hw1 B0
  obtain ⟨bL, hbL⟩ : ∃ b, w.heap.size + 1 + 1 + 1 = b := ⟨_, rfl⟩
  rw [hbL] at kL ⊢
  obtain ⟨bX, hbX⟩ : ∃ b, w.heap.size + 1 + 1 = b := ⟨_, rfl⟩
  rw [hbX] at kX ⊢
  obtain ⟨bS, hbS⟩ : ∃ b, w.heap.size + 1 = b := ⟨_, rfl⟩
  rw [hbS] at kS ⊢
  obtain ⟨bC, hbC⟩ : ∃ b, w.heap.size = b := ⟨_, rfl⟩
  rw [hbC] at kC ⊢
  replace kC := hide kC
  replace kS := hide kS
  replace kX := hide kX
  replace kL := hide kL
  clear hbC
  clear hbS
  clear hbX
  clear hbL
  go_at_call 22
  refine (law_sane w1 (hp.out.mono B1)).mono ?_
  rintro e w2 ⟨rfl, hb⟩
  replace kC := hide (kC.out.grow hb)
  replace kS := hide (kS.out.grow hb)
  replace kX := hide (kX.out.grow hb)
  replace kL := hide (kL.out.grow hb)
  have B2 := bup B1 hb
  clear hb B1
  obtain ⟨rX0, rX1, rX2, rX3, rX4, rX5, rX6, rX7⟩ := kX.out.cells8
  have zX : bX < w2.heap.size := kX.out.lt
  go_wp2_with fail
  clear rX0 rX1 rX2 rX3 rX4 rX5 rX6 rX7 zX
  go_at_call 47
  refine (JS.out w2 B2).mono ?_
  rintro e w3 ⟨⟨q, rfl⟩, hb⟩
  replace kC := hide (kC.out.grow hb)
  replace kS := hide (kS.out.grow hb)
  replace kX := hide (kX.out.grow hb)
  replace kL := hide (kL.out.grow hb)
  have B3 := bup B2 hb
  clear hb B2
  obtain ⟨rS0, rS1⟩ := kS.out.cells2
  have zS : bS < w3.heap.size := kS.out.lt
  cases q
  case true => (go_wp2_with fail; go_ret; exact ⟨rfl, B3⟩)
  cases g1 : decide ((40 : Int) < p.length)
  case true => (go_wp2_with fail; go_ret; exact ⟨rfl, B3⟩)
  by_cases h0 : p.length = 0
  case pos => (have h0a : ((p.length : Int) == 0) = true := (by rw [h0]; rfl)); clear h0; (go_wp2_with fail; go_ret; exact ⟨rfl, B3⟩)
  have h0a : ((p.length : Int) == 0) = false := beq_eq_false_iff_ne.2 (by omega)
  have hp40 : p.length ≤ 40 := by simp at g1; omega
  obtain ⟨x0, hx0⟩ := getElem?_of_lt (xs := p) (k := 0) (by omega)
  obtain ⟨y, hy⟩ := getElem?_of_lt (xs := p) (k := p.length - 1) (by omega)
  obtain ⟨_, _, hAA, _, _, _, hA⟩ := hd.out.open_
  injection hAA with hA1 hA2 hA3
  subst hA1 hA3
  obtain ⟨b, ox, rfl, hbx⟩ := hA 0 (by omega)
  clear hA
  obtain ⟨zb, e0, _, _⟩ := (hd.out.mono B3).weather_at hx0
  obtain ⟨_, f0, _, _⟩ := (hd.out.mono B3).weather_at hy
  rw [Nat.zero_mul, Nat.add_zero] at e0
  obtain ⟨q, hq⟩ : ∃ q, p.length - 1 = q := ⟨_, rfl⟩
  rw [hq] at f0
  have k4 : IntKind.i64.wrap ((p.length : Int) - 1) = (q : Int) := by rw [IntWalk.i64_in _ (by omega)]; omega
  have k5 : q < p.length := by omega
  have k6 : (0 : Int) ≤ (q : Int) := by omega
  have k7 : (q : Int) < (p.length : Int) := by omega
  have k8 : (0 : Int) < (p.length : Int) := by omega
  have k9 : 0 < p.length := by omega
  obtain ⟨d9, hd9⟩ : ∃ z, IntKind.i64.wrap (y.day + 1) = z := ⟨_, rfl⟩
  replace hx0 := hide hx0
  replace hy := hide hy
  replace hq := hide hq
  go_wp2_with fail
  go_region_held3 (fun W => W.cell? ⟨bS, 1, none⟩ = some (.slice (some ⟨b, ox, none⟩) p.length nw) ∧ W.cell? ⟨b, ox, none⟩ = some (I x0.day) ∧ W.cell? ⟨b, ox + q * 3, none⟩ = some (I y.day)) (go_keep) (fail)
  rename_i hS
  clear hS rS0 rS1 zS e0 f0
  obtain ⟨wF, hwF⟩ : ∃ W, W = (w3.alloc (Obj.cells #[Value.int .i64 x0.day] 3)).drew := ⟨_, rfl⟩
  have kF : Blk wF w3.heap.size 3 #[I x0.day] := by rw [hwF]; exact (Blk.new _ _ _).drew
  replace kC := hide (show Blk wF bC 25 #[I c.base, I c.lapse, I c.swing, I c.wettest, I c.coldest, I c.warmest, I c.flo, I c.fhi] by rw [hwF]; exact (kC.out.alloc _).drew)
  replace kS := hide (show Blk wF bS 28 #[I no, .slice (some ⟨b, ox, none⟩) p.length nw] by rw [hwF]; exact (kS.out.alloc _).drew)
  replace kX := hide (show Blk wF bX 63 #[.slice Ac s.basin.cells.length nc, .slice Ap s.basin.pairs.length np, I s.basin.gain, I s.basin.slack, I s.basin.deep, .slice Ad s.days.length nd, .slice As s.sights.length ns, .slice Ah s.changes.length nh] by rw [hwF]; exact (kX.out.alloc _).drew)
  replace kL := hide (show Blk wF bL 59 #[.slice Al l.length nl2] by rw [hwF]; exact (kL.out.alloc _).drew)
  have BF : Below w.heap.size w wF := by rw [hwF]; exact bup B3 (below1 _ _).drew
  rw [← hwF]
  clear hwF B3
  obtain ⟨bF, hbF⟩ : ∃ b, w3.heap.size = b := ⟨_, rfl⟩
  rw [hbF] at kF ⊢
  clear hbF
  replace kF := hide kF
  obtain ⟨rC0, rC1, rC2, rC3, rC4, rC5, rC6, rC7⟩ := kC.out.cells8
  have zC : bC < wF.heap.size := kC.out.lt
  obtain ⟨rS0, rS1⟩ := kS.out.cells2
  have zS : bS < wF.heap.size := kS.out.lt
  obtain ⟨rX0, rX1, rX2, rX3, rX4, rX5, rX6, rX7⟩ := kX.out.cells8
  have zX : bX < wF.heap.size := kX.out.lt
  have rL0 : wF.cell? ⟨bL, 0, none⟩ = some (.slice Al l.length nl2) := kL.out.cell 0
  have zL : bL < wF.heap.size := kL.out.lt
  go_wp2_with fail
  clear rC0 rC1 rC2 rC3 rC4 rC5 rC6 rC7 zC rS0 rS1 zS rX0 rX1 rX2 rX3 rX4 rX5 rX6 rX7 zX rL0 zL
  go_at_call 49
  refine (JW.out wF BF).mono ?_
  rintro e w4 ⟨rfl, hb⟩
  replace kC := hide (kC.out.grow hb)
  replace kS := hide (kS.out.grow hb)
  replace kX := hide (kX.out.grow hb)
  replace kL := hide (kL.out.grow hb)
  replace kF := hide (kF.out.grow hb)
  have B4 := bup BF hb
  clear hb BF
  by_cases hE : E = 0
  case neg =>
    have hne : (E != 0) = true := by simpa using hE
    obtain ⟨hz1, hz2⟩ := HZ.out hE
    injection hz2 with hz2 hz3
    subst hz1 hz2 hz3
    (go_wp2_with fail; go_ret; exact ⟨rfl, bup B4 (below1 _ _)⟩)
  subst hE
  obtain ⟨⟨m1, m2, m3, m4⟩, hve, mF, mT⟩ := HM.out rfl
  have hbg := HB.out x0 hx0.out
  have hen := HE.out x0 y rfl hx0.out hy.out
  subst hbg
  have hd8 : d9 = en := by rw [← hd9, hen]; exact IntWalk.i64_in _ (by omega)
  subst hd8
  clear hd9 hen HB HE HM HZ JW
  replace hve := hide hve
  replace mF := hide mF
  replace mT := hide mT
  cases B
  case false =>
    obtain ⟨hz, hlt⟩ := mF.out rfl
    injection hz with hz1 hz2
    subst hz1 hz2
    have rF0 : w4.cell? ⟨bF, 0, none⟩ = some (I x0.day) := kF.out.cell 0
    have zF : bF < w4.heap.size := kF.out.lt
    have zF_1 : bF < w4.heap.size + 1 := by omega
    go_wp2_with fail
    clear rF0 zF zF_1
    obtain ⟨w5, hw5⟩ : ∃ w5, w5 = (w4.alloc (.cells #[I 0, I 0] 23)) := ⟨_, rfl⟩
    have kZ : Blk w5 (w4.heap.size) 23 #[I 0, I 0] := by
      rw [hw5]
      have h := Blk.new w4 23 #[I 0, I 0]
      first | exact h | simpa only [World.size_alloc] using h
    replace kC : Hid (Blk w5 bC 25 #[I c.base, I c.lapse, I c.swing, I c.wettest, I c.coldest, I c.warmest, I c.flo, I c.fhi]) := hide (by rw [hw5]; exact (kC.out).alloc _)
    replace kS : Hid (Blk w5 bS 28 #[I no, .slice (some ⟨b, ox, none⟩) p.length nw]) := hide (by rw [hw5]; exact (kS.out).alloc _)
    replace kX : Hid (Blk w5 bX 63 #[.slice Ac s.basin.cells.length nc, .slice Ap s.basin.pairs.length np, I s.basin.gain, I s.basin.slack, I s.basin.deep, .slice Ad s.days.length nd, .slice As s.sights.length ns, .slice Ah s.changes.length nh]) := hide (by rw [hw5]; exact (kX.out).alloc _)
    replace kL : Hid (Blk w5 bL 59 #[.slice Al l.length nl2]) := hide (by rw [hw5]; exact (kL.out).alloc _)
    replace kF : Hid (Blk w5 bF 3 #[I x0.day]) := hide (by rw [hw5]; exact (kF.out).alloc _)
    have B5 : Below w.heap.size w w5 := by rw [hw5]; exact bup B4 (below1 _ _)
    rw [← hw5]
    clear hw5 B4
    obtain ⟨bZ, hbZ⟩ : ∃ b, w4.heap.size = b := ⟨_, rfl⟩
    rw [hbZ] at kZ ⊢
    replace kZ := hide kZ
    clear hbZ
    go_at_call 55
    refine (JB.out (d9) (hve.out d9 m4 (Int.le_refl _)) bC bS bX bL bF w5 B5 kC.out kS.out kX.out (kL.out.cell 0) kL.out.lt (kF.out.cell 0) kF.out.lt).mono ?_
    rintro e w6 ⟨rfl, hb⟩
    replace kC := hide (kC.out.grow hb)
    replace kS := hide (kS.out.grow hb)
    replace kX := hide (kX.out.grow hb)
    replace kL := hide (kL.out.grow hb)
    replace kF := hide (kF.out.grow hb)
    replace kZ := hide (kZ.out.grow hb)
    have B6 := bup B5 hb
    clear hb B5
    go_wp2_with fail
    go_ret
    exact ⟨rfl, B6⟩
  obtain ⟨⟨t1, t2, t3, t4⟩, tt⟩ := mT.out rfl
  replace tt := hide tt
  clear mF mT
  have u1 : IntKind.i64.wrap (z1 - 1) = z1 - 1 := IntWalk.i64_in _ (by omega)
  have rF0 : w4.cell? ⟨bF, 0, none⟩ = some (I x0.day) := kF.out.cell 0
  have zF : bF < w4.heap.size := kF.out.lt
  have zF_1 : bF < w4.heap.size + 1 := by omega
  go_upto_region 12 with fail
  clear rF0 zF zF_1
  obtain ⟨w7, hw7⟩ : ∃ w7, w7 = (w4.alloc (.cells #[I z1, I z2] 23)) := ⟨_, rfl⟩
  have kZ : Blk w7 (w4.heap.size) 23 #[I z1, I z2] := by
    rw [hw7]
    have h := Blk.new w4 23 #[I z1, I z2]
    first | exact h | simpa only [World.size_alloc] using h
  replace kC : Hid (Blk w7 bC 25 #[I c.base, I c.lapse, I c.swing, I c.wettest, I c.coldest, I c.warmest, I c.flo, I c.fhi]) := hide (by rw [hw7]; exact (kC.out).alloc _)
  replace kS : Hid (Blk w7 bS 28 #[I no, .slice (some ⟨b, ox, none⟩) p.length nw]) := hide (by rw [hw7]; exact (kS.out).alloc _)
  replace kX : Hid (Blk w7 bX 63 #[.slice Ac s.basin.cells.length nc, .slice Ap s.basin.pairs.length np, I s.basin.gain, I s.basin.slack, I s.basin.deep, .slice Ad s.days.length nd, .slice As s.sights.length ns, .slice Ah s.changes.length nh]) := hide (by rw [hw7]; exact (kX.out).alloc _)
  replace kL : Hid (Blk w7 bL 59 #[.slice Al l.length nl2]) := hide (by rw [hw7]; exact (kL.out).alloc _)
  replace kF : Hid (Blk w7 bF 3 #[I x0.day]) := hide (by rw [hw7]; exact (kF.out).alloc _)
  have B25 : Below w.heap.size w w7 := by rw [hw7]; exact bup B4 (below1 _ _)
  rw [← hw7]
  clear hw7 B4
  obtain ⟨bZ, hbZ⟩ : ∃ b, w4.heap.size = b := ⟨_, rfl⟩
  rw [hbZ] at kZ ⊢
  replace kZ := hide kZ
  clear hbZ
  go_cut [115] from 81 (fun c_ w_ => c_ = .bool false ∧ Hid (Blk w_ bC 25 #[I c.base, I c.lapse, I c.swing, I c.wettest, I c.coldest, I c.warmest, I c.flo, I c.fhi]) ∧ Hid (Blk w_ bS 28 #[I no, .slice (some ⟨b, ox, none⟩) p.length nw]) ∧ Hid (Blk w_ bX 63 #[.slice Ac s.basin.cells.length nc, .slice Ap s.basin.pairs.length np, I s.basin.gain, I s.basin.slack, I s.basin.deep, .slice Ad s.days.length nd, .slice As s.sights.length ns, .slice Ah s.changes.length nh]) ∧ Hid (Blk w_ bL 59 #[.slice Al l.length nl2]) ∧ Hid (Blk w_ bF 3 #[I x0.day]) ∧ Hid (Blk w_ bZ 23 #[I z1, I z2]) ∧ Hid (Below w.heap.size w w_))
  case first =>
    have rF0 : w7.cell? ⟨bF, 0, none⟩ = some (I x0.day) := kF.out.cell 0
    have zF : bF < w7.heap.size := kF.out.lt
    obtain ⟨rZ0, rZ1⟩ := kZ.out.cells2
    have zZ : bZ < w7.heap.size := kZ.out.lt
    go_wp2_with fail
    clear rF0 zF rZ0 rZ1 zZ
    go_at_call 55
    refine (JB.out (z1) (hve.out z1 t1 t2) bC bS bX bL bF w7 B25 kC.out kS.out kX.out (kL.out.cell 0) kL.out.lt (kF.out.cell 0) kF.out.lt).mono ?_
    rintro e w8 ⟨rfl, hb⟩
    replace kC := hide (kC.out.grow hb)
    replace kS := hide (kS.out.grow hb)
    replace kX := hide (kX.out.grow hb)
    replace kL := hide (kL.out.grow hb)
    replace kF := hide (kF.out.grow hb)
    replace kZ := hide (kZ.out.grow hb)
    have B26 := bup B25 hb
    clear hb B25
    rcases ilt x0.day z1 with g3 | g3
    case inr =>
      have rF0 : w8.cell? ⟨bF, 0, none⟩ = some (I x0.day) := kF.out.cell 0
      have zF : bF < w8.heap.size := kF.out.lt
      obtain ⟨rZ0, rZ1⟩ := kZ.out.cells2
      have zZ : bZ < w8.heap.size := kZ.out.lt
      go_wp2_with fail
      go_meet
      exact ⟨(by first | rfl | (simp <;> omega)), kC, kS, kX, kL, kF, kZ, hide B26⟩
    have t5 := t4 g3
    have rF0 : w8.cell? ⟨bF, 0, none⟩ = some (I x0.day) := kF.out.cell 0
    have zF : bF < w8.heap.size := kF.out.lt
    obtain ⟨rZ0, rZ1⟩ := kZ.out.cells2
    have zZ : bZ < w8.heap.size := kZ.out.lt
    go_wp2_with fail
    clear rF0 zF rZ0 rZ1 zZ
    go_at_call 55
    refine (JB.out (z1 - 1) (hve.out (z1 - 1) (by omega) (by omega)) bC bS bX bL bF w8 B26 kC.out kS.out kX.out (kL.out.cell 0) kL.out.lt (kF.out.cell 0) kF.out.lt).mono ?_
    rintro e w9 ⟨rfl, hb⟩
    replace kC := hide (kC.out.grow hb)
    replace kS := hide (kS.out.grow hb)
    replace kX := hide (kX.out.grow hb)
    replace kL := hide (kL.out.grow hb)
    replace kF := hide (kF.out.grow hb)
    replace kZ := hide (kZ.out.grow hb)
    have B47 := bup B26 hb
    clear hb B26
    go_wp2_with fail
    go_meet
    exact ⟨(by first | rfl | (simp <;> omega)), kC, kS, kX, kL, kF, kZ, hide B47⟩
  case rest =>
  obtain ⟨rfl, hC, hS, hX, hL, hF, hZ, hbw⟩ := hcut
  clear kC kS kX kL kF kZ B25
  have kC := hC
  have kS := hS
  have kX := hX
  have kL := hL
  have kF := hF
  have kZ := hZ
  have BQ := hbw.out
  clear hC hS hX hL hF hZ hbw t3 t4
  rcases tt.out with ⟨rfl, s1⟩ | ⟨s0, s1, s2, s3, s4⟩
  case inl =>
    clear tt
    have rF0 : wc.cell? ⟨bF, 0, none⟩ = some (I x0.day) := kF.out.cell 0
    have zF : bF < wc.heap.size := kF.out.lt
    obtain ⟨rZ0, rZ1⟩ := kZ.out.cells2
    have zZ : bZ < wc.heap.size := kZ.out.lt
    go_wp2_with fail
    clear rF0 zF rZ0 rZ1 zZ
    go_at_call 55
    refine (JB.out (d9) (hve.out d9 m4 (Int.le_refl _)) bC bS bX bL bF wc BQ kC.out kS.out kX.out (kL.out.cell 0) kL.out.lt (kF.out.cell 0) kF.out.lt).mono ?_
    rintro e w10 ⟨rfl, hb⟩
    replace kC := hide (kC.out.grow hb)
    replace kS := hide (kS.out.grow hb)
    replace kX := hide (kX.out.grow hb)
    replace kL := hide (kL.out.grow hb)
    replace kF := hide (kF.out.grow hb)
    replace kZ := hide (kZ.out.grow hb)
    have B86 := bup BQ hb
    clear hb BQ
    go_wp2_with fail
    go_ret
    exact ⟨rfl, B86⟩
  clear tt
  have s0a : (z2 == 1048578) = false := by simpa using s0
  have u2 : IntKind.i64.wrap (z2 - 1) = z2 - 1 := IntWalk.i64_in _ (by omega)
  have rF0 : wc.cell? ⟨bF, 0, none⟩ = some (I x0.day) := kF.out.cell 0
  have zF : bF < wc.heap.size := kF.out.lt
  obtain ⟨rZ0, rZ1⟩ := kZ.out.cells2
  have zZ : bZ < wc.heap.size := kZ.out.lt
  go_wp2_with fail
  clear rF0 zF rZ0 rZ1 zZ
  go_at_call 55
  refine (JB.out (z2) (hve.out z2 (by omega) s2) bC bS bX bL bF wc BQ kC.out kS.out kX.out (kL.out.cell 0) kL.out.lt (kF.out.cell 0) kF.out.lt).mono ?_
  rintro e w11 ⟨rfl, hb⟩
  replace kC := hide (kC.out.grow hb)
  replace kS := hide (kS.out.grow hb)
  replace kX := hide (kX.out.grow hb)
  replace kL := hide (kL.out.grow hb)
  replace kF := hide (kF.out.grow hb)
  replace kZ := hide (kZ.out.grow hb)
  have B106 := bup BQ hb
  clear hb BQ
  rcases s4 with s4 | ⟨s4, s5⟩
  case inl =>
    have s6 : (z2 == x0.day) = true := by simpa using s4
    clear s4
    have rF0 : w11.cell? ⟨bF, 0, none⟩ = some (I x0.day) := kF.out.cell 0
    have zF : bF < w11.heap.size := kF.out.lt
    obtain ⟨rZ0, rZ1⟩ := kZ.out.cells2
    have zZ : bZ < w11.heap.size := kZ.out.lt
    go_wp2_with fail
    go_ret
    exact ⟨rfl, B106⟩
  have s6 : (z2 == x0.day) = false := by simp; omega
  have rF0 : w11.cell? ⟨bF, 0, none⟩ = some (I x0.day) := kF.out.cell 0
  have zF : bF < w11.heap.size := kF.out.lt
  obtain ⟨rZ0, rZ1⟩ := kZ.out.cells2
  have zZ : bZ < w11.heap.size := kZ.out.lt
  go_wp2_with fail
  clear rF0 zF rZ0 rZ1 zZ
  go_at_call 55
  refine (JB.out (z2 - 1) (hve.out (z2 - 1) (by omega) (by omega)) bC bS bX bL bF w11 B106 kC.out kS.out kX.out (kL.out.cell 0) kL.out.lt (kF.out.cell 0) kF.out.lt).mono ?_
  rintro e w12 ⟨rfl, hb⟩
  replace kC := hide (kC.out.grow hb)
  replace kS := hide (kS.out.grow hb)
  replace kX := hide (kX.out.grow hb)
  replace kL := hide (kL.out.grow hb)
  replace kF := hide (kF.out.grow hb)
  replace kZ := hide (kZ.out.grow hb)
  have B127 := bup B106 hb
  clear hb B106
  go_wp2_with fail
  go_ret
  exact ⟨rfl, B127⟩
end Go.Proofs.YtmjfdobjnnfafaaGreatDoor
