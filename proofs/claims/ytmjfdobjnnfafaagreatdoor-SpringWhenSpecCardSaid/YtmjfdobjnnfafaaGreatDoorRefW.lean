/- The reference's When. Conditions stand in the theorems. -/
import Derived.Test.YtmjfdobjnnfafaaGreatDoorRefJPack
import Derived.Test.YtmjfdobjnnfafaaGreatDoorAgainSpring9
set_option linter.all false
set_option maxHeartbeats 4000000
set_option maxRecDepth 100000
namespace Go.Proofs.YtmjfdobjnnfafaaGreatDoor
open Go.RowKit

theorem came_start {c : Climate} {p : Spring} {f : Int} (h : SprOk c p) : ∀ (cs : List Cell) (ws : List Int), cameF c p.days f (beginF p) cs ws = 0
 | [], _ => by simp [cameF]
 | x :: cs, [] => by simp [cameF]
 | x :: cs, u :: ws => by
  have ih := came_start (f := f) h cs ws
  simp only [cameF, ih]
  have hn := h.n1
  cases hd : p.days with
  | nil => rw [hd] at hn; simp at hn
  | cons y ys =>
   have hb : beginF p = y.day := by simp [beginF, hd]
   rw [hb, relF_stop (Int.le_refl _)]
   simp
theorem lo_hi_when {c : Climate} {p : Spring} {s : Scene} {l : List Int} (h : PoolIs c p s l) (d : Int) :
  loF c p.days (pickC s.basin.cells l) (lowW s l) (beginF p) d = cameF c p.days c.flo d (pickC s.basin.cells l) (lowW s l) ∧ hiF c p.days (pickC s.basin.cells l) (highW s l) (beginF p) d = cameF c p.days c.fhi d (pickC s.basin.cells l) (highW s l) := by
 have hc := h.spr.clim
 have hfl := hc.fl
 have hz := fun f (ws : List Int) => came_start (f := f) h.spr (pickC s.basin.cells l) ws
 obtain ⟨a1, f1, a2, a3⟩ := loF_is (p := p.days) (cs := pickC s.basin.cells l) (ws := lowW s l) (frm := beginF p) (til := d) hfl fun f hf => by rw [hz]; have := (h.came hf d).1; omega
 obtain ⟨b1, f2, b2, b3⟩ := hiF_is (p := p.days) (cs := pickC s.basin.cells l) (ws := highW s l) (frm := beginF p) (til := d) hfl fun f hf => by rw [hz]; have := (h.came hf d).2; omega
 have m1 := mem_facL.2 ⟨Int.le_refl c.flo, hfl⟩
 have m2 := mem_facL.2 ⟨hfl, Int.le_refl c.fhi⟩
 have a4 := a1 _ m1
 have b4 := b1 _ m2
 have a5 := came_hotter (c := c) (l := p.days) (d := d) (mem_facL.1 a2).1 (pickC s.basin.cells l) (lowW s l) h.cells
 have b5 := came_hotter (c := c) (l := p.days) (d := d) (mem_facL.1 b2).2 (pickC s.basin.cells l) (highW s l) h.cells
 rw [hz] at a3 a4 b3 b4
 omega
def FirstTo (H : Nat → Int) (v B : Int) (k : Nat) (e : Int) : Prop := (e = -1 ∧ ∀ j, j < k → H j < v) ∨ ∃ j : Nat, j < k ∧ e = B + j ∧ v ≤ H j ∧ ∀ i, i < j → H i < v
section
variable {H : Nat → Int} {v B : Int} {k : Nat} {e : Int}
theorem FirstTo.zero : FirstTo H v B 0 (-1) := .inl ⟨rfl, fun j hj => absurd hj (Nat.not_lt_zero _)⟩
theorem FirstTo.two (h : FirstTo H v B k e) (hB : 0 ≤ B) : e = -1 ∨ 0 ≤ e := by
 rcases h with ⟨h, _⟩ | ⟨j, _, h, _⟩
 ·exact .inl h
 ·exact .inr (by omega)
theorem FirstTo.keep (h : FirstTo H v B k e) (he : 0 ≤ e) : FirstTo H v B (k + 1) e := by
 rcases h with ⟨h, _⟩ | ⟨j, h1, h2⟩
 ·omega
 ·exact .inr ⟨j, by omega, h2⟩
theorem FirstTo.hit (h : FirstTo H v B k (-1)) (hB : 0 ≤ B) (hv : v ≤ H k) : FirstTo H v B (k + 1) (B + k) := by
 rcases h with ⟨_, h⟩ | ⟨j, _, h, _⟩
 ·exact .inr ⟨k, by omega, rfl, hv, h⟩
 ·omega
theorem FirstTo.miss (h : FirstTo H v B k (-1)) (hB : 0 ≤ B) (hv : H k < v) : FirstTo H v B (k + 1) (-1) := by
 rcases h with ⟨_, h⟩ | ⟨j, _, h, _⟩
 ·refine .inl ⟨rfl, fun j hj => ?_⟩
  rcases Nat.lt_or_ge j k with g | g
  ·exact h j g
  ·have : j = k := by omega
   subst this; exact hv
 ·omega
theorem FirstTo.bd (h : FirstTo H v B k e) (hB : 0 ≤ B) : -1 ≤ e ∧ e ≤ B + k := by
 rcases h with ⟨h, _⟩ | ⟨j, h1, h2, _⟩ <;> omega
end
theorem first_to {c : Climate} {p : Spring} {cs : List Cell} {ws : List Int} {f v e : Int} (hB : 0 ≤ beginF p) (h : FirstTo (fun k => cameF c p.days f (beginF p + (k : Nat)) cs ws) v (beginF p) (p.days.length + 1) e) :
  (e = -1 → firstF c p cs ws f v = 1048578) ∧ (0 ≤ e → firstF c p cs ws f v = e) := by
 unfold firstF
 rcases h with ⟨h, h2⟩ | ⟨j, h1, h2, h3, h4⟩
 ·refine ⟨fun _ => ?_, fun h' => by omega⟩
  rw [find_none fun j hj => decide_eq_false (by have := h2 j hj; simp only at this; omega)]
 ·refine ⟨fun h' => by omega, fun _ => ?_⟩
  simp only at h3 h4
  rw [find_at (p := fun k : Nat => decide (v ≤ cameF c p.days f (beginF p + (k : Nat)) cs ws)) h1 (fun i hi => decide_eq_false (by have := h4 i hi; omega)) (decide_eq_true h3), h2]
theorem spr_end2 {c : Climate} {p : Spring} (h : SprOk c p) : beginF p + (p.days.length : Int) ≤ 1048577 := by
 obtain ⟨y, hy⟩ := getElem?_of_lt (xs := p.days) (k := p.days.length - 1) (by have := h.n1; omega)
 obtain ⟨x, hx⟩ := getElem?_of_lt (xs := p.days) (k := 0) (by have := h.n1; omega)
 have hb : beginF p = x.day := by simp only [beginF]; rw [getD_of hx]
 have := succB_ok h.succ _ _ _ hy hx
 have := h.n1
 omega

theorem ref_When (c : Climate) (no : Int) (vd : Value) (p : List Weather) (s : Scene) (V : SceneV) (vl : Value) (l : List Int) (v : Int) (w : World) (hs : SceneAt w s V) (hl : Sl w 1 intC vl l) (hd : Sl w 3 Weather.cells vd p) :
  Calls Tryz.prog 50 #[c.v, .agg #[I no, vd], s.v V, vl, I v] w fun e w' => e = .returned (.tuple #[.agg #[I (whenV c ⟨no, p⟩ s l v).1, I (whenV c ⟨no, p⟩ s l v).2], .bool (whenB c ⟨no, p⟩ s l v), I (whenE c ⟨no, p⟩ s l v)]) ∧ Below w.heap.size w w' := by
 have H1 := hide (fun w' => ref_CheckClimate c w')
 have H2 := hide (fun w' (hb : Below w.heap.size w w') => ref_CheckSpring c no vd p w' (hd.mono hb))
 have H3 := hide (fun w' (hb : Below w.heap.size w w') => ref5_Check s V w' (hs.mono hb))
 have H4 := hide (fun (h1 : springE c ⟨no, p⟩ = 0) (h2 : sceneE s = 0) w' (hb : Below w.heap.size w w') => ref_begins no vd p s V vl l w' (SprOk.of h1).n1 (SceneOk.of h2).hd1 (hd.mono hb) (hs.mono hb) (hl.mono hb))
 have H5 := hide (fun b (hb : inB v 0 1099511627776 = b) w' => within_is hb w')
 have H6 := hide (fun (h2 : sceneE s = 0) w' (hb : Below w.heap.size w w') => ref_ends s V w' (hs.mono hb) h2)
 have H7 := hide (fun (h1 : springE c ⟨no, p⟩ = 0) (h2 : sceneE s = 0) (h3 : leastE s = 0) (hch : chosenB s l = true) (a b : Int) (hab : a ≤ b) va vb w' (hb : Below w.heap.size w w') hva hvb => ref_volume c no vd p s V va vb vl l a b w' h1 h2 h3 hch hab (hs.mono hb) (hl.mono hb) (hd.mono hb) hva hvb)
 have H8 := hide (fun (h1 : springE c ⟨no, p⟩ = 0) w' (hb : Below w.heap.size w w') => ref_Start no vd p w' (SprOk.of h1).n1 (hd.mono hb))
 have H9 := hide (fun (h1 : springE c ⟨no, p⟩ = 0) w' (hb : Below w.heap.size w w') => ref_End no vd p w' (SprOk.of h1).n1 (SprOk.of h1).beg (SprOk.of h1).n2 (hd.mono hb))
 have hdef : whenE c ⟨no, p⟩ s l v = if springE c ⟨no, p⟩ ≠ 0 then springE c ⟨no, p⟩ else if sceneE s ≠ 0 then sceneE s else if beginsB s ⟨no, p⟩ = false then 1 else if chosenB s l = false then 1 else if inB v 0 1099511627776 = false then 1 else poolsE s := rfl
 obtain ⟨E, hE⟩ : ∃ E, whenE c ⟨no, p⟩ s l v = E := ⟨_, rfl⟩
 obtain ⟨X, hX⟩ : ∃ E, (whenV c ⟨no, p⟩ s l v).1 = E := ⟨_, rfl⟩
 obtain ⟨Y, hY⟩ : ∃ E, (whenV c ⟨no, p⟩ s l v).2 = E := ⟨_, rfl⟩
 obtain ⟨Q, hQ⟩ : ∃ E, whenB c ⟨no, p⟩ s l v = E := ⟨_, rfl⟩
 have hbad : ∀ e, E = e → e ≠ 0 → E = e ∧ X = 0 ∧ Y = 0 ∧ Q = false := fun e h h' => by
  have h8 : whenB c ⟨no, p⟩ s l v = false := by simp [whenB, hE, h, h']
  have h9 : whenV c ⟨no, p⟩ s l v = (0, 0) := by simp [whenV, h8]
  rw [← hX, ← hY, ← hQ, h8, h9]
  exact ⟨h, rfl, rfl, rfl⟩
 have hno : E = 0 → whenLo c ⟨no, p⟩ s l v = 1048578 → X = 0 ∧ Y = 0 ∧ Q = false := fun h h' => by
  have h8 : whenB c ⟨no, p⟩ s l v = false := by simp [whenB, hE, h, h']
  have h9 : whenV c ⟨no, p⟩ s l v = (0, 0) := by simp [whenV, h8]
  rw [← hX, ← hY, ← hQ, h8, h9]
  exact ⟨rfl, rfl, rfl⟩
 have hyes : E = 0 → whenLo c ⟨no, p⟩ s l v ≤ 1048577 → X = whenLo c ⟨no, p⟩ s l v ∧ Y = whenHi c ⟨no, p⟩ s l v ∧ Q = true := fun h h' => by
  have h8 : whenB c ⟨no, p⟩ s l v = true := by simp [whenB, hE, h, h']
  have h9 : whenV c ⟨no, p⟩ s l v = (whenLo c ⟨no, p⟩ s l v, whenHi c ⟨no, p⟩ s l v) := by simp [whenV, h8]
  rw [← hX, ← hY, ← hQ, h8, h9]
  exact ⟨rfl, rfl, rfl⟩
 rw [hE] at hdef
 rw [hE, hX, hY, hQ]
 clear hE hX hY hQ
 replace hdef := hide hdef
 replace hbad := hide hbad
 replace hno := hide hno
 replace hyes := hide hyes
 obtain ⟨vc, vp, vD, vs, vh⟩ := V
 obtain ⟨Ac, nc, rfl, _⟩ := (show Sl w 4 Cell.cells vc s.basin.cells from hs.cells).open_
 obtain ⟨Ap, np, rfl, _⟩ := (show Sl w 2 pairC vp s.basin.pairs from hs.pairs).open_
 obtain ⟨Ad, nd, rfl, _⟩ := (show Sl w 1 intC vD s.days from hs.days).open_
 obtain ⟨As, ns, rfl, _⟩ := (show Sl w 5 Sight.cells vs s.sights from hs.sights).open_
 obtain ⟨Ah, nh, rfl, _⟩ := (show Sl w 5 Change.cells vh s.changes from hs.changes).open_
 unfold Scene.v Basin.v Climate.v at *
 simp only at *
 clear hs hl hd
 go_enter Tryz.func50, Tryz.ntmps50
 go_wp2_with fail
 obtain ⟨wq, hwq⟩ : ∃ W, W = (((w.alloc (.cells (c8 c) 25)).alloc (.cells #[I no, vd] 28)).alloc (.cells (s8 s Ac nc Ap np Ad nd As ns Ah nh) 63)).alloc (.cells #[I 0, I 0] 23) := ⟨_, rfl⟩
 have hQ := hide (show QAt c no vd (s8 s Ac nc Ap np Ad nd As ns Ah nh) w wq by rw [hwq]; exact QAt.new _ _ _ _ _)
 rw [← hwq]
 clear hwq
 go_at_call 24
 refine (H1.out _).mono ?_
 rintro e wq ⟨rfl, hbn⟩
 replace hQ := hide (hQ.out.grow hbn)
 clear hbn
 obtain ⟨zc, c0, c1, c2, c3, c4, c5, c6, c7, zP, p0, p1, s0, s1, s2, s3, s4, s5, s6, s7, zS, zR, r0, r1, fr0, fr1⟩ := hQ.out.facts
 cases h1 : climateOk c
 case false =>
  obtain ⟨e1, e2⟩ := clim61 (p := ⟨no, p⟩) h1
  rw [e2]
  obtain ⟨hq1, hq2, hq3, hq4⟩ := hbad.out 61 (by rw [hdef.out, e1]; rfl) (by decide)
  subst hq1; subst hq2; subst hq3; subst hq4
  clear e1 e2 H2 H3 H4 H5 H6 H7 H8 H9 hno hyes hdef hbad
  obtain ⟨x0, x1, B9⟩ := hQ.out.ret (I 0) (I 0)
  go_wp2_with fail
  generalize (wq.setCell ⟨w.heap.size + 1 + 1 + 1, 0, none⟩ (I 0)).setCell ⟨w.heap.size + 1 + 1 + 1, 1, none⟩ (I 0) = Wz at x0 x1 B9 ⊢
  refine bodyPost_ret (v := .tuple #[.agg #[I 0, I 0], .bool false, I (61)]) (by simp [results, Tryz.results50, go_sem, x0, x1]) rfl ⟨rfl, B9⟩
 rw [clim0 h1]
 go_wp2_with fail
 go_at_call 28
 refine (H2.out _ hQ.out.below).mono ?_
 rintro e wq ⟨rfl, hbn⟩
 replace hQ := hide (hQ.out.grow hbn)
 clear hbn
 clear zc c0 c1 c2 c3 c4 c5 c6 c7 zP p0 p1 s0 s1 s2 s3 s4 s5 s6 s7 zS zR r0 r1 fr0 fr1
 obtain ⟨zc, c0, c1, c2, c3, c4, c5, c6, c7, zP, p0, p1, s0, s1, s2, s3, s4, s5, s6, s7, zS, zR, r0, r1, fr0, fr1⟩ := hQ.out.facts
 by_cases h2 : springE c ⟨no, p⟩ = 0
 case neg =>
  have h3 := spring62 h1 h2
  rw [h3]
  obtain ⟨hq1, hq2, hq3, hq4⟩ := hbad.out 62 (by rw [hdef.out, if_pos h2, h3]) (by decide)
  subst hq1; subst hq2; subst hq3; subst hq4
  clear h2 h3 H3 H4 H5 H6 H7 H8 H9 hno hyes hdef hbad
  obtain ⟨x0, x1, B9⟩ := hQ.out.ret (I 0) (I 0)
  go_wp2_with fail
  generalize (wq.setCell ⟨w.heap.size + 1 + 1 + 1, 0, none⟩ (I 0)).setCell ⟨w.heap.size + 1 + 1 + 1, 1, none⟩ (I 0) = Wz at x0 x1 B9 ⊢
  refine bodyPost_ret (v := .tuple #[.agg #[I 0, I 0], .bool false, I (62)]) (by simp [results, Tryz.results50, go_sem, x0, x1]) rfl ⟨rfl, B9⟩
 rw [h2]
 go_wp2_with fail
 go_at_call 130
 refine (H3.out _ hQ.out.below).mono ?_
 rintro e wq ⟨rfl, hbn⟩
 replace hQ := hide (hQ.out.grow hbn)
 clear hbn
 clear zc c0 c1 c2 c3 c4 c5 c6 c7 zP p0 p1 s0 s1 s2 s3 s4 s5 s6 s7 zS zR r0 r1 fr0 fr1
 obtain ⟨zc, c0, c1, c2, c3, c4, c5, c6, c7, zP, p0, p1, s0, s1, s2, s3, s4, s5, s6, s7, zS, zR, r0, r1, fr0, fr1⟩ := hQ.out.facts
 by_cases h3 : sceneE s = 0
 case neg =>
  have hne : (sceneE s != 0) = true := by simpa using h3
  obtain ⟨hq1, hq2, hq3, hq4⟩ := hbad.out (sceneE s) (by rw [hdef.out, if_neg (by simpa using h2), if_pos h3]) h3
  obtain ⟨F, hF⟩ : ∃ F, sceneE s = F := ⟨_, rfl⟩
  rw [hF] at hq1 hne ⊢
  subst hq1; subst hq2; subst hq3; subst hq4
  clear h2 h3 hF H3 H4 H5 H6 H7 H8 H9 hno hyes hdef hbad
  obtain ⟨x0, x1, B9⟩ := hQ.out.ret (I 0) (I 0)
  go_wp2_with fail
  generalize (wq.setCell ⟨w.heap.size + 1 + 1 + 1, 0, none⟩ (I 0)).setCell ⟨w.heap.size + 1 + 1 + 1, 1, none⟩ (I 0) = Wz at x0 x1 B9 ⊢
  refine bodyPost_ret (v := .tuple #[.agg #[I 0, I 0], .bool false, I (E)]) (by simp [results, Tryz.results50, go_sem, x0, x1]) rfl ⟨rfl, B9⟩
 rw [h3]
 go_wp2_with fail
 go_at_call 131
 refine (H4.out h2 h3 _ hQ.out.below).mono ?_
 rintro e wq ⟨rfl, hbn⟩
 replace hQ := hide (hQ.out.grow hbn)
 clear hbn
 clear zc c0 c1 c2 c3 c4 c5 c6 c7 zP p0 p1 s0 s1 s2 s3 s4 s5 s6 s7 zS zR r0 r1 fr0 fr1
 obtain ⟨zc, c0, c1, c2, c3, c4, c5, c6, c7, zP, p0, p1, s0, s1, s2, s3, s4, s5, s6, s7, zS, zR, r0, r1, fr0, fr1⟩ := hQ.out.facts
 cases h4 : (beginsB s ⟨no, p⟩ && chosenB s l)
 case false =>
  obtain ⟨hq1, hq2, hq3, hq4⟩ := hbad.out 1 (by
   rw [hdef.out, if_neg (by simpa using h2), if_neg (by simpa using h3)]
   cases hb1 : beginsB s ⟨no, p⟩ <;> cases hb2 : chosenB s l <;> simp [hb1, hb2] at h4 ⊢) (by decide)
  subst hq1; subst hq2; subst hq3; subst hq4
  clear h2 h3 h4 H3 H4 H5 H6 H7 H8 H9 hno hyes hdef hbad
  obtain ⟨x0, x1, B9⟩ := hQ.out.ret (I 0) (I 0)
  go_wp2_with fail
  generalize (wq.setCell ⟨w.heap.size + 1 + 1 + 1, 0, none⟩ (I 0)).setCell ⟨w.heap.size + 1 + 1 + 1, 1, none⟩ (I 0) = Wz at x0 x1 B9 ⊢
  refine bodyPost_ret (v := .tuple #[.agg #[I 0, I 0], .bool false, I (1)]) (by simp [results, Tryz.results50, go_sem, x0, x1]) rfl ⟨rfl, B9⟩
 obtain ⟨h5, h6⟩ := Bool.and_eq_true_iff.1 h4
 cases h7 : inB v 0 1099511627776
 case false =>
  obtain ⟨hq1, hq2, hq3, hq4⟩ := hbad.out 1 (by
   rw [hdef.out, if_neg (by simpa using h2), if_neg (by simpa using h3), if_neg (by simp [h5]), if_neg (by simp [h6]), if_pos h7]) (by decide)
  subst hq1; subst hq2; subst hq3; subst hq4
  have H57 := hide (H5.out false h7)
  clear h2 h3 h4 h5 h6 h7 H3 H4 H5 H6 H7 H8 H9 hno hyes hdef hbad
  go_wp2_with fail
  go_at_call 89; refine (H57.out _).mono ?_; rintro e wn ⟨rfl, rfl⟩
  obtain ⟨x0, x1, B9⟩ := hQ.out.ret (I 0) (I 0)
  go_wp2_with fail
  generalize (wq.setCell ⟨w.heap.size + 1 + 1 + 1, 0, none⟩ (I 0)).setCell ⟨w.heap.size + 1 + 1 + 1, 1, none⟩ (I 0) = Wz at x0 x1 B9 ⊢
  refine bodyPost_ret (v := .tuple #[.agg #[I 0, I 0], .bool false, I (1)]) (by simp [results, Tryz.results50, go_sem, x0, x1]) rfl ⟨rfl, B9⟩
 have hEp := hide (show E = poolsE s by rw [hdef.out, if_neg (by simpa using h2), if_neg (by simpa using h3), if_neg (by simp [h5]), if_neg (by simp [h6]), if_neg (by simp [h7])])
 have hEl := hide (pools_least h3)
 have H57 := hide (H5.out true h7)
 go_wp2_with fail
 go_at_call 89; refine (H57.out _).mono ?_; rintro e wn ⟨rfl, rfl⟩
 go_wp2_with fail
 go_at_call 132
 refine (H6.out h3 _ hQ.out.below).mono ?_
 rintro e wq ⟨va, vb, rfl, hsl, hbn⟩
 replace hQ := hide (hQ.out.grow hbn)
 clear hbn
 clear zc c0 c1 c2 c3 c4 c5 c6 c7 zP p0 p1 s0 s1 s2 s3 s4 s5 s6 s7 zS zR r0 r1 fr0 fr1
 obtain ⟨zc, c0, c1, c2, c3, c4, c5, c6, c7, zP, p0, p1, s0, s1, s2, s3, s4, s5, s6, s7, zS, zR, r0, r1, fr0, fr1⟩ := hQ.out.facts
 by_cases h8 : poolsE s = 0
 case neg =>
  have hne : (poolsE s != 0) = true := by simpa using h8
  obtain ⟨hq1, hq2, hq3, hq4⟩ := hbad.out (poolsE s) hEp.out h8
  obtain ⟨F, hF⟩ : ∃ F, poolsE s = F := ⟨_, rfl⟩
  rw [hF] at hq1 hne ⊢
  subst hq1; subst hq2; subst hq3; subst hq4
  clear h2 h3 h4 h5 h6 h7 h8 hF hsl hEp hEl H57 H3 H4 H5 H6 H7 H8 H9 hno hyes hdef hbad
  obtain ⟨x0, x1, B9⟩ := hQ.out.ret (I 0) (I 0)
  go_wp2_with fail
  generalize (wq.setCell ⟨w.heap.size + 1 + 1 + 1, 0, none⟩ (I 0)).setCell ⟨w.heap.size + 1 + 1 + 1, 1, none⟩ (I 0) = Wz at x0 x1 B9 ⊢
  refine bodyPost_ret (v := .tuple #[.agg #[I 0, I 0], .bool false, I (E)]) (by simp [results, Tryz.results50, go_sem, x0, x1]) rfl ⟨rfl, B9⟩
 obtain ⟨k1, k2⟩ := hsl h8
 rw [h8]
 have hE0 : E = 0 := by rw [hEp.out, h8]
 have h9 : leastE s = 0 := by rw [← hEl.out]; exact h8
 have hpool := pool_is (c := c) (p := ⟨no, p⟩) (l := l) h2 h3 h9 (great_of_least h3 h9)
 have hLH := fun d => lo_hi_when hpool d
 have hno1 := hno.out hE0
 have hyes1 := hyes.out hE0
 obtain ⟨FL, hFL⟩ : ∃ F : Nat → Int, F = fun (k : Nat) => cameF c p c.flo (beginF ⟨no, p⟩ + (k : Nat)) (pickC s.basin.cells l) (lowW s l) := ⟨_, rfl⟩
 obtain ⟨FH, hFH⟩ : ∃ F : Nat → Int, F = fun (k : Nat) => cameF c p c.fhi (beginF ⟨no, p⟩ + (k : Nat)) (pickC s.basin.cells l) (highW s l) := ⟨_, rfl⟩
 have hspr := hpool.spr
 have hbg := hspr.beg
 have hn2 : p.length ≤ 512 := hspr.n2
 have hend : beginF ⟨no, p⟩ + (p.length : Int) ≤ 1048577 := spr_end2 hspr
 have HV := fun (k : Nat) w' hb hva hvb => H7.out h2 h3 h9 h6 (beginF ⟨no, p⟩) (beginF ⟨no, p⟩ + (k : Nat)) (by omega) va vb w' hb hva hvb
 have hL1 := fun (k : Nat) => (hLH (beginF ⟨no, p⟩ + (k : Nat))).1
 have hH1 := fun (k : Nat) => (hLH (beginF ⟨no, p⟩ + (k : Nat))).2
 (try simp only at hL1 hH1)
 have eL := fun (k : Nat) => (congrFun hFL k).symm
 have eH := fun (k : Nat) => (congrFun hFH k).symm
 (try simp only at eL eH)
 simp only [hL1, hH1, eL, eH] at HV
 have hfe := fun e (h : FirstTo FH v (beginF ⟨no, p⟩) (p.length + 1) e) => first_to (c := c) (p := ⟨no, p⟩) (cs := pickC s.basin.cells l) (ws := highW s l) (f := c.fhi) hbg.1 (by rw [hFH] at h; exact h)
 have hfl := fun e (h : FirstTo FL v (beginF ⟨no, p⟩) (p.length + 1) e) => first_to (c := c) (p := ⟨no, p⟩) (cs := pickC s.basin.cells l) (ws := lowW s l) (f := c.flo) hbg.1 (by rw [hFL] at h; exact h)
 have hee : endF ⟨no, p⟩ = beginF ⟨no, p⟩ + (p.length : Int) := rfl
 have HS := hide (H8.out h2)
 have HE := H9.out h2
 rw [hee] at HE
 replace HE := hide HE
 subst hE0
 obtain ⟨bg, hbg2⟩ : ∃ b, beginF ⟨no, p⟩ = b := ⟨_, rfl⟩
 rw [hbg2] at hbg hend HV HS HE
 simp only [hbg2] at hfe hfl
 unfold whenLo at hno1
 unfold whenLo whenHi at hyes1
 obtain ⟨gLo, hgLo⟩ : ∃ x, firstF c ⟨no, p⟩ (pickC s.basin.cells l) (highW s l) c.fhi v = x := ⟨_, rfl⟩
 obtain ⟨gHi, hgHi⟩ : ∃ x, firstF c ⟨no, p⟩ (pickC s.basin.cells l) (lowW s l) c.flo v = x := ⟨_, rfl⟩
 simp only [hgLo, hgHi] at hno1 hyes1 hfe hfl
 clear hgLo hgHi hbg2 hee hspr hpool hLH hL1 hH1 eL eH hFL hFH hno hyes hdef hbad hsl hEp hEl h1 h2 h3 h4 h5 h6 h7 h8 h9 H57 H1 H2 H3 H4 H5 H6 H7 H8 H9
 replace k1 := hide k1
 replace k2 := hide k2
 replace HV := hide HV
 replace hno1 := hide hno1
 replace hyes1 := hide hyes1
 replace hfe := hide hfe
 replace hfl := hide hfl
 replace hend := hide hend
 replace hn2 := hide hn2
 obtain ⟨hbg1, hbg3⟩ := hbg
 go_wp2_with fail
 have hK1 := hide (fun w' (hb : Below wq.heap.size wq w') => k1.out.mono hb)
 have hK2 := hide (fun w' (hb : Below wq.heap.size wq w') => k2.out.mono hb)
 obtain ⟨w9, hw9⟩ : ∃ W, W = wq := ⟨_, rfl⟩
 rw [← hw9] at hK1 hK2
 have hB9 := hide (show Below w9.heap.size w9 wq by rw [hw9]; exact Below.refl _ _)
 clear hw9 k1 k2
 go_at_call 119
 refine (HS.out _ hQ.out.below).mono ?_
 rintro e wq ⟨rfl, hbn⟩
 replace hB9 := hide (bup hB9.out hbn)
 replace hQ := hide (hQ.out.grow hbn)
 clear hbn
 clear zc c0 c1 c2 c3 c4 c5 c6 c7 zP p0 p1 s0 s1 s2 s3 s4 s5 s6 s7 zS zR r0 r1 fr0 fr1
 go_wp2_with fail
 go_loopw [17, 18, 19, 20] (fun ea la d _ wr => ∃ (k : Nat) (x y : Int), k ≤ p.length + 1 ∧ d = I (bg + k) ∧ ea = I x ∧ la = I y ∧ Hid (FirstTo FH v bg k x) ∧ Hid (FirstTo FL v bg k y) ∧ Hid (QAt c no vd (s8 s Ac nc Ap np Ad nd As ns Ah nh) w wr) ∧ Hid (Below w9.heap.size w9 wr)) (fun _ _ d _ _ => p.length + 1 - (intOf d - bg).toNat)
 case atStart => exact ⟨0, -1, -1, by omega, by simp, rfl, rfl, hide FirstTo.zero, hide FirstTo.zero, hQ, hB9⟩
 case round =>
  obtain ⟨k, x, y, hkl, rfl, rfl, rfl, hx, hy, hJ, hB8⟩ := hrel
  clear hQ hB9
  have hQ := hJ
  clear hJ
  obtain ⟨wq, hwq⟩ : ∃ W, W = wr := ⟨_, rfl⟩
  rw [← hwq] at hQ hB8 ⊢
  clear hwq wr
  obtain ⟨zc, c0, c1, c2, c3, c4, c5, c6, c7, zP, p0, p1, s0, s1, s2, s3, s4, s5, s6, s7, zS, zR, r0, r1, fr0, fr1⟩ := hQ.out.facts
  have hn3 := hn2.out
  have y1 : IntKind.i64.wrap (bg + (k : Int) + 1) = bg + ((k + 1 : Nat) : Int) := by rw [IntWalk.i64_in _ (by omega)]; push_cast; omega
  obtain ⟨x1, x2⟩ := hx.out.bd hbg1
  obtain ⟨y2, y3⟩ := hy.out.bd hbg1
  go_wp2_with fail
  go_at_call 120
  refine (HE.out _ hQ.out.below).mono ?_
  rintro e wq ⟨rfl, hbn⟩
  replace hB8 := hide (bup hB8.out hbn)
  replace hQ := hide (hQ.out.grow hbn)
  clear hbn
  clear zc c0 c1 c2 c3 c4 c5 c6 c7 zP p0 p1 s0 s1 s2 s3 s4 s5 s6 s7 zS zR r0 r1 fr0 fr1
  obtain ⟨zc, c0, c1, c2, c3, c4, c5, c6, c7, zP, p0, p1, s0, s1, s2, s3, s4, s5, s6, s7, zS, zR, r0, r1, fr0, fr1⟩ := hQ.out.facts
  by_cases hlt : k < p.length + 1
  case pos =>
   have hle : bg + (k : Int) ≤ bg + (p.length : Int) := by omega
   have HV1 := hide (HV.out k)
   obtain ⟨lo, hlo⟩ : ∃ z, FL k = z := ⟨_, rfl⟩
   obtain ⟨hi, hhi⟩ : ∃ z, FH k = z := ⟨_, rfl⟩
   rw [hlo, hhi] at HV1
   replace hlo := hide hlo
   replace hhi := hide hhi
   obtain ⟨d, hdk⟩ : ∃ d, bg + (k : Int) = d := ⟨_, rfl⟩
   have hdk2 := hide hdk
   have hd0 : 0 ≤ d := by omega
   rw [hdk] at hle HV1 y1 x2 y3 ⊢
   clear hdk
   go_wp2_with fail
   have HSw : Hid (∀ W : World, Below wq.heap.size wq W → (fun W : World => W.cell? ⟨w.heap.size, 0, none⟩ = some (I c.base) ∧ W.cell? ⟨w.heap.size, 1, none⟩ = some (I c.lapse) ∧ W.cell? ⟨w.heap.size, 2, none⟩ = some (I c.swing) ∧ W.cell? ⟨w.heap.size, 3, none⟩ = some (I c.wettest) ∧ W.cell? ⟨w.heap.size, 4, none⟩ = some (I c.coldest) ∧ W.cell? ⟨w.heap.size, 5, none⟩ = some (I c.warmest) ∧ W.cell? ⟨w.heap.size, 6, none⟩ = some (I c.flo) ∧ W.cell? ⟨w.heap.size, 7, none⟩ = some (I c.fhi) ∧ W.cell? ⟨w.heap.size + 1, 0, none⟩ = some (I no) ∧ W.cell? ⟨w.heap.size + 1, 1, none⟩ = some (vd) ∧ W.cell? ⟨w.heap.size + 1 + 1, 0, none⟩ = some (.slice Ac s.basin.cells.length nc) ∧ W.cell? ⟨w.heap.size + 1 + 1, 1, none⟩ = some (.slice Ap s.basin.pairs.length np) ∧ W.cell? ⟨w.heap.size + 1 + 1, 2, none⟩ = some (I s.basin.gain) ∧ W.cell? ⟨w.heap.size + 1 + 1, 3, none⟩ = some (I s.basin.slack) ∧ W.cell? ⟨w.heap.size + 1 + 1, 4, none⟩ = some (I s.basin.deep)) W) := hide fun W hW => by
    have q := hQ.out.grow hW
    exact ⟨q.clim.cell 0, q.clim.cell 1, q.clim.cell 2, q.clim.cell 3, q.clim.cell 4, q.clim.cell 5, q.clim.cell 6, q.clim.cell 7, q.spr.cell 0, q.spr.cell 1, q.scn.cell 0, q.scn.cell 1, q.scn.cell 2, q.scn.cell 3, q.scn.cell 4⟩
   clear zc c0 c1 c2 c3 c4 c5 c6 c7 zP p0 p1 s0 s1 s2 s3 s4 s5 s6 s7 zS zR r0 r1 fr0 fr1
   refine wp_region_zg (S := (fun W : World => W.cell? ⟨w.heap.size, 0, none⟩ = some (I c.base) ∧ W.cell? ⟨w.heap.size, 1, none⟩ = some (I c.lapse) ∧ W.cell? ⟨w.heap.size, 2, none⟩ = some (I c.swing) ∧ W.cell? ⟨w.heap.size, 3, none⟩ = some (I c.wettest) ∧ W.cell? ⟨w.heap.size, 4, none⟩ = some (I c.coldest) ∧ W.cell? ⟨w.heap.size, 5, none⟩ = some (I c.warmest) ∧ W.cell? ⟨w.heap.size, 6, none⟩ = some (I c.flo) ∧ W.cell? ⟨w.heap.size, 7, none⟩ = some (I c.fhi) ∧ W.cell? ⟨w.heap.size + 1, 0, none⟩ = some (I no) ∧ W.cell? ⟨w.heap.size + 1, 1, none⟩ = some (vd) ∧ W.cell? ⟨w.heap.size + 1 + 1, 0, none⟩ = some (.slice Ac s.basin.cells.length nc) ∧ W.cell? ⟨w.heap.size + 1 + 1, 1, none⟩ = some (.slice Ap s.basin.pairs.length np) ∧ W.cell? ⟨w.heap.size + 1 + 1, 2, none⟩ = some (I s.basin.gain) ∧ W.cell? ⟨w.heap.size + 1 + 1, 3, none⟩ = some (I s.basin.slack) ∧ W.cell? ⟨w.heap.size + 1 + 1, 4, none⟩ = some (I s.basin.deep))) 12 (by kernel_rfl) (by kernel_rfl) ?_
   have hHeld := HSw.out wq.drew (Below.refl _ _).drew
   (refine zg_tk 0 ?_; refine zg_tk 1 ?_; refine zg_tk 2 ?_; refine zg_tk 3 ?_; refine zg_tk 4 ?_; refine zg_tk 5 ?_; refine zg_tk 6 ?_; refine zg_tk 7 ?_; refine zg_tk 9 ?_; (try go_frame))
   apply viaY
   case f =>
    intro key
    refine zg_two (i := 8) (j := 11) (by decide) (by decide) rfl rfl (by kernel_rfl) (fun K_ hK_ => ?_) (fun K_ hK_ => ?_)
    ·skip
     go_simp
     refine (HS.out wq.drew (bup hQ.out.below (Below.refl _ _).drew)).mono ?_
     rintro e wa1 ⟨rfl, hb1⟩
     replace hb1 := below_drew' hb1
     have hB1a : Below wq.heap.size wq wa1 := hb1
     refine hK_.out _ _ (HSw.out _ hB1a) (fun hHeld => ?_)
     clear hK_ K_
     (try go_frame)
     refine zg_two (i := 10) (j := 11) (by decide) (by decide) rfl rfl (by kernel_rfl) (fun K_ hK_ => ?_) (fun K_ hK_ => ?_)
     ·skip
      go_simp
      refine (HV1.out wa1 (bup hQ.out.below hB1a) (hK1.out _ (bup hB8.out hB1a)) (hK2.out _ (bup hB8.out hB1a))).mono ?_
      rintro e wa2 ⟨rfl, hb2⟩
      have hB2a : Below wq.heap.size wq wa2 := bup hB1a hb2
      refine hK_.out _ _ (HSw.out _ hB2a) (fun hHeld => ?_)
      clear hK_ K_
      (try go_frame)
      refine zg_ready (i := 11) (by decide) rfl (by kernel_rfl) (fun K_ hK_ => ?_)
      go_simp
      obtain ⟨wa3, hwa3⟩ : ∃ W, W = wa2.alloc (.cells #[I 0, I 0] 23) := ⟨_, rfl⟩
      have kN : Blk wa3 wa2.heap.size 23 #[I 0, I 0] := by rw [hwa3]; exact Blk.new _ _ _
      have hB3a : Below wq.heap.size wq wa3 := by rw [hwa3]; exact bup hB2a (below1 _ _)
      rw [← hwa3]
      clear hwa3
      obtain ⟨bs, hbs⟩ : ∃ z, z = wa2.heap.size := ⟨_, rfl⟩
      rw [← hbs] at kN ⊢
      have hgN : wq.heap.size ≤ bs := by rw [hbs]; exact hB2a.size
      clear hbs
      refine hK_.out _ _ (HSw.out _ hB3a) (fun hHeld => ?_)
      clear hK_ K_
      (try go_frame)
      obtain ⟨s0, s1⟩ := kN.cells2
      have s2 := kN.frozen 0
      have s3 := kN.frozen 1
      (refine zg_ls 12 fun K_ hK_ => ?_; go_simp; skip; refine hK_.out _ _ ?_; clear hK_ K_; (try go_frame))
      have hkE := (kN.two0 (I lo)).two1 (I hi)
      have hbE := bset (bset hB3a bs 0 hgN (I lo)) bs 1 hgN (I hi)
      generalize ((wa3.setCell ⟨bs, 0, none⟩ (I lo)).setCell ⟨bs, 1, none⟩ (I hi)) = Wz at hbE hkE ⊢
      clear s0 s1 s2 s3 kN hHeld
      revert hgN
      revert hkE
      revert hbE
      revert bs
      revert Wz
      exact key.out
     ·skip
      go_simp
      obtain ⟨wa4, hwa4⟩ : ∃ W, W = wa1.alloc (.cells #[I 0, I 0] 23) := ⟨_, rfl⟩
      have kN : Blk wa4 wa1.heap.size 23 #[I 0, I 0] := by rw [hwa4]; exact Blk.new _ _ _
      have hB4a : Below wq.heap.size wq wa4 := by rw [hwa4]; exact bup hB1a (below1 _ _)
      rw [← hwa4]
      clear hwa4
      obtain ⟨bs, hbs⟩ : ∃ z, z = wa1.heap.size := ⟨_, rfl⟩
      rw [← hbs] at kN ⊢
      have hgN : wq.heap.size ≤ bs := by rw [hbs]; exact hB1a.size
      clear hbs
      refine hK_.out _ _ (HSw.out _ hB4a) (fun hHeld => ?_)
      clear hK_ K_
      (try go_frame)
      refine zg_ready (i := 10) (by decide) rfl (by kernel_rfl) (fun K_ hK_ => ?_)
      go_simp
      refine (HV1.out wa4 (bup hQ.out.below hB4a) (hK1.out _ (bup hB8.out hB4a)) (hK2.out _ (bup hB8.out hB4a))).mono ?_
      rintro e wa5 ⟨rfl, hb5⟩
      have hB5a : Below wq.heap.size wq wa5 := bup hB4a hb5
      replace kN := kN.grow hb5
      refine hK_.out _ _ (HSw.out _ hB5a) (fun hHeld => ?_)
      clear hK_ K_
      (try go_frame)
      obtain ⟨s0, s1⟩ := kN.cells2
      have s2 := kN.frozen 0
      have s3 := kN.frozen 1
      (refine zg_ls 12 fun K_ hK_ => ?_; go_simp; skip; refine hK_.out _ _ ?_; clear hK_ K_; (try go_frame))
      have hkE := (kN.two0 (I lo)).two1 (I hi)
      have hbE := bset (bset hB5a bs 0 hgN (I lo)) bs 1 hgN (I hi)
      generalize ((wa5.setCell ⟨bs, 0, none⟩ (I lo)).setCell ⟨bs, 1, none⟩ (I hi)) = Wz at hbE hkE ⊢
      clear s0 s1 s2 s3 kN hHeld
      revert hgN
      revert hkE
      revert hbE
      revert bs
      revert Wz
      exact key.out
    ·skip
     go_simp
     obtain ⟨wa6, hwa6⟩ : ∃ W, W = (wq.alloc (.cells #[I 0, I 0] 23)).drew := ⟨_, rfl⟩
     have kN : Blk wa6 wq.heap.size 23 #[I 0, I 0] := by rw [hwa6]; exact Blk.new _ _ _
     have hB6a : Below wq.heap.size wq wa6 := by rw [hwa6]; exact bup (Below.refl _ _).drew (below1 wq.drew _)
     rw [← hwa6]
     clear hwa6
     obtain ⟨bs, hbs⟩ : ∃ z, z = wq.heap.size := ⟨_, rfl⟩
     rw [← hbs] at kN ⊢
     have hgN : wq.heap.size ≤ bs := by rw [hbs]; exact Nat.le_refl _
     clear hbs
     refine hK_.out _ _ (HSw.out _ hB6a) (fun hHeld => ?_)
     clear hK_ K_
     (try go_frame)
     refine zg_ready (i := 8) (by decide) rfl (by kernel_rfl) (fun K_ hK_ => ?_)
     go_simp
     refine (HS.out wa6 (bup hQ.out.below hB6a)).mono ?_
     rintro e wa7 ⟨rfl, hb7⟩
     have hB7a : Below wq.heap.size wq wa7 := bup hB6a hb7
     replace kN := kN.grow hb7
     refine hK_.out _ _ (HSw.out _ hB7a) (fun hHeld => ?_)
     clear hK_ K_
     (try go_frame)
     refine zg_ready (i := 10) (by decide) rfl (by kernel_rfl) (fun K_ hK_ => ?_)
     go_simp
     refine (HV1.out wa7 (bup hQ.out.below hB7a) (hK1.out _ (bup hB8.out hB7a)) (hK2.out _ (bup hB8.out hB7a))).mono ?_
     rintro e wa8 ⟨rfl, hb8⟩
     have hB8a : Below wq.heap.size wq wa8 := bup hB7a hb8
     replace kN := kN.grow hb8
     refine hK_.out _ _ (HSw.out _ hB8a) (fun hHeld => ?_)
     clear hK_ K_
     (try go_frame)
     obtain ⟨s0, s1⟩ := kN.cells2
     have s2 := kN.frozen 0
     have s3 := kN.frozen 1
     (refine zg_ls 12 fun K_ hK_ => ?_; go_simp; skip; refine hK_.out _ _ ?_; clear hK_ K_; (try go_frame))
     have hkE := (kN.two0 (I lo)).two1 (I hi)
     have hbE := bset (bset hB8a bs 0 hgN (I lo)) bs 1 hgN (I hi)
     generalize ((wa8.setCell ⟨bs, 0, none⟩ (I lo)).setCell ⟨bs, 1, none⟩ (I hi)) = Wz at hbE hkE ⊢
     clear s0 s1 s2 s3 kN hHeld
     revert hgN
     revert hkE
     revert hbE
     revert bs
     revert Wz
     exact key.out
   case g =>
    intro Wz bs hbE hkE hgN
    replace hQ := hide (hQ.out.grow hbE)
    replace hB8 := hide (bup hB8.out hbE)
    obtain ⟨b0, b1⟩ := hkE.cells2
    have zb := hkE.lt
    clear HSw hkE hgN hbE HV1 hn3
    have hx0 := hx.out.two hbg1
    have hy0 := hy.out.two hbg1
    have hxs : (x = -1 ∧ v ≤ hi ∧ Hid (FirstTo FH v bg (k + 1) d)) ∨ (x = -1 ∧ hi < v ∧ Hid (FirstTo FH v bg (k + 1) x)) ∨ (0 ≤ x ∧ Hid (FirstTo FH v bg (k + 1) x)) := by
     rcases hx0 with e | e
     ·subst e
      rcases ilt hi v with m | m
      ·exact .inr (.inl ⟨rfl, m, hide (hx.out.miss hbg1 (by rw [hhi.out]; exact m))⟩)
      ·exact .inl ⟨rfl, m, hide (by rw [← hdk2.out]; exact hx.out.hit hbg1 (by rw [hhi.out]; exact m))⟩
     ·exact .inr (.inr ⟨e, hide (hx.out.keep e)⟩)
    have hys : (y = -1 ∧ v ≤ lo ∧ Hid (FirstTo FL v bg (k + 1) d)) ∨ (y = -1 ∧ lo < v ∧ Hid (FirstTo FL v bg (k + 1) y)) ∨ (0 ≤ y ∧ Hid (FirstTo FL v bg (k + 1) y)) := by
     rcases hy0 with e | e
     ·subst e
      rcases ilt lo v with m | m
      ·exact .inr (.inl ⟨rfl, m, hide (hy.out.miss hbg1 (by rw [hlo.out]; exact m))⟩)
      ·exact .inl ⟨rfl, m, hide (by rw [← hdk2.out]; exact hy.out.hit hbg1 (by rw [hlo.out]; exact m))⟩
     ·exact .inr (.inr ⟨e, hide (hy.out.keep e)⟩)
    clear hx0 hy0 hx hy hlo hhi
    rcases hxs with ⟨rfl, m1, hx⟩ | ⟨rfl, m1, hx⟩ | ⟨m1, hx⟩ <;> rcases hys with ⟨rfl, m2, hy⟩ | ⟨rfl, m2, hy⟩ | ⟨m2, hy⟩
    all_goals
     go_wp2_with fail
     go_roundw
     case rel =>
      have hdk3 := hdk2.out
      exact ⟨k + 1, _, _, by omega, by go_num, rfl, rfl, hx, hy, hQ, hB8⟩
     case measure => have hdk3 := hdk2.out; simp [intOf]; omega
  case neg =>
   have he : k = p.length + 1 := by omega
   subst he
   have hle : bg + (p.length : Int) < bg + ((p.length + 1 : Nat) : Int) := by push_cast; omega
   obtain ⟨d, hdk⟩ : ∃ d, bg + ((p.length + 1 : Nat) : Int) = d := ⟨_, rfl⟩
   rw [hdk] at hle y1 x2 y3 ⊢
   clear hdk y1
   obtain ⟨fe1, fe2⟩ := hfe.out x hx.out
   obtain ⟨fl1, fl2⟩ := hfl.out y hy.out
   have hno2 := hno1.out
   have hyes2 := hyes1.out
   rcases hx.out.two hbg1 with e | e
   ·obtain ⟨q1, q2, q3⟩ := hno2 (fe1 e)
    subst e; subst q1; subst q2; subst q3
    clear fe1 fe2 fl1 fl2 hno2 hyes2 hno1 hyes1 hfe hfl hx hy HV HS HE
    obtain ⟨x0, x1, B9⟩ := hQ.out.ret (I 0) (I 0)
    go_wp2_with fail
    generalize (wq.setCell ⟨w.heap.size + 1 + 1 + 1, 0, none⟩ (I 0)).setCell ⟨w.heap.size + 1 + 1 + 1, 1, none⟩ (I 0) = Wz at x0 x1 B9 ⊢
    refine bodyPost_ret (v := .tuple #[.agg #[I 0, I 0], .bool false, I (0)]) (by simp [results, Tryz.results50, go_sem, x0, x1]) rfl ⟨rfl, B9⟩
   ·have q0 := fe2 e
    have hxle : x ≤ 1048577 := by
     rcases hx.out with ⟨h, _⟩ | ⟨j, h1, h2, _⟩
     ·omega
     ·have := hend.out; omega
    obtain ⟨q1, q2, q3⟩ := hyes2 (by rw [q0]; exact hxle)
    rw [q0] at q1
    rcases hy.out.two hbg1 with e2 | e2
    ·rw [fl1 e2] at q2
     subst e2; subst q1; subst q2; subst q3
     clear fe1 fe2 fl1 fl2 hno2 hyes2 hno1 hyes1 hfe hfl hx hy HV HS HE q0 hxle
     obtain ⟨x0, x1, B9⟩ := hQ.out.ret (I X) (I 1048578)
     go_wp2_with fail
     generalize (wq.setCell ⟨w.heap.size + 1 + 1 + 1, 0, none⟩ (I X)).setCell ⟨w.heap.size + 1 + 1 + 1, 1, none⟩ (I 1048578) = Wz at x0 x1 B9 ⊢
     refine bodyPost_ret (v := .tuple #[.agg #[I X, I 1048578], .bool true, I (0)]) (by simp [results, Tryz.results50, go_sem, x0, x1]) rfl ⟨rfl, B9⟩
    ·rw [fl2 e2] at q2
     subst q1; subst q2; subst q3
     clear fe1 fe2 fl1 fl2 hno2 hyes2 hno1 hyes1 hfe hfl hx hy HV HS HE q0 hxle
     obtain ⟨x0, x1, B9⟩ := hQ.out.ret (I X) (I Y)
     go_wp2_with fail
     generalize (wq.setCell ⟨w.heap.size + 1 + 1 + 1, 0, none⟩ (I X)).setCell ⟨w.heap.size + 1 + 1 + 1, 1, none⟩ (I Y) = Wz at x0 x1 B9 ⊢
     refine bodyPost_ret (v := .tuple #[.agg #[I X, I Y], .bool true, I (0)]) (by simp [results, Tryz.results50, go_sem, x0, x1]) rfl ⟨rfl, B9⟩
end Go.Proofs.YtmjfdobjnnfafaaGreatDoor
