/- The reference's Volumes. Conditions stand in the theorems. -/
import Derived.Test.YtoojedjmlcdomaaGreatDoorOneVols
import Derived.Test.YtoojedjmlcdomaaGreatDoorRefSprs
import Derived.Test.YtoojedjmlcdomaaGreatDoorRefJPack
set_option linter.all false
set_option maxHeartbeats 8000000
set_option maxRecDepth 100000
namespace Go.Proofs.YtoojedjmlcdomaaGreatDoor
open Go.RowKit

structure VxAt (c : Climate) (sc : Array Value) (w0 : World) (w : World) : Prop where
 clim : Blk w (w0.heap.size) 25 (c8 c)
 scn : Blk w (w0.heap.size + 1) 38 sc
 res : Blk w (w0.heap.size + 1 + 1) 23 #[I 0, I 0]
 below : Below w0.heap.size w0 w
theorem VxAt.new (c : Climate) (sc : Array Value) (w : World) : VxAt c sc w (((w.alloc (.cells (c8 c) 25)).alloc (.cells sc 38)).alloc (.cells #[I 0, I 0] 23)) :=
 ⟨((Blk.new w _ _).alloc _).alloc _, (blk21 w _ _ _).alloc _, blk32 w _ _ _ _, below3 _ _ _ _⟩
section
variable {c : Climate} {w0 w : World}
theorem VxAt.grow {sc : Array Value} {W : World} (h : VxAt c sc w0 w) (hb : Below w.heap.size w W) : VxAt c sc w0 W := ⟨h.clim.grow hb, h.scn.grow hb, h.res.grow hb, bup h.below hb⟩
theorem VxAt.set {sc : Array Value} (h : VxAt c sc w0 w) {gV : Nat} (hg : w0.heap.size + 1 + 1 < gV) (i : Nat) (u : Value) : VxAt c sc w0 (w.setCell ⟨gV, i, none⟩ u) :=
 ⟨h.clim.far (by show _ ≠ gV; omega) _, h.scn.far (by show _ ≠ gV; omega) _, h.res.far (by show _ ≠ gV; omega) _, bset h.below _ _ (by omega) _⟩
theorem VxAt.facts {x0 x1 x2 x3 x4 x5 x6 x7 : Value} (h : VxAt c #[x0, x1, x2, x3, x4, x5, x6, x7] w0 w) : w0.heap.size < w.heap.size ∧ w.cell? ⟨w0.heap.size, 0, none⟩ = some (I c.base) ∧ w.cell? ⟨w0.heap.size, 1, none⟩ = some (I c.lapse) ∧ w.cell? ⟨w0.heap.size, 2, none⟩ = some (I c.swing) ∧ w.cell? ⟨w0.heap.size, 3, none⟩ = some (I c.wettest) ∧ w.cell? ⟨w0.heap.size, 4, none⟩ = some (I c.coldest) ∧ w.cell? ⟨w0.heap.size, 5, none⟩ = some (I c.warmest) ∧ w.cell? ⟨w0.heap.size, 6, none⟩ = some (I c.flo) ∧ w.cell? ⟨w0.heap.size, 7, none⟩ = some (I c.fhi) ∧ w0.heap.size + 1 < w.heap.size ∧ w.cell? ⟨w0.heap.size + 1, 0, none⟩ = some x0 ∧ w.cell? ⟨w0.heap.size + 1, 1, none⟩ = some x1 ∧ w.cell? ⟨w0.heap.size + 1, 2, none⟩ = some x2 ∧ w.cell? ⟨w0.heap.size + 1, 3, none⟩ = some x3 ∧ w.cell? ⟨w0.heap.size + 1, 4, none⟩ = some x4 ∧ w.cell? ⟨w0.heap.size + 1, 5, none⟩ = some x5 ∧ w.cell? ⟨w0.heap.size + 1, 6, none⟩ = some x6 ∧ w.cell? ⟨w0.heap.size + 1, 7, none⟩ = some x7 ∧ w0.heap.size + 1 + 1 < w.heap.size ∧ w.cell? ⟨w0.heap.size + 1 + 1, 0, none⟩ = some (I 0) ∧ w.cell? ⟨w0.heap.size + 1 + 1, 1, none⟩ = some (I 0) ∧ w.frozen? ⟨w0.heap.size + 1 + 1, 0, none⟩ = false ∧ w.frozen? ⟨w0.heap.size + 1 + 1, 1, none⟩ = false :=
 ⟨h.clim.lt, h.clim.cell 0, h.clim.cell 1, h.clim.cell 2, h.clim.cell 3, h.clim.cell 4, h.clim.cell 5, h.clim.cell 6, h.clim.cell 7, h.scn.lt, h.scn.cell 0, h.scn.cell 1, h.scn.cell 2, h.scn.cell 3, h.scn.cell 4, h.scn.cell 5, h.scn.cell 6, h.scn.cell 7, h.res.lt, h.res.cell 0, h.res.cell 1, h.res.frozen 0, h.res.frozen 1⟩
theorem VxAt.reads {x0 x1 x2 x3 x4 x5 x6 x7 : Value} (h : VxAt c #[x0, x1, x2, x3, x4, x5, x6, x7] w0 w) : w.cell? ⟨w0.heap.size, 0, none⟩ = some (I c.base) ∧ w.cell? ⟨w0.heap.size, 1, none⟩ = some (I c.lapse) ∧ w.cell? ⟨w0.heap.size, 2, none⟩ = some (I c.swing) ∧ w.cell? ⟨w0.heap.size, 3, none⟩ = some (I c.wettest) ∧ w.cell? ⟨w0.heap.size, 4, none⟩ = some (I c.coldest) ∧ w.cell? ⟨w0.heap.size, 5, none⟩ = some (I c.warmest) ∧ w.cell? ⟨w0.heap.size, 6, none⟩ = some (I c.flo) ∧ w.cell? ⟨w0.heap.size, 7, none⟩ = some (I c.fhi) ∧ w.cell? ⟨w0.heap.size + 1, 0, none⟩ = some x0 ∧ w.cell? ⟨w0.heap.size + 1, 1, none⟩ = some x1 ∧ w.cell? ⟨w0.heap.size + 1, 2, none⟩ = some x2 ∧ w.cell? ⟨w0.heap.size + 1, 3, none⟩ = some x3 ∧ w.cell? ⟨w0.heap.size + 1, 4, none⟩ = some x4 :=
 ⟨h.clim.cell 0, h.clim.cell 1, h.clim.cell 2, h.clim.cell 3, h.clim.cell 4, h.clim.cell 5, h.clim.cell 6, h.clim.cell 7, h.scn.cell 0, h.scn.cell 1, h.scn.cell 2, h.scn.cell 3, h.scn.cell 4⟩
theorem VxAt.ret {sc : Array Value} (h : VxAt c sc w0 w) (u v : Value) : ((w.setCell ⟨w0.heap.size + 1 + 1, 0, none⟩ u).setCell ⟨w0.heap.size + 1 + 1, 1, none⟩ v).cell? ⟨w0.heap.size + 1 + 1, 0, none⟩ = some u ∧ ((w.setCell ⟨w0.heap.size + 1 + 1, 0, none⟩ u).setCell ⟨w0.heap.size + 1 + 1, 1, none⟩ v).cell? ⟨w0.heap.size + 1 + 1, 1, none⟩ = some v ∧ Below w0.heap.size w0 ((w.setCell ⟨w0.heap.size + 1 + 1, 0, none⟩ u).setCell ⟨w0.heap.size + 1 + 1, 1, none⟩ v) := by
 have k := (h.res.two0 u).two1 v
 exact ⟨k.cell 0, k.cell 1, bset (bset h.below _ _ (by omega) _) _ _ (by omega) _⟩
end
theorem sprs_all {c : Climate} {xs : List SprL} (h : sprsE c xs = 0) : xs.all (fun x => decide (springE c x.spring = 0)) = true := by
 unfold sprsE at h
 split at h
 ·cases h
 rename_i h1
 simpa using h1
theorem vols_bad {c : Climate} {xs : List SprL} {s : Scene} {l : List Int} {frm til : Int} (h1 : climateE c = 0) (h2 : sprsE c xs = 0) (h3 : sceneE s = 0) (h4 : 0 < xs.length) {x : SprL} (hx : x ∈ xs) (h : ((beginsB s x.spring && chosenB s l) && spellB x.spring frm til) = false) : volsE c xs s l frm til = 1 := by
 unfold volsE
 rw [if_neg (by simpa using h1), if_neg (by simpa using h2), if_neg (by simpa using h3), if_neg (by omega)]
 cases hc : chosenB s l with
 | false => rfl
 | true =>
  rw [if_neg (by simp), if_pos]
  rw [List.all_eq_false]
  refine ⟨x, hx, ?_⟩
  rw [hc, Bool.and_true] at h
  simp [h]
theorem vols_good {c : Climate} {xs : List SprL} {s : Scene} {l : List Int} {frm til : Int} (h1 : climateE c = 0) (h2 : sprsE c xs = 0) (h3 : sceneE s = 0) (h4 : 0 < xs.length) (h : ∀ x ∈ xs, ((beginsB s x.spring && chosenB s l) && spellB x.spring frm til) = true) : volsE c xs s l frm til = poolsE s ∧ chosenB s l = true ∧ ∀ x ∈ xs, frm ≤ til := by
 have hp : ∀ x ∈ xs, beginsB s x.spring = true ∧ chosenB s l = true ∧ spellB x.spring frm til = true := fun x hx => by
  have := h x hx
  simp only [Bool.and_eq_true] at this
  exact ⟨this.1.1, this.1.2, this.2⟩
 obtain ⟨x, hx⟩ := getElem?_of_lt h4
 have hc := (hp x (List.mem_of_getElem? hx)).2.1
 refine ⟨?_, hc, fun x hx => by have := (hp x hx).2.2; simp only [spellB, Bool.and_eq_true, decide_eq_true_eq] at this; exact this.1.2⟩
 unfold volsE
 rw [if_neg (by simpa using h1), if_neg (by simpa using h2), if_neg (by simpa using h3), if_neg (by omega), if_neg (by simp [hc]), if_neg]
 have : xs.all (fun x => beginsB s x.spring && spellB x.spring frm til) = true := List.all_eq_true.2 fun x hx => by rw [(hp x hx).1, (hp x hx).2.2]; rfl
 simp [this]

theorem ref_Volumes (c : Climate) (v : Value) (xs : List SprL) (s : Scene) (V : SceneV) (vl : Value) (l : List Int) (frm til : Int) (w : World) (hx : SprsAt w v xs) (hs : SceneAt w s V) (hl : Sl w 1 intC vl l) :
  Calls Tryz.prog 13 #[c.v, v, s.v V, vl, I frm, I til] w fun e w' => e = .returned (.tuple #[.agg #[I (volsV c xs s l frm til).1, I (volsV c xs s l frm til).2], I (volsE c xs s l frm til)]) ∧ Below w.heap.size w w' := by
 have H1 := hide (fun w' => ref_CheckClimate c w')
 have H2 := hide (fun w' (hb : Below w.heap.size w w') => ref_springs c v xs w' (hx.mono hb))
 have H3 := hide (fun w' (hb : Below w.heap.size w w') => ref5_Check s V w' (hs.mono hb))
 have H4 := hide (fun (hok : ∀ x ∈ xs, SprOk c x.spring) (h2 : sceneE s = 0) x (h : x ∈ xs) w' (hb : Below w.heap.size w w') => ref_begins x.no x.dv x.days s V vl l w' (hok x h).n1 (SceneOk.of h2).hd1 ((hx.2 x h).mono hb) (hs.mono hb) (hl.mono hb))
 have H5 := hide (fun (hok : ∀ x ∈ xs, SprOk c x.spring) x (h : x ∈ xs) w' (hb : Below w.heap.size w w') => ref_days x.no x.dv x.days frm til w' (hok x h).n1 (hok x h).beg (hok x h).n2 ((hx.2 x h).mono hb))
 have H6 := hide (fun (h2 : sceneE s = 0) w' (hb : Below w.heap.size w w') => ref_ends s V w' (hs.mono hb) h2)
 have H7 := hide (fun (h2 : sceneE s = 0) (h3 : leastE s = 0) (hch : chosenB s l = true) x (h : x ∈ xs) (h1 : springE c x.spring = 0) (hab : frm ≤ til) va vb w' (hb : Below w.heap.size w w') hva hvb => ref_volume c x.no x.dv x.days s V va vb vl l frm til w' h1 h2 h3 hch hab (hs.mono hb) (hl.mono hb) ((hx.2 x h).mono hb) hva hvb)
 have hE0 : climateE c ≠ 0 → volsE c xs s l frm til = climateE c := fun h => by unfold volsE; rw [if_pos h]
 have hE1 : climateE c = 0 → sprsE c xs ≠ 0 → volsE c xs s l frm til = sprsE c xs := fun h h' => by unfold volsE; rw [if_neg (by simpa using h), if_pos h']
 have hE2 : climateE c = 0 → sprsE c xs = 0 → sceneE s ≠ 0 → volsE c xs s l frm til = sceneE s := fun h h' h2 => by unfold volsE; rw [if_neg (by simpa using h), if_neg (by simpa using h'), if_pos h2]
 have hE3 : climateE c = 0 → sprsE c xs = 0 → sceneE s = 0 → xs.length = 0 → volsE c xs s l frm til = 4 := fun h h' h2 h3 => by unfold volsE; rw [if_neg (by simpa using h), if_neg (by simpa using h'), if_neg (by simpa using h2), if_pos h3]
 have hE4 := fun h1 h2 h3 h4 x hx h => vols_bad (c := c) (xs := xs) (s := s) (l := l) (frm := frm) (til := til) h1 h2 h3 h4 (x := x) hx h
 have hE5 := fun h1 h2 h3 h4 h => vols_good (c := c) (xs := xs) (s := s) (l := l) (frm := frm) (til := til) h1 h2 h3 h4 h
 have hv0 : volsV c xs s l frm til = if volsE c xs s l frm til = 0 then (volsLo c xs s l frm til, volsHi c xs s l frm til) else (0, 0) := rfl
 obtain ⟨E, hE⟩ : ∃ E, volsE c xs s l frm til = E := ⟨_, rfl⟩
 obtain ⟨Z, hZ⟩ : ∃ Z, volsV c xs s l frm til = Z := ⟨_, rfl⟩
 have hbad : E ≠ 0 → Z = (0, 0) := fun h' => by rw [← hZ, hv0, if_neg (by rw [hE]; exact h')]
 have hgood : E = 0 → Z = (volsLo c xs s l frm til, volsHi c xs s l frm til) := fun h => by rw [← hZ, hv0, if_pos (by rw [hE]; exact h)]
 simp only [hE] at hE0 hE1 hE2 hE3 hE4 hE5
 rw [hE, hZ]
 clear hE hZ hv0
 have hx1 := hide hx.1
 have hx2 := hide hx.2
 obtain ⟨A, n, rfl, _, _, hlen, hA⟩ := hx.1.open_
 obtain ⟨vc, vp, vD, vs, vh⟩ := V
 obtain ⟨Ac, nc, rfl, _⟩ := (show Sl w 4 Cell.cells vc s.basin.cells from hs.cells).open_
 obtain ⟨Ap, np, rfl, _⟩ := (show Sl w 2 pairC vp s.basin.pairs from hs.pairs).open_
 obtain ⟨Ad, nd, rfl, _⟩ := (show Sl w 1 intC vD s.days from hs.days).open_
 obtain ⟨As, ns, rfl, _⟩ := (show Sl w 5 Sight.cells vs s.sights from hs.sights).open_
 obtain ⟨Ah, nh, rfl, _⟩ := (show Sl w 5 Change.cells vh s.changes from hs.changes).open_
 unfold Scene.v Basin.v Climate.v at *
 simp only at *
 clear hs hl hx
 replace hA := hide hA
 replace hE0 := hide hE0
 replace hE1 := hide hE1
 replace hE2 := hide hE2
 replace hE3 := hide hE3
 replace hE4 := hide hE4
 replace hE5 := hide hE5
 replace hbad := hide hbad
 replace hgood := hide hgood
 go_enter Tryz.func13, Tryz.ntmps13
 go_wp2_with fail
 obtain ⟨wq, hwq⟩ : ∃ W, W = (((w.alloc (.cells (c8 c) 25)).alloc (.cells (s8 s Ac nc Ap np Ad nd As ns Ah nh) 38)).alloc (.cells #[I 0, I 0] 23)) := ⟨_, rfl⟩
 have hQ := hide (show VxAt c (s8 s Ac nc Ap np Ad nd As ns Ah nh) w wq by rw [hwq]; exact VxAt.new _ _ _)
 rw [← hwq]
 clear hwq
 obtain ⟨zc, c0, c1, c2, c3, c4, c5, c6, c7, zS, s0, s1, s2, s3, s4, s5, s6, s7, zR, r0, r1, fr0, fr1⟩ := hQ.out.facts
 go_wp2_with fail
 go_at_call 55
 refine (H1.out _).mono ?_
 rintro e wq ⟨rfl, hbn⟩
 replace hQ := hide (hQ.out.grow hbn)
 clear hbn
 clear zc c0 c1 c2 c3 c4 c5 c6 c7 zS s0 s1 s2 s3 s4 s5 s6 s7 zR r0 r1 fr0 fr1
 obtain ⟨zc, c0, c1, c2, c3, c4, c5, c6, c7, zS, s0, s1, s2, s3, s4, s5, s6, s7, zR, r0, r1, fr0, fr1⟩ := hQ.out.facts
 cases h1 : climateOk c
 case false =>
  have e2 : climateE c = 61 := by simp [climateE, h1]
  have hq1 := hE0.out (by rw [e2]; decide)
  rw [e2] at hq1 ⊢
  obtain rfl := hbad.out (by rw [hq1]; decide)
  subst hq1
  clear e2 H2 H3 H4 H5 H6 H7 hE0 hE1 hE2 hE3 hE4 hE5 hbad hgood hx1 hx2 hA
  obtain ⟨x0, x1, B9⟩ := hQ.out.ret (I 0) (I 0)
  go_wp2_with fail
  generalize (wq.setCell ⟨w.heap.size + 1 + 1, 0, none⟩ (I 0)).setCell ⟨w.heap.size + 1 + 1, 1, none⟩ (I 0) = Wz at x0 x1 B9 ⊢
  refine bodyPost_ret (v := .tuple #[.agg #[I 0, I 0], I (61)]) (by simp [results, Tryz.results13, go_sem, x0, x1]) rfl ⟨rfl, B9⟩
 have h1e := clim0 h1
 rw [h1e]
 go_wp2_with fail
 go_at_call 65
 refine (H2.out _ hQ.out.below).mono ?_
 rintro e wq ⟨rfl, hbn⟩
 replace hQ := hide (hQ.out.grow hbn)
 clear hbn
 clear zc c0 c1 c2 c3 c4 c5 c6 c7 zS s0 s1 s2 s3 s4 s5 s6 s7 zR r0 r1 fr0 fr1
 obtain ⟨zc, c0, c1, c2, c3, c4, c5, c6, c7, zS, s0, s1, s2, s3, s4, s5, s6, s7, zR, r0, r1, fr0, fr1⟩ := hQ.out.facts
 by_cases h2 : sprsE c xs = 0
 case neg =>
  have hne : (sprsE c xs != 0) = true := by simpa using h2
  have hq1 := hE1.out h1e h2
  obtain rfl := hbad.out (by rw [hq1]; exact h2)
  obtain ⟨F, hF⟩ : ∃ F, sprsE c xs = F := ⟨_, rfl⟩
  rw [hF] at hq1 hne ⊢
  subst hq1
  clear h2 hF H3 H4 H5 H6 H7 hE0 hE1 hE2 hE3 hE4 hE5 hbad hgood hx1 hx2 hA
  obtain ⟨x0, x1, B9⟩ := hQ.out.ret (I 0) (I 0)
  go_wp2_with fail
  generalize (wq.setCell ⟨w.heap.size + 1 + 1, 0, none⟩ (I 0)).setCell ⟨w.heap.size + 1 + 1, 1, none⟩ (I 0) = Wz at x0 x1 B9 ⊢
  refine bodyPost_ret (v := .tuple #[.agg #[I 0, I 0], I (E)]) (by simp [results, Tryz.results13, go_sem, x0, x1]) rfl ⟨rfl, B9⟩
 rw [h2]
 go_wp2_with fail
 obtain ⟨hok, hx16⟩ := sprs_ok h2
 replace hok := hide hok
 go_at_call 57
 refine (H3.out _ hQ.out.below).mono ?_
 rintro e wq ⟨rfl, hbn⟩
 replace hQ := hide (hQ.out.grow hbn)
 clear hbn
 clear zc c0 c1 c2 c3 c4 c5 c6 c7 zS s0 s1 s2 s3 s4 s5 s6 s7 zR r0 r1 fr0 fr1
 obtain ⟨zc, c0, c1, c2, c3, c4, c5, c6, c7, zS, s0, s1, s2, s3, s4, s5, s6, s7, zR, r0, r1, fr0, fr1⟩ := hQ.out.facts
 by_cases h3 : sceneE s = 0
 case neg =>
  have hne : (sceneE s != 0) = true := by simpa using h3
  have hq1 := hE2.out h1e h2 h3
  obtain rfl := hbad.out (by rw [hq1]; exact h3)
  obtain ⟨F, hF⟩ : ∃ F, sceneE s = F := ⟨_, rfl⟩
  rw [hF] at hq1 hne ⊢
  subst hq1
  clear h3 hF H4 H5 H6 H7 hE0 hE1 hE2 hE3 hE4 hE5 hbad hgood hx1 hx2 hA hok
  obtain ⟨x0, x1, B9⟩ := hQ.out.ret (I 0) (I 0)
  go_wp2_with fail
  generalize (wq.setCell ⟨w.heap.size + 1 + 1, 0, none⟩ (I 0)).setCell ⟨w.heap.size + 1 + 1, 1, none⟩ (I 0) = Wz at x0 x1 B9 ⊢
  refine bodyPost_ret (v := .tuple #[.agg #[I 0, I 0], I (E)]) (by simp [results, Tryz.results13, go_sem, x0, x1]) rfl ⟨rfl, B9⟩
 rw [h3]
 have hn0 : xs.length = 0 ∨ 0 < xs.length := by omega
 rcases hn0 with h4 | h4
 ·have hq1 := hE3.out h1e h2 h3 h4
  obtain rfl := hbad.out (by rw [hq1]; decide)
  subst hq1
  have hn1 : ((xs.length : Int) == 0) = true := by simp [h4]
  clear h3 hok h4 H4 H5 H6 H7 hE0 hE1 hE2 hE3 hE4 hE5 hbad hgood hx1 hx2 hA
  obtain ⟨x0, x1, B9⟩ := hQ.out.ret (I 0) (I 0)
  go_wp2_with fail
  generalize (wq.setCell ⟨w.heap.size + 1 + 1, 0, none⟩ (I 0)).setCell ⟨w.heap.size + 1 + 1, 1, none⟩ (I 0) = Wz at x0 x1 B9 ⊢
  refine bodyPost_ret (v := .tuple #[.agg #[I 0, I 0], I (4)]) (by simp [results, Tryz.results13, go_sem, x0, x1]) rfl ⟨rfl, B9⟩
 have hn1 : ((xs.length : Int) == 0) = false := beq_eq_false_iff_ne.2 (by omega)
 have hbq := hide (fun x hx h => hE4.out h1e h2 h3 h4 x hx h)
 have hgq := hide (fun h => hE5.out h1e h2 h3 h4 h)
 have HB := hide (H4.out hok.out h3)
 have HD := hide (H5.out hok.out)
 have HE := hide (H6.out h3)
 have HV0 := hide (H7.out h3)
 have hpl := hide (pools_least h3)
 have hsp := hide (fun x (hx : x ∈ xs) => of_decide_eq_true (List.all_eq_true.1 (sprs_all h2) x hx))
 clear H1 H2 H3 H4 H5 H6 H7 hE0 hE1 hE2 hE3 hE4 hE5 h1e h1 h2 h3 hok
 go_wp2_with fail
 go_loopw [16] (fun i wr => ∃ k : Nat, k ≤ xs.length ∧ i = I k ∧ Hid (Upto (fun x : SprL => (beginsB s x.spring && chosenB s l) && spellB x.spring frm til) xs k) ∧ Hid (VxAt c (s8 s Ac nc Ap np Ad nd As ns Ah nh) w wr)) (fun i _ => xs.length - (intOf i).toNat)
 case atStart => exact ⟨0, Nat.zero_le _, rfl, hide (Upto.zero _ _), hQ⟩
 case round =>
  obtain ⟨k, hkl, rfl, ha, hJ⟩ := hrel
  clear hQ
  have hQ := hJ
  clear hJ
  obtain ⟨zc, c0, c1, c2, c3, c4, c5, c6, c7, zS, s0, s1, s2, s3, s4, s5, s6, s7, zR, r0, r1, fr0, fr1⟩ := hQ.out.facts
  by_cases hlt : k < xs.length
  case pos =>
   obtain ⟨x, hx⟩ := getElem?_of_lt hlt
   have hm := List.mem_of_getElem? hx
   obtain ⟨ga, oa, rfl, _⟩ := hA.out k hlt
   obtain ⟨zx, e0, e1⟩ := (hx1.out.mono hQ.out.below).sprl_at hx
   obtain ⟨Aw, nw, hdv, _⟩ := (hx2.out x hm).open_
   have HB1 := HB.out x hm
   have HD1 := HD.out x hm
   have hq := hbq.out x hm
   have hup := fun h => ha.out.succ hx h
   rw [hdv] at e1 HB1 HD1
   unfold SprL.spring at hq hup
   have y1 : IntKind.i64.wrap ((k : Int) + 1) = ((k + 1 : Nat) : Int) := by rw [IntWalk.i64_in _ (by omega)]; push_cast; omega
   obtain ⟨q1, hq1⟩ : ∃ q, (beginsB s ⟨x.no, x.days⟩ && chosenB s l) = q := ⟨_, rfl⟩
   obtain ⟨q2, hq2⟩ : ∃ q, spellB ⟨x.no, x.days⟩ frm til = q := ⟨_, rfl⟩
   simp only [hq1, hq2] at hq hup HB1 HD1
   replace HB1 := hide HB1
   replace HD1 := hide HD1
   clear hq1 hq2 hdv hm
   cases q1
   case false =>
    have hE1 := hq rfl
    obtain rfl := hbad.out (by rw [hE1]; decide)
    subst hE1
    clear hq hup ha hx HB HD HE HV0 hbq hgq hbad hgood hpl hsp
    go_wp2_with fail
    (refine wp_grow ?_; (repeat go_big_quiet_step ((first | (go_at_call 58; exact calls_grew (HB1.out _ (bup hQ.out.below (Grew.below _)))) | (go_at_call 59; exact calls_grew (HD1.out _ (bup hQ.out.below (Grew.below _))))))); refine wp_grow0 ?_; intro W1 hW1)
    replace hQ := hide (hQ.out.grow hW1)
    clear zc c0 c1 c2 c3 c4 c5 c6 c7 zS s0 s1 s2 s3 s4 s5 s6 s7 zR r0 r1 fr0 fr1 hW1
    obtain ⟨zc, c0, c1, c2, c3, c4, c5, c6, c7, zS, s0, s1, s2, s3, s4, s5, s6, s7, zR, r0, r1, fr0, fr1⟩ := hQ.out.facts
    obtain ⟨x0, x1, B9⟩ := hQ.out.ret (I 0) (I 0)
    go_wp2_with fail
    generalize (W1.setCell ⟨w.heap.size + 1 + 1, 0, none⟩ (I 0)).setCell ⟨w.heap.size + 1 + 1, 1, none⟩ (I 0) = Wz at x0 x1 B9 ⊢
    refine bodyPost_ret (v := .tuple #[.agg #[I 0, I 0], I (1)]) (by simp [results, Tryz.results13, go_sem, x0, x1]) rfl ⟨rfl, B9⟩
   cases q2
   case false =>
    have hE1 := hq rfl
    obtain rfl := hbad.out (by rw [hE1]; decide)
    subst hE1
    clear hq hup ha hx HB HD HE HV0 hbq hgq hbad hgood hpl hsp
    go_wp2_with fail
    (refine wp_grow ?_; (repeat go_big_quiet_step ((first | (go_at_call 58; exact calls_grew (HB1.out _ (bup hQ.out.below (Grew.below _)))) | (go_at_call 59; exact calls_grew (HD1.out _ (bup hQ.out.below (Grew.below _))))))); refine wp_grow0 ?_; intro W1 hW1)
    replace hQ := hide (hQ.out.grow hW1)
    clear zc c0 c1 c2 c3 c4 c5 c6 c7 zS s0 s1 s2 s3 s4 s5 s6 s7 zR r0 r1 fr0 fr1 hW1
    obtain ⟨zc, c0, c1, c2, c3, c4, c5, c6, c7, zS, s0, s1, s2, s3, s4, s5, s6, s7, zR, r0, r1, fr0, fr1⟩ := hQ.out.facts
    obtain ⟨x0, x1, B9⟩ := hQ.out.ret (I 0) (I 0)
    go_wp2_with fail
    generalize (W1.setCell ⟨w.heap.size + 1 + 1, 0, none⟩ (I 0)).setCell ⟨w.heap.size + 1 + 1, 1, none⟩ (I 0) = Wz at x0 x1 B9 ⊢
    refine bodyPost_ret (v := .tuple #[.agg #[I 0, I 0], I (1)]) (by simp [results, Tryz.results13, go_sem, x0, x1]) rfl ⟨rfl, B9⟩
   have ha2 := hide (hup rfl)
   clear hq hup ha hx
   go_wp2_with fail
   (refine wp_grow ?_; (repeat go_big_quiet_step ((first | (go_at_call 58; exact calls_grew (HB1.out _ (bup hQ.out.below (Grew.below _)))) | (go_at_call 59; exact calls_grew (HD1.out _ (bup hQ.out.below (Grew.below _))))))); refine wp_grow0 ?_; intro W1 hW1)
   replace hQ := hide (hQ.out.grow hW1)
   clear hW1
   go_wp2_with fail
   go_roundw
   case rel => exact ⟨k + 1, by omega, by go_num, ha2, hQ⟩
   case measure => simp [intOf]; omega
  case neg =>
   have he : k = xs.length := by omega
   subst he
   obtain ⟨hEp, hch, hft⟩ := hgq.out fun x hx => List.all_eq_true.1 ha.out.all x hx
   obtain ⟨x0, hx0⟩ := getElem?_of_lt h4
   have hft0 := hft x0 (List.mem_of_getElem? hx0)
   clear ha hgq hbq HB HD hft
   go_wp2_with fail
   go_at_call 60
   refine (HE.out _ hQ.out.below).mono ?_
   rintro e wq ⟨va, vb, rfl, hsl, hbn⟩
   replace hQ := hide (hQ.out.grow hbn)
   clear hbn HE
   clear zc c0 c1 c2 c3 c4 c5 c6 c7 zS s0 s1 s2 s3 s4 s5 s6 s7 zR r0 r1 fr0 fr1
   obtain ⟨zc, c0, c1, c2, c3, c4, c5, c6, c7, zS, s0, s1, s2, s3, s4, s5, s6, s7, zR, r0, r1, fr0, fr1⟩ := hQ.out.facts
   by_cases h8 : poolsE s = 0
   case neg =>
    have hne : (poolsE s != 0) = true := by simpa using h8
    obtain rfl := hbad.out (by rw [hEp]; exact h8)
    obtain ⟨F, hF⟩ : ∃ F, poolsE s = F := ⟨_, rfl⟩
    rw [hF] at hEp hne ⊢
    subst hEp
    clear h8 hF hsl HV0 hbad hgood hpl hsp hx0 hch hft0
    obtain ⟨x0, x1, B9⟩ := hQ.out.ret (I 0) (I 0)
    go_wp2_with fail
    generalize (wq.setCell ⟨w.heap.size + 1 + 1, 0, none⟩ (I 0)).setCell ⟨w.heap.size + 1 + 1, 1, none⟩ (I 0) = Wz at x0 x1 B9 ⊢
    refine bodyPost_ret (v := .tuple #[.agg #[I 0, I 0], I (E)]) (by simp [results, Tryz.results13, go_sem, x0, x1]) rfl ⟨rfl, B9⟩
   obtain ⟨k1, k2⟩ := hsl h8
   have hE0 : E = 0 := by rw [hEp, h8]
   have hz := hgood.out hE0
   have h9 : leastE s = 0 := by rw [← hpl.out]; exact h8
   have HV := fun x (hx : x ∈ xs) w' hb hva hvb => HV0.out h9 hch x hx (hsp.out x hx) hft0 va vb w' hb hva hvb
   obtain ⟨LO, hLO⟩ : ∃ F : SprL → Int, ∀ x : SprL, loF c x.days (pickC s.basin.cells l) (lowW s l) frm til = F x := ⟨_, fun _ => rfl⟩
   obtain ⟨HI, hHI⟩ : ∃ F : SprL → Int, ∀ x : SprL, hiF c x.days (pickC s.basin.cells l) (highW s l) frm til = F x := ⟨_, fun _ => rfl⟩
   have hlo : ∀ x, LO x ≤ 1152921504606846976 := fun x => by rw [← hLO]; exact (fold_min _ _ _).2.1
   have hhi : ∀ x, -1152921504606846976 ≤ HI x := fun x => by rw [← hHI]; exact (fold_max _ _ _).2.1
   have hvl : volsLo c xs s l frm til = xs.foldl (fun m x => min m (LO x)) 1152921504606846976 := by unfold volsLo; simp only [volP, h8, if_true, hLO]
   have hvh : volsHi c xs s l frm til = xs.foldl (fun m x => max m (HI x)) (-1152921504606846976) := by unfold volsHi; simp only [volP, h8, if_true, hHI]
   rw [hvl, hvh] at hz
   simp only [hLO, hHI] at HV
   obtain ⟨SA, hSA⟩ : ∃ S : Nat → Int, S = fun k => (xs.take k).foldl (fun m x => min m (LO x)) 1152921504606846976 := ⟨_, rfl⟩
   obtain ⟨SB, hSB⟩ : ∃ S : Nat → Int, S = fun k => (xs.take k).foldl (fun m x => max m (HI x)) (-1152921504606846976) := ⟨_, rfl⟩
   have A1 : ∀ k x, xs[k]? = some x → SA (k + 1) = min (SA k) (LO x) := fun k x h => by rw [hSA]; simp only; rw [take_succ_of h, List.foldl_append]; rfl
   have B1 : ∀ k x, xs[k]? = some x → SB (k + 1) = max (SB k) (HI x) := fun k x h => by rw [hSB]; simp only; rw [take_succ_of h, List.foldl_append]; rfl
   have A0 : SA 1 = LO x0 := by rw [A1 0 x0 hx0, show SA 0 = 1152921504606846976 by rw [hSA]; rfl]; have := hlo x0; omega
   have B0 : SB 1 = HI x0 := by rw [B1 0 x0 hx0, show SB 0 = -1152921504606846976 by rw [hSB]; rfl]; have := hhi x0; omega
   have A2 : SA xs.length = xs.foldl (fun m x => min m (LO x)) 1152921504606846976 := by rw [hSA]; simp only; rw [List.take_length]
   have B2 : SB xs.length = xs.foldl (fun m x => max m (HI x)) (-1152921504606846976) := by rw [hSB]; simp only; rw [List.take_length]
   rw [← A2, ← B2] at hz
   subst hE0
   subst hz
   rw [h8]
   obtain ⟨ga, oa, rfl, _⟩ := hA.out 0 h4
   obtain ⟨zx, e0, e1⟩ := (hx1.out.mono hQ.out.below).sprl_at hx0
   obtain ⟨Aw, nw, hdv, _⟩ := (hx2.out x0 (List.mem_of_getElem? hx0)).open_
   have HV1 := HV x0 (List.mem_of_getElem? hx0)
   rw [hdv] at e1 HV1
   rw [← A0, ← B0] at HV1
   simp only [Nat.zero_mul, Nat.add_zero] at e0 e1
   have hS0 := hide (fun (W : World) (h : Below wq.heap.size wq W) => (⟨(h.cell (p := ⟨ga, oa, none⟩) zx).trans e0, (h.cell (p := ⟨ga, oa + 1, none⟩) zx).trans e1⟩ : W.cell? ⟨ga, oa, none⟩ = some (I x0.no) ∧ W.cell? ⟨ga, oa + 1, none⟩ = some (.slice Aw x0.days.length nw)))
   have hx0' := hide hx0
   clear hx0 hdv hLO hHI hlo hhi hvl hvh hSA hSB A2 B2 hEp hch hft0 h9 h8 hsl hpl hsp HV0 hbad hgood A0 B0
   replace HV := hide HV
   replace HV1 := hide HV1
   replace A1 := hide A1
   replace B1 := hide B1
   replace k1 := hide k1
   replace k2 := hide k2
   have w1_ : (0 : Int) < (xs.length : Int) := by omega
   go_wp2_with fail
   clear zc c0 c1 c2 c3 c4 c5 c6 c7 zS s0 s1 s2 s3 s4 s5 s6 s7 r0 r1 fr0 fr1 zx e0 e1
   have HSw := hide (fun (W : World) (hW : Below wq.heap.size wq W) => And.intro (hQ.out.grow hW).reads (hS0.out W hW))
   refine wp_zgo HSw 13 fun hHeld => ?_
   (refine zg_tk 0 ?_; refine zg_tk 1 ?_; refine zg_tk 2 ?_; refine zg_tk 3 ?_; refine zg_tk 4 ?_; refine zg_tk 5 ?_; refine zg_tk 6 ?_; refine zg_tk 7 ?_; refine zg_tk 8 ?_; refine zg_tk 9 ?_; refine zg_tk 10 ?_; (try go_frame))
   apply viaY
   case f =>
    intro key
    refine zg_two (i := 11) (j := 12) (by decide) (by decide) rfl rfl (by kernel_rfl) (fun K_ hK_ => ?_) (fun K_ hK_ => ?_)
    ·skip
     go_simp
     refine (HV1.out wq.drew (bup hQ.out.below (Below.refl _ _).drew) (k1.out.mono (Below.refl _ _).drew) (k2.out.mono (Below.refl _ _).drew)).mono ?_
     rintro e wa1 ⟨rfl, hb1⟩
     replace hb1 := below_drew' hb1
     have hB1a : Below wq.heap.size wq wa1 := hb1
     refine hK_.out _ _ (HSw.out _ hB1a) (fun hHeld => ?_)
     clear hK_ K_
     (try go_frame)
     refine zg_ready (i := 12) (by decide) rfl (by kernel_rfl) (fun K_ hK_ => ?_)
     go_simp
     obtain ⟨wa2, hwa2⟩ : ∃ W, W = wa1.alloc (.cells #[I 0, I 0] 23) := ⟨_, rfl⟩
     have kN : Blk wa2 wa1.heap.size 23 #[I 0, I 0] := by rw [hwa2]; exact Blk.new _ _ _
     have hB2a : Below wq.heap.size wq wa2 := by rw [hwa2]; exact bup hB1a (below1 _ _)
     rw [← hwa2]
     clear hwa2
     obtain ⟨bs, hbs⟩ : ∃ z, z = wa1.heap.size := ⟨_, rfl⟩
     rw [← hbs] at kN ⊢
     have hgN : wq.heap.size ≤ bs := by rw [hbs]; exact hB1a.size
     clear hbs
     refine hK_.out _ _ (HSw.out _ hB2a) (fun hHeld => ?_)
     clear hK_ K_
     (try go_frame)
     obtain ⟨s0, s1⟩ := kN.cells2
     have s2 := kN.frozen 0
     have s3 := kN.frozen 1
     (refine zg_ls 13 fun K_ hK_ => ?_; go_simp; skip; refine hK_.out _ _ ?_; clear hK_ K_; (try go_frame))
     have hkE := (kN.two0 (I (SA 1))).two1 (I (SB 1))
     have hbE := bset (bset hB2a bs 0 hgN (I (SA 1))) bs 1 hgN (I (SB 1))
     generalize ((wa2.setCell ⟨bs, 0, none⟩ (I (SA 1))).setCell ⟨bs, 1, none⟩ (I (SB 1))) = Wz at hbE hkE ⊢
     clear s0 s1 s2 s3 kN hHeld
     revert hgN
     revert hkE
     revert hbE
     revert bs
     revert Wz
     exact key.out
    ·skip
     go_simp
     obtain ⟨wa3, hwa3⟩ : ∃ W, W = (wq.alloc (.cells #[I 0, I 0] 23)).drew := ⟨_, rfl⟩
     have kN : Blk wa3 wq.heap.size 23 #[I 0, I 0] := by rw [hwa3]; exact Blk.new _ _ _
     have hB3a : Below wq.heap.size wq wa3 := by rw [hwa3]; exact bup (Below.refl _ _).drew (below1 wq.drew _)
     rw [← hwa3]
     clear hwa3
     obtain ⟨bs, hbs⟩ : ∃ z, z = wq.heap.size := ⟨_, rfl⟩
     rw [← hbs] at kN ⊢
     have hgN : wq.heap.size ≤ bs := by rw [hbs]; exact Nat.le_refl _
     clear hbs
     refine hK_.out _ _ (HSw.out _ hB3a) (fun hHeld => ?_)
     clear hK_ K_
     (try go_frame)
     refine zg_ready (i := 11) (by decide) rfl (by kernel_rfl) (fun K_ hK_ => ?_)
     go_simp
     refine (HV1.out wa3 (bup hQ.out.below hB3a) (k1.out.mono hB3a) (k2.out.mono hB3a)).mono ?_
     rintro e wa4 ⟨rfl, hb4⟩
     have hB4a : Below wq.heap.size wq wa4 := bup hB3a hb4
     replace kN := kN.grow hb4
     refine hK_.out _ _ (HSw.out _ hB4a) (fun hHeld => ?_)
     clear hK_ K_
     (try go_frame)
     obtain ⟨s0, s1⟩ := kN.cells2
     have s2 := kN.frozen 0
     have s3 := kN.frozen 1
     (refine zg_ls 13 fun K_ hK_ => ?_; go_simp; skip; refine hK_.out _ _ ?_; clear hK_ K_; (try go_frame))
     have hkE := (kN.two0 (I (SA 1))).two1 (I (SB 1))
     have hbE := bset (bset hB4a bs 0 hgN (I (SA 1))) bs 1 hgN (I (SB 1))
     generalize ((wa4.setCell ⟨bs, 0, none⟩ (I (SA 1))).setCell ⟨bs, 1, none⟩ (I (SB 1))) = Wz at hbE hkE ⊢
     clear s0 s1 s2 s3 kN hHeld
     revert hgN
     revert hkE
     revert hbE
     revert bs
     revert Wz
     exact key.out
   case g =>
    intro Wz gV hbE hkE hgN
    clear HSw hS0 HV1
    have hbig := hide (show w.heap.size + 1 + 1 < gV by omega)
    replace hQ := hide (hQ.out.grow hbE)
    have kV := hide hkE
    have hB9 := hide hbE
    have hg9 := hide hgN
    clear hbE hkE hgN zR
    go_wp2_with fail
    go_loopw [21, 22] (fun i _ wr => ∃ k : Nat, 1 ≤ k ∧ k ≤ xs.length ∧ i = I k ∧ Hid (VxAt c (s8 s Ac nc Ap np Ad nd As ns Ah nh) w wr) ∧ Hid (Blk wr gV 23 #[I (SA k), I (SB k)]) ∧ Hid (Below wq.heap.size wq wr)) (fun i _ _ => xs.length - (intOf i).toNat)
    case atStart => exact ⟨1, Nat.le_refl _, by omega, rfl, hQ, kV, hB9⟩
    case round =>
     obtain ⟨k, hk1, hkl, rfl, hJ, kV, hB8⟩ := hrel
     clear hQ hB9
     have hQ := hJ
     clear hJ
     have hbg := hbig.out
     by_cases hlt : k < xs.length
     case pos =>
      obtain ⟨x, hx⟩ := getElem?_of_lt hlt
      obtain ⟨zx, e0, e1⟩ := (hx1.out.mono hQ.out.below).sprl_at hx
      obtain ⟨Av, nv, hdv, _⟩ := (hx2.out x (List.mem_of_getElem? hx)).open_
      have HV1 := HV.out x (List.mem_of_getElem? hx)
      rw [hdv] at e1 HV1
      have a1 := A1.out k x hx
      have b1 := B1.out k x hx
      obtain ⟨lo, hlo⟩ : ∃ z, LO x = z := ⟨_, rfl⟩
      obtain ⟨hi, hhi⟩ : ∃ z, HI x = z := ⟨_, rfl⟩
      rw [hlo] at HV1 a1
      rw [hhi] at HV1 b1
      obtain ⟨sa, hsa⟩ : ∃ z, SA k = z := ⟨_, rfl⟩
      obtain ⟨sb, hsb⟩ : ∃ z, SB k = z := ⟨_, rfl⟩
      obtain ⟨ta, hta⟩ : ∃ z, SA (k + 1) = z := ⟨_, rfl⟩
      obtain ⟨tb, htb⟩ : ∃ z, SB (k + 1) = z := ⟨_, rfl⟩
      rw [hsa, hsb] at kV
      rw [hsa, hta] at a1
      rw [hsb, htb] at b1
      replace hta := hide hta
      replace htb := hide htb
      replace HV1 := hide HV1
      have hS0 := hide (fun (W : World) (h : Below wr.heap.size wr W) => (⟨(h.cell (p := ⟨ga, oa + k * 2, none⟩) zx).trans e0, (h.cell (p := ⟨ga, oa + k * 2 + 1, none⟩) zx).trans e1⟩ : W.cell? ⟨ga, oa + k * 2, none⟩ = some (I x.no) ∧ W.cell? ⟨ga, oa + k * 2 + 1, none⟩ = some (.slice Av x.days.length nv)))
      replace hx := hide hx
      clear hdv hlo hhi hsa hsb e0 e1
      have y1 : IntKind.i64.wrap ((k : Int) + 1) = ((k + 1 : Nat) : Int) := by rw [IntWalk.i64_in _ (by omega)]; push_cast; omega
      have y2 : (0 : Int) ≤ (k : Int) := by omega
      have y3 : (k : Int) < (xs.length : Int) := by omega
      go_wp2_with fail
      have HSw := hide (fun (W : World) (hW : Below wr.heap.size wr W) => And.intro (hQ.out.grow hW).reads (hS0.out W hW))
      refine wp_zgo HSw 14 fun hHeld => ?_
      (refine zg_tk 0 ?_; refine zg_tk 1 ?_; refine zg_tk 2 ?_; refine zg_tk 3 ?_; refine zg_tk 4 ?_; refine zg_tk 5 ?_; refine zg_tk 6 ?_; refine zg_tk 7 ?_; refine zg_tk 8 ?_; refine zg_tk 9 ?_; refine zg_tk 10 ?_; refine zg_tk 11 ?_; (try go_frame))
      apply viaY
      case f =>
       intro key
       refine zg_two (i := 12) (j := 13) (by decide) (by decide) rfl rfl (by kernel_rfl) (fun K_ hK_ => ?_) (fun K_ hK_ => ?_)
       ·skip
        go_simp
        refine (HV1.out wr.drew (bup hQ.out.below (Below.refl _ _).drew) (k1.out.mono (bup hB8.out (Below.refl _ _).drew)) (k2.out.mono (bup hB8.out (Below.refl _ _).drew))).mono ?_
        rintro e wa5 ⟨rfl, hb5⟩
        replace hb5 := below_drew' hb5
        have hB5a : Below wr.heap.size wr wa5 := hb5
        refine hK_.out _ _ (HSw.out _ hB5a) (fun hHeld => ?_)
        clear hK_ K_
        (try go_frame)
        refine zg_ready (i := 13) (by decide) rfl (by kernel_rfl) (fun K_ hK_ => ?_)
        go_simp
        obtain ⟨wa6, hwa6⟩ : ∃ W, W = wa5.alloc (.cells #[I 0, I 0] 23) := ⟨_, rfl⟩
        have kN : Blk wa6 wa5.heap.size 23 #[I 0, I 0] := by rw [hwa6]; exact Blk.new _ _ _
        have hB6a : Below wr.heap.size wr wa6 := by rw [hwa6]; exact bup hB5a (below1 _ _)
        rw [← hwa6]
        clear hwa6
        obtain ⟨bs, hbs⟩ : ∃ z, z = wa5.heap.size := ⟨_, rfl⟩
        rw [← hbs] at kN ⊢
        have hgN : wr.heap.size ≤ bs := by rw [hbs]; exact hB5a.size
        clear hbs
        refine hK_.out _ _ (HSw.out _ hB6a) (fun hHeld => ?_)
        clear hK_ K_
        (try go_frame)
        obtain ⟨s0, s1⟩ := kN.cells2
        have s2 := kN.frozen 0
        have s3 := kN.frozen 1
        (refine zg_ls 14 fun K_ hK_ => ?_; go_simp; skip; refine hK_.out _ _ ?_; clear hK_ K_; (try go_frame))
        have hkE := (kN.two0 (I lo)).two1 (I hi)
        have hbE := bset (bset hB6a bs 0 hgN (I lo)) bs 1 hgN (I hi)
        generalize ((wa6.setCell ⟨bs, 0, none⟩ (I lo)).setCell ⟨bs, 1, none⟩ (I hi)) = Wz at hbE hkE ⊢
        clear s0 s1 s2 s3 kN hHeld
        revert hgN
        revert hkE
        revert hbE
        revert bs
        revert Wz
        exact key.out
       ·skip
        go_simp
        obtain ⟨wa7, hwa7⟩ : ∃ W, W = (wr.alloc (.cells #[I 0, I 0] 23)).drew := ⟨_, rfl⟩
        have kN : Blk wa7 wr.heap.size 23 #[I 0, I 0] := by rw [hwa7]; exact Blk.new _ _ _
        have hB7a : Below wr.heap.size wr wa7 := by rw [hwa7]; exact bup (Below.refl _ _).drew (below1 wr.drew _)
        rw [← hwa7]
        clear hwa7
        obtain ⟨bs, hbs⟩ : ∃ z, z = wr.heap.size := ⟨_, rfl⟩
        rw [← hbs] at kN ⊢
        have hgN : wr.heap.size ≤ bs := by rw [hbs]; exact Nat.le_refl _
        clear hbs
        refine hK_.out _ _ (HSw.out _ hB7a) (fun hHeld => ?_)
        clear hK_ K_
        (try go_frame)
        refine zg_ready (i := 12) (by decide) rfl (by kernel_rfl) (fun K_ hK_ => ?_)
        go_simp
        refine (HV1.out wa7 (bup hQ.out.below hB7a) (k1.out.mono (bup hB8.out hB7a)) (k2.out.mono (bup hB8.out hB7a))).mono ?_
        rintro e wa8 ⟨rfl, hb8⟩
        have hB8a : Below wr.heap.size wr wa8 := bup hB7a hb8
        replace kN := kN.grow hb8
        refine hK_.out _ _ (HSw.out _ hB8a) (fun hHeld => ?_)
        clear hK_ K_
        (try go_frame)
        obtain ⟨s0, s1⟩ := kN.cells2
        have s2 := kN.frozen 0
        have s3 := kN.frozen 1
        (refine zg_ls 14 fun K_ hK_ => ?_; go_simp; skip; refine hK_.out _ _ ?_; clear hK_ K_; (try go_frame))
        have hkE := (kN.two0 (I lo)).two1 (I hi)
        have hbE := bset (bset hB8a bs 0 hgN (I lo)) bs 1 hgN (I hi)
        generalize ((wa8.setCell ⟨bs, 0, none⟩ (I lo)).setCell ⟨bs, 1, none⟩ (I hi)) = Wz at hbE hkE ⊢
        clear s0 s1 s2 s3 kN hHeld
        revert hgN
        revert hkE
        revert hbE
        revert bs
        revert Wz
        exact key.out
      case g =>
       intro Wy bs hbE hkE hgN
       replace hQ := hide (hQ.out.grow hbE)
       have kVn := kV.out.lt
       replace kV := hide (kV.out.grow hbE)
       replace hB8 := hide (bup hB8.out hbE)
       obtain ⟨zV, v0, v1, fv0, fv1⟩ := blk_box kV.out
       obtain ⟨zb, b0, b1', _, _⟩ := blk_box hkE
       have hne1 : gV ≠ bs := by omega
       clear HSw hS0 hbE hgN HV1 zx
       rcases ilt lo sa with m1 | m1 <;> rcases ilt sb hi with m2 | m2
       case inl.inl =>
        obtain rfl : ta = lo := by omega
        obtain rfl : tb = hi := by omega
        clear a1 b1
        go_wp2_with fail
        go_roundw
        case rel => exact ⟨k + 1, by omega, by omega, by go_num, hide ((hQ.out.set hbig.out 0 _).set hbig.out 1 _), by rw [hta.out, htb.out]; exact hide ((kV.out.two0 _).two1 _), hide (bset (bset hB8.out gV 0 hg9.out _) gV 1 hg9.out _)⟩
        case measure => simp [intOf]; omega
       case inl.inr =>
        obtain rfl : ta = lo := by omega
        obtain rfl : tb = sb := by omega
        clear a1 b1
        go_wp2_with fail
        go_roundw
        case rel => exact ⟨k + 1, by omega, by omega, by go_num, hide ((hQ.out.set hbig.out 0 _).set hbig.out 1 _), by rw [hta.out, htb.out]; exact hide ((kV.out.two0 _).two1 _), hide (bset (bset hB8.out gV 0 hg9.out _) gV 1 hg9.out _)⟩
        case measure => simp [intOf]; omega
       case inr.inl =>
        obtain rfl : ta = sa := by omega
        obtain rfl : tb = hi := by omega
        clear a1 b1
        go_wp2_with fail
        go_roundw
        case rel => exact ⟨k + 1, by omega, by omega, by go_num, hide ((hQ.out.set hbig.out 0 _).set hbig.out 1 _), by rw [hta.out, htb.out]; exact hide ((kV.out.two0 _).two1 _), hide (bset (bset hB8.out gV 0 hg9.out _) gV 1 hg9.out _)⟩
        case measure => simp [intOf]; omega
       case inr.inr =>
        obtain rfl : ta = sa := by omega
        obtain rfl : tb = sb := by omega
        clear a1 b1
        go_wp2_with fail
        go_roundw
        case rel => exact ⟨k + 1, by omega, by omega, by go_num, hide ((hQ.out.set hbig.out 0 _).set hbig.out 1 _), by rw [hta.out, htb.out]; exact hide ((kV.out.two0 _).two1 _), hide (bset (bset hB8.out gV 0 hg9.out _) gV 1 hg9.out _)⟩
        case measure => simp [intOf]; omega
     case neg =>
      have he : k = xs.length := by omega
      subst he
      obtain ⟨zV, v0, v1, fv0, fv1⟩ := blk_box kV.out
      obtain ⟨zc, c0, c1, c2, c3, c4, c5, c6, c7, zS, s0, s1, s2, s3, s4, s5, s6, s7, zR, r0, r1, fr0, fr1⟩ := hQ.out.facts
      clear A1 B1 HV
      obtain ⟨x0, x1, B9⟩ := hQ.out.ret (I (SA xs.length)) (I (SB xs.length))
      go_wp2_with fail
      generalize (wr.setCell ⟨w.heap.size + 1 + 1, 0, none⟩ (I (SA xs.length))).setCell ⟨w.heap.size + 1 + 1, 1, none⟩ (I (SB xs.length)) = Wz at x0 x1 B9 ⊢
      refine bodyPost_ret (v := .tuple #[.agg #[I (SA xs.length), I (SB xs.length)], I (0)]) (by simp [results, Tryz.results13, go_sem, x0, x1]) rfl ⟨rfl, B9⟩
end Go.Proofs.YtoojedjmlcdomaaGreatDoor
