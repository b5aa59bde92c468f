/- The package spring: Volumes. Conditions stand in the theorems. -/
import Derived.Test.YtoojedjmlcdomaaGreatDoorOneAll
import Derived.Test.YtoojedjmlcdomaaGreatDoorSpring23Pack
set_option linter.all false
set_option maxHeartbeats 8000000
set_option maxRecDepth 100000
namespace Go.Proofs.YtoojedjmlcdomaaGreatDoor
open Go.RowKit

def volsE (c : Climate) (xs : List SprL) (s : Scene) (l : List Int) (frm til : Int) : Int :=
 if climateE c ≠ 0 then climateE c else if sprsE c xs ≠ 0 then sprsE c xs else if sceneE s ≠ 0 then sceneE s else if xs.length = 0 then 4 else if chosenB s l = false then 1
 else if xs.all (fun x => beginsB s x.spring && spellB x.spring frm til) = false then 1 else poolsE s
def volsLo (c : Climate) (xs : List SprL) (s : Scene) (l : List Int) (frm til : Int) : Int := xs.foldl (fun m x => min m (volP c x.days s l frm til).1) 1152921504606846976
def volsHi (c : Climate) (xs : List SprL) (s : Scene) (l : List Int) (frm til : Int) : Int := xs.foldl (fun m x => max m (volP c x.days s l frm til).2) (-1152921504606846976)
def volsV (c : Climate) (xs : List SprL) (s : Scene) (l : List Int) (frm til : Int) : Int × Int := if volsE c xs s l frm til = 0 then (volsLo c xs s l frm til, volsHi c xs s l frm til) else (0, 0)
theorem sprs_ok {c : Climate} {xs : List SprL} (h : sprsE c xs = 0) : (∀ x ∈ xs, SprOk c x.spring) ∧ xs.length ≤ 16 := by
 unfold sprsE at h
 split at h
 ·cases h
 rename_i h1
 split at h
 ·cases h
 rename_i h2
 refine ⟨fun x hx => .of ?_, by omega⟩
 have := List.all_eq_true.1 (by simpa using h1 : xs.all (fun x => decide (springE c x.spring = 0)) = true) x hx
 exact of_decide_eq_true this

theorem vols1 (c : Climate) (xs : List SprL) (s : Scene) (V : SceneV) (frm til : Int) (bX bF bT : Nat) (w : World) (hok : ∀ x ∈ xs, SprOk c x.spring) (hv : SceneOk s) (hs : SceneAt w s V) (hd : ∀ x ∈ xs, Sl w 3 Weather.cells x.dv x.days)
  (kX : Blk w bX 38 #[V.cells, V.pairs, I s.basin.gain, I s.basin.slack, I s.basin.deep, V.days, V.sights, V.changes]) (kF : Blk w bF 3 #[I frm]) (kT : Blk w bT 3 #[I til]) :
  Gives Tryz.prog 64 #[.pointer (some ⟨bX, 0, none⟩), .pointer (some ⟨bF, 0, none⟩), .pointer (some ⟨bT, 0, none⟩)] (fun x : SprL => .agg #[I x.no, x.dv]) (fun x => beginsB s x.spring && spellB x.spring frm til) w xs := by
 intro W x hx hb
 have ho := hok x hx
 have hdx := (hd x hx).mono hb
 have HB := hide (fun w' (h : Below W.heap.size W w') => spring_begins s V x.no x.dv x.days w' ((hs.mono hb).mono h) (by have := hv.hd1; omega) hv.hd2 ho.n1 (hdx.mono h))
 have HS := hide (fun w' (h : Below W.heap.size W w') => spring_spell x.no x.dv x.days frm til w' ho.n1 ho.beg ho.n2 (hdx.mono h))
 show Calls Tryz.prog 64 #[.agg #[I x.no, x.dv], .pointer (some ⟨bX, 0, none⟩), .pointer (some ⟨bF, 0, none⟩), .pointer (some ⟨bT, 0, none⟩)] W fun e w' => e = .returned (.bool (beginsB s ⟨x.no, x.days⟩ && spellB ⟨x.no, x.days⟩ frm til)) ∧ Below W.heap.size W w'
 have kX2 := kX.grow hb
 have kF2 := kF.grow hb
 have kT2 := kT.grow hb
 obtain ⟨q1, hq1⟩ : ∃ q, beginsB s ⟨x.no, x.days⟩ = q := ⟨_, rfl⟩
 obtain ⟨q2, hq2⟩ : ∃ q, spellB ⟨x.no, x.days⟩ frm til = q := ⟨_, rfl⟩
 rw [hq1] at HB ⊢
 rw [hq2] at HS ⊢
 obtain ⟨vc, vp, vD, vs, vh⟩ := V
 obtain ⟨Ac, nc, rfl, _⟩ := (show Sl w 4 Cell.cells vc s.basin.cells from hs.cells).open_
 obtain ⟨Ap, np, rfl, _⟩ := (show Sl w 2 pairC vp s.basin.pairs from hs.pairs).open_
 obtain ⟨Ad, nd, rfl, _⟩ := (show Sl w 1 intC vD s.days from hs.days).open_
 obtain ⟨As, ns, rfl, _⟩ := (show Sl w 5 Sight.cells vs s.sights from hs.sights).open_
 obtain ⟨Ah, nh, rfl, _⟩ := (show Sl w 5 Change.cells vh s.changes from hs.changes).open_
 obtain ⟨Aw, nw, hdv, _⟩ := hdx.open_
 rw [hdv] at HB HS ⊢
 unfold Scene.v at *
 simp only at *
 clear hq1 hq2 hdv hdx hs hd hv hok ho kX kF kT hx
 obtain ⟨s0, s1, s2, s3, s4, s5, s6, s7⟩ := kX2.cells8
 have f0 : W.cell? ⟨bF, 0, none⟩ = some (I frm) := kF2.cell 0
 have t0 : W.cell? ⟨bT, 0, none⟩ = some (I til) := kT2.cell 0
 have zX := kX2.lt
 have zF := kF2.lt
 have zT := kT2.lt
 replace kF2 := hide kF2
 replace kT2 := hide kT2
 clear kX2
 go_enter Tryz.func64, Tryz.ntmps64
 go_wp2_with fail
 go_at_call 51
 refine (HB.out _ (below1 _ _)).mono ?_
 rintro e w1 ⟨rfl, hb1⟩
 have B1 := bup (below1 W (.cells #[I x.no, .slice Aw x.days.length nw] 28)) hb1
 cases q1
 case false =>
  go_wp2_with fail
  go_ret
  exact ⟨rfl, B1⟩
 have kP := (Blk.new W 28 #[I x.no, .slice Aw x.days.length nw]).grow hb1
 obtain ⟨zP, p0, p1, _, _⟩ := blk_box kP
 clear s0 s1 s2 s3 s4 s5 s6 s7 f0 t0 zX zF zT
 have kF3 := kF2.out.grow B1
 have kT3 := kT2.out.grow B1
 have f0 : w1.cell? ⟨bF, 0, none⟩ = some (I frm) := kF3.cell 0
 have t0 : w1.cell? ⟨bT, 0, none⟩ = some (I til) := kT3.cell 0
 have zF := kF3.lt
 have zT := kT3.lt
 clear kF3 kT3 hb1 kP
 go_wp2_with fail
 go_at_call 53
 refine (HS.out _ B1).mono ?_
 rintro e w2 ⟨rfl, hb2⟩
 go_wp2_with fail
 go_ret
 exact ⟨rfl, bup B1 hb2⟩

theorem blkv {w W : World} {t : TypeId} {cs : Array Value} (h : W = w.alloc (.cells cs t)) : Blk W w.heap.size t cs ∧ Below w.heap.size w W := by
 subst h
 exact ⟨Blk.new _ _ _, below1 _ _⟩
structure VsAt (c : Climate) (sc : Array Value) (a b : Int) (w0 : World) (w : World) : Prop where
 clim : Blk w (w0.heap.size) 25 (c8 c)
 scn : Blk w (w0.heap.size + 1) 38 sc
 frm : Blk w (w0.heap.size + 1 + 1) 3 #[I a]
 til : Blk w (w0.heap.size + 1 + 1 + 1) 3 #[I b]
 res : Blk w (w0.heap.size + 1 + 1 + 1 + 1) 23 #[I 0, I 0]
 below : Below w0.heap.size w0 w
theorem VsAt.new (c : Climate) (sc : Array Value) (a b : Int) (w : World) : VsAt c sc a b w (((((w.alloc (.cells (c8 c) 25)).alloc (.cells sc 38)).alloc (.cells #[I a] 3)).alloc (.cells #[I b] 3)).alloc (.cells #[I 0, I 0] 23)) := by
 refine ⟨?_, ?_, ?_, ?_, ?_, below5 _ _ _ _ _ _⟩
 ·refine Blk.alloc ?_ _; refine Blk.alloc ?_ _; refine Blk.alloc ?_ _; refine Blk.alloc ?_ _; have h := Blk.new w 25 (c8 c); first | exact h | simpa only [World.size_alloc] using h
 ·refine Blk.alloc ?_ _; refine Blk.alloc ?_ _; refine Blk.alloc ?_ _; have h := Blk.new (w.alloc (.cells (c8 c) 25)) 38 sc; first | exact h | simpa only [World.size_alloc] using h
 ·refine Blk.alloc ?_ _; refine Blk.alloc ?_ _; have h := Blk.new ((w.alloc (.cells (c8 c) 25)).alloc (.cells sc 38)) 3 #[I a]; first | exact h | simpa only [World.size_alloc] using h
 ·refine Blk.alloc ?_ _; have h := Blk.new (((w.alloc (.cells (c8 c) 25)).alloc (.cells sc 38)).alloc (.cells #[I a] 3)) 3 #[I b]; first | exact h | simpa only [World.size_alloc] using h
 ·have h := Blk.new ((((w.alloc (.cells (c8 c) 25)).alloc (.cells sc 38)).alloc (.cells #[I a] 3)).alloc (.cells #[I b] 3)) 23 #[I 0, I 0]; first | exact h | simpa only [World.size_alloc] using h
section
variable {c : Climate} {a b : Int} {w0 w : World}
theorem VsAt.grow {sc : Array Value} {W : World} (h : VsAt c sc a b w0 w) (hb : Below w.heap.size w W) : VsAt c sc a b w0 W := ⟨h.clim.grow hb, h.scn.grow hb, h.frm.grow hb, h.til.grow hb, h.res.grow hb, bup h.below hb⟩
theorem VsAt.set {sc : Array Value} (h : VsAt c sc a b w0 w) {gV : Nat} (hg : w0.heap.size + 1 + 1 + 1 + 1 < gV) (i : Nat) (u : Value) : VsAt c sc a b w0 (w.setCell ⟨gV, i, none⟩ u) :=
 ⟨h.clim.far (by show _ ≠ gV; omega) _, h.scn.far (by show _ ≠ gV; omega) _, h.frm.far (by show _ ≠ gV; omega) _, h.til.far (by show _ ≠ gV; omega) _, h.res.far (by show _ ≠ gV; omega) _, bset h.below _ _ (by omega) _⟩
theorem VsAt.facts {x0 x1 x2 x3 x4 x5 x6 x7 : Value} (h : VsAt c #[x0, x1, x2, x3, x4, x5, x6, x7] a b w0 w) : w0.heap.size < w.heap.size ∧ w.cell? ⟨w0.heap.size, 0, none⟩ = some (I c.base) ∧ w.cell? ⟨w0.heap.size, 1, none⟩ = some (I c.lapse) ∧ w.cell? ⟨w0.heap.size, 2, none⟩ = some (I c.swing) ∧ w.cell? ⟨w0.heap.size, 3, none⟩ = some (I c.wettest) ∧ w.cell? ⟨w0.heap.size, 4, none⟩ = some (I c.coldest) ∧ w.cell? ⟨w0.heap.size, 5, none⟩ = some (I c.warmest) ∧ w.cell? ⟨w0.heap.size, 6, none⟩ = some (I c.flo) ∧ w.cell? ⟨w0.heap.size, 7, none⟩ = some (I c.fhi) ∧ w0.heap.size + 1 < w.heap.size ∧ w.cell? ⟨w0.heap.size + 1, 0, none⟩ = some x0 ∧ w.cell? ⟨w0.heap.size + 1, 1, none⟩ = some x1 ∧ w.cell? ⟨w0.heap.size + 1, 2, none⟩ = some x2 ∧ w.cell? ⟨w0.heap.size + 1, 3, none⟩ = some x3 ∧ w.cell? ⟨w0.heap.size + 1, 4, none⟩ = some x4 ∧ w.cell? ⟨w0.heap.size + 1, 5, none⟩ = some x5 ∧ w.cell? ⟨w0.heap.size + 1, 6, none⟩ = some x6 ∧ w.cell? ⟨w0.heap.size + 1, 7, none⟩ = some x7 ∧ w0.heap.size + 1 + 1 < w.heap.size ∧ w.cell? ⟨w0.heap.size + 1 + 1, 0, none⟩ = some (I a) ∧ w0.heap.size + 1 + 1 + 1 < w.heap.size ∧ w.cell? ⟨w0.heap.size + 1 + 1 + 1, 0, none⟩ = some (I b) ∧ w0.heap.size + 1 + 1 + 1 + 1 < w.heap.size ∧ w.cell? ⟨w0.heap.size + 1 + 1 + 1 + 1, 0, none⟩ = some (I 0) ∧ w.cell? ⟨w0.heap.size + 1 + 1 + 1 + 1, 1, none⟩ = some (I 0) ∧ w.frozen? ⟨w0.heap.size + 1 + 1 + 1 + 1, 0, none⟩ = false ∧ w.frozen? ⟨w0.heap.size + 1 + 1 + 1 + 1, 1, none⟩ = false :=
 ⟨h.clim.lt, h.clim.cell 0, h.clim.cell 1, h.clim.cell 2, h.clim.cell 3, h.clim.cell 4, h.clim.cell 5, h.clim.cell 6, h.clim.cell 7, h.scn.lt, h.scn.cell 0, h.scn.cell 1, h.scn.cell 2, h.scn.cell 3, h.scn.cell 4, h.scn.cell 5, h.scn.cell 6, h.scn.cell 7, h.frm.lt, h.frm.cell 0, h.til.lt, h.til.cell 0, h.res.lt, h.res.cell 0, h.res.cell 1, h.res.frozen 0, h.res.frozen 1⟩
theorem VsAt.ret {sc : Array Value} (h : VsAt c sc a b w0 w) (u v : Value) : ((w.setCell ⟨w0.heap.size + 1 + 1 + 1 + 1, 0, none⟩ u).setCell ⟨w0.heap.size + 1 + 1 + 1 + 1, 1, none⟩ v).cell? ⟨w0.heap.size + 1 + 1 + 1 + 1, 0, none⟩ = some u ∧ ((w.setCell ⟨w0.heap.size + 1 + 1 + 1 + 1, 0, none⟩ u).setCell ⟨w0.heap.size + 1 + 1 + 1 + 1, 1, none⟩ v).cell? ⟨w0.heap.size + 1 + 1 + 1 + 1, 1, none⟩ = some v ∧ Below w0.heap.size w0 ((w.setCell ⟨w0.heap.size + 1 + 1 + 1 + 1, 0, none⟩ u).setCell ⟨w0.heap.size + 1 + 1 + 1 + 1, 1, none⟩ v) := by
 have k := (h.res.two0 u).two1 v
 exact ⟨k.cell 0, k.cell 1, bset (bset h.below _ _ (by omega) _) _ _ (by omega) _⟩
end

theorem spring_Volumes (c : Climate) (v : Value) (xs : List SprL) (s : Scene) (V : SceneV) (vl : Value) (l : List Int) (frm til : Int) (w : World) (hx : SprsAt w v xs) (hs : SceneAt w s V) (hl : Sl w 1 intC vl l) :
  Calls Tryz.prog 12 #[c.v, v, s.v V, vl, I frm, I til] w fun e w' => e = .returned (.tuple #[.agg #[I (volsV c xs s l frm til).1, I (volsV c xs s l frm til).2], I (volsE c xs s l frm til)]) ∧ Below w.heap.size w w' := by
 have H1 := hide (fun w' => spring_CheckClimate c w')
 have H2 := hide (fun w' (hb : Below w.heap.size w w') => spring_springy c v xs w' (hx.mono hb))
 have H3 := hide (fun w' (hb : Below w.heap.size w w') => basin_Check s V w' (hs.mono hb))
 have H4 := hide (fun w' (hb : Below w.heap.size w w') => spring_chosen s V _ l w' (hs.mono hb) (hl.mono hb))
 have H5 := hide (fun (p : SprL → Bool) g cap w' (hb : Below w.heap.size w w') eg hp => all_SprL v xs g cap p w' (hx.1.mono hb) eg hp)
 have HG := hide (fun (hok : ∀ x ∈ xs, SprOk c x.spring) (hv : SceneOk s) bX bF bT w' (hb : Below w.heap.size w w') kX kF kT => vols1 c xs s V frm til bX bF bT w' hok hv (hs.mono hb) (fun x h => (hx.2 x h).mono hb) kX kF kT)
 have H6 := hide (fun (hok : ∀ x ∈ xs, SprOk c x.spring) (hv : SceneOk s) x (h : x ∈ xs) w' (hb : Below w.heap.size w w') => spring_volume c x.no x.dv x.days s V _ l frm til w' (hok x h).clim (hok x h).mem (hok x h).n2 (hs.mono hb) (hl.mono hb) ((hx.2 x h).mono hb) hv)
 have hdef : volsE c xs s l frm til = if climateE c ≠ 0 then climateE c else if sprsE c xs ≠ 0 then sprsE c xs else if sceneE s ≠ 0 then sceneE s else if xs.length = 0 then 4 else if chosenB s l = false then 1 else if xs.all (fun x => beginsB s x.spring && spellB x.spring frm til) = false then 1 else poolsE s := rfl
 obtain ⟨E, hE⟩ : ∃ E, volsE c xs s l frm til = E := ⟨_, rfl⟩
 obtain ⟨Z, hZ⟩ : ∃ Z, volsV c xs s l frm til = Z := ⟨_, rfl⟩
 have hbad : ∀ e, E = e → e ≠ 0 → E = e ∧ Z = (0, 0) := fun e h h' => ⟨h, by rw [← hZ, volsV, if_neg (by rw [hE, h]; exact h')]⟩
 have hgood : E = 0 → Z = (volsLo c xs s l frm til, volsHi c xs s l frm til) := fun h => by rw [← hZ, volsV, if_pos (by rw [hE]; exact h)]
 rw [hE] at hdef
 rw [hE, hZ]
 clear hE hZ
 replace hdef := hide hdef
 replace hbad := hide hbad
 replace hgood := hide hgood
 have hx1 := hide hx.1
 have hx2 := hide hx.2
 obtain ⟨A, n, rfl, _, _, hlen, hA⟩ := hx.1.open_
 replace hA := hide hA
 obtain ⟨vc, vp, vD, vs, vh⟩ := V
 obtain ⟨Ac, nc, rfl, _⟩ := (show Sl w 4 Cell.cells vc s.basin.cells from hs.cells).open_
 obtain ⟨Ap, np, rfl, _⟩ := (show Sl w 2 pairC vp s.basin.pairs from hs.pairs).open_
 obtain ⟨Ad, nd, rfl, _⟩ := (show Sl w 1 intC vD s.days from hs.days).open_
 obtain ⟨As, ns, rfl, _⟩ := (show Sl w 5 Sight.cells vs s.sights from hs.sights).open_
 obtain ⟨Ah, nh, rfl, _⟩ := (show Sl w 5 Change.cells vh s.changes from hs.changes).open_
 unfold Scene.v Climate.v at *
 simp only at *
 clear hs hl hx
 go_enter Tryz.func12, Tryz.ntmps12
 go_wp2_with fail
 obtain ⟨wq, hwq⟩ : ∃ W, W = (((((w.alloc (.cells (c8 c) 25)).alloc (.cells (s8 s Ac nc Ap np Ad nd As ns Ah nh) 38)).alloc (.cells #[I frm] 3)).alloc (.cells #[I til] 3)).alloc (.cells #[I 0, I 0] 23)) := ⟨_, rfl⟩
 have hQ := hide (show VsAt c (s8 s Ac nc Ap np Ad nd As ns Ah nh) frm til w wq by rw [hwq]; exact VsAt.new _ _ _ _ _)
 rw [← hwq]
 clear hwq
 obtain ⟨zc, c0, c1, c2, c3, c4, c5, c6, c7, zS, s0, s1, s2, s3, s4, s5, s6, s7, zF, f0, zT, t0, zR, r0, r1, fr0, fr1⟩ := hQ.out.facts
 go_wp2_with fail
 go_at_call 14
 refine (H1.out _).mono ?_
 rintro e wq ⟨rfl, hbn⟩
 replace hQ := hide (hQ.out.grow hbn)
 clear hbn
 clear zc c0 c1 c2 c3 c4 c5 c6 c7 zS s0 s1 s2 s3 s4 s5 s6 s7 zF f0 zT t0 zR r0 r1 fr0 fr1
 obtain ⟨zc, c0, c1, c2, c3, c4, c5, c6, c7, zS, s0, s1, s2, s3, s4, s5, s6, s7, zF, f0, zT, t0, zR, r0, r1, fr0, fr1⟩ := hQ.out.facts
 by_cases h1 : climateE c = 0
 case neg =>
  have hne : (climateE c != 0) = true := by simpa using h1
  obtain ⟨hq1, rfl⟩ := hbad.out (climateE c) (by rw [hdef.out, if_pos h1]) h1
  obtain ⟨F, hF⟩ : ∃ F, climateE c = F := ⟨_, rfl⟩
  rw [hF] at hq1 hne ⊢
  subst hq1
  clear h1 hF H2 H3 H4 H5 HG H6 hdef hbad hgood hx1 hx2 hA
  obtain ⟨x0, x1, B9⟩ := hQ.out.ret (I 0) (I 0)
  go_wp2_with fail
  obtain ⟨Wz, hWz⟩ : ∃ W, W = (wq.setCell ⟨w.heap.size + 1 + 1 + 1 + 1, 0, none⟩ (I 0)).setCell ⟨w.heap.size + 1 + 1 + 1 + 1, 1, none⟩ (I 0) := ⟨_, rfl⟩
  rw [← hWz] at x0 x1 B9 ⊢
  clear hWz
  refine bodyPost_ret (v := .tuple #[.agg #[I 0, I 0], I (E)]) (by simp [results, Tryz.results12, go_sem, x0, x1]) rfl ⟨rfl, B9⟩
 rw [h1]
 go_wp2_with fail
 go_at_call 62
 refine (H2.out _ hQ.out.below).mono ?_
 rintro e wq ⟨rfl, hbn⟩
 replace hQ := hide (hQ.out.grow hbn)
 clear hbn
 clear zc c0 c1 c2 c3 c4 c5 c6 c7 zS s0 s1 s2 s3 s4 s5 s6 s7 zF f0 zT t0 zR r0 r1 fr0 fr1
 obtain ⟨zc, c0, c1, c2, c3, c4, c5, c6, c7, zS, s0, s1, s2, s3, s4, s5, s6, s7, zF, f0, zT, t0, zR, r0, r1, fr0, fr1⟩ := hQ.out.facts
 by_cases h2 : sprsE c xs = 0
 case neg =>
  have hne : (sprsE c xs != 0) = true := by simpa using h2
  obtain ⟨hq1, rfl⟩ := hbad.out (sprsE c xs) (by rw [hdef.out, if_neg (by simpa using h1), if_pos h2]) h2
  obtain ⟨F, hF⟩ : ∃ F, sprsE c xs = F := ⟨_, rfl⟩
  rw [hF] at hq1 hne ⊢
  subst hq1
  clear h2 hF h1 H3 H4 H5 HG H6 hdef hbad hgood hx1 hx2 hA
  obtain ⟨x0, x1, B9⟩ := hQ.out.ret (I 0) (I 0)
  go_wp2_with fail
  obtain ⟨Wz, hWz⟩ : ∃ W, W = (wq.setCell ⟨w.heap.size + 1 + 1 + 1 + 1, 0, none⟩ (I 0)).setCell ⟨w.heap.size + 1 + 1 + 1 + 1, 1, none⟩ (I 0) := ⟨_, rfl⟩
  rw [← hWz] at x0 x1 B9 ⊢
  clear hWz
  refine bodyPost_ret (v := .tuple #[.agg #[I 0, I 0], I (E)]) (by simp [results, Tryz.results12, go_sem, x0, x1]) rfl ⟨rfl, B9⟩
 rw [h2]
 go_wp2_with fail
 obtain ⟨hok, hx16⟩ := sprs_ok h2
 replace hok := hide hok
 go_at_call 50
 refine (H3.out _ hQ.out.below).mono ?_
 rintro e wq ⟨rfl, hbn⟩
 replace hQ := hide (hQ.out.grow hbn)
 clear hbn
 clear zc c0 c1 c2 c3 c4 c5 c6 c7 zS s0 s1 s2 s3 s4 s5 s6 s7 zF f0 zT t0 zR r0 r1 fr0 fr1
 obtain ⟨zc, c0, c1, c2, c3, c4, c5, c6, c7, zS, s0, s1, s2, s3, s4, s5, s6, s7, zF, f0, zT, t0, zR, r0, r1, fr0, fr1⟩ := hQ.out.facts
 by_cases h3 : sceneE s = 0
 case neg =>
  have hne : (sceneE s != 0) = true := by simpa using h3
  obtain ⟨hq1, rfl⟩ := hbad.out (sceneE s) (by rw [hdef.out, if_neg (by simpa using h1), if_neg (by simpa using h2), if_pos h3]) h3
  obtain ⟨F, hF⟩ : ∃ F, sceneE s = F := ⟨_, rfl⟩
  rw [hF] at hq1 hne ⊢
  subst hq1
  clear h3 hF h1 h2 hok H4 H5 HG H6 hdef hbad hgood hx1 hx2 hA
  obtain ⟨x0, x1, B9⟩ := hQ.out.ret (I 0) (I 0)
  go_wp2_with fail
  obtain ⟨Wz, hWz⟩ : ∃ W, W = (wq.setCell ⟨w.heap.size + 1 + 1 + 1 + 1, 0, none⟩ (I 0)).setCell ⟨w.heap.size + 1 + 1 + 1 + 1, 1, none⟩ (I 0) := ⟨_, rfl⟩
  rw [← hWz] at x0 x1 B9 ⊢
  clear hWz
  refine bodyPost_ret (v := .tuple #[.agg #[I 0, I 0], I (E)]) (by simp [results, Tryz.results12, go_sem, x0, x1]) rfl ⟨rfl, B9⟩
 rw [h3]
 have hn0 : xs.length = 0 ∨ 0 < xs.length := by omega
 rcases hn0 with h4 | h4
 ·obtain ⟨hq1, rfl⟩ := hbad.out 4 (by rw [hdef.out, if_neg (by simpa using h1), if_neg (by simpa using h2), if_neg (by simpa using h3), if_pos h4]) (by decide)
  subst hq1
  have hn1 : ((xs.length : Int) == 0) = true := by simp [h4]
  clear h1 h2 h3 hok H4 H5 HG H6 hdef hbad hgood hx1 hx2 hA h4
  obtain ⟨x0, x1, B9⟩ := hQ.out.ret (I 0) (I 0)
  go_wp2_with fail
  obtain ⟨Wz, hWz⟩ : ∃ W, W = (wq.setCell ⟨w.heap.size + 1 + 1 + 1 + 1, 0, none⟩ (I 0)).setCell ⟨w.heap.size + 1 + 1 + 1 + 1, 1, none⟩ (I 0) := ⟨_, rfl⟩
  rw [← hWz] at x0 x1 B9 ⊢
  clear hWz
  refine bodyPost_ret (v := .tuple #[.agg #[I 0, I 0], I (4)]) (by simp [results, Tryz.results12, go_sem, x0, x1]) rfl ⟨rfl, B9⟩
 have hn1 : ((xs.length : Int) == 0) = false := beq_eq_false_iff_ne.2 (by omega)
 go_wp2_with fail
 go_at_call 52
 refine (H4.out _ hQ.out.below).mono ?_
 rintro e wq ⟨rfl, hbn⟩
 replace hQ := hide (hQ.out.grow hbn)
 clear hbn
 clear zc c0 c1 c2 c3 c4 c5 c6 c7 zS s0 s1 s2 s3 s4 s5 s6 s7 zF f0 zT t0 zR r0 r1 fr0 fr1
 obtain ⟨zc, c0, c1, c2, c3, c4, c5, c6, c7, zS, s0, s1, s2, s3, s4, s5, s6, s7, zF, f0, zT, t0, zR, r0, r1, fr0, fr1⟩ := hQ.out.facts
 cases h5 : chosenB s l
 case false =>
  obtain ⟨hq1, rfl⟩ := hbad.out 1 (by rw [hdef.out, if_neg (by simpa using h1), if_neg (by simpa using h2), if_neg (by simpa using h3), if_neg (by omega), if_pos h5]) (by decide)
  subst hq1
  clear h1 h2 h3 h5 hok H5 HG H6 hdef hbad hgood hx1 hx2 hA
  obtain ⟨x0, x1, B9⟩ := hQ.out.ret (I 0) (I 0)
  go_wp2_with fail
  obtain ⟨Wz, hWz⟩ : ∃ W, W = (wq.setCell ⟨w.heap.size + 1 + 1 + 1 + 1, 0, none⟩ (I 0)).setCell ⟨w.heap.size + 1 + 1 + 1 + 1, 1, none⟩ (I 0) := ⟨_, rfl⟩
  rw [← hWz] at x0 x1 B9 ⊢
  clear hWz
  refine bodyPost_ret (v := .tuple #[.agg #[I 0, I 0], I (1)]) (by simp [results, Tryz.results12, go_sem, x0, x1]) rfl ⟨rfl, B9⟩
 go_wp2_with fail
 go_at_call 63
 have HGG := HG.out hok.out (.of h3) _ _ _ wq hQ.out.below hQ.out.scn hQ.out.frm hQ.out.til
 refine (H5.out _ _ _ wq hQ.out.below (enters_of Tryz.func64 (by kernel_rfl) rfl) HGG).mono ?_
 clear HGG HG H5
 rintro e wq ⟨rfl, hbn⟩
 replace hQ := hide (hQ.out.grow hbn)
 clear hbn
 clear zc c0 c1 c2 c3 c4 c5 c6 c7 zS s0 s1 s2 s3 s4 s5 s6 s7 zF f0 zT t0 zR r0 r1 fr0 fr1
 obtain ⟨zc, c0, c1, c2, c3, c4, c5, c6, c7, zS, s0, s1, s2, s3, s4, s5, s6, s7, zF, f0, zT, t0, zR, r0, r1, fr0, fr1⟩ := hQ.out.facts
 cases h6 : xs.all (fun x => beginsB s x.spring && spellB x.spring frm til)
 case false =>
  obtain ⟨hq1, rfl⟩ := hbad.out 1 (by rw [hdef.out, if_neg (by simpa using h1), if_neg (by simpa using h2), if_neg (by simpa using h3), if_neg (by omega), if_neg (by simp [h5]), if_pos h6]) (by decide)
  subst hq1
  clear h1 h2 h3 h5 h6 hok H6 hdef hbad hgood hx1 hx2 hA
  obtain ⟨x0, x1, B9⟩ := hQ.out.ret (I 0) (I 0)
  go_wp2_with fail
  obtain ⟨Wz, hWz⟩ : ∃ W, W = (wq.setCell ⟨w.heap.size + 1 + 1 + 1 + 1, 0, none⟩ (I 0)).setCell ⟨w.heap.size + 1 + 1 + 1 + 1, 1, none⟩ (I 0) := ⟨_, rfl⟩
  rw [← hWz] at x0 x1 B9 ⊢
  clear hWz
  refine bodyPost_ret (v := .tuple #[.agg #[I 0, I 0], I (1)]) (by simp [results, Tryz.results12, go_sem, x0, x1]) rfl ⟨rfl, B9⟩
 have hEp : E = poolsE s := by rw [hdef.out, if_neg (by simpa using h1), if_neg (by simpa using h2), if_neg (by simpa using h3), if_neg (by omega), if_neg (by simp [h5]), if_neg (by simp [h6])]
 have H7 := H6.out hok.out (.of h3)
 rw [← hEp] at H7
 replace H7 := hide H7
 clear hEp h1 h2 h3 h5 h6 hdef H6 hok H2 H3 H4
 obtain ⟨SA, hSA⟩ : ∃ S : Nat → Int, S = fun k => (xs.take k).foldl (fun m x => min m (volP c x.days s l frm til).1) 1152921504606846976 := ⟨_, rfl⟩
 obtain ⟨SB, hSB⟩ : ∃ S : Nat → Int, S = fun k => (xs.take k).foldl (fun m x => max m (volP c x.days s l frm til).2) (-1152921504606846976) := ⟨_, rfl⟩
 have A0 : SA 0 = 1152921504606846976 := by rw [hSA]; rfl
 have B0 : SB 0 = -1152921504606846976 := by rw [hSB]; rfl
 have A1 : ∀ k x, xs[k]? = some x → SA (k + 1) = min (SA k) (volP c x.days s l frm til).1 := fun k x h => by rw [hSA]; simp only; rw [take_succ_of h, List.foldl_append]; rfl
 have B1 : ∀ k x, xs[k]? = some x → SB (k + 1) = max (SB k) (volP c x.days s l frm til).2 := fun k x h => by rw [hSB]; simp only; rw [take_succ_of h, List.foldl_append]; rfl
 have A2 : SA xs.length = volsLo c xs s l frm til := by rw [hSA, volsLo]; simp only; rw [List.take_length]
 have B2 : SB xs.length = volsHi c xs s l frm til := by rw [hSB, volsHi]; simp only; rw [List.take_length]
 rw [← A2, ← B2] at hgood
 clear hSA hSB A2 B2
 replace A1 := hide A1
 replace B1 := hide B1
 go_wp2_with fail
 obtain ⟨W2, hW2⟩ : ∃ W, W = wq.alloc (.cells #[I 1152921504606846976, I (-1152921504606846976)] 23) := ⟨_, rfl⟩
 obtain ⟨kV, hb2⟩ := blkv hW2
 rw [← hW2]
 clear hW2
 obtain ⟨gV, hgV⟩ : ∃ g, wq.heap.size = g := ⟨_, rfl⟩
 rw [hgV] at kV ⊢
 have hbig := hide (show w.heap.size + 1 + 1 + 1 + 1 < gV by rw [← hgV]; exact zR)
 rw [← B0, ← A0] at kV
 replace hQ := hide (hQ.out.grow hb2)
 replace kV := hide kV
 clear zc c0 c1 c2 c3 c4 c5 c6 c7 zS s0 s1 s2 s3 s4 s5 s6 s7 zF f0 zT t0 zR r0 r1 fr0 fr1 hb2 hgV A0 B0
 go_loopw [19, 20, 21, 59] (fun _ _ _ i wr => ∃ k : Nat, k ≤ xs.length ∧ i = I k ∧ (k = 0 ∨ E = 0) ∧ Hid (VsAt c (s8 s Ac nc Ap np Ad nd As ns Ah nh) frm til w wr) ∧ Hid (Blk wr gV 23 #[I (SA k), I (SB k)])) (fun _ _ _ i _ => xs.length - (intOf i).toNat)
 case atStart => exact ⟨0, Nat.zero_le _, rfl, .inl rfl, hQ, kV⟩
 case round =>
  obtain ⟨k, hkl, rfl, hk0, hJ, kV⟩ := hrel
  clear hQ
  have hQ := hJ
  clear hJ
  obtain ⟨zc, c0, c1, c2, c3, c4, c5, c6, c7, zS, s0, s1, s2, s3, s4, s5, s6, s7, zF, f0, zT, t0, zR, r0, r1, fr0, fr1⟩ := hQ.out.facts
  have hbg := hbig.out
  by_cases hlt : k < xs.length
  case pos =>
   obtain ⟨x, hx⟩ := getElem?_of_lt hlt
   obtain ⟨ga, oa, rfl, _⟩ := hA.out k hlt
   obtain ⟨zx, e0, e1⟩ := (hx1.out.mono hQ.out.below).sprl_at hx
   have a1 := A1.out k x hx
   have b1 := B1.out k x hx
   have HV := H7.out x (List.mem_of_getElem? hx)
   obtain ⟨Aw, nw, hdv, _⟩ := (hx2.out x (List.mem_of_getElem? hx)).open_
   rw [hdv] at e1 HV
   clear hdv
   obtain ⟨lo, hlo⟩ : ∃ z, (volP c x.days s l frm til).1 = z := ⟨_, rfl⟩
   obtain ⟨hi, hhi⟩ : ∃ z, (volP c x.days s l frm til).2 = z := ⟨_, rfl⟩
   rw [hlo] at HV a1
   rw [hhi] at HV b1
   clear hlo hhi
   obtain ⟨sa, hsa⟩ : ∃ z, SA k = z := ⟨_, rfl⟩
   obtain ⟨sb, hsb⟩ : ∃ z, SB k = z := ⟨_, rfl⟩
   obtain ⟨ta, hta⟩ : ∃ z, SA (k + 1) = z := ⟨_, rfl⟩
   obtain ⟨tb, htb⟩ : ∃ z, SB (k + 1) = z := ⟨_, rfl⟩
   rw [hsa, hsb] at kV
   rw [hsa, hta] at a1
   rw [hsb, htb] at b1
   replace hta := hide hta
   replace htb := hide htb
   replace HV := hide HV
   replace hx := hide hx
   clear hsa hsb
   have y1 : IntKind.i64.wrap ((k : Int) + 1) = ((k + 1 : Nat) : Int) := by rw [IntWalk.i64_in _ (by omega)]; push_cast; omega
   go_wp2_with fail
   obtain ⟨Wa, hWa⟩ : ∃ W, W = wr.alloc (.cells #[I x.no, .slice Aw x.days.length nw] 28) := ⟨_, rfl⟩
   obtain ⟨kP, hba⟩ := blkv hWa
   rw [← hWa]
   clear hWa
   replace hQ := hide (hQ.out.grow hba)
   replace kV := hide (kV.out.grow hba)
   clear zc c0 c1 c2 c3 c4 c5 c6 c7 zS s0 s1 s2 s3 s4 s5 s6 s7 zF f0 zT t0 zR r0 r1 fr0 fr1 zx e0 e1 kP hba
   obtain ⟨zc, c0, c1, c2, c3, c4, c5, c6, c7, zS, s0, s1, s2, s3, s4, s5, s6, s7, zF, f0, zT, t0, zR, r0, r1, fr0, fr1⟩ := hQ.out.facts
   go_at_call 54
   refine (HV.out _ hQ.out.below).mono ?_
   rintro e wq ⟨rfl, hbn⟩
   replace hQ := hide (hQ.out.grow hbn)
   replace kV := hide (kV.out.grow hbn)
   clear hbn zc c0 c1 c2 c3 c4 c5 c6 c7 zS s0 s1 s2 s3 s4 s5 s6 s7 zF f0 zT t0 zR r0 r1 fr0 fr1
   obtain ⟨zc, c0, c1, c2, c3, c4, c5, c6, c7, zS, s0, s1, s2, s3, s4, s5, s6, s7, zF, f0, zT, t0, zR, r0, r1, fr0, fr1⟩ := hQ.out.facts
   obtain ⟨zV, v0, v1, fv0, fv1⟩ := blk_box kV.out
   by_cases hE0 : E = 0
   case neg =>
    have hne : (E != 0) = true := by simpa using hE0
    obtain ⟨_, rfl⟩ := hbad.out E rfl hE0
    clear hgood hbad a1 b1 hk0
    replace hE0 := hide hE0
    obtain ⟨x0, x1, B9⟩ := hQ.out.ret (I 0) (I 0)
    have kR := ((hQ.out.res.two0 (I 0)).two1 (I 0)).alloc (.cells #[I lo, I hi] 23)
    replace B9 := B9.alloc (by have := B9.size; exact this) (.cells #[I lo, I hi] 23)
    clear x0 x1
    go_wp2_with fail
    obtain ⟨_, x0, x1, _, _⟩ := blk_box kR
    generalize (((wq.setCell ⟨w.heap.size + 1 + 1 + 1 + 1, 0, none⟩ (I 0)).setCell ⟨w.heap.size + 1 + 1 + 1 + 1, 1, none⟩ (I 0)).alloc (.cells #[I lo, I hi] 23)) = Wz at x0 x1 B9 ⊢
    refine bodyPost_ret (v := .tuple #[.agg #[I 0, I 0], I E]) (by simp [results, Tryz.results12, go_sem, x0, x1]) rfl ⟨rfl, B9⟩
   subst hE0
   rcases ilt lo sa with m1 | m1 <;> rcases ilt sb hi with m2 | m2
   case inl.inl =>
    obtain rfl : ta = lo := by omega
    obtain rfl : tb = hi := by omega
    clear a1 b1
    go_wp2_with fail
    go_roundw
    case rel =>
      have hQ2 := ((hQ.out.set hbig.out 0 (I ta)).set hbig.out 1 (I tb)).grow (below1 _ (.cells #[I ta, I tb] 23))
      have kV2 := ((kV.out.two0 (I ta)).two1 (I tb)).alloc (.cells #[I ta, I tb] 23)
      exact ⟨k + 1, by omega, by go_num, by first | exact .inr rfl | exact .inr trivial, hide hQ2, by rw [hta.out, htb.out]; exact hide kV2⟩
    case measure => simp [intOf]; omega
   case inl.inr =>
    obtain rfl : ta = lo := by omega
    obtain rfl : tb = sb := by omega
    clear a1 b1
    go_wp2_with fail
    go_roundw
    case rel =>
      have hQ2 := ((hQ.out.set hbig.out 0 (I ta)).set hbig.out 1 (I tb)).grow (below1 _ (.cells #[I ta, I hi] 23))
      have kV2 := ((kV.out.two0 (I ta)).two1 (I tb)).alloc (.cells #[I ta, I hi] 23)
      exact ⟨k + 1, by omega, by go_num, by first | exact .inr rfl | exact .inr trivial, hide hQ2, by rw [hta.out, htb.out]; exact hide kV2⟩
    case measure => simp [intOf]; omega
   case inr.inl =>
    obtain rfl : ta = sa := by omega
    obtain rfl : tb = hi := by omega
    clear a1 b1
    go_wp2_with fail
    go_roundw
    case rel =>
      have hQ2 := ((hQ.out.set hbig.out 0 (I ta)).set hbig.out 1 (I tb)).grow (below1 _ (.cells #[I lo, I tb] 23))
      have kV2 := ((kV.out.two0 (I ta)).two1 (I tb)).alloc (.cells #[I lo, I tb] 23)
      exact ⟨k + 1, by omega, by go_num, by first | exact .inr rfl | exact .inr trivial, hide hQ2, by rw [hta.out, htb.out]; exact hide kV2⟩
    case measure => simp [intOf]; omega
   case inr.inr =>
    obtain rfl : ta = sa := by omega
    obtain rfl : tb = sb := by omega
    clear a1 b1
    go_wp2_with fail
    go_roundw
    case rel =>
      have hQ2 := ((hQ.out.set hbig.out 0 (I ta)).set hbig.out 1 (I tb)).grow (below1 _ (.cells #[I lo, I hi] 23))
      have kV2 := ((kV.out.two0 (I ta)).two1 (I tb)).alloc (.cells #[I lo, I hi] 23)
      exact ⟨k + 1, by omega, by go_num, by first | exact .inr rfl | exact .inr trivial, hide hQ2, by rw [hta.out, htb.out]; exact hide kV2⟩
    case measure => simp [intOf]; omega
  case neg =>
   have he : k = xs.length := by omega
   subst he
   have hE0 : E = 0 := hk0.resolve_left (by omega)
   have hz := hgood.out hE0
   subst hE0; subst hz
   clear hgood hbad hk0 A1 B1 H7
   obtain ⟨zV, v0, v1, fv0, fv1⟩ := blk_box kV.out
   obtain ⟨x0, x1, B9⟩ := hQ.out.ret (I (SA xs.length)) (I (SB xs.length))
   go_wp2_with fail
   obtain ⟨Wz, hWz⟩ : ∃ W, W = (wr.setCell ⟨w.heap.size + 1 + 1 + 1 + 1, 0, none⟩ (I (SA xs.length))).setCell ⟨w.heap.size + 1 + 1 + 1 + 1, 1, none⟩ (I (SB xs.length)) := ⟨_, rfl⟩
   rw [← hWz] at x0 x1 B9 ⊢
   clear hWz
   refine bodyPost_ret (v := .tuple #[.agg #[I (SA xs.length), I (SB xs.length)], I (0)]) (by simp [results, Tryz.results12, go_sem, x0, x1]) rfl ⟨rfl, B9⟩
end Go.Proofs.YtoojedjmlcdomaaGreatDoor
