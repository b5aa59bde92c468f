/- The package basin: copied, With. Conditions stand in the theorems. -/
import Derived.Test.YtgbbljfmngmjeaaGreatWat4Pack
import Derived.Test.YtgbbljfmngmjeaaGreatCrew5
import Derived.Test.YtgbbljfmngmjeaaGreatBasin7Pack
set_option linter.all false
set_option maxHeartbeats 8000000
set_option maxRecDepth 100000
namespace Go.Proofs.YtgbbljfmngmjeaaGreat
open Go.RowKit

theorem set8 {w : World} {g : Nat} {t : TypeId} {a0 a1 a2 a3 a4 a5 a6 a7 b0 b1 b2 b3 b4 b5 b6 b7 : Value} (h : Blk w g t #[a0, a1, a2, a3, a4, a5, a6, a7]) :
  Blk ((((((((w.setCell ⟨g, 0, none⟩ b0).setCell ⟨g, 1, none⟩ b1).setCell ⟨g, 2, none⟩ b2).setCell ⟨g, 3, none⟩ b3).setCell ⟨g, 4, none⟩ b4).setCell ⟨g, 5, none⟩ b5).setCell ⟨g, 6, none⟩ b6).setCell ⟨g, 7, none⟩ b7) g t #[b0, b1, b2, b3, b4, b5, b6, b7] := by
 have := (((((((h.set_ 0 b0).set_ 1 b1).set_ 2 b2).set_ 3 b3).set_ 4 b4).set_ 5 b5).set_ 6 b6).set_ 7 b7
 simpa using this
theorem below8s {w W : World} {B g : Nat} (h : Below B w W) (hg : B ≤ g) (b0 b1 b2 b3 b4 b5 b6 b7 : Value) : Below B w ((((((((W.setCell ⟨g, 0, none⟩ b0).setCell ⟨g, 1, none⟩ b1).setCell ⟨g, 2, none⟩ b2).setCell ⟨g, 3, none⟩ b3).setCell ⟨g, 4, none⟩ b4).setCell ⟨g, 5, none⟩ b5).setCell ⟨g, 6, none⟩ b6).setCell ⟨g, 7, none⟩ b7) :=
 bset (bset (bset (bset (bset (bset (bset (bset h g 0 hg b0) g 1 hg b1) g 2 hg b2) g 3 hg b3) g 4 hg b4) g 5 hg b5) g 6 hg b6) g 7 hg b7
theorem Own.set8 {α : Type} {w : World} {base e k : Nat} {enc : α → List Value} {v : Value} {xs : List α} (h : Own w base e k enc v xs) {g : Nat} (hp : g < base) (b0 b1 b2 b3 b4 b5 b6 b7 : Value) : Own ((((((((w.setCell ⟨g, 0, none⟩ b0).setCell ⟨g, 1, none⟩ b1).setCell ⟨g, 2, none⟩ b2).setCell ⟨g, 3, none⟩ b3).setCell ⟨g, 4, none⟩ b4).setCell ⟨g, 5, none⟩ b5).setCell ⟨g, 6, none⟩ b6).setCell ⟨g, 7, none⟩ b7) base e k enc v xs :=
 (((((((h.set_at hp b0).set_at hp b1).set_at hp b2).set_at hp b3).set_at hp b4).set_at hp b5).set_at hp b6).set_at hp b7
structure SceneOwn (w : World) (base : Nat) (s : Scene) (V : SceneV) : Prop where
 cells : Own w base 101 4 Cell.cells V.cells s.basin.cells
 pairs : Own w base 203 2 pairC V.pairs s.basin.pairs
 days : Own w base 3 1 intC V.days s.days
 sights : Own w base 83 5 Sight.cells V.sights s.sights
 changes : Own w base 171 5 Change.cells V.changes s.changes
theorem SceneOwn.at_ {w : World} {base : Nat} {s : Scene} {V : SceneV} (h : SceneOwn w base s V) (hs : SceneOk s) : SceneAt w s V :=
 ⟨h.cells.sl Cell.cells_len (by have := hs.basin.hc2; omega), h.pairs.sl pairC_len (by have := hs.basin.hp; omega), h.days.sl intC_len (by have := hs.hd2; omega), h.sights.sl Sight.cells_len (by have := hs.hsl; omega), h.changes.sl Change.cells_len (by have := hs.hcl; omega)⟩
theorem basin_copied (s : Scene) (V : SceneV) (w : World) (hS : SceneAt w s V) (hs : SceneOk s) :
  Calls Tryz.prog 126 #[s.v V] w fun e w' => ∃ V' : SceneV, e = .returned (s.v V') ∧ SceneOwn w' w.heap.size s V' ∧ Below w.heap.size w w' := by
 have Jc := fun w' (hb : Below w.heap.size w w') => clone_Cell V.cells s.basin.cells w' (hS.cells.mono hb) (by have := hs.basin.hc2; omega)
 have Jp := fun w' (hb : Below w.heap.size w w') => clone_pair V.pairs s.basin.pairs w' (hS.pairs.mono hb) (by have := hs.basin.hp; omega)
 have Jd := fun w' (hb : Below w.heap.size w w') => clone_int V.days s.days w' (hS.days.mono hb) (by have := hs.hd2; omega)
 have Js := fun w' (hb : Below w.heap.size w w') => clone_Sight V.sights s.sights w' (hS.sights.mono hb) (by have := hs.hsl; omega)
 have Jh := fun w' (hb : Below w.heap.size w w') => clone_Change V.changes s.changes w' (hS.changes.mono hb) (by have := hs.hcl; omega)
 obtain ⟨Ac, nc, hcc, _⟩ := hS.cells.open_
 obtain ⟨Ap, np, hpp, _⟩ := hS.pairs.open_
 obtain ⟨Ad, nd, hdd, _⟩ := hS.days.open_
 obtain ⟨As, ns, hsi, _⟩ := hS.sights.open_
 obtain ⟨Ah, nh, hch, _⟩ := hS.changes.open_
 unfold Scene.v at *
 rw [hcc] at Jc ⊢
 replace Jc := hide Jc
 rw [hpp] at Jp ⊢
 replace Jp := hide Jp
 rw [hdd] at Jd ⊢
 replace Jd := hide Jd
 rw [hsi] at Js ⊢
 replace Js := hide Js
 rw [hch] at Jh ⊢
 replace Jh := hide Jh
 clear hcc hpp hdd hsi hch hS
 obtain ⟨w1, hw1, hb1, kB, kO⟩ := al2 w (s8 s Ac nc Ap np Ad nd As ns Ah nh) 42 #[.slice none 0 0, .slice none 0 0, I 0, I 0, I 0, .slice none 0 0, .slice none 0 0, .slice none 0 0] 42
 go_enter Tryz.func126, Tryz.ntmps126
 go_upto_region 1 with fail
 rw [← hw1]
 clear hw1
 obtain ⟨gO, hgO⟩ : ∃ g, w.heap.size + 1 = g := ⟨_, rfl⟩
 rw [hgO] at kO ⊢
 obtain ⟨gB, hgB⟩ : ∃ g, w.heap.size = g := ⟨_, rfl⟩
 rw [hgB] at kB ⊢
 replace kB := hide kB
 replace kO := hide kO
 obtain ⟨q0, q1, q2, q3, q4, q5, q6, q7⟩ := kB.out.cells8
 have zB := kB.out.lt
 go_wp2_with fail
 clear q0 q1 q2 q3 q4 q5 q6 q7 zB
 go_at_call 168
 refine (Jc.out _ hb1).mono ?_
 rintro e v1 ⟨uc, rfl, oc, -, hs⟩
 obtain ⟨Ac2, nc2, cc2, rfl⟩ := oc.shape
 have kB2 := kB.out.grow hs
 obtain ⟨q0, q1, q2, q3, q4, q5, q6, q7⟩ := kB2.cells8
 have f0 := kB2.frozen 0
 have zB := kB2.lt
 have kO2 := kO.out.grow hs
 have kB3 : Blk (v1.setCell ⟨gB, 0, none⟩ (.slice Ac2 nc2 cc2)) gB 42 #[.slice Ac2 nc2 cc2, .slice Ap s.basin.pairs.length np, I s.basin.gain, I s.basin.slack, I s.basin.deep, .slice Ad s.days.length nd, .slice As s.sights.length ns, .slice Ah s.changes.length nh] := by
  have := kB2.set_ 0 (.slice Ac2 nc2 cc2)
  simpa using this
 have kO3 := kO2.far (p := ⟨gB, 0, none⟩) (show gO ≠ gB by omega) (.slice Ac2 nc2 cc2)
 have hb2 := bset (bup hb1 hs) gB 0 (show w.heap.size ≤ gB by omega) (.slice Ac2 nc2 cc2)
 have occ := oc.set_at (i := 0) (show gB < w1.heap.size by have := hb1.size; have := kB.out.lt; omega) (.slice Ac2 nc2 cc2)
 have hbqc := hide (show gO < w1.heap.size by have := kO.out.lt; omega)
 have hbsc := hide (show gB < w1.heap.size by have := kB.out.lt; omega)
 clear kB kO oc kB2 kO2 hs hb1 
 replace kB3 := hide kB3
 replace kO3 := hide kO3
 replace occ := hide occ
 go_upto_region 2 with fail
 clear q0 q1 q2 q3 q4 q5 q6 q7 f0 zB
 obtain ⟨y1, hy1⟩ : ∃ y, v1.setCell ⟨gB, 0, none⟩ (.slice Ac2 nc2 cc2) = y := ⟨_, rfl⟩
 rw [hy1] at kB3 kO3 hb2 occ ⊢
 clear hy1
 have kB := kB3
 have kO := kO3
 have oc := occ
 clear kB3 kO3 occ
 obtain ⟨q0, q1, q2, q3, q4, q5, q6, q7⟩ := kB.out.cells8
 have zB := kB.out.lt
 go_wp2_with fail
 clear q0 q1 q2 q3 q4 q5 q6 q7 zB
 go_at_call 169
 refine (Jp.out _ hb2).mono ?_
 rintro e v2 ⟨up, rfl, op, -, hs⟩
 obtain ⟨Ap2, np2, cp2, rfl⟩ := op.shape
 have kB2 := kB.out.grow hs
 obtain ⟨q0, q1, q2, q3, q4, q5, q6, q7⟩ := kB2.cells8
 have f0 := kB2.frozen 1
 have zB := kB2.lt
 have ocb := oc.out.below hs
 have kO2 := kO.out.grow hs
 have kB3 : Blk (v2.setCell ⟨gB, 1, none⟩ (.slice Ap2 np2 cp2)) gB 42 #[.slice Ac2 nc2 cc2, .slice Ap2 np2 cp2, I s.basin.gain, I s.basin.slack, I s.basin.deep, .slice Ad s.days.length nd, .slice As s.sights.length ns, .slice Ah s.changes.length nh] := by
  have := kB2.set_ 1 (.slice Ap2 np2 cp2)
  simpa using this
 have kO3 := kO2.far (p := ⟨gB, 1, none⟩) (show gO ≠ gB by omega) (.slice Ap2 np2 cp2)
 have hb3 := bset (bup hb2 hs) gB 1 (show w.heap.size ≤ gB by omega) (.slice Ap2 np2 cp2)
 have occ := ocb.set_at (i := 1) (show gB < _ by have := hbsc.out; omega) (.slice Ap2 np2 cp2)
 have opc := op.set_at (i := 1) (show gB < y1.heap.size by have := hb2.size; have := kB.out.lt; omega) (.slice Ap2 np2 cp2)
 have hbqp := hide (show gO < y1.heap.size by have := kO.out.lt; omega)
 have hbsp := hide (show gB < y1.heap.size by have := kB.out.lt; omega)
 clear kB kO op kB2 kO2 hs hb2 oc ocb
 replace kB3 := hide kB3
 replace kO3 := hide kO3
 replace occ := hide occ
 replace opc := hide opc
 go_upto_region 3 with fail
 clear q0 q1 q2 q3 q4 q5 q6 q7 f0 zB
 obtain ⟨y2, hy2⟩ : ∃ y, v2.setCell ⟨gB, 1, none⟩ (.slice Ap2 np2 cp2) = y := ⟨_, rfl⟩
 rw [hy2] at kB3 kO3 hb3 occ opc ⊢
 clear hy2
 have kB := kB3
 have kO := kO3
 have oc := occ
 have op := opc
 clear kB3 kO3 occ opc
 obtain ⟨q0, q1, q2, q3, q4, q5, q6, q7⟩ := kB.out.cells8
 have zB := kB.out.lt
 go_wp2_with fail
 clear q0 q1 q2 q3 q4 q5 q6 q7 zB
 go_at_call 68
 refine (Jd.out _ hb3).mono ?_
 rintro e v3 ⟨ud, rfl, od, -, hs⟩
 obtain ⟨Ad2, nd2, cd2, rfl⟩ := od.shape
 have kB2 := kB.out.grow hs
 obtain ⟨q0, q1, q2, q3, q4, q5, q6, q7⟩ := kB2.cells8
 have f0 := kB2.frozen 5
 have zB := kB2.lt
 have ocb := oc.out.below hs
 have opb := op.out.below hs
 have kO2 := kO.out.grow hs
 have kB3 : Blk (v3.setCell ⟨gB, 5, none⟩ (.slice Ad2 nd2 cd2)) gB 42 #[.slice Ac2 nc2 cc2, .slice Ap2 np2 cp2, I s.basin.gain, I s.basin.slack, I s.basin.deep, .slice Ad2 nd2 cd2, .slice As s.sights.length ns, .slice Ah s.changes.length nh] := by
  have := kB2.set_ 5 (.slice Ad2 nd2 cd2)
  simpa using this
 have kO3 := kO2.far (p := ⟨gB, 5, none⟩) (show gO ≠ gB by omega) (.slice Ad2 nd2 cd2)
 have hb4 := bset (bup hb3 hs) gB 5 (show w.heap.size ≤ gB by omega) (.slice Ad2 nd2 cd2)
 have occ := ocb.set_at (i := 5) (show gB < _ by have := hbsc.out; omega) (.slice Ad2 nd2 cd2)
 have opc := opb.set_at (i := 5) (show gB < _ by have := hbsp.out; omega) (.slice Ad2 nd2 cd2)
 have odc := od.set_at (i := 5) (show gB < y2.heap.size by have := hb3.size; have := kB.out.lt; omega) (.slice Ad2 nd2 cd2)
 have hbqd := hide (show gO < y2.heap.size by have := kO.out.lt; omega)
 have hbsd := hide (show gB < y2.heap.size by have := kB.out.lt; omega)
 clear kB kO od kB2 kO2 hs hb3 oc ocb op opb
 replace kB3 := hide kB3
 replace kO3 := hide kO3
 replace occ := hide occ
 replace opc := hide opc
 replace odc := hide odc
 go_upto_region 4 with fail
 clear q0 q1 q2 q3 q4 q5 q6 q7 f0 zB
 obtain ⟨y3, hy3⟩ : ∃ y, v3.setCell ⟨gB, 5, none⟩ (.slice Ad2 nd2 cd2) = y := ⟨_, rfl⟩
 rw [hy3] at kB3 kO3 hb4 occ opc odc ⊢
 clear hy3
 have kB := kB3
 have kO := kO3
 have oc := occ
 have op := opc
 have od := odc
 clear kB3 kO3 occ opc odc
 obtain ⟨q0, q1, q2, q3, q4, q5, q6, q7⟩ := kB.out.cells8
 have zB := kB.out.lt
 go_wp2_with fail
 clear q0 q1 q2 q3 q4 q5 q6 q7 zB
 go_at_call 170
 refine (Js.out _ hb4).mono ?_
 rintro e v4 ⟨us, rfl, os, -, hs⟩
 obtain ⟨As2, ns2, cs2, rfl⟩ := os.shape
 have kB2 := kB.out.grow hs
 obtain ⟨q0, q1, q2, q3, q4, q5, q6, q7⟩ := kB2.cells8
 have f0 := kB2.frozen 6
 have zB := kB2.lt
 have ocb := oc.out.below hs
 have opb := op.out.below hs
 have odb := od.out.below hs
 have kO2 := kO.out.grow hs
 have kB3 : Blk (v4.setCell ⟨gB, 6, none⟩ (.slice As2 ns2 cs2)) gB 42 #[.slice Ac2 nc2 cc2, .slice Ap2 np2 cp2, I s.basin.gain, I s.basin.slack, I s.basin.deep, .slice Ad2 nd2 cd2, .slice As2 ns2 cs2, .slice Ah s.changes.length nh] := by
  have := kB2.set_ 6 (.slice As2 ns2 cs2)
  simpa using this
 have kO3 := kO2.far (p := ⟨gB, 6, none⟩) (show gO ≠ gB by omega) (.slice As2 ns2 cs2)
 have hb5 := bset (bup hb4 hs) gB 6 (show w.heap.size ≤ gB by omega) (.slice As2 ns2 cs2)
 have occ := ocb.set_at (i := 6) (show gB < _ by have := hbsc.out; omega) (.slice As2 ns2 cs2)
 have opc := opb.set_at (i := 6) (show gB < _ by have := hbsp.out; omega) (.slice As2 ns2 cs2)
 have odc := odb.set_at (i := 6) (show gB < _ by have := hbsd.out; omega) (.slice As2 ns2 cs2)
 have osc := os.set_at (i := 6) (show gB < y3.heap.size by have := hb4.size; have := kB.out.lt; omega) (.slice As2 ns2 cs2)
 have hbqs := hide (show gO < y3.heap.size by have := kO.out.lt; omega)
 have hbss := hide (show gB < y3.heap.size by have := kB.out.lt; omega)
 clear kB kO os kB2 kO2 hs hb4 oc ocb op opb od odb
 replace kB3 := hide kB3
 replace kO3 := hide kO3
 replace occ := hide occ
 replace opc := hide opc
 replace odc := hide odc
 replace osc := hide osc
 go_upto_region 5 with fail
 clear q0 q1 q2 q3 q4 q5 q6 q7 f0 zB
 obtain ⟨y4, hy4⟩ : ∃ y, v4.setCell ⟨gB, 6, none⟩ (.slice As2 ns2 cs2) = y := ⟨_, rfl⟩
 rw [hy4] at kB3 kO3 hb5 occ opc odc osc ⊢
 clear hy4
 have kB := kB3
 have kO := kO3
 have oc := occ
 have op := opc
 have od := odc
 have os := osc
 clear kB3 kO3 occ opc odc osc
 obtain ⟨q0, q1, q2, q3, q4, q5, q6, q7⟩ := kB.out.cells8
 have zB := kB.out.lt
 go_wp2_with fail
 clear q0 q1 q2 q3 q4 q5 q6 q7 zB
 go_at_call 171
 refine (Jh.out _ hb5).mono ?_
 rintro e v5 ⟨uh, rfl, oh, -, hs⟩
 obtain ⟨Ah2, nh2, ch2, rfl⟩ := oh.shape
 have kB2 := kB.out.grow hs
 obtain ⟨q0, q1, q2, q3, q4, q5, q6, q7⟩ := kB2.cells8
 have f0 := kB2.frozen 7
 have zB := kB2.lt
 have ocb := oc.out.below hs
 have opb := op.out.below hs
 have odb := od.out.below hs
 have osb := os.out.below hs
 have kO2 := kO.out.grow hs
 have kB3 : Blk (v5.setCell ⟨gB, 7, none⟩ (.slice Ah2 nh2 ch2)) gB 42 #[.slice Ac2 nc2 cc2, .slice Ap2 np2 cp2, I s.basin.gain, I s.basin.slack, I s.basin.deep, .slice Ad2 nd2 cd2, .slice As2 ns2 cs2, .slice Ah2 nh2 ch2] := by
  have := kB2.set_ 7 (.slice Ah2 nh2 ch2)
  simpa using this
 have kO3 := kO2.far (p := ⟨gB, 7, none⟩) (show gO ≠ gB by omega) (.slice Ah2 nh2 ch2)
 have hb6 := bset (bup hb5 hs) gB 7 (show w.heap.size ≤ gB by omega) (.slice Ah2 nh2 ch2)
 have occ := ocb.set_at (i := 7) (show gB < _ by have := hbsc.out; omega) (.slice Ah2 nh2 ch2)
 have opc := opb.set_at (i := 7) (show gB < _ by have := hbsp.out; omega) (.slice Ah2 nh2 ch2)
 have odc := odb.set_at (i := 7) (show gB < _ by have := hbsd.out; omega) (.slice Ah2 nh2 ch2)
 have osc := osb.set_at (i := 7) (show gB < _ by have := hbss.out; omega) (.slice Ah2 nh2 ch2)
 have ohc := oh.set_at (i := 7) (show gB < y4.heap.size by have := hb5.size; have := kB.out.lt; omega) (.slice Ah2 nh2 ch2)
 have hbqh := hide (show gO < y4.heap.size by have := kO.out.lt; omega)
 have hbsh := hide (show gB < y4.heap.size by have := kB.out.lt; omega)
 clear kB kO oh kB2 kO2 hs hb5 oc ocb op opb od odb os osb
 replace kB3 := hide kB3
 replace kO3 := hide kO3
 replace occ := hide occ
 replace opc := hide opc
 replace odc := hide odc
 replace osc := hide osc
 replace ohc := hide ohc
 go_upto_region 6 with fail
 clear q0 q1 q2 q3 q4 q5 q6 q7 f0 zB
 obtain ⟨y5, hy5⟩ : ∃ y, v5.setCell ⟨gB, 7, none⟩ (.slice Ah2 nh2 ch2) = y := ⟨_, rfl⟩
 rw [hy5] at kB3 kO3 hb6 occ opc odc osc ohc ⊢
 clear hy5
 have kB := kB3
 have kO := kO3
 have oc := occ
 have op := opc
 have od := odc
 have os := osc
 have oh := ohc
 clear kB3 kO3 occ opc odc osc ohc
 obtain ⟨q0, q1, q2, q3, q4, q5, q6, q7⟩ := kB.out.cells8
 have zB := kB.out.lt
 obtain ⟨p0, p1, p2, p3, p4, p5, p6, p7⟩ := kO.out.cells8
 have zO := kO.out.lt
 have f0 := kO.out.frozen 0
 have f1 := kO.out.frozen 1
 have f2 := kO.out.frozen 2
 have f3 := kO.out.frozen 3
 have f4 := kO.out.frozen 4
 have f5 := kO.out.frozen 5
 have f6 := kO.out.frozen 6
 have f7 := kO.out.frozen 7
 have kF := hide (set8 (b0 := .slice Ac2 nc2 cc2) ( b1 := .slice Ap2 np2 cp2) ( b2 := I s.basin.gain) ( b3 := I s.basin.slack) ( b4 := I s.basin.deep) ( b5 := .slice Ad2 nd2 cd2) ( b6 := .slice As2 ns2 cs2) ( b7 := .slice Ah2 nh2 ch2) kO.out)
 have hbF := hide (below8s hb6 (g := gO) (show w.heap.size ≤ gO by omega) (.slice Ac2 nc2 cc2) (.slice Ap2 np2 cp2) (I s.basin.gain) (I s.basin.slack) (I s.basin.deep) (.slice Ad2 nd2 cd2) (.slice As2 ns2 cs2) (.slice Ah2 nh2 ch2))
 have hown : SceneOwn _ _ s ⟨.slice Ac2 nc2 cc2, .slice Ap2 np2 cp2, .slice Ad2 nd2 cd2, .slice As2 ns2 cs2, .slice Ah2 nh2 ch2⟩ := ⟨(oc.out.set8 (g := gO) (show gO < _ by have := hbsc.out; have := hbqc.out; omega) (.slice Ac2 nc2 cc2) (.slice Ap2 np2 cp2) (I s.basin.gain) (I s.basin.slack) (I s.basin.deep) (.slice Ad2 nd2 cd2) (.slice As2 ns2 cs2) (.slice Ah2 nh2 ch2)).mono (show w.heap.size ≤ _ by have := hbsc.out; omega), (op.out.set8 (g := gO) (show gO < _ by have := hbsp.out; have := hbqp.out; omega) (.slice Ac2 nc2 cc2) (.slice Ap2 np2 cp2) (I s.basin.gain) (I s.basin.slack) (I s.basin.deep) (.slice Ad2 nd2 cd2) (.slice As2 ns2 cs2) (.slice Ah2 nh2 ch2)).mono (show w.heap.size ≤ _ by have := hbsp.out; omega), (od.out.set8 (g := gO) (show gO < _ by have := hbsd.out; have := hbqd.out; omega) (.slice Ac2 nc2 cc2) (.slice Ap2 np2 cp2) (I s.basin.gain) (I s.basin.slack) (I s.basin.deep) (.slice Ad2 nd2 cd2) (.slice As2 ns2 cs2) (.slice Ah2 nh2 ch2)).mono (show w.heap.size ≤ _ by have := hbsd.out; omega), (os.out.set8 (g := gO) (show gO < _ by have := hbss.out; have := hbqs.out; omega) (.slice Ac2 nc2 cc2) (.slice Ap2 np2 cp2) (I s.basin.gain) (I s.basin.slack) (I s.basin.deep) (.slice Ad2 nd2 cd2) (.slice As2 ns2 cs2) (.slice Ah2 nh2 ch2)).mono (show w.heap.size ≤ _ by have := hbss.out; omega), (oh.out.set8 (g := gO) (show gO < _ by have := hbsh.out; have := hbqh.out; omega) (.slice Ac2 nc2 cc2) (.slice Ap2 np2 cp2) (I s.basin.gain) (I s.basin.slack) (I s.basin.deep) (.slice Ad2 nd2 cd2) (.slice As2 ns2 cs2) (.slice Ah2 nh2 ch2)).mono (show w.heap.size ≤ _ by have := hbsh.out; omega)⟩
 replace hown := hide hown
 clear kB kO oc op od os oh hb6
 go_wp2_with fail
 (try simp only [Exit.inBlock, Exit.then])
 exact bodyPost_ret (results_cell_row (P := Tryz.prog) rfl _ _ gO 42 _ (0, 0) _ rfl kF.out Tryz.underlying42 rfl (by kernel_rfl)) rfl ⟨⟨.slice Ac2 nc2 cc2, .slice Ap2 np2 cp2, .slice Ad2 nd2 cd2, .slice As2 ns2 cs2, .slice Ah2 nh2 ch2⟩, rfl, hown.out, hbF.out⟩

theorem Own.set_other {α : Type} {w : World} {base e k g t i : Nat} {cs : Array Value} {u : Value} {enc : α → List Value} {v : Value} {xs : List α} (h : Own w base e k enc v xs) (hg : Blk w g t cs) (he : e ≠ t) : Own (w.setCell ⟨g, i, none⟩ u) base e k enc v xs := by
 have hgr : w.grownBy (w.setCell ⟨g, i, none⟩ u) (some g) := ⟨rfl, rfl, rfl, by simp [World.setCell], fun k _ hne => Below.heap_setCell w ⟨g, i, none⟩ u k (fun e => hne (by rw [e]))⟩
 refine World.ownsRow.kept h hgr ?_
 rcases h.2 with ⟨rfl, _⟩ | ⟨g', cap, cur, rfl, _, hh, _⟩
 ·exact .inl rfl
 ·refine .inr ?_
  intro hc
  simp [Value.ownBlock] at hc
  subst hc
  unfold Blk at hg
  rw [hh] at hg
  cases hg
  exact he rfl
def withE (s : Scene) (x : Sight) : Int := if sceneE s ≠ 0 then sceneE s else if s.sights.length = 256 then 2 else if sightOk s x = false then 51 else 0
def withS (s : Scene) (x : Sight) : Scene := { s with sights := s.sights ++ [x] }
def zScene : Value := .agg #[.slice none 0 0, .slice none 0 0, I 0, I 0, I 0, .slice none 0 0, .slice none 0 0, .slice none 0 0]
theorem basin_With (s : Scene) (V : SceneV) (x : Sight) (w : World) (hS : SceneAt w s V) :
  Calls Tryz.prog 51 #[s.v V, .agg #[I x.no, I x.cell, I x.day, I x.lo, I x.hi]] w fun e w' => ∃ u, e = .returned (.tuple #[u, I (withE s x)]) ∧ (withE s x = 0 → ∃ V', u = (withS s x).v V' ∧ SceneAt w' (withS s x) V') ∧ (withE s x ≠ 0 → u = zScene) ∧ Below w.heap.size w w' := by
 have JC := fun w' (hb : Below w.heap.size w w') => basin_Check s V w' (hS.mono hb)
 have JI := fun w' (hb : Below w.heap.size w w') => basin_sighted s V x w' (hS.mono hb)
 have JY := fun (h : SceneOk s) w' (hb : Below w.heap.size w w') => basin_copied s V w' (hS.mono hb) h
 obtain ⟨Ac, nc, hcc, _⟩ := hS.cells.open_
 obtain ⟨Ap, np, hpp, _⟩ := hS.pairs.open_
 obtain ⟨Ad, nd, hdd, _⟩ := hS.days.open_
 obtain ⟨As, ns, hsi, _⟩ := hS.sights.open_
 obtain ⟨Ah, nh, hch, _⟩ := hS.changes.open_
 unfold Scene.v at *
 rw [hcc, hpp, hdd, hsi, hch] at JC JI JY ⊢
 clear hcc hpp hdd hsi hch hS
 have hE1 : sceneE s ≠ 0 → withE s x = sceneE s := fun h => by simp [withE, h]
 have hE2 : sceneE s = 0 → s.sights.length = 256 → withE s x = 2 := fun h h2 => by simp [withE, h, h2]
 have hE3 : sceneE s = 0 → s.sights.length ≠ 256 → sightOk s x = false → withE s x = 51 := fun h h2 h3 => by simp [withE, h, h2, h3]
 have hE4 : sceneE s = 0 → s.sights.length ≠ 256 → sightOk s x = true → withE s x = 0 := fun h h2 h3 => by simp [withE, h, h2, h3]
 obtain ⟨E, hE⟩ : ∃ E, withE s x = E := ⟨_, rfl⟩
 rw [hE] at hE1 hE2 hE3 hE4 ⊢
 clear hE
 unfold zScene
 obtain ⟨w1, hw1, hb1, kS, kX, kO⟩ := al3 w (s8 s Ac nc Ap np Ad nd As ns Ah nh) 42 #[I x.no, I x.cell, I x.day, I x.lo, I x.hi] 83 #[.slice none 0 0, .slice none 0 0, I 0, I 0, I 0, .slice none 0 0, .slice none 0 0, .slice none 0 0] 42
 have kF := hide (fun (W : World) (hW : Below w1.heap.size w1 W) => (show _ ∧ _ ∧ _ ∧ _ ∧ _ ∧ _ ∧ _ ∧ _ from (kS.grow hW).cells8))
 have kG := hide (fun (W : World) (hW : Below w1.heap.size w1 W) => (show (W.cell? ⟨w.heap.size + 1, 0, none⟩ = some (I x.no) ∧ W.cell? ⟨w.heap.size + 1, 1, none⟩ = some (I x.cell) ∧ W.cell? ⟨w.heap.size + 1, 2, none⟩ = some (I x.day) ∧ W.cell? ⟨w.heap.size + 1, 3, none⟩ = some (I x.lo) ∧ W.cell? ⟨w.heap.size + 1, 4, none⟩ = some (I x.hi)) ∧ w.heap.size < W.heap.size ∧ w.heap.size + 1 < W.heap.size from ⟨⟨(kX.grow hW).cell 0, (kX.grow hW).cell 1, (kX.grow hW).cell 2, (kX.grow hW).cell 3, (kX.grow hW).cell 4⟩, (kS.grow hW).lt, (kX.grow hW).lt⟩))
 clear kS kX
 replace kO := hide kO
 obtain ⟨q0, q1, q2, q3, q4, q5, q6, q7⟩ := kF.out _ (Below.refl _ _)
 obtain ⟨⟨y0, y1, y2, y3, y4⟩, zS, zX⟩ := kG.out _ (Below.refl _ _)
 by_cases hz : sceneE s = 0
 case neg =>
  obtain rfl := hE1 hz
  obtain ⟨E, hEE⟩ : ∃ E, sceneE s = E := ⟨_, rfl⟩
  rw [hEE] at JC hz ⊢
  have hne : (E != 0) = true := by simpa using hz
  replace hz := hide hz
  replace JC := hide JC
  clear hE1 hE2 hE3 hE4 hEE JI JY
  go_enter Tryz.func51, Tryz.ntmps51
  go_upto_region 1 with fail
  rw [← hw1]
  clear hw1
  go_wp2_with fail
  go_at_call 55
  refine (JC.out _ hb1).mono ?_
  rintro e w2 ⟨rfl, hb2⟩
  have kO3 := kO.out.grow hb2
  obtain ⟨p0, p1, p2, p3, p4, p5, p6, p7⟩ := kO3.cells8
  have zO := kO3.lt
  have f0 := kO3.frozen 0
  have f1 := kO3.frozen 1
  have f2 := kO3.frozen 2
  have f3 := kO3.frozen 3
  have f4 := kO3.frozen 4
  have f5 := kO3.frozen 5
  have f6 := kO3.frozen 6
  have f7 := kO3.frozen 7
  have kO4 := hide (set8 (b0 := .slice none 0 0) ( b1 := .slice none 0 0) ( b2 := I 0) ( b3 := I 0) ( b4 := I 0) ( b5 := .slice none 0 0) ( b6 := .slice none 0 0) ( b7 := .slice none 0 0) kO3)
  have hb4 := hide (below8s (bup hb1 hb2) (g := w.heap.size + 1 + 1) (by omega) (.slice none 0 0) (.slice none 0 0) (I 0) (I 0) (I 0) (.slice none 0 0) (.slice none 0 0) (.slice none 0 0))
  clear kO3
  go_wp2_with fail
  (try simp only [Exit.inBlock, Exit.then])
  exact bodyPost_ret (results_row2 (P := Tryz.prog) rfl _ _ (w.heap.size + 1 + 1) 42 _ _ rfl kO4.out Tryz.underlying42 rfl (by kernel_rfl)) rfl ⟨_, rfl, fun h => absurd h hz.out, fun _ => rfl, hb4.out⟩
 rw [hz] at JC
 have hso := SceneOk.of hz
 replace JC := hide JC
 replace JI := hide JI
 replace JY := hide (JY hso)
 have hl256 := hso.hsl
 replace hE2 := hide (hE2 hz)
 replace hE3 := hide (hE3 hz)
 replace hE4 := hide (hE4 hz)
 clear hE1
 replace hz := hide hz
 by_cases hn : s.sights.length = 256
 case pos =>
  obtain rfl := hE2.out hn
  have hne : ((s.sights.length : Int) == 256) = true := by rw [hn]; rfl
  replace hn := hide hn
  clear hE2 hE3 hE4
  go_enter Tryz.func51, Tryz.ntmps51
  go_upto_region 1 with fail
  rw [← hw1]
  clear hw1
  go_wp2_with fail
  go_at_call 55
  refine (JC.out _ hb1).mono ?_
  clear q0 q1 q2 q3 q4 q5 q6 q7 y0 y1 y2 y3 y4 zS zX
  rintro e w2 ⟨rfl, hb2⟩
  obtain ⟨q0, q1, q2, q3, q4, q5, q6, q7⟩ := kF.out _ hb2
  obtain ⟨⟨y0, y1, y2, y3, y4⟩, zS, zX⟩ := kG.out _ hb2
  have kO3 := kO.out.grow hb2
  obtain ⟨p0, p1, p2, p3, p4, p5, p6, p7⟩ := kO3.cells8
  have zO := kO3.lt
  have f0 := kO3.frozen 0
  have f1 := kO3.frozen 1
  have f2 := kO3.frozen 2
  have f3 := kO3.frozen 3
  have f4 := kO3.frozen 4
  have f5 := kO3.frozen 5
  have f6 := kO3.frozen 6
  have f7 := kO3.frozen 7
  have kO4 := hide (set8 (b0 := .slice none 0 0) ( b1 := .slice none 0 0) ( b2 := I 0) ( b3 := I 0) ( b4 := I 0) ( b5 := .slice none 0 0) ( b6 := .slice none 0 0) ( b7 := .slice none 0 0) kO3)
  have hb4 := hide (below8s (bup hb1 hb2) (g := w.heap.size + 1 + 1) (by omega) (.slice none 0 0) (.slice none 0 0) (I 0) (I 0) (I 0) (.slice none 0 0) (.slice none 0 0) (.slice none 0 0))
  clear kO3
  go_wp2_with fail
  (try simp only [Exit.inBlock, Exit.then])
  exact bodyPost_ret (results_row2 (P := Tryz.prog) rfl _ _ (w.heap.size + 1 + 1) 42 _ _ rfl kO4.out Tryz.underlying42 rfl (by kernel_rfl)) rfl ⟨_, rfl, fun h => absurd h (by omega), fun _ => rfl, hb4.out⟩
 have hne : ((s.sights.length : Int) == 256) = false := by
  have : ¬ (s.sights.length : Int) = 256 := by omega
  simpa using this
 cases hq : sightOk s x with
 | false =>
  obtain rfl := hE3.out hn hq
  rw [hq] at JI
  clear hE2 hE3 hE4
  replace hn := hide hn
  go_enter Tryz.func51, Tryz.ntmps51
  go_upto_region 1 with fail
  rw [← hw1]
  clear hw1
  go_wp2_with (first | (go_at_call 55; refine (JC.out _ hb1).mono ?_; clear q0 q1 q2 q3 q4 q5 q6 q7 y0 y1 y2 y3 y4 zS zX; rintro e w2 ⟨rfl, hb2⟩; obtain ⟨q0, q1, q2, q3, q4, q5, q6, q7⟩ := kF.out _ hb2; obtain ⟨⟨y0, y1, y2, y3, y4⟩, zS, zX⟩ := kG.out _ hb2) | (go_at_call 125; refine (JI.out _ (bup hb1 hb2)).mono ?_; rintro e w3 ⟨rfl, hb3⟩; have kO3 := (kO.out.grow hb2).grow hb3; obtain ⟨p0, p1, p2, p3, p4, p5, p6, p7⟩ := kO3.cells8; have zO := kO3.lt; have f0 := kO3.frozen 0; have f1 := kO3.frozen 1; have f2 := kO3.frozen 2; have f3 := kO3.frozen 3; have f4 := kO3.frozen 4; have f5 := kO3.frozen 5; have f6 := kO3.frozen 6; have f7 := kO3.frozen 7; have kO4 := hide (set8 (b0 := .slice none 0 0) ( b1 := .slice none 0 0) ( b2 := I 0) ( b3 := I 0) ( b4 := I 0) ( b5 := .slice none 0 0) ( b6 := .slice none 0 0) ( b7 := .slice none 0 0) kO3); have hb4 := hide (below8s (bup (bup hb1 hb2) hb3) (g := w.heap.size + 1 + 1) (by omega) (.slice none 0 0) (.slice none 0 0) (I 0) (I 0) (I 0) (.slice none 0 0) (.slice none 0 0) (.slice none 0 0)); clear kO3))
  (try simp only [Exit.inBlock, Exit.then])
  exact bodyPost_ret (results_row2 (P := Tryz.prog) rfl _ _ (w.heap.size + 1 + 1) 42 _ _ rfl kO4.out Tryz.underlying42 rfl (by kernel_rfl)) rfl ⟨_, rfl, fun h => absurd h (by omega), fun _ => rfl, hb4.out⟩
 | true =>
 obtain rfl := hE4.out hn hq
 rw [hq] at JI
 clear hE2 hE3 hE4
 replace hn := hide hn
 replace hso := hide hso
 go_enter Tryz.func51, Tryz.ntmps51
 go_upto_region 1 with fail
 rw [← hw1]
 clear hw1
 go_wp2_with (first | (go_at_call 55; refine (JC.out _ hb1).mono ?_; clear q0 q1 q2 q3 q4 q5 q6 q7 y0 y1 y2 y3 y4 zS zX; rintro e w2 ⟨rfl, hb2⟩; obtain ⟨q0, q1, q2, q3, q4, q5, q6, q7⟩ := kF.out _ hb2; obtain ⟨⟨y0, y1, y2, y3, y4⟩, zS, zX⟩ := kG.out _ hb2) | (go_at_call 125; refine (JI.out _ (bup hb1 hb2)).mono ?_; clear q0 q1 q2 q3 q4 q5 q6 q7 y0 y1 y2 y3 y4 zS zX; rintro e w3 ⟨rfl, hb3⟩; obtain ⟨q0, q1, q2, q3, q4, q5, q6, q7⟩ := kF.out _ (bup hb2 hb3); obtain ⟨⟨y0, y1, y2, y3, y4⟩, zS, zX⟩ := kG.out _ (bup hb2 hb3)))
 go_at_call 126
 refine (JY.out _ (bup (bup hb1 hb2) hb3)).mono ?_
 clear q0 q1 q2 q3 q4 q5 q6 q7 y0 y1 y2 y3 y4 zS zX
 rintro e v4 ⟨⟨vc, vp, vd, vs, vh⟩, rfl, hO, hs4⟩
 obtain ⟨oc, op, od, os, oh⟩ := hO
 simp only at oc op od os oh
 obtain ⟨Ac2, nc2, cc2, rfl⟩ := oc.shape
 obtain ⟨Ap2, np2, cp2, rfl⟩ := op.shape
 obtain ⟨Ad2, nd2, cd2, rfl⟩ := od.shape
 obtain ⟨As2, ns2, cs2, rfl⟩ := os.shape
 obtain ⟨Ah2, nh2, ch2, rfl⟩ := oh.shape
 (try unfold Scene.v)
 simp only
 have hbv4 := bup (bup (bup hb1 hb2) hb3) hs4
 have hW4 := bup (bup hb2 hb3) hs4
 obtain ⟨B, hB⟩ : ∃ B, w3.heap.size = B := ⟨_, rfl⟩
 rw [hB] at oc op od os oh
 have hOB : w.heap.size + 1 + 1 < B := by have := ((kO.out.grow hb2).grow hb3).lt; omega
 have sB : B ≤ v4.heap.size := by have := hs4.size; omega
 replace hB := hide hB
 replace oc := hide oc
 replace op := hide op
 replace od := hide od
 replace os := hide os
 replace oh := hide oh
 have kO4 := hide (((kO.out.grow hb2).grow hb3).grow hs4)
 clear hb1 hb2 hb3 hs4
 go_upto_region 9 with fail
 obtain ⟨w5, hw5, hb5, kN⟩ := al1 v4 #[.slice Ac2 nc2 cc2, .slice Ap2 np2 cp2, I s.basin.gain, I s.basin.slack, I s.basin.deep, .slice Ad2 nd2 cd2, .slice As2 ns2 cs2, .slice Ah2 nh2 ch2] 42
 rw [← hw5]
 clear hw5
 obtain ⟨gN, hgN⟩ : ∃ g, v4.heap.size = g := ⟨_, rfl⟩
 rw [hgN] at kN ⊢
 obtain ⟨⟨y0, y1, y2, y3, y4⟩, zS, zX⟩ := kG.out _ (bup hW4 hb5)
 obtain ⟨n0, n1, n2, n3, n4, n5, n6, n7⟩ := kN.cells8
 have zN := kN.lt
 have hbv5 := bup hbv4 hb5
 have os5 := hide (os.out.below hb5)
 have hlb := os.out
 go_wp2_with (at_builtin; refine wp_push_by el_Sight Sight.cells_len Sight.cells_one rfl (.tmp 27) (.tmp 29) rfl B rfl (os5.out.alloc _) x rfl ?c1 ?c2 ?c3 ?c4 ?_)
 case c1 => exact new_cells rfl _ x.cells
 case c2 => omega
 case c3 => omega
 case c4 => have := hb5.size; simp; omega
 intro v' w6 hown hgr
 have hBelow := (Below.refl B (w5.alloc (.cells #[I x.no, I x.cell, I x.day, I x.lo, I x.hi] 83))).grown hgr (by have := hb5.size; simp; omega) (fun k hk => (ownBlock_lt os5.out k hk).1)
 have hbv6 := (hbv5.alloc hbv5.size (.cells #[I x.no, I x.cell, I x.day, I x.lo, I x.hi] 83)).trans (hBelow.mono (by omega))
 have kN6 : Blk w6 gN 42 _ := (hgr.block gN (by simp; omega) (fun e => by
  have := (ownBlock_lt os.out gN e.symm).2
  omega)).trans (kN.alloc _)
 have oc6 := hide (((oc.out.below hb5).alloc _).other (os5.out.alloc _) (by decide) hgr)
 have op6 := hide (((op.out.below hb5).alloc _).other (os5.out.alloc _) (by decide) hgr)
 have od6 := hide (((od.out.below hb5).alloc _).other (os5.out.alloc _) (by decide) hgr)
 have oh6 := hide (((oh.out.below hb5).alloc _).other (os5.out.alloc _) (by decide) hgr)
 have kO6 := hide ((((kO4.out.grow hb5).alloc _).below hBelow hOB : Blk w6 (w.heap.size + 1 + 1) 42 _))
 obtain ⟨As3, ns3, cs3, rfl⟩ := hown.shape
 replace hown := hide hown
 clear hgr hBelow oc op od os oh os5 hlb kO4 kO n0 n1 n2 n3 n4 n5 n6 n7 zN
 obtain ⟨n0, n1, n2, n3, n4, n5, n6, n7⟩ := kN6.cells8
 have zN := kN6.lt
 have fN := kN6.frozen 6
 have kN7 : Blk (w6.setCell ⟨gN, 6, none⟩ (.slice As3 ns3 cs3)) gN 42 #[.slice Ac2 nc2 cc2, .slice Ap2 np2 cp2, I s.basin.gain, I s.basin.slack, I s.basin.deep, .slice Ad2 nd2 cd2, .slice As3 ns3 cs3, .slice Ah2 nh2 ch2] := by
  have := kN6.set_ 6 (.slice As3 ns3 cs3)
  simpa using this
 have gne : gN ≠ w.heap.size + 1 + 1 := by omega
 have gne2 : w.heap.size + 1 + 1 ≠ gN := by omega
 have kO7 := kO6.out.far (p := ⟨gN, 6, none⟩) gne2 (.slice As3 ns3 cs3)
 have hb7 := bset hbv6 gN 6 (by omega) (.slice As3 ns3 cs3)
 have oc7 := oc6.out.set_other (i := 6) (u := .slice As3 ns3 cs3) kN6 (by decide)
 have op7 := op6.out.set_other (i := 6) (u := .slice As3 ns3 cs3) kN6 (by decide)
 have od7 := od6.out.set_other (i := 6) (u := .slice As3 ns3 cs3) kN6 (by decide)
 have oh7 := oh6.out.set_other (i := 6) (u := .slice As3 ns3 cs3) kN6 (by decide)
 have os7 := hown.out.set_other (i := 6) (u := .slice As3 ns3 cs3) kN6 (by decide)
 replace kN7 := hide kN7
 replace kO7 := hide kO7
 replace hb7 := hide hb7
 replace oc7 := hide oc7
 replace op7 := hide op7
 replace od7 := hide od7
 replace oh7 := hide oh7
 replace os7 := hide os7
 clear kN6 kO6 oc6 op6 od6 oh6 hown hbv6
 go_upto_region 10 with fail
 clear n0 n1 n2 n3 n4 n5 n6 n7 fN zN y0 y1 y2 y3 y4 zS zX
 obtain ⟨W7, hW7⟩ : ∃ y, w6.setCell ⟨gN, 6, none⟩ (.slice As3 ns3 cs3) = y := ⟨_, rfl⟩
 rw [hW7] at kN7 kO7 hb7 oc7 op7 od7 oh7 os7 ⊢
 clear hW7
 obtain ⟨n0, n1, n2, n3, n4, n5, n6, n7⟩ := kN7.out.cells8
 have zN := kN7.out.lt
 obtain ⟨p0, p1, p2, p3, p4, p5, p6, p7⟩ := kO7.out.cells8
 have zO := kO7.out.lt
 have f0 := kO7.out.frozen 0
 have f1 := kO7.out.frozen 1
 have f2 := kO7.out.frozen 2
 have f3 := kO7.out.frozen 3
 have f4 := kO7.out.frozen 4
 have f5 := kO7.out.frozen 5
 have f6 := kO7.out.frozen 6
 have f7 := kO7.out.frozen 7
 have kF8 := hide (set8 (b0 := .slice Ac2 nc2 cc2) ( b1 := .slice Ap2 np2 cp2) ( b2 := I s.basin.gain) ( b3 := I s.basin.slack) ( b4 := I s.basin.deep) ( b5 := .slice Ad2 nd2 cd2) ( b6 := .slice As3 ns3 cs3) ( b7 := .slice Ah2 nh2 ch2) kO7.out)
 have hb8 := hide (below8s hb7.out (g := w.heap.size + 1 + 1) (by omega) (.slice Ac2 nc2 cc2) (.slice Ap2 np2 cp2) (I s.basin.gain) (I s.basin.slack) (I s.basin.deep) (.slice Ad2 nd2 cd2) (.slice As3 ns3 cs3) (.slice Ah2 nh2 ch2))
 have oc8 := hide (oc7.out.set8 (g := w.heap.size + 1 + 1) hOB (.slice Ac2 nc2 cc2) (.slice Ap2 np2 cp2) (I s.basin.gain) (I s.basin.slack) (I s.basin.deep) (.slice Ad2 nd2 cd2) (.slice As3 ns3 cs3) (.slice Ah2 nh2 ch2))
 have op8 := hide (op7.out.set8 (g := w.heap.size + 1 + 1) hOB (.slice Ac2 nc2 cc2) (.slice Ap2 np2 cp2) (I s.basin.gain) (I s.basin.slack) (I s.basin.deep) (.slice Ad2 nd2 cd2) (.slice As3 ns3 cs3) (.slice Ah2 nh2 ch2))
 have od8 := hide (od7.out.set8 (g := w.heap.size + 1 + 1) hOB (.slice Ac2 nc2 cc2) (.slice Ap2 np2 cp2) (I s.basin.gain) (I s.basin.slack) (I s.basin.deep) (.slice Ad2 nd2 cd2) (.slice As3 ns3 cs3) (.slice Ah2 nh2 ch2))
 have os8 := hide (os7.out.set8 (g := w.heap.size + 1 + 1) hOB (.slice Ac2 nc2 cc2) (.slice Ap2 np2 cp2) (I s.basin.gain) (I s.basin.slack) (I s.basin.deep) (.slice Ad2 nd2 cd2) (.slice As3 ns3 cs3) (.slice Ah2 nh2 ch2))
 have oh8 := hide (oh7.out.set8 (g := w.heap.size + 1 + 1) hOB (.slice Ac2 nc2 cc2) (.slice Ap2 np2 cp2) (I s.basin.gain) (I s.basin.slack) (I s.basin.deep) (.slice Ad2 nd2 cd2) (.slice As3 ns3 cs3) (.slice Ah2 nh2 ch2))
 have hsl := hso.out
 clear kN7 kO7 hb7 oc7 op7 od7 oh7 os7
 go_wp2_with fail
 (try simp only [Exit.inBlock, Exit.then])
 refine bodyPost_ret (results_row2 (P := Tryz.prog) rfl _ _ (w.heap.size + 1 + 1) 42 _ _ rfl kF8.out Tryz.underlying42 rfl (by kernel_rfl)) rfl ⟨_, rfl, fun _ => ⟨⟨.slice Ac2 nc2 cc2, .slice Ap2 np2 cp2, .slice Ad2 nd2 cd2, .slice As3 ns3 cs3, .slice Ah2 nh2 ch2⟩, rfl, ?_⟩, fun h => absurd rfl h, hb8.out⟩
 exact ⟨oc8.out.sl Cell.cells_len (by have := hsl.basin.hc2; omega), op8.out.sl pairC_len (by have := hsl.basin.hp; omega), od8.out.sl intC_len (by have := hsl.hd2; omega), os8.out.sl Sight.cells_len (by have := hsl.hsl; simp; omega), oh8.out.sl Change.cells_len (by have := hsl.hcl; omega)⟩
end Go.Proofs.YtgbbljfmngmjeaaGreat
