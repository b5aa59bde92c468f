/- The package spring: pools, where a field is lacking. Conditions stand in the theorems. -/
import Derived.Test.YtmjfdobjnnfafaaGreatDoorSpring18
set_option linter.all false
set_option maxRecDepth 100000
set_option maxHeartbeats 8000000
namespace Go.Proofs.YtmjfdobjnnfafaaGreatDoor
open Go.RowKit

def zeroP : Value := .agg #[I 0, I 0, I 0, I 0, I 0, I 0, I 0, I 0, I 0, .slice none 0 0, .slice none 0 0, .slice none 0 0]
theorem putAll12_ (z0 z1 z2 z3 z4 z5 z6 z7 z8 z9 z10 z11 u0 u1 u2 u3 u4 u5 u6 u7 u8 u9 u10 u11 : Value) : putAll #[z0, z1, z2, z3, z4, z5, z6, z7, z8, z9, z10, z11] 0 [u0, u1, u2, u3, u4, u5, u6, u7, u8, u9, u10, u11] = #[u0, u1, u2, u3, u4, u5, u6, u7, u8, u9, u10, u11] := by simp [putAll]

theorem spring_pools_bad1 (c : Climate) (no : Int) (vd : Value) (p : List Weather) (s : Scene) (V : SceneV) (vl : Value) (l : List Int) (w : World) (hs : SceneAt w s V) (hl : Sl w 1 intC vl l) (hd : Sl w 3 Weather.cells vd p) (h1 : leastE s ≠ 0) :
  Calls Tryz.prog 128 #[c.v, .agg #[I no, vd], s.v V, vl] w fun e w' => e = .returned (.tuple #[zeroP, zeroP, I (leastE s)]) ∧ Below w.heap.size w w' := by
 have hsc := hide hs.cells
 obtain ⟨Ac, nc, hc, _, _, _, hAc⟩ := hs.cells.open_
 obtain ⟨Ap, np, hp, _⟩ := hs.pairs.open_
 obtain ⟨Ad, nd, hdd, _⟩ := hs.days.open_
 obtain ⟨As, ns, hsi, _⟩ := hs.sights.open_
 obtain ⟨Ah, nh, hch, _⟩ := hs.changes.open_
 have HL := hide (fun w' (hb : Below w.heap.size w w') => basin_Least s V w' (hs.mono hb))
 have HG := hide (fun w' (hb : Below w.heap.size w w') => basin_Greatest s V w' (hs.mono hb))
 obtain ⟨E, hE⟩ : ∃ E, leastE s = E := ⟨_, rfl⟩
 simp only [hE] at HL h1 ⊢
 have hne : (E != 0) = true := by simpa using h1
 obtain ⟨Aw, nw, rfl, _⟩ := hd.open_
 obtain ⟨Al, nl, rfl, _⟩ := hl.open_
 replace hd := hide hd
 replace hl := hide hl
 unfold Scene.v at *
 rw [hc, hp, hdd, hsi, hch] at HL HG ⊢
 clear hs hc hp hdd hsi hch hsc hAc
 unfold Climate.v
 unfold zeroP
 go_enter Tryz.func128, Tryz.ntmps128
 go_wp2_with fail
 obtain ⟨W1, hW1⟩ : ∃ W1, W1 = ((((w.alloc (.cells (c8 c) 25)).alloc (.cells #[I no, .slice Aw p.length nw] 28)).alloc (.cells #[.slice Ac s.basin.cells.length nc, .slice Ap s.basin.pairs.length np, I s.basin.gain, I s.basin.slack, I s.basin.deep, .slice Ad s.days.length nd, .slice As s.sights.length ns, .slice Ah s.changes.length nh] 63)).alloc (.cells #[I 0, I 0, I 0, I 0, I 0, I 0, I 0, I 0, I 0, .slice none 0 0, .slice none 0 0, .slice none 0 0] 152)).alloc (.cells #[I 0, I 0, I 0, I 0, I 0, I 0, I 0, I 0, I 0, .slice none 0 0, .slice none 0 0, .slice none 0 0] 152) := ⟨_, rfl⟩
 have z1 : W1.heap.size = w.heap.size + 5 := by rw [hW1]; simp
 have kB1 : Below w.heap.size w W1 := by rw [hW1]; exact below5 _ _ _ _ _ _
 have kX1 : Blk W1 (w.heap.size + 2) 63 #[.slice Ac s.basin.cells.length nc, .slice Ap s.basin.pairs.length np, I s.basin.gain, I s.basin.slack, I s.basin.deep, .slice Ad s.days.length nd, .slice As s.sights.length ns, .slice Ah s.changes.length nh] := by rw [hW1]; exact ((blk32 w _ _ _ _).alloc _).alloc _
 have kP1 : Blk W1 (w.heap.size + 3) 152 #[I 0, I 0, I 0, I 0, I 0, I 0, I 0, I 0, I 0, .slice none 0 0, .slice none 0 0, .slice none 0 0] := by
  rw [hW1]
  refine Blk.alloc ?_ _
  have := Blk.new (((w.alloc (.cells (c8 c) 25)).alloc (.cells #[I no, .slice Aw p.length nw] 28)).alloc (.cells #[.slice Ac s.basin.cells.length nc, .slice Ap s.basin.pairs.length np, I s.basin.gain, I s.basin.slack, I s.basin.deep, .slice Ad s.days.length nd, .slice As s.sights.length ns, .slice Ah s.changes.length nh] 63)) 152 #[I 0, I 0, I 0, I 0, I 0, I 0, I 0, I 0, I 0, .slice none 0 0, .slice none 0 0, .slice none 0 0]
  simpa only [World.size_alloc] using this
 have kQ1 : Blk W1 (w.heap.size + 4) 152 #[I 0, I 0, I 0, I 0, I 0, I 0, I 0, I 0, I 0, .slice none 0 0, .slice none 0 0, .slice none 0 0] := by
  rw [hW1]
  have := Blk.new ((((w.alloc (.cells (c8 c) 25)).alloc (.cells #[I no, .slice Aw p.length nw] 28)).alloc (.cells #[.slice Ac s.basin.cells.length nc, .slice Ap s.basin.pairs.length np, I s.basin.gain, I s.basin.slack, I s.basin.deep, .slice Ad s.days.length nd, .slice As s.sights.length ns, .slice Ah s.changes.length nh] 63)).alloc (.cells #[I 0, I 0, I 0, I 0, I 0, I 0, I 0, I 0, I 0, .slice none 0 0, .slice none 0 0, .slice none 0 0] 152)) 152 #[I 0, I 0, I 0, I 0, I 0, I 0, I 0, I 0, I 0, .slice none 0 0, .slice none 0 0, .slice none 0 0]
  simpa only [World.size_alloc] using this
 rw [← hW1]
 clear hW1
 have zX1 := kX1.lt
 obtain ⟨cx0, cx1, cx2, cx3, cx4, cx5, cx6, cx7⟩ := kX1.cells8
 clear HG
 go_at_call 73
 refine (HL.out W1 kB1).mono ?_
 rintro e w2 ⟨v1, rfl, _, hv1, hb1⟩
 obtain rfl := hv1 h1
 have kP2 := kP1.grow hb1
 have kQ2 := kQ1.grow hb1
 have kB2 := bup kB1 hb1
 clear hb1 HL kX1 kP1 kQ1 kB1 cx0 cx1 cx2 cx3 cx4 cx5 cx6 cx7
 obtain ⟨gP, hgP⟩ : ∃ gP, w.heap.size + 1 + 1 + 1 = gP := ⟨_, rfl⟩
 obtain ⟨gQ, hgQ⟩ : ∃ gQ, w.heap.size + 1 + 1 + 1 + 1 = gQ := ⟨_, rfl⟩
 have kP := hide (show Blk w2 gP 152 _ from hgP ▸ kP2)
 have kQ := hide (show Blk w2 gQ 152 _ from hgQ ▸ kQ2)
 rw [hgQ, hgP]
 have hPQ : gP ≠ gQ := by omega
 have hQP : gQ ≠ gP := by omega
 have hPw : w.heap.size ≤ gP := by omega
 have hQw : w.heap.size ≤ gQ := by omega
 have a0 : w2.cell? ⟨gP, 0, none⟩ = some (I 0) := kP.out.cell 0
 have b0 := kP.out.frozen 0
 have c0 : w2.cell? ⟨gQ, 0, none⟩ = some (I 0) := kQ.out.cell 0
 have d0 := kQ.out.frozen 0
 have a1 : w2.cell? ⟨gP, 1, none⟩ = some (I 0) := kP.out.cell 1
 have b1 := kP.out.frozen 1
 have c1 : w2.cell? ⟨gQ, 1, none⟩ = some (I 0) := kQ.out.cell 1
 have d1 := kQ.out.frozen 1
 have a2 : w2.cell? ⟨gP, 2, none⟩ = some (I 0) := kP.out.cell 2
 have b2 := kP.out.frozen 2
 have c2 : w2.cell? ⟨gQ, 2, none⟩ = some (I 0) := kQ.out.cell 2
 have d2 := kQ.out.frozen 2
 have a3 : w2.cell? ⟨gP, 3, none⟩ = some (I 0) := kP.out.cell 3
 have b3 := kP.out.frozen 3
 have c3 : w2.cell? ⟨gQ, 3, none⟩ = some (I 0) := kQ.out.cell 3
 have d3 := kQ.out.frozen 3
 have a4 : w2.cell? ⟨gP, 4, none⟩ = some (I 0) := kP.out.cell 4
 have b4 := kP.out.frozen 4
 have c4 : w2.cell? ⟨gQ, 4, none⟩ = some (I 0) := kQ.out.cell 4
 have d4 := kQ.out.frozen 4
 have a5 : w2.cell? ⟨gP, 5, none⟩ = some (I 0) := kP.out.cell 5
 have b5 := kP.out.frozen 5
 have c5 : w2.cell? ⟨gQ, 5, none⟩ = some (I 0) := kQ.out.cell 5
 have d5 := kQ.out.frozen 5
 have a6 : w2.cell? ⟨gP, 6, none⟩ = some (I 0) := kP.out.cell 6
 have b6 := kP.out.frozen 6
 have c6 : w2.cell? ⟨gQ, 6, none⟩ = some (I 0) := kQ.out.cell 6
 have d6 := kQ.out.frozen 6
 have a7 : w2.cell? ⟨gP, 7, none⟩ = some (I 0) := kP.out.cell 7
 have b7 := kP.out.frozen 7
 have c7 : w2.cell? ⟨gQ, 7, none⟩ = some (I 0) := kQ.out.cell 7
 have d7 := kQ.out.frozen 7
 have a8 : w2.cell? ⟨gP, 8, none⟩ = some (I 0) := kP.out.cell 8
 have b8 := kP.out.frozen 8
 have c8 : w2.cell? ⟨gQ, 8, none⟩ = some (I 0) := kQ.out.cell 8
 have d8 := kQ.out.frozen 8
 have a9 : w2.cell? ⟨gP, 9, none⟩ = some (.slice none 0 0) := kP.out.cell 9
 have b9 := kP.out.frozen 9
 have c9 : w2.cell? ⟨gQ, 9, none⟩ = some (.slice none 0 0) := kQ.out.cell 9
 have d9 := kQ.out.frozen 9
 have a10 : w2.cell? ⟨gP, 10, none⟩ = some (.slice none 0 0) := kP.out.cell 10
 have b10 := kP.out.frozen 10
 have c10 : w2.cell? ⟨gQ, 10, none⟩ = some (.slice none 0 0) := kQ.out.cell 10
 have d10 := kQ.out.frozen 10
 have a11 : w2.cell? ⟨gP, 11, none⟩ = some (.slice none 0 0) := kP.out.cell 11
 have b11 := kP.out.frozen 11
 have c11 : w2.cell? ⟨gQ, 11, none⟩ = some (.slice none 0 0) := kQ.out.cell 11
 have d11 := kQ.out.frozen 11
 go_wp2_with fail
 clear a0 b0 c0 d0
 clear a1 b1 c1 d1
 clear a2 b2 c2 d2
 clear a3 b3 c3 d3
 clear a4 b4 c4 d4
 clear a5 b5 c5 d5
 clear a6 b6 c6 d6
 clear a7 b7 c7 d7
 clear a8 b8 c8 d8
 clear a9 b9 c9 d9
 clear a10 b10 c10 d10
 clear a11 b11 c11 d11
 have hj1 := setAll_far hPQ [I 0, I 0, I 0, I 0, I 0, I 0, I 0, I 0, I 0, .slice none 0 0, .slice none 0 0, .slice none 0 0] 0 (setAll w2 gP 0 [I 0, I 0, I 0, I 0, I 0, I 0, I 0, I 0, I 0, .slice none 0 0, .slice none 0 0, .slice none 0 0]) (setAll_blk [I 0, I 0, I 0, I 0, I 0, I 0, I 0, I 0, I 0, .slice none 0 0, .slice none 0 0, .slice none 0 0] 0 w2 _ kP.out)
 have hj2 := setAll_blk [I 0, I 0, I 0, I 0, I 0, I 0, I 0, I 0, I 0, .slice none 0 0, .slice none 0 0, .slice none 0 0] 0 (setAll w2 gP 0 [I 0, I 0, I 0, I 0, I 0, I 0, I 0, I 0, I 0, .slice none 0 0, .slice none 0 0, .slice none 0 0]) _ (setAll_far hQP [I 0, I 0, I 0, I 0, I 0, I 0, I 0, I 0, I 0, .slice none 0 0, .slice none 0 0, .slice none 0 0] 0 w2 kQ.out)
 have hb6 := setAll_below hQw [I 0, I 0, I 0, I 0, I 0, I 0, I 0, I 0, I 0, .slice none 0 0, .slice none 0 0, .slice none 0 0] 0 (setAll w2 gP 0 [I 0, I 0, I 0, I 0, I 0, I 0, I 0, I 0, I 0, .slice none 0 0, .slice none 0 0, .slice none 0 0]) (setAll_below hPw [I 0, I 0, I 0, I 0, I 0, I 0, I 0, I 0, I 0, .slice none 0 0, .slice none 0 0, .slice none 0 0] 0 w2 kB2)
 rw [putAll12_] at hj1 hj2
 obtain ⟨Wb, hWb⟩ : ∃ Wb, Wb = setAll (setAll w2 gP 0 [I 0, I 0, I 0, I 0, I 0, I 0, I 0, I 0, I 0, .slice none 0 0, .slice none 0 0, .slice none 0 0]) gQ 0 [I 0, I 0, I 0, I 0, I 0, I 0, I 0, I 0, I 0, .slice none 0 0, .slice none 0 0, .slice none 0 0] := ⟨_, rfl⟩
 rw [← hWb] at hj1 hj2 hb6
 have hWb2 : ((((((((((((((((((((((((w2.setCell ⟨gP, 0, none⟩ (I 0)).setCell ⟨gP, 1, none⟩ (I 0)).setCell ⟨gP, 2, none⟩ (I 0)).setCell ⟨gP, 3, none⟩ (I 0)).setCell ⟨gP, 4, none⟩ (I 0)).setCell ⟨gP, 5, none⟩ (I 0)).setCell ⟨gP, 6, none⟩ (I 0)).setCell ⟨gP, 7, none⟩ (I 0)).setCell ⟨gP, 8, none⟩ (I 0)).setCell ⟨gP, 9, none⟩ (.slice none 0 0)).setCell ⟨gP, 10, none⟩ (.slice none 0 0)).setCell ⟨gP, 11, none⟩ (.slice none 0 0)).setCell ⟨gQ, 0, none⟩ (I 0)).setCell ⟨gQ, 1, none⟩ (I 0)).setCell ⟨gQ, 2, none⟩ (I 0)).setCell ⟨gQ, 3, none⟩ (I 0)).setCell ⟨gQ, 4, none⟩ (I 0)).setCell ⟨gQ, 5, none⟩ (I 0)).setCell ⟨gQ, 6, none⟩ (I 0)).setCell ⟨gQ, 7, none⟩ (I 0)).setCell ⟨gQ, 8, none⟩ (I 0)).setCell ⟨gQ, 9, none⟩ (.slice none 0 0)).setCell ⟨gQ, 10, none⟩ (.slice none 0 0)).setCell ⟨gQ, 11, none⟩ (.slice none 0 0)) = Wb := hWb.symm
 rw [hWb2]
 clear hWb hWb2
 have a0 : Wb.cell? ⟨gP, 0, none⟩ = some (I 0) := hj1.cell 0
 have b0 : Wb.cell? ⟨gQ, 0, none⟩ = some (I 0) := hj2.cell 0
 have a1 : Wb.cell? ⟨gP, 1, none⟩ = some (I 0) := hj1.cell 1
 have b1 : Wb.cell? ⟨gQ, 1, none⟩ = some (I 0) := hj2.cell 1
 have a2 : Wb.cell? ⟨gP, 2, none⟩ = some (I 0) := hj1.cell 2
 have b2 : Wb.cell? ⟨gQ, 2, none⟩ = some (I 0) := hj2.cell 2
 have a3 : Wb.cell? ⟨gP, 3, none⟩ = some (I 0) := hj1.cell 3
 have b3 : Wb.cell? ⟨gQ, 3, none⟩ = some (I 0) := hj2.cell 3
 have a4 : Wb.cell? ⟨gP, 4, none⟩ = some (I 0) := hj1.cell 4
 have b4 : Wb.cell? ⟨gQ, 4, none⟩ = some (I 0) := hj2.cell 4
 have a5 : Wb.cell? ⟨gP, 5, none⟩ = some (I 0) := hj1.cell 5
 have b5 : Wb.cell? ⟨gQ, 5, none⟩ = some (I 0) := hj2.cell 5
 have a6 : Wb.cell? ⟨gP, 6, none⟩ = some (I 0) := hj1.cell 6
 have b6 : Wb.cell? ⟨gQ, 6, none⟩ = some (I 0) := hj2.cell 6
 have a7 : Wb.cell? ⟨gP, 7, none⟩ = some (I 0) := hj1.cell 7
 have b7 : Wb.cell? ⟨gQ, 7, none⟩ = some (I 0) := hj2.cell 7
 have a8 : Wb.cell? ⟨gP, 8, none⟩ = some (I 0) := hj1.cell 8
 have b8 : Wb.cell? ⟨gQ, 8, none⟩ = some (I 0) := hj2.cell 8
 have a9 : Wb.cell? ⟨gP, 9, none⟩ = some (.slice none 0 0) := hj1.cell 9
 have b9 : Wb.cell? ⟨gQ, 9, none⟩ = some (.slice none 0 0) := hj2.cell 9
 have a10 : Wb.cell? ⟨gP, 10, none⟩ = some (.slice none 0 0) := hj1.cell 10
 have b10 : Wb.cell? ⟨gQ, 10, none⟩ = some (.slice none 0 0) := hj2.cell 10
 have a11 : Wb.cell? ⟨gP, 11, none⟩ = some (.slice none 0 0) := hj1.cell 11
 have b11 : Wb.cell? ⟨gQ, 11, none⟩ = some (.slice none 0 0) := hj2.cell 11
 refine bodyPost_ret (v := .tuple #[.agg #[I 0, I 0, I 0, I 0, I 0, I 0, I 0, I 0, I 0, .slice none 0 0, .slice none 0 0, .slice none 0 0], .agg #[I 0, I 0, I 0, I 0, I 0, I 0, I 0, I 0, I 0, .slice none 0 0, .slice none 0 0, .slice none 0 0], I E]) (by simp [results, Tryz.results128, go_sem, a0, a1, a2, a3, a4, a5, a6, a7, a8, a9, a10, a11, b0, b1, b2, b3, b4, b5, b6, b7, b8, b9, b10, b11]) rfl ⟨rfl, hb6⟩

theorem spring_pools_bad2 (c : Climate) (no : Int) (vd : Value) (p : List Weather) (s : Scene) (V : SceneV) (vl : Value) (l : List Int) (w : World) (hs : SceneAt w s V) (hl : Sl w 1 intC vl l) (hd : Sl w 3 Weather.cells vd p) (h1 : leastE s = 0) (h2 : greatE s ≠ 0) :
  Calls Tryz.prog 128 #[c.v, .agg #[I no, vd], s.v V, vl] w fun e w' => e = .returned (.tuple #[zeroP, zeroP, I (greatE s)]) ∧ Below w.heap.size w w' := by
 have hsc := hide hs.cells
 obtain ⟨Ac, nc, hc, _, _, _, hAc⟩ := hs.cells.open_
 obtain ⟨Ap, np, hp, _⟩ := hs.pairs.open_
 obtain ⟨Ad, nd, hdd, _⟩ := hs.days.open_
 obtain ⟨As, ns, hsi, _⟩ := hs.sights.open_
 obtain ⟨Ah, nh, hch, _⟩ := hs.changes.open_
 have HL := hide (fun w' (hb : Below w.heap.size w w') => basin_Least s V w' (hs.mono hb))
 have HG := hide (fun w' (hb : Below w.heap.size w w') => basin_Greatest s V w' (hs.mono hb))
 obtain ⟨E, hE⟩ : ∃ E, greatE s = E := ⟨_, rfl⟩
 simp only [hE, h1] at HL HG h2 ⊢
 have hne : (E != 0) = true := by simpa using h2
 obtain ⟨Aw, nw, rfl, _⟩ := hd.open_
 obtain ⟨Al, nl, rfl, _⟩ := hl.open_
 replace hd := hide hd
 replace hl := hide hl
 unfold Scene.v at *
 rw [hc, hp, hdd, hsi, hch] at HL HG ⊢
 clear hs hc hp hdd hsi hch hsc hAc
 unfold Climate.v
 unfold zeroP
 go_enter Tryz.func128, Tryz.ntmps128
 go_wp2_with fail
 obtain ⟨W1, hW1⟩ : ∃ W1, W1 = ((((w.alloc (.cells (c8 c) 25)).alloc (.cells #[I no, .slice Aw p.length nw] 28)).alloc (.cells #[.slice Ac s.basin.cells.length nc, .slice Ap s.basin.pairs.length np, I s.basin.gain, I s.basin.slack, I s.basin.deep, .slice Ad s.days.length nd, .slice As s.sights.length ns, .slice Ah s.changes.length nh] 63)).alloc (.cells #[I 0, I 0, I 0, I 0, I 0, I 0, I 0, I 0, I 0, .slice none 0 0, .slice none 0 0, .slice none 0 0] 152)).alloc (.cells #[I 0, I 0, I 0, I 0, I 0, I 0, I 0, I 0, I 0, .slice none 0 0, .slice none 0 0, .slice none 0 0] 152) := ⟨_, rfl⟩
 have z1 : W1.heap.size = w.heap.size + 5 := by rw [hW1]; simp
 have kB1 : Below w.heap.size w W1 := by rw [hW1]; exact below5 _ _ _ _ _ _
 have kX1 : Blk W1 (w.heap.size + 2) 63 #[.slice Ac s.basin.cells.length nc, .slice Ap s.basin.pairs.length np, I s.basin.gain, I s.basin.slack, I s.basin.deep, .slice Ad s.days.length nd, .slice As s.sights.length ns, .slice Ah s.changes.length nh] := by rw [hW1]; exact ((blk32 w _ _ _ _).alloc _).alloc _
 have kP1 : Blk W1 (w.heap.size + 3) 152 #[I 0, I 0, I 0, I 0, I 0, I 0, I 0, I 0, I 0, .slice none 0 0, .slice none 0 0, .slice none 0 0] := by
  rw [hW1]
  refine Blk.alloc ?_ _
  have := Blk.new (((w.alloc (.cells (c8 c) 25)).alloc (.cells #[I no, .slice Aw p.length nw] 28)).alloc (.cells #[.slice Ac s.basin.cells.length nc, .slice Ap s.basin.pairs.length np, I s.basin.gain, I s.basin.slack, I s.basin.deep, .slice Ad s.days.length nd, .slice As s.sights.length ns, .slice Ah s.changes.length nh] 63)) 152 #[I 0, I 0, I 0, I 0, I 0, I 0, I 0, I 0, I 0, .slice none 0 0, .slice none 0 0, .slice none 0 0]
  simpa only [World.size_alloc] using this
 have kQ1 : Blk W1 (w.heap.size + 4) 152 #[I 0, I 0, I 0, I 0, I 0, I 0, I 0, I 0, I 0, .slice none 0 0, .slice none 0 0, .slice none 0 0] := by
  rw [hW1]
  have := Blk.new ((((w.alloc (.cells (c8 c) 25)).alloc (.cells #[I no, .slice Aw p.length nw] 28)).alloc (.cells #[.slice Ac s.basin.cells.length nc, .slice Ap s.basin.pairs.length np, I s.basin.gain, I s.basin.slack, I s.basin.deep, .slice Ad s.days.length nd, .slice As s.sights.length ns, .slice Ah s.changes.length nh] 63)).alloc (.cells #[I 0, I 0, I 0, I 0, I 0, I 0, I 0, I 0, I 0, .slice none 0 0, .slice none 0 0, .slice none 0 0] 152)) 152 #[I 0, I 0, I 0, I 0, I 0, I 0, I 0, I 0, I 0, .slice none 0 0, .slice none 0 0, .slice none 0 0]
  simpa only [World.size_alloc] using this
 rw [← hW1]
 clear hW1
 have zX1 := kX1.lt
 obtain ⟨cx0, cx1, cx2, cx3, cx4, cx5, cx6, cx7⟩ := kX1.cells8
 go_at_call 73
 refine (HL.out W1 kB1).mono ?_
 rintro e w2 ⟨v1, rfl, hr1, _, hb1⟩
 obtain ⟨vs1, _, ho1, _⟩ := hr1 trivial
 obtain ⟨A1, n1, k1, rfl⟩ := ho1.shape
 have hx2 := fun o => (bcell hb1).1 (w.heap.size + 1 + 1) o zX1
 have kX2 := kX1.grow hb1
 have kP2 := kP1.grow hb1
 have kQ2 := kQ1.grow hb1
 have kB2 := bup kB1 hb1
 clear hb1 HL kX1 kP1 kQ1 kB1 ho1 hr1
 replace kP2 := hide kP2
 replace kQ2 := hide kQ2
 replace kB2 := hide kB2
 go_wp2_with fail
 go_at_call 74
 refine (HG.out w2 kB2.out).mono ?_
 rintro e w3 ⟨v2, rfl, _, hv2, hb2⟩
 obtain rfl := hv2 h2
 have kP3 := kP2.out.grow hb2
 have kQ3 := kQ2.out.grow hb2
 have kB3 := bup kB2.out hb2
 clear hb2 HG kX2 kP2 kQ2 kB2 hx2 cx0 cx1 cx2 cx3 cx4 cx5 cx6 cx7
 obtain ⟨gP, hgP⟩ : ∃ gP, w.heap.size + 1 + 1 + 1 = gP := ⟨_, rfl⟩
 obtain ⟨gQ, hgQ⟩ : ∃ gQ, w.heap.size + 1 + 1 + 1 + 1 = gQ := ⟨_, rfl⟩
 have kP := hide (show Blk w3 gP 152 _ from hgP ▸ kP3)
 have kQ := hide (show Blk w3 gQ 152 _ from hgQ ▸ kQ3)
 rw [hgQ, hgP]
 have hPQ : gP ≠ gQ := by omega
 have hQP : gQ ≠ gP := by omega
 have hPw : w.heap.size ≤ gP := by omega
 have hQw : w.heap.size ≤ gQ := by omega
 have a0 : w3.cell? ⟨gP, 0, none⟩ = some (I 0) := kP.out.cell 0
 have b0 := kP.out.frozen 0
 have c0 : w3.cell? ⟨gQ, 0, none⟩ = some (I 0) := kQ.out.cell 0
 have d0 := kQ.out.frozen 0
 have a1 : w3.cell? ⟨gP, 1, none⟩ = some (I 0) := kP.out.cell 1
 have b1 := kP.out.frozen 1
 have c1 : w3.cell? ⟨gQ, 1, none⟩ = some (I 0) := kQ.out.cell 1
 have d1 := kQ.out.frozen 1
 have a2 : w3.cell? ⟨gP, 2, none⟩ = some (I 0) := kP.out.cell 2
 have b2 := kP.out.frozen 2
 have c2 : w3.cell? ⟨gQ, 2, none⟩ = some (I 0) := kQ.out.cell 2
 have d2 := kQ.out.frozen 2
 have a3 : w3.cell? ⟨gP, 3, none⟩ = some (I 0) := kP.out.cell 3
 have b3 := kP.out.frozen 3
 have c3 : w3.cell? ⟨gQ, 3, none⟩ = some (I 0) := kQ.out.cell 3
 have d3 := kQ.out.frozen 3
 have a4 : w3.cell? ⟨gP, 4, none⟩ = some (I 0) := kP.out.cell 4
 have b4 := kP.out.frozen 4
 have c4 : w3.cell? ⟨gQ, 4, none⟩ = some (I 0) := kQ.out.cell 4
 have d4 := kQ.out.frozen 4
 have a5 : w3.cell? ⟨gP, 5, none⟩ = some (I 0) := kP.out.cell 5
 have b5 := kP.out.frozen 5
 have c5 : w3.cell? ⟨gQ, 5, none⟩ = some (I 0) := kQ.out.cell 5
 have d5 := kQ.out.frozen 5
 have a6 : w3.cell? ⟨gP, 6, none⟩ = some (I 0) := kP.out.cell 6
 have b6 := kP.out.frozen 6
 have c6 : w3.cell? ⟨gQ, 6, none⟩ = some (I 0) := kQ.out.cell 6
 have d6 := kQ.out.frozen 6
 have a7 : w3.cell? ⟨gP, 7, none⟩ = some (I 0) := kP.out.cell 7
 have b7 := kP.out.frozen 7
 have c7 : w3.cell? ⟨gQ, 7, none⟩ = some (I 0) := kQ.out.cell 7
 have d7 := kQ.out.frozen 7
 have a8 : w3.cell? ⟨gP, 8, none⟩ = some (I 0) := kP.out.cell 8
 have b8 := kP.out.frozen 8
 have c8 : w3.cell? ⟨gQ, 8, none⟩ = some (I 0) := kQ.out.cell 8
 have d8 := kQ.out.frozen 8
 have a9 : w3.cell? ⟨gP, 9, none⟩ = some (.slice none 0 0) := kP.out.cell 9
 have b9 := kP.out.frozen 9
 have c9 : w3.cell? ⟨gQ, 9, none⟩ = some (.slice none 0 0) := kQ.out.cell 9
 have d9 := kQ.out.frozen 9
 have a10 : w3.cell? ⟨gP, 10, none⟩ = some (.slice none 0 0) := kP.out.cell 10
 have b10 := kP.out.frozen 10
 have c10 : w3.cell? ⟨gQ, 10, none⟩ = some (.slice none 0 0) := kQ.out.cell 10
 have d10 := kQ.out.frozen 10
 have a11 : w3.cell? ⟨gP, 11, none⟩ = some (.slice none 0 0) := kP.out.cell 11
 have b11 := kP.out.frozen 11
 have c11 : w3.cell? ⟨gQ, 11, none⟩ = some (.slice none 0 0) := kQ.out.cell 11
 have d11 := kQ.out.frozen 11
 go_wp2_with fail
 clear a0 b0 c0 d0
 clear a1 b1 c1 d1
 clear a2 b2 c2 d2
 clear a3 b3 c3 d3
 clear a4 b4 c4 d4
 clear a5 b5 c5 d5
 clear a6 b6 c6 d6
 clear a7 b7 c7 d7
 clear a8 b8 c8 d8
 clear a9 b9 c9 d9
 clear a10 b10 c10 d10
 clear a11 b11 c11 d11
 have hj1 := setAll_far hPQ [I 0, I 0, I 0, I 0, I 0, I 0, I 0, I 0, I 0, .slice none 0 0, .slice none 0 0, .slice none 0 0] 0 (setAll w3 gP 0 [I 0, I 0, I 0, I 0, I 0, I 0, I 0, I 0, I 0, .slice none 0 0, .slice none 0 0, .slice none 0 0]) (setAll_blk [I 0, I 0, I 0, I 0, I 0, I 0, I 0, I 0, I 0, .slice none 0 0, .slice none 0 0, .slice none 0 0] 0 w3 _ kP.out)
 have hj2 := setAll_blk [I 0, I 0, I 0, I 0, I 0, I 0, I 0, I 0, I 0, .slice none 0 0, .slice none 0 0, .slice none 0 0] 0 (setAll w3 gP 0 [I 0, I 0, I 0, I 0, I 0, I 0, I 0, I 0, I 0, .slice none 0 0, .slice none 0 0, .slice none 0 0]) _ (setAll_far hQP [I 0, I 0, I 0, I 0, I 0, I 0, I 0, I 0, I 0, .slice none 0 0, .slice none 0 0, .slice none 0 0] 0 w3 kQ.out)
 have hb6 := setAll_below hQw [I 0, I 0, I 0, I 0, I 0, I 0, I 0, I 0, I 0, .slice none 0 0, .slice none 0 0, .slice none 0 0] 0 (setAll w3 gP 0 [I 0, I 0, I 0, I 0, I 0, I 0, I 0, I 0, I 0, .slice none 0 0, .slice none 0 0, .slice none 0 0]) (setAll_below hPw [I 0, I 0, I 0, I 0, I 0, I 0, I 0, I 0, I 0, .slice none 0 0, .slice none 0 0, .slice none 0 0] 0 w3 kB3)
 rw [putAll12_] at hj1 hj2
 obtain ⟨Wb, hWb⟩ : ∃ Wb, Wb = setAll (setAll w3 gP 0 [I 0, I 0, I 0, I 0, I 0, I 0, I 0, I 0, I 0, .slice none 0 0, .slice none 0 0, .slice none 0 0]) gQ 0 [I 0, I 0, I 0, I 0, I 0, I 0, I 0, I 0, I 0, .slice none 0 0, .slice none 0 0, .slice none 0 0] := ⟨_, rfl⟩
 rw [← hWb] at hj1 hj2 hb6
 have hWb2 : ((((((((((((((((((((((((w3.setCell ⟨gP, 0, none⟩ (I 0)).setCell ⟨gP, 1, none⟩ (I 0)).setCell ⟨gP, 2, none⟩ (I 0)).setCell ⟨gP, 3, none⟩ (I 0)).setCell ⟨gP, 4, none⟩ (I 0)).setCell ⟨gP, 5, none⟩ (I 0)).setCell ⟨gP, 6, none⟩ (I 0)).setCell ⟨gP, 7, none⟩ (I 0)).setCell ⟨gP, 8, none⟩ (I 0)).setCell ⟨gP, 9, none⟩ (.slice none 0 0)).setCell ⟨gP, 10, none⟩ (.slice none 0 0)).setCell ⟨gP, 11, none⟩ (.slice none 0 0)).setCell ⟨gQ, 0, none⟩ (I 0)).setCell ⟨gQ, 1, none⟩ (I 0)).setCell ⟨gQ, 2, none⟩ (I 0)).setCell ⟨gQ, 3, none⟩ (I 0)).setCell ⟨gQ, 4, none⟩ (I 0)).setCell ⟨gQ, 5, none⟩ (I 0)).setCell ⟨gQ, 6, none⟩ (I 0)).setCell ⟨gQ, 7, none⟩ (I 0)).setCell ⟨gQ, 8, none⟩ (I 0)).setCell ⟨gQ, 9, none⟩ (.slice none 0 0)).setCell ⟨gQ, 10, none⟩ (.slice none 0 0)).setCell ⟨gQ, 11, none⟩ (.slice none 0 0)) = Wb := hWb.symm
 rw [hWb2]
 clear hWb hWb2
 have a0 : Wb.cell? ⟨gP, 0, none⟩ = some (I 0) := hj1.cell 0
 have b0 : Wb.cell? ⟨gQ, 0, none⟩ = some (I 0) := hj2.cell 0
 have a1 : Wb.cell? ⟨gP, 1, none⟩ = some (I 0) := hj1.cell 1
 have b1 : Wb.cell? ⟨gQ, 1, none⟩ = some (I 0) := hj2.cell 1
 have a2 : Wb.cell? ⟨gP, 2, none⟩ = some (I 0) := hj1.cell 2
 have b2 : Wb.cell? ⟨gQ, 2, none⟩ = some (I 0) := hj2.cell 2
 have a3 : Wb.cell? ⟨gP, 3, none⟩ = some (I 0) := hj1.cell 3
 have b3 : Wb.cell? ⟨gQ, 3, none⟩ = some (I 0) := hj2.cell 3
 have a4 : Wb.cell? ⟨gP, 4, none⟩ = some (I 0) := hj1.cell 4
 have b4 : Wb.cell? ⟨gQ, 4, none⟩ = some (I 0) := hj2.cell 4
 have a5 : Wb.cell? ⟨gP, 5, none⟩ = some (I 0) := hj1.cell 5
 have b5 : Wb.cell? ⟨gQ, 5, none⟩ = some (I 0) := hj2.cell 5
 have a6 : Wb.cell? ⟨gP, 6, none⟩ = some (I 0) := hj1.cell 6
 have b6 : Wb.cell? ⟨gQ, 6, none⟩ = some (I 0) := hj2.cell 6
 have a7 : Wb.cell? ⟨gP, 7, none⟩ = some (I 0) := hj1.cell 7
 have b7 : Wb.cell? ⟨gQ, 7, none⟩ = some (I 0) := hj2.cell 7
 have a8 : Wb.cell? ⟨gP, 8, none⟩ = some (I 0) := hj1.cell 8
 have b8 : Wb.cell? ⟨gQ, 8, none⟩ = some (I 0) := hj2.cell 8
 have a9 : Wb.cell? ⟨gP, 9, none⟩ = some (.slice none 0 0) := hj1.cell 9
 have b9 : Wb.cell? ⟨gQ, 9, none⟩ = some (.slice none 0 0) := hj2.cell 9
 have a10 : Wb.cell? ⟨gP, 10, none⟩ = some (.slice none 0 0) := hj1.cell 10
 have b10 : Wb.cell? ⟨gQ, 10, none⟩ = some (.slice none 0 0) := hj2.cell 10
 have a11 : Wb.cell? ⟨gP, 11, none⟩ = some (.slice none 0 0) := hj1.cell 11
 have b11 : Wb.cell? ⟨gQ, 11, none⟩ = some (.slice none 0 0) := hj2.cell 11
 refine bodyPost_ret (v := .tuple #[.agg #[I 0, I 0, I 0, I 0, I 0, I 0, I 0, I 0, I 0, .slice none 0 0, .slice none 0 0, .slice none 0 0], .agg #[I 0, I 0, I 0, I 0, I 0, I 0, I 0, I 0, I 0, .slice none 0 0, .slice none 0 0, .slice none 0 0], I E]) (by simp [results, Tryz.results128, go_sem, a0, a1, a2, a3, a4, a5, a6, a7, a8, a9, a10, a11, b0, b1, b2, b3, b4, b5, b6, b7, b8, b9, b10, b11]) rfl ⟨rfl, hb6⟩

def poolsE (s : Scene) : Int := if leastE s ≠ 0 then leastE s else greatE s
end Go.Proofs.YtmjfdobjnnfafaaGreatDoor
