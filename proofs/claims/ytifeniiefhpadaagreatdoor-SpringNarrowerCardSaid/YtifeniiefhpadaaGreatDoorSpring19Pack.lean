/- The package spring: pools, where a field is lacking. Conditions stand in the theorems. -/
import Derived.Test.YtifeniiefhpadaaGreatDoorSpring18
import Derived.Test.YtifeniiefhpadaaGreatDoorSpring20
set_option linter.all false
set_option maxHeartbeats 8000000
set_option maxRecDepth 100000
namespace Go.Proofs.YtifeniiefhpadaaGreatDoor
open Go.RowKit

def zeroP : Value := .agg #[I 0, I 0, I 0, I 0, I 0, I 0, I 0, I 0, I 0, .slice none 0 0, .slice none 0 0, .slice none 0 0]
theorem putAll12_ (z0 z1 z2 z3 z4 z5 z6 z7 z8 z9 z10 z11 u0 u1 u2 u3 u4 u5 u6 u7 u8 u9 u10 u11 : Value) : putAll #[z0, z1, z2, z3, z4, z5, z6, z7, z8, z9, z10, z11] 0 [u0, u1, u2, u3, u4, u5, u6, u7, u8, u9, u10, u11] = #[u0, u1, u2, u3, u4, u5, u6, u7, u8, u9, u10, u11] := by simp [putAll]

theorem spring_pools_bad1 (c : Climate) (no : Int) (vd : Value) (p : List Weather) (s : Scene) (V : SceneV) (vl : Value) (l : List Int) (w : World) (hs : SceneAt w s V) (hl : Sl w 1 intC vl l) (hd : Sl w 3 Weather.cells vd p) (h1 : leastE s ≠ 0) :
  Calls Tryz.prog 62 #[c.v, .agg #[I no, vd], s.v V, vl] w fun e w' => e = .returned (.tuple #[zeroP, zeroP, I (leastE s)]) ∧ Below w.heap.size w w' := by
 have hsc := hide hs.cells
 obtain ⟨Ac, nc, hc, _, _, _, hAc⟩ := hs.cells.open_
 obtain ⟨Ap, np, hp, _⟩ := hs.pairs.open_
 obtain ⟨Ad, nd, hdd, _⟩ := hs.days.open_
 obtain ⟨As, ns, hsi, _⟩ := hs.sights.open_
 obtain ⟨Ah, nh, hch, _⟩ := hs.changes.open_
 have HL := hide (fun w' (hb : Below w.heap.size w w') => basin_Least s V w' (hs.mono hb))
 have HG := hide (fun w' (hb : Below w.heap.size w w') => basin_Greatest s V w' (hs.mono hb))
 obtain ⟨E, hE⟩ : ∃ E, leastE s = E := ⟨_, rfl⟩
 simp only [hE] at HL h1 ⊢
 have hne : (E != 0) = true := by simpa using h1
 obtain ⟨Aw, nw, rfl, _⟩ := hd.open_
 obtain ⟨Al, nl, rfl, _⟩ := hl.open_
 replace hd := hide hd
 replace hl := hide hl
 unfold Scene.v at *
 rw [hc, hp, hdd, hsi, hch] at HL HG ⊢
 clear hs hc hp hdd hsi hch hsc hAc
 unfold Climate.v
 unfold zeroP
 go_enter Tryz.func62, Tryz.ntmps62
 go_wp2_with fail
 obtain ⟨W1, hW1⟩ : ∃ W1, W1 = ((((w.alloc (.cells (c8 c) 25)).alloc (.cells #[I no, .slice Aw p.length nw] 58)).alloc (.cells (s8 s Ac nc Ap np Ad nd As ns Ah nh) 77)).alloc (.cells #[I 0, I 0, I 0, I 0, I 0, I 0, I 0, I 0, I 0, .slice none 0 0, .slice none 0 0, .slice none 0 0] 114)).alloc (.cells #[I 0, I 0, I 0, I 0, I 0, I 0, I 0, I 0, I 0, .slice none 0 0, .slice none 0 0, .slice none 0 0] 114) := ⟨_, rfl⟩
 have z1 : W1.heap.size = w.heap.size + 5 := by rw [hW1]; simp
 have kB1 : Below w.heap.size w W1 := by rw [hW1]; exact below5 _ _ _ _ _ _
 have kX1 : Blk W1 (w.heap.size + 2) 77 (s8 s Ac nc Ap np Ad nd As ns Ah nh) := by rw [hW1]; exact ((blk32 w _ _ _ _).alloc _).alloc _
 have kP1 : Blk W1 (w.heap.size + 3) 114 #[I 0, I 0, I 0, I 0, I 0, I 0, I 0, I 0, I 0, .slice none 0 0, .slice none 0 0, .slice none 0 0] := by
  rw [hW1]
  refine Blk.alloc ?_ _
  have := Blk.new (((w.alloc (.cells (c8 c) 25)).alloc (.cells #[I no, .slice Aw p.length nw] 58)).alloc (.cells (s8 s Ac nc Ap np Ad nd As ns Ah nh) 77)) 114 #[I 0, I 0, I 0, I 0, I 0, I 0, I 0, I 0, I 0, .slice none 0 0, .slice none 0 0, .slice none 0 0]
  simpa only [World.size_alloc] using this
 have kQ1 : Blk W1 (w.heap.size + 4) 114 #[I 0, I 0, I 0, I 0, I 0, I 0, I 0, I 0, I 0, .slice none 0 0, .slice none 0 0, .slice none 0 0] := by
  rw [hW1]
  have := Blk.new ((((w.alloc (.cells (c8 c) 25)).alloc (.cells #[I no, .slice Aw p.length nw] 58)).alloc (.cells (s8 s Ac nc Ap np Ad nd As ns Ah nh) 77)).alloc (.cells #[I 0, I 0, I 0, I 0, I 0, I 0, I 0, I 0, I 0, .slice none 0 0, .slice none 0 0, .slice none 0 0] 114)) 114 #[I 0, I 0, I 0, I 0, I 0, I 0, I 0, I 0, I 0, .slice none 0 0, .slice none 0 0, .slice none 0 0]
  simpa only [World.size_alloc] using this
 rw [← hW1]
 clear hW1
 have zX1 := kX1.lt
 obtain ⟨cx0, cx1, cx2, cx3, cx4, cx5, cx6, cx7⟩ := kX1.cells8
 clear HG
 go_at_call 95
 refine (HL.out W1 kB1).mono ?_
 rintro e w2 ⟨v1, rfl, _, hv1, hb1⟩
 obtain rfl := hv1 h1
 have kP2 := kP1.grow hb1
 have kQ2 := kQ1.grow hb1
 have kB2 := bup kB1 hb1
 clear hb1 HL kX1 kP1 kQ1 kB1 cx0 cx1 cx2 cx3 cx4 cx5 cx6 cx7
 obtain ⟨gP, hgP⟩ : ∃ gP, w.heap.size + 1 + 1 + 1 = gP := ⟨_, rfl⟩
 obtain ⟨gQ, hgQ⟩ : ∃ gQ, w.heap.size + 1 + 1 + 1 + 1 = gQ := ⟨_, rfl⟩
 have kP := hide (show Blk w2 gP 114 _ from hgP ▸ kP2)
 have kQ := hide (show Blk w2 gQ 114 _ from hgQ ▸ kQ2)
 rw [hgQ, hgP]
 have hPQ : gP ≠ gQ := by omega
 have hQP : gQ ≠ gP := by omega
 have hPw : w.heap.size ≤ gP := by omega
 have hQw : w.heap.size ≤ gQ := by omega
 have a0 : w2.cell? ⟨gP, 0, none⟩ = some (I 0) := kP.out.cell 0
 have b0 := kP.out.frozen 0
 have c0 : w2.cell? ⟨gQ, 0, none⟩ = some (I 0) := kQ.out.cell 0
 have d0 := kQ.out.frozen 0
 have a1 : w2.cell? ⟨gP, 1, none⟩ = some (I 0) := kP.out.cell 1
 have b1 := kP.out.frozen 1
 have c1 : w2.cell? ⟨gQ, 1, none⟩ = some (I 0) := kQ.out.cell 1
 have d1 := kQ.out.frozen 1
 have a2 : w2.cell? ⟨gP, 2, none⟩ = some (I 0) := kP.out.cell 2
 have b2 := kP.out.frozen 2
 have c2 : w2.cell? ⟨gQ, 2, none⟩ = some (I 0) := kQ.out.cell 2
 have d2 := kQ.out.frozen 2
 have a3 : w2.cell? ⟨gP, 3, none⟩ = some (I 0) := kP.out.cell 3
 have b3 := kP.out.frozen 3
 have c3 : w2.cell? ⟨gQ, 3, none⟩ = some (I 0) := kQ.out.cell 3
 have d3 := kQ.out.frozen 3
 have a4 : w2.cell? ⟨gP, 4, none⟩ = some (I 0) := kP.out.cell 4
 have b4 := kP.out.frozen 4
 have c4 : w2.cell? ⟨gQ, 4, none⟩ = some (I 0) := kQ.out.cell 4
 have d4 := kQ.out.frozen 4
 have a5 : w2.cell? ⟨gP, 5, none⟩ = some (I 0) := kP.out.cell 5
 have b5 := kP.out.frozen 5
 have c5 : w2.cell? ⟨gQ, 5, none⟩ = some (I 0) := kQ.out.cell 5
 have d5 := kQ.out.frozen 5
 have a6 : w2.cell? ⟨gP, 6, none⟩ = some (I 0) := kP.out.cell 6
 have b6 := kP.out.frozen 6
 have c6 : w2.cell? ⟨gQ, 6, none⟩ = some (I 0) := kQ.out.cell 6
 have d6 := kQ.out.frozen 6
 have a7 : w2.cell? ⟨gP, 7, none⟩ = some (I 0) := kP.out.cell 7
 have b7 := kP.out.frozen 7
 have c7 : w2.cell? ⟨gQ, 7, none⟩ = some (I 0) := kQ.out.cell 7
 have d7 := kQ.out.frozen 7
 have a8 : w2.cell? ⟨gP, 8, none⟩ = some (I 0) := kP.out.cell 8
 have b8 := kP.out.frozen 8
 have c8 : w2.cell? ⟨gQ, 8, none⟩ = some (I 0) := kQ.out.cell 8
 have d8 := kQ.out.frozen 8
 have a9 : w2.cell? ⟨gP, 9, none⟩ = some (.slice none 0 0) := kP.out.cell 9
 have b9 := kP.out.frozen 9
 have c9 : w2.cell? ⟨gQ, 9, none⟩ = some (.slice none 0 0) := kQ.out.cell 9
 have d9 := kQ.out.frozen 9
 have a10 : w2.cell? ⟨gP, 10, none⟩ = some (.slice none 0 0) := kP.out.cell 10
 have b10 := kP.out.frozen 10
 have c10 : w2.cell? ⟨gQ, 10, none⟩ = some (.slice none 0 0) := kQ.out.cell 10
 have d10 := kQ.out.frozen 10
 have a11 : w2.cell? ⟨gP, 11, none⟩ = some (.slice none 0 0) := kP.out.cell 11
 have b11 := kP.out.frozen 11
 have c11 : w2.cell? ⟨gQ, 11, none⟩ = some (.slice none 0 0) := kQ.out.cell 11
 have d11 := kQ.out.frozen 11
 go_wp2_with fail
 clear a0 b0 c0 d0
 clear a1 b1 c1 d1
 clear a2 b2 c2 d2
 clear a3 b3 c3 d3
 clear a4 b4 c4 d4
 clear a5 b5 c5 d5
 clear a6 b6 c6 d6
 clear a7 b7 c7 d7
 clear a8 b8 c8 d8
 clear a9 b9 c9 d9
 clear a10 b10 c10 d10
 clear a11 b11 c11 d11
 have hj1 := setAll_far hPQ [I 0, I 0, I 0, I 0, I 0, I 0, I 0, I 0, I 0, .slice none 0 0, .slice none 0 0, .slice none 0 0] 0 (setAll w2 gP 0 [I 0, I 0, I 0, I 0, I 0, I 0, I 0, I 0, I 0, .slice none 0 0, .slice none 0 0, .slice none 0 0]) (setAll_blk [I 0, I 0, I 0, I 0, I 0, I 0, I 0, I 0, I 0, .slice none 0 0, .slice none 0 0, .slice none 0 0] 0 w2 _ kP.out)
 have hj2 := setAll_blk [I 0, I 0, I 0, I 0, I 0, I 0, I 0, I 0, I 0, .slice none 0 0, .slice none 0 0, .slice none 0 0] 0 (setAll w2 gP 0 [I 0, I 0, I 0, I 0, I 0, I 0, I 0, I 0, I 0, .slice none 0 0, .slice none 0 0, .slice none 0 0]) _ (setAll_far hQP [I 0, I 0, I 0, I 0, I 0, I 0, I 0, I 0, I 0, .slice none 0 0, .slice none 0 0, .slice none 0 0] 0 w2 kQ.out)
 have hb6 := setAll_below hQw [I 0, I 0, I 0, I 0, I 0, I 0, I 0, I 0, I 0, .slice none 0 0, .slice none 0 0, .slice none 0 0] 0 (setAll w2 gP 0 [I 0, I 0, I 0, I 0, I 0, I 0, I 0, I 0, I 0, .slice none 0 0, .slice none 0 0, .slice none 0 0]) (setAll_below hPw [I 0, I 0, I 0, I 0, I 0, I 0, I 0, I 0, I 0, .slice none 0 0, .slice none 0 0, .slice none 0 0] 0 w2 kB2)
 rw [putAll12_] at hj1 hj2
 obtain ⟨Wb, hWb⟩ : ∃ Wb, Wb = setAll (setAll w2 gP 0 [I 0, I 0, I 0, I 0, I 0, I 0, I 0, I 0, I 0, .slice none 0 0, .slice none 0 0, .slice none 0 0]) gQ 0 [I 0, I 0, I 0, I 0, I 0, I 0, I 0, I 0, I 0, .slice none 0 0, .slice none 0 0, .slice none 0 0] := ⟨_, rfl⟩
 rw [← hWb] at hj1 hj2 hb6
 have hWb2 : ((((((((((((((((((((((((w2.setCell ⟨gP, 0, none⟩ (I 0)).setCell ⟨gP, 1, none⟩ (I 0)).setCell ⟨gP, 2, none⟩ (I 0)).setCell ⟨gP, 3, none⟩ (I 0)).setCell ⟨gP, 4, none⟩ (I 0)).setCell ⟨gP, 5, none⟩ (I 0)).setCell ⟨gP, 6, none⟩ (I 0)).setCell ⟨gP, 7, none⟩ (I 0)).setCell ⟨gP, 8, none⟩ (I 0)).setCell ⟨gP, 9, none⟩ (.slice none 0 0)).setCell ⟨gP, 10, none⟩ (.slice none 0 0)).setCell ⟨gP, 11, none⟩ (.slice none 0 0)).setCell ⟨gQ, 0, none⟩ (I 0)).setCell ⟨gQ, 1, none⟩ (I 0)).setCell ⟨gQ, 2, none⟩ (I 0)).setCell ⟨gQ, 3, none⟩ (I 0)).setCell ⟨gQ, 4, none⟩ (I 0)).setCell ⟨gQ, 5, none⟩ (I 0)).setCell ⟨gQ, 6, none⟩ (I 0)).setCell ⟨gQ, 7, none⟩ (I 0)).setCell ⟨gQ, 8, none⟩ (I 0)).setCell ⟨gQ, 9, none⟩ (.slice none 0 0)).setCell ⟨gQ, 10, none⟩ (.slice none 0 0)).setCell ⟨gQ, 11, none⟩ (.slice none 0 0)) = Wb := hWb.symm
 rw [hWb2]
 clear hWb hWb2
 have a0 : Wb.cell? ⟨gP, 0, none⟩ = some (I 0) := hj1.cell 0
 have b0 : Wb.cell? ⟨gQ, 0, none⟩ = some (I 0) := hj2.cell 0
 have a1 : Wb.cell? ⟨gP, 1, none⟩ = some (I 0) := hj1.cell 1
 have b1 : Wb.cell? ⟨gQ, 1, none⟩ = some (I 0) := hj2.cell 1
 have a2 : Wb.cell? ⟨gP, 2, none⟩ = some (I 0) := hj1.cell 2
 have b2 : Wb.cell? ⟨gQ, 2, none⟩ = some (I 0) := hj2.cell 2
 have a3 : Wb.cell? ⟨gP, 3, none⟩ = some (I 0) := hj1.cell 3
 have b3 : Wb.cell? ⟨gQ, 3, none⟩ = some (I 0) := hj2.cell 3
 have a4 : Wb.cell? ⟨gP, 4, none⟩ = some (I 0) := hj1.cell 4
 have b4 : Wb.cell? ⟨gQ, 4, none⟩ = some (I 0) := hj2.cell 4
 have a5 : Wb.cell? ⟨gP, 5, none⟩ = some (I 0) := hj1.cell 5
 have b5 : Wb.cell? ⟨gQ, 5, none⟩ = some (I 0) := hj2.cell 5
 have a6 : Wb.cell? ⟨gP, 6, none⟩ = some (I 0) := hj1.cell 6
 have b6 : Wb.cell? ⟨gQ, 6, none⟩ = some (I 0) := hj2.cell 6
 have a7 : Wb.cell? ⟨gP, 7, none⟩ = some (I 0) := hj1.cell 7
 have b7 : Wb.cell? ⟨gQ, 7, none⟩ = some (I 0) := hj2.cell 7
 have a8 : Wb.cell? ⟨gP, 8, none⟩ = some (I 0) := hj1.cell 8
 have b8 : Wb.cell? ⟨gQ, 8, none⟩ = some (I 0) := hj2.cell 8
 have a9 : Wb.cell? ⟨gP, 9, none⟩ = some (.slice none 0 0) := hj1.cell 9
 have b9 : Wb.cell? ⟨gQ, 9, none⟩ = some (.slice none 0 0) := hj2.cell 9
 have a10 : Wb.cell? ⟨gP, 10, none⟩ = some (.slice none 0 0) := hj1.cell 10
 have b10 : Wb.cell? ⟨gQ, 10, none⟩ = some (.slice none 0 0) := hj2.cell 10
 have a11 : Wb.cell? ⟨gP, 11, none⟩ = some (.slice none 0 0) := hj1.cell 11
 have b11 : Wb.cell? ⟨gQ, 11, none⟩ = some (.slice none 0 0) := hj2.cell 11
 refine bodyPost_ret (v := .tuple #[.agg #[I 0, I 0, I 0, I 0, I 0, I 0, I 0, I 0, I 0, .slice none 0 0, .slice none 0 0, .slice none 0 0], .agg #[I 0, I 0, I 0, I 0, I 0, I 0, I 0, I 0, I 0, .slice none 0 0, .slice none 0 0, .slice none 0 0], I E]) (by simp [results, Tryz.results62, go_sem, a0, a1, a2, a3, a4, a5, a6, a7, a8, a9, a10, a11, b0, b1, b2, b3, b4, b5, b6, b7, b8, b9, b10, b11]) rfl ⟨rfl, hb6⟩

theorem spring_pools_bad2 (c : Climate) (no : Int) (vd : Value) (p : List Weather) (s : Scene) (V : SceneV) (vl : Value) (l : List Int) (w : World) (hs : SceneAt w s V) (hl : Sl w 1 intC vl l) (hd : Sl w 3 Weather.cells vd p) (h1 : leastE s = 0) (h2 : greatE s ≠ 0) :
  Calls Tryz.prog 62 #[c.v, .agg #[I no, vd], s.v V, vl] w fun e w' => e = .returned (.tuple #[zeroP, zeroP, I (greatE s)]) ∧ Below w.heap.size w w' := by
 have hsc := hide hs.cells
 obtain ⟨Ac, nc, hc, _, _, _, hAc⟩ := hs.cells.open_
 obtain ⟨Ap, np, hp, _⟩ := hs.pairs.open_
 obtain ⟨Ad, nd, hdd, _⟩ := hs.days.open_
 obtain ⟨As, ns, hsi, _⟩ := hs.sights.open_
 obtain ⟨Ah, nh, hch, _⟩ := hs.changes.open_
 have HL := hide (fun w' (hb : Below w.heap.size w w') => basin_Least s V w' (hs.mono hb))
 have HG := hide (fun w' (hb : Below w.heap.size w w') => basin_Greatest s V w' (hs.mono hb))
 obtain ⟨E, hE⟩ : ∃ E, greatE s = E := ⟨_, rfl⟩
 simp only [hE, h1] at HL HG h2 ⊢
 have hne : (E != 0) = true := by simpa using h2
 obtain ⟨Aw, nw, rfl, _⟩ := hd.open_
 obtain ⟨Al, nl, rfl, _⟩ := hl.open_
 replace hd := hide hd
 replace hl := hide hl
 unfold Scene.v at *
 rw [hc, hp, hdd, hsi, hch] at HL HG ⊢
 clear hs hc hp hdd hsi hch hsc hAc
 unfold Climate.v
 unfold zeroP
 go_enter Tryz.func62, Tryz.ntmps62
 go_wp2_with fail
 obtain ⟨W1, hW1⟩ : ∃ W1, W1 = ((((w.alloc (.cells (c8 c) 25)).alloc (.cells #[I no, .slice Aw p.length nw] 58)).alloc (.cells (s8 s Ac nc Ap np Ad nd As ns Ah nh) 77)).alloc (.cells #[I 0, I 0, I 0, I 0, I 0, I 0, I 0, I 0, I 0, .slice none 0 0, .slice none 0 0, .slice none 0 0] 114)).alloc (.cells #[I 0, I 0, I 0, I 0, I 0, I 0, I 0, I 0, I 0, .slice none 0 0, .slice none 0 0, .slice none 0 0] 114) := ⟨_, rfl⟩
 have z1 : W1.heap.size = w.heap.size + 5 := by rw [hW1]; simp
 have kB1 : Below w.heap.size w W1 := by rw [hW1]; exact below5 _ _ _ _ _ _
 have kX1 : Blk W1 (w.heap.size + 2) 77 (s8 s Ac nc Ap np Ad nd As ns Ah nh) := by rw [hW1]; exact ((blk32 w _ _ _ _).alloc _).alloc _
 have kP1 : Blk W1 (w.heap.size + 3) 114 #[I 0, I 0, I 0, I 0, I 0, I 0, I 0, I 0, I 0, .slice none 0 0, .slice none 0 0, .slice none 0 0] := by
  rw [hW1]
  refine Blk.alloc ?_ _
  have := Blk.new (((w.alloc (.cells (c8 c) 25)).alloc (.cells #[I no, .slice Aw p.length nw] 58)).alloc (.cells (s8 s Ac nc Ap np Ad nd As ns Ah nh) 77)) 114 #[I 0, I 0, I 0, I 0, I 0, I 0, I 0, I 0, I 0, .slice none 0 0, .slice none 0 0, .slice none 0 0]
  simpa only [World.size_alloc] using this
 have kQ1 : Blk W1 (w.heap.size + 4) 114 #[I 0, I 0, I 0, I 0, I 0, I 0, I 0, I 0, I 0, .slice none 0 0, .slice none 0 0, .slice none 0 0] := by
  rw [hW1]
  have := Blk.new ((((w.alloc (.cells (c8 c) 25)).alloc (.cells #[I no, .slice Aw p.length nw] 58)).alloc (.cells (s8 s Ac nc Ap np Ad nd As ns Ah nh) 77)).alloc (.cells #[I 0, I 0, I 0, I 0, I 0, I 0, I 0, I 0, I 0, .slice none 0 0, .slice none 0 0, .slice none 0 0] 114)) 114 #[I 0, I 0, I 0, I 0, I 0, I 0, I 0, I 0, I 0, .slice none 0 0, .slice none 0 0, .slice none 0 0]
  simpa only [World.size_alloc] using this
 rw [← hW1]
 clear hW1
 have zX1 := kX1.lt
 obtain ⟨cx0, cx1, cx2, cx3, cx4, cx5, cx6, cx7⟩ := kX1.cells8
 go_at_call 95
 refine (HL.out W1 kB1).mono ?_
 rintro e w2 ⟨v1, rfl, hr1, _, hb1⟩
 obtain ⟨vs1, _, ho1, _⟩ := hr1 trivial
 obtain ⟨A1, n1, k1, rfl⟩ := ho1.shape
 have hx2 := fun o => (bcell hb1).1 (w.heap.size + 1 + 1) o zX1
 have kX2 := kX1.grow hb1
 have kP2 := kP1.grow hb1
 have kQ2 := kQ1.grow hb1
 have kB2 := bup kB1 hb1
 clear hb1 HL kX1 kP1 kQ1 kB1 ho1 hr1
 replace kP2 := hide kP2
 replace kQ2 := hide kQ2
 replace kB2 := hide kB2
 go_wp2_with fail
 go_at_call 96
 refine (HG.out w2 kB2.out).mono ?_
 rintro e w3 ⟨v2, rfl, _, hv2, hb2⟩
 obtain rfl := hv2 h2
 have kP3 := kP2.out.grow hb2
 have kQ3 := kQ2.out.grow hb2
 have kB3 := bup kB2.out hb2
 clear hb2 HG kX2 kP2 kQ2 kB2 hx2 cx0 cx1 cx2 cx3 cx4 cx5 cx6 cx7
 obtain ⟨gP, hgP⟩ : ∃ gP, w.heap.size + 1 + 1 + 1 = gP := ⟨_, rfl⟩
 obtain ⟨gQ, hgQ⟩ : ∃ gQ, w.heap.size + 1 + 1 + 1 + 1 = gQ := ⟨_, rfl⟩
 have kP := hide (show Blk w3 gP 114 _ from hgP ▸ kP3)
 have kQ := hide (show Blk w3 gQ 114 _ from hgQ ▸ kQ3)
 rw [hgQ, hgP]
 have hPQ : gP ≠ gQ := by omega
 have hQP : gQ ≠ gP := by omega
 have hPw : w.heap.size ≤ gP := by omega
 have hQw : w.heap.size ≤ gQ := by omega
 have a0 : w3.cell? ⟨gP, 0, none⟩ = some (I 0) := kP.out.cell 0
 have b0 := kP.out.frozen 0
 have c0 : w3.cell? ⟨gQ, 0, none⟩ = some (I 0) := kQ.out.cell 0
 have d0 := kQ.out.frozen 0
 have a1 : w3.cell? ⟨gP, 1, none⟩ = some (I 0) := kP.out.cell 1
 have b1 := kP.out.frozen 1
 have c1 : w3.cell? ⟨gQ, 1, none⟩ = some (I 0) := kQ.out.cell 1
 have d1 := kQ.out.frozen 1
 have a2 : w3.cell? ⟨gP, 2, none⟩ = some (I 0) := kP.out.cell 2
 have b2 := kP.out.frozen 2
 have c2 : w3.cell? ⟨gQ, 2, none⟩ = some (I 0) := kQ.out.cell 2
 have d2 := kQ.out.frozen 2
 have a3 : w3.cell? ⟨gP, 3, none⟩ = some (I 0) := kP.out.cell 3
 have b3 := kP.out.frozen 3
 have c3 : w3.cell? ⟨gQ, 3, none⟩ = some (I 0) := kQ.out.cell 3
 have d3 := kQ.out.frozen 3
 have a4 : w3.cell? ⟨gP, 4, none⟩ = some (I 0) := kP.out.cell 4
 have b4 := kP.out.frozen 4
 have c4 : w3.cell? ⟨gQ, 4, none⟩ = some (I 0) := kQ.out.cell 4
 have d4 := kQ.out.frozen 4
 have a5 : w3.cell? ⟨gP, 5, none⟩ = some (I 0) := kP.out.cell 5
 have b5 := kP.out.frozen 5
 have c5 : w3.cell? ⟨gQ, 5, none⟩ = some (I 0) := kQ.out.cell 5
 have d5 := kQ.out.frozen 5
 have a6 : w3.cell? ⟨gP, 6, none⟩ = some (I 0) := kP.out.cell 6
 have b6 := kP.out.frozen 6
 have c6 : w3.cell? ⟨gQ, 6, none⟩ = some (I 0) := kQ.out.cell 6
 have d6 := kQ.out.frozen 6
 have a7 : w3.cell? ⟨gP, 7, none⟩ = some (I 0) := kP.out.cell 7
 have b7 := kP.out.frozen 7
 have c7 : w3.cell? ⟨gQ, 7, none⟩ = some (I 0) := kQ.out.cell 7
 have d7 := kQ.out.frozen 7
 have a8 : w3.cell? ⟨gP, 8, none⟩ = some (I 0) := kP.out.cell 8
 have b8 := kP.out.frozen 8
 have c8 : w3.cell? ⟨gQ, 8, none⟩ = some (I 0) := kQ.out.cell 8
 have d8 := kQ.out.frozen 8
 have a9 : w3.cell? ⟨gP, 9, none⟩ = some (.slice none 0 0) := kP.out.cell 9
 have b9 := kP.out.frozen 9
 have c9 : w3.cell? ⟨gQ, 9, none⟩ = some (.slice none 0 0) := kQ.out.cell 9
 have d9 := kQ.out.frozen 9
 have a10 : w3.cell? ⟨gP, 10, none⟩ = some (.slice none 0 0) := kP.out.cell 10
 have b10 := kP.out.frozen 10
 have c10 : w3.cell? ⟨gQ, 10, none⟩ = some (.slice none 0 0) := kQ.out.cell 10
 have d10 := kQ.out.frozen 10
 have a11 : w3.cell? ⟨gP, 11, none⟩ = some (.slice none 0 0) := kP.out.cell 11
 have b11 := kP.out.frozen 11
 have c11 : w3.cell? ⟨gQ, 11, none⟩ = some (.slice none 0 0) := kQ.out.cell 11
 have d11 := kQ.out.frozen 11
 go_wp2_with fail
 clear a0 b0 c0 d0
 clear a1 b1 c1 d1
 clear a2 b2 c2 d2
 clear a3 b3 c3 d3
 clear a4 b4 c4 d4
 clear a5 b5 c5 d5
 clear a6 b6 c6 d6
 clear a7 b7 c7 d7
 clear a8 b8 c8 d8
 clear a9 b9 c9 d9
 clear a10 b10 c10 d10
 clear a11 b11 c11 d11
 have hj1 := setAll_far hPQ [I 0, I 0, I 0, I 0, I 0, I 0, I 0, I 0, I 0, .slice none 0 0, .slice none 0 0, .slice none 0 0] 0 (setAll w3 gP 0 [I 0, I 0, I 0, I 0, I 0, I 0, I 0, I 0, I 0, .slice none 0 0, .slice none 0 0, .slice none 0 0]) (setAll_blk [I 0, I 0, I 0, I 0, I 0, I 0, I 0, I 0, I 0, .slice none 0 0, .slice none 0 0, .slice none 0 0] 0 w3 _ kP.out)
 have hj2 := setAll_blk [I 0, I 0, I 0, I 0, I 0, I 0, I 0, I 0, I 0, .slice none 0 0, .slice none 0 0, .slice none 0 0] 0 (setAll w3 gP 0 [I 0, I 0, I 0, I 0, I 0, I 0, I 0, I 0, I 0, .slice none 0 0, .slice none 0 0, .slice none 0 0]) _ (setAll_far hQP [I 0, I 0, I 0, I 0, I 0, I 0, I 0, I 0, I 0, .slice none 0 0, .slice none 0 0, .slice none 0 0] 0 w3 kQ.out)
 have hb6 := setAll_below hQw [I 0, I 0, I 0, I 0, I 0, I 0, I 0, I 0, I 0, .slice none 0 0, .slice none 0 0, .slice none 0 0] 0 (setAll w3 gP 0 [I 0, I 0, I 0, I 0, I 0, I 0, I 0, I 0, I 0, .slice none 0 0, .slice none 0 0, .slice none 0 0]) (setAll_below hPw [I 0, I 0, I 0, I 0, I 0, I 0, I 0, I 0, I 0, .slice none 0 0, .slice none 0 0, .slice none 0 0] 0 w3 kB3)
 rw [putAll12_] at hj1 hj2
 obtain ⟨Wb, hWb⟩ : ∃ Wb, Wb = setAll (setAll w3 gP 0 [I 0, I 0, I 0, I 0, I 0, I 0, I 0, I 0, I 0, .slice none 0 0, .slice none 0 0, .slice none 0 0]) gQ 0 [I 0, I 0, I 0, I 0, I 0, I 0, I 0, I 0, I 0, .slice none 0 0, .slice none 0 0, .slice none 0 0] := ⟨_, rfl⟩
 rw [← hWb] at hj1 hj2 hb6
 have hWb2 : ((((((((((((((((((((((((w3.setCell ⟨gP, 0, none⟩ (I 0)).setCell ⟨gP, 1, none⟩ (I 0)).setCell ⟨gP, 2, none⟩ (I 0)).setCell ⟨gP, 3, none⟩ (I 0)).setCell ⟨gP, 4, none⟩ (I 0)).setCell ⟨gP, 5, none⟩ (I 0)).setCell ⟨gP, 6, none⟩ (I 0)).setCell ⟨gP, 7, none⟩ (I 0)).setCell ⟨gP, 8, none⟩ (I 0)).setCell ⟨gP, 9, none⟩ (.slice none 0 0)).setCell ⟨gP, 10, none⟩ (.slice none 0 0)).setCell ⟨gP, 11, none⟩ (.slice none 0 0)).setCell ⟨gQ, 0, none⟩ (I 0)).setCell ⟨gQ, 1, none⟩ (I 0)).setCell ⟨gQ, 2, none⟩ (I 0)).setCell ⟨gQ, 3, none⟩ (I 0)).setCell ⟨gQ, 4, none⟩ (I 0)).setCell ⟨gQ, 5, none⟩ (I 0)).setCell ⟨gQ, 6, none⟩ (I 0)).setCell ⟨gQ, 7, none⟩ (I 0)).setCell ⟨gQ, 8, none⟩ (I 0)).setCell ⟨gQ, 9, none⟩ (.slice none 0 0)).setCell ⟨gQ, 10, none⟩ (.slice none 0 0)).setCell ⟨gQ, 11, none⟩ (.slice none 0 0)) = Wb := hWb.symm
 rw [hWb2]
 clear hWb hWb2
 have a0 : Wb.cell? ⟨gP, 0, none⟩ = some (I 0) := hj1.cell 0
 have b0 : Wb.cell? ⟨gQ, 0, none⟩ = some (I 0) := hj2.cell 0
 have a1 : Wb.cell? ⟨gP, 1, none⟩ = some (I 0) := hj1.cell 1
 have b1 : Wb.cell? ⟨gQ, 1, none⟩ = some (I 0) := hj2.cell 1
 have a2 : Wb.cell? ⟨gP, 2, none⟩ = some (I 0) := hj1.cell 2
 have b2 : Wb.cell? ⟨gQ, 2, none⟩ = some (I 0) := hj2.cell 2
 have a3 : Wb.cell? ⟨gP, 3, none⟩ = some (I 0) := hj1.cell 3
 have b3 : Wb.cell? ⟨gQ, 3, none⟩ = some (I 0) := hj2.cell 3
 have a4 : Wb.cell? ⟨gP, 4, none⟩ = some (I 0) := hj1.cell 4
 have b4 : Wb.cell? ⟨gQ, 4, none⟩ = some (I 0) := hj2.cell 4
 have a5 : Wb.cell? ⟨gP, 5, none⟩ = some (I 0) := hj1.cell 5
 have b5 : Wb.cell? ⟨gQ, 5, none⟩ = some (I 0) := hj2.cell 5
 have a6 : Wb.cell? ⟨gP, 6, none⟩ = some (I 0) := hj1.cell 6
 have b6 : Wb.cell? ⟨gQ, 6, none⟩ = some (I 0) := hj2.cell 6
 have a7 : Wb.cell? ⟨gP, 7, none⟩ = some (I 0) := hj1.cell 7
 have b7 : Wb.cell? ⟨gQ, 7, none⟩ = some (I 0) := hj2.cell 7
 have a8 : Wb.cell? ⟨gP, 8, none⟩ = some (I 0) := hj1.cell 8
 have b8 : Wb.cell? ⟨gQ, 8, none⟩ = some (I 0) := hj2.cell 8
 have a9 : Wb.cell? ⟨gP, 9, none⟩ = some (.slice none 0 0) := hj1.cell 9
 have b9 : Wb.cell? ⟨gQ, 9, none⟩ = some (.slice none 0 0) := hj2.cell 9
 have a10 : Wb.cell? ⟨gP, 10, none⟩ = some (.slice none 0 0) := hj1.cell 10
 have b10 : Wb.cell? ⟨gQ, 10, none⟩ = some (.slice none 0 0) := hj2.cell 10
 have a11 : Wb.cell? ⟨gP, 11, none⟩ = some (.slice none 0 0) := hj1.cell 11
 have b11 : Wb.cell? ⟨gQ, 11, none⟩ = some (.slice none 0 0) := hj2.cell 11
 refine bodyPost_ret (v := .tuple #[.agg #[I 0, I 0, I 0, I 0, I 0, I 0, I 0, I 0, I 0, .slice none 0 0, .slice none 0 0, .slice none 0 0], .agg #[I 0, I 0, I 0, I 0, I 0, I 0, I 0, I 0, I 0, .slice none 0 0, .slice none 0 0, .slice none 0 0], I E]) (by simp [results, Tryz.results62, go_sem, a0, a1, a2, a3, a4, a5, a6, a7, a8, a9, a10, a11, b0, b1, b2, b3, b4, b5, b6, b7, b8, b9, b10, b11]) rfl ⟨rfl, hb6⟩

def poolsE (s : Scene) : Int := if leastE s ≠ 0 then leastE s else greatE s
end Go.Proofs.YtifeniiefhpadaaGreatDoor
/- The package spring: volume. Conditions stand in the theorems. -/
namespace Go.Proofs.YtifeniiefhpadaaGreatDoor
open Go.RowKit Go.Shelf
attribute [local go_sem] Oper.semAt_some

def loA (c : Climate) (p : List Weather) (cs : List Cell) (ws : List Int) (frm til : Int) (xs : List (FacC c)) : Int := xs.foldl (fun m f => min m (cameF c p f.1 til cs ws - cameF c p f.1 frm cs ws)) 1152921504606846976
def hiA (c : Climate) (p : List Weather) (cs : List Cell) (ws : List Int) (frm til : Int) (xs : List (FacC c)) : Int := xs.foldl (fun m f => max m (cameF c p f.1 til cs ws - cameF c p f.1 frm cs ws)) (-1152921504606846976)
theorem loA_snoc {c : Climate} {p : List Weather} {cs : List Cell} {ws : List Int} {frm til : Int} (xs : List (FacC c)) (f : FacC c) : loA c p cs ws frm til (xs ++ [f]) = min (loA c p cs ws frm til xs) (cameF c p f.1 til cs ws - cameF c p f.1 frm cs ws) := by simp [loA]
theorem hiA_snoc {c : Climate} {p : List Weather} {cs : List Cell} {ws : List Int} {frm til : Int} (xs : List (FacC c)) (f : FacC c) : hiA c p cs ws frm til (xs ++ [f]) = max (hiA c p cs ws frm til xs) (cameF c p f.1 til cs ws - cameF c p f.1 frm cs ws) := by simp [hiA]
theorem cameF_bd {c : Climate} {l : List Weather} {f d : Int} (hc : ClimOk c) (hl : ∀ x ∈ l, WeaOk c x) (hn : l.length ≤ 512) (hf : 0 ≤ f ∧ f ≤ 2000) : ∀ (cs : List Cell) (ws : List Int), (∀ x ∈ cs, cellOk x = true) → (∀ u ∈ ws, 0 ≤ u ∧ u ≤ 65536) →
  0 ≤ cameF c l f d cs ws ∧ cameF c l f d cs ws ≤ 2457600000 * cs.length
 | [], _, _, _ => by simp [cameF]
 | x :: cs, [], _, _ => by simp [cameF]; omega
 | x :: cs, u :: ws, hcs, hws => by
  have ih := cameF_bd hc hl hn hf (d := d) cs ws (fun y hy => hcs y (List.mem_cons_of_mem _ hy)) (fun y hy => hws y (List.mem_cons_of_mem _ hy))
  have hx := cellOk_bd (hcs x (List.mem_cons_self ..))
  have hu := hws u (List.mem_cons_self ..)
  have hr := relF_bd (e := d) hc hx.1 hf l 0 u hl hu.1
  simp only [cameF, List.length_cons]
  obtain ⟨r, hrr⟩ : ∃ r, (relF c x.height f d l (0, u)).1 = r := ⟨_, rfl⟩
  rw [hrr] at hr ⊢
  have h1 : 0 ≤ x.area * r := Int.mul_nonneg (by omega) (by omega)
  have h2 := Int.mul_le_mul (a := x.area) (b := r) (c := 4096) (d := 600000) hx.2.2 (by omega) (by omega) (by omega)
  push_cast
  omega
theorem loA_bd {c : Climate} {p : List Weather} {cs : List Cell} {ws : List Int} {frm til : Int} (H : ∀ f : FacC c, -30000000000 ≤ cameF c p f.1 til cs ws - cameF c p f.1 frm cs ws) (xs : List (FacC c)) : -30000000000 ≤ loA c p cs ws frm til xs ∧ loA c p cs ws frm til xs ≤ 1152921504606846976 := by
 unfold loA
 suffices G : ∀ (xs : List (FacC c)) (m : Int), -30000000000 ≤ m ∧ m ≤ 1152921504606846976 → -30000000000 ≤ xs.foldl (fun m f => min m (cameF c p f.1 til cs ws - cameF c p f.1 frm cs ws)) m ∧ xs.foldl (fun m f => min m (cameF c p f.1 til cs ws - cameF c p f.1 frm cs ws)) m ≤ 1152921504606846976 from G xs _ (by omega)
 intro xs
 induction xs with
 | nil => intro m h; exact h
 | cons f xs ih => intro m h; have := H f; exact ih _ (by dsimp only; omega)
theorem hiA_bd {c : Climate} {p : List Weather} {cs : List Cell} {ws : List Int} {frm til : Int} (H : ∀ f : FacC c, cameF c p f.1 til cs ws - cameF c p f.1 frm cs ws ≤ 30000000000) (xs : List (FacC c)) : -1152921504606846976 ≤ hiA c p cs ws frm til xs ∧ hiA c p cs ws frm til xs ≤ 30000000000 := by
 unfold hiA
 suffices G : ∀ (xs : List (FacC c)) (m : Int), -1152921504606846976 ≤ m ∧ m ≤ 30000000000 → -1152921504606846976 ≤ xs.foldl (fun m f => max m (cameF c p f.1 til cs ws - cameF c p f.1 frm cs ws)) m ∧ xs.foldl (fun m f => max m (cameF c p f.1 til cs ws - cameF c p f.1 frm cs ws)) m ≤ 30000000000 from G xs _ (by omega)
 intro xs
 induction xs with
 | nil => intro m h; exact h
 | cons f xs ih => intro m h; have := H f; exact ih _ (by dsimp only; omega)

theorem spring_volume_ok (c : Climate) (no : Int) (vd : Value) (p : List Weather) (s : Scene) (V : SceneV) (vl : Value) (l : List Int) (frm til : Int) (w : World) (hc : ClimOk c) (hp : ∀ x ∈ p, WeaOk c x) (hpn : p.length ≤ 512) (hs : SceneAt w s V) (hl : Sl w 1 intC vl l) (hd : Sl w 3 Weather.cells vd p) (hv : SceneOk s) (h1 : leastE s = 0) (h2 : greatE s = 0)
  (hw1 : ∀ u ∈ pickW s.basin.cells (lastRow (leastF s)) l, 0 ≤ u ∧ u ≤ 65536) (hw2 : ∀ u ∈ pickW s.basin.cells (lastRow (greatF s)) l, 0 ≤ u ∧ u ≤ 65536) (hl1 : (pickW s.basin.cells (lastRow (leastF s)) l).length = (pickC s.basin.cells l).length) (hl2 : (pickW s.basin.cells (lastRow (greatF s)) l).length = (pickC s.basin.cells l).length) :
  Calls Tryz.prog 61 #[c.v, .agg #[I no, vd], s.v V, vl, I frm, I til] w fun e w' => e = .returned (.tuple #[.agg #[I (loA c p (pickC s.basin.cells l) (pickW s.basin.cells (lastRow (leastF s)) l) frm til (facA c hc (nFac c))), I (hiA c p (pickC s.basin.cells l) (pickW s.basin.cells (lastRow (greatF s)) l) frm til (facA c hc (nFac c)))], I 0]) ∧ Below w.heap.size w w' := by
 obtain ⟨Ac, nc, hcc, _⟩ := hs.cells.open_
 obtain ⟨Ap, np, hpp, _⟩ := hs.pairs.open_
 obtain ⟨Ad, nd, hdd, _⟩ := hs.days.open_
 obtain ⟨As, ns, hsi, _⟩ := hs.sights.open_
 obtain ⟨Ah, nh, hch, _⟩ := hs.changes.open_
 obtain ⟨Aw, nw, rfl, _⟩ := hd.open_
 obtain ⟨Al, nl, rfl, _⟩ := hl.open_
 have HP := hide (fun w' (hb : Below w.heap.size w w') => spring_pools_ok c no _ p s V _ l w' (hs.mono hb) (hl.mono hb) (hd.mono hb) hv h1 h2)
 have HF := hide (fun w' => spring_factors c w')
 have hcs : ∀ x ∈ pickC s.basin.cells l, cellOk x = true := fun x hx => by
  have hm := (List.mem_filter.1 hx).1
  obtain ⟨i, hi⟩ := List.mem_iff_getElem?.1 hm
  exact hv.basin.cell i x hi
 have hn12 : (pickC s.basin.cells l).length ≤ 12 := Nat.le_trans (pickC_len _ _) hv.basin.hc2
 obtain ⟨CS, hCS⟩ : ∃ CS, pickC s.basin.cells l = CS := ⟨_, rfl⟩
 obtain ⟨WL, hWL⟩ : ∃ WL, pickW s.basin.cells (lastRow (leastF s)) l = WL := ⟨_, rfl⟩
 obtain ⟨WH, hWH⟩ : ∃ WH, pickW s.basin.cells (lastRow (greatF s)) l = WH := ⟨_, rfl⟩
 rw [hCS] at HP hcs hn12 hl1 hl2 ⊢
 rw [hWL] at HP hw1 hl1 ⊢
 rw [hWH] at HP hw2 hl2 ⊢
 clear hCS hWL hWH h1 h2 hv
 have HCL := hide (fun (f d : Int) (vc vw : Value) (w' : World) (hf : 0 ≤ f ∧ f ≤ 2000) (hb : Below w.heap.size w w') hvc hvw => pool_came c no f d (.slice Aw p.length nw) vc vw p CS WL w' hc hp hpn hf hcs hl1 hw1 hn12 (hd.mono hb) hvc hvw)
 have HCH := hide (fun (f d : Int) (vc vw : Value) (w' : World) (hf : 0 ≤ f ∧ f ≤ 2000) (hb : Below w.heap.size w w') hvc hvw => pool_came c no f d (.slice Aw p.length nw) vc vw p CS WH w' hc hp hpn hf hcs hl2 hw2 hn12 (hd.mono hb) hvc hvw)
 have HBL := hide (fun (f d : Int) (hf : 0 ≤ f ∧ f ≤ 2000) => cameF_bd (d := d) hc hp hpn hf CS WL hcs hw1)
 have HBH := hide (fun (f d : Int) (hf : 0 ≤ f ∧ f ≤ 2000) => cameF_bd (d := d) hc hp hpn hf CS WH hcs hw2)
 obtain ⟨LO, hLO⟩ : ∃ LO, loA c p CS WL frm til (facA c hc (nFac c)) = LO := ⟨_, rfl⟩
 obtain ⟨HI, hHI⟩ : ∃ HI, hiA c p CS WH frm til (facA c hc (nFac c)) = HI := ⟨_, rfl⟩
 rw [hLO, hHI]
 replace hLO := hide hLO
 replace hHI := hide hHI
 unfold Scene.v at *
 rw [hcc, hpp, hdd, hsi, hch] at HP ⊢
 clear hs hcc hpp hdd hsi hch hl hd hcs hw1 hw2
 unfold poolV at *
 unfold Climate.v at *
 refine (callsIn_wide (n := 4)).1 ?_
 refine callsIn_of_wp_marks Tryz.func61 rfl trivial ?_ rfl
 simp only [Tryz.ntmps61, List.size_toArray, List.length_cons, List.length_nil, Nat.reduceAdd, Nat.reduceSub, Array.replicate_succ, Array.replicate_zero, List.push_toArray, List.append_toArray, List.nil_append, List.cons_append]
 refine wpIn_wide.2 ?_
 go_wp2_with fail
 obtain ⟨W1, hW1⟩ : ∃ W1, W1 = ((((((w.alloc (.cells (c8 c) 25)).alloc (.cells #[I no, .slice Aw p.length nw] 58)).alloc (.cells (s8 s Ac nc Ap np Ad nd As ns Ah nh) 77)).alloc (.cells #[I frm] 3)).alloc (.cells #[I til] 3)).alloc (.cells #[I 0, I 0] 23)) := ⟨_, rfl⟩
 have z1 : W1.heap.size = w.heap.size + 6 := by rw [hW1]; simp
 have kB1 : Below w.heap.size w W1 := by rw [hW1]; exact bup (below5 _ _ _ _ _ _) (below1 _ _)
 have kC1 : Blk W1 (w.heap.size + 0) 25 (c8 c) := by
  rw [hW1]
  refine Blk.alloc ?_ _
  refine Blk.alloc ?_ _
  refine Blk.alloc ?_ _
  refine Blk.alloc ?_ _
  refine Blk.alloc ?_ _
  have h := Blk.new w 25 (c8 c)
  simpa only [World.size_alloc, Nat.add_zero, Nat.add_assoc, Nat.reduceAdd] using h
 have kS1 : Blk W1 (w.heap.size + 1) 58 #[I no, .slice Aw p.length nw] := by
  rw [hW1]
  refine Blk.alloc ?_ _
  refine Blk.alloc ?_ _
  refine Blk.alloc ?_ _
  refine Blk.alloc ?_ _
  have h := Blk.new (w.alloc (.cells (c8 c) 25)) 58 #[I no, .slice Aw p.length nw]
  simpa only [World.size_alloc, Nat.add_zero, Nat.add_assoc, Nat.reduceAdd] using h
 have kX1 : Blk W1 (w.heap.size + 2) 77 (s8 s Ac nc Ap np Ad nd As ns Ah nh) := by
  rw [hW1]
  refine Blk.alloc ?_ _
  refine Blk.alloc ?_ _
  refine Blk.alloc ?_ _
  have h := Blk.new ((w.alloc (.cells (c8 c) 25)).alloc (.cells #[I no, .slice Aw p.length nw] 58)) 77 (s8 s Ac nc Ap np Ad nd As ns Ah nh)
  simpa only [World.size_alloc, Nat.add_zero, Nat.add_assoc, Nat.reduceAdd] using h
 have kF1 : Blk W1 (w.heap.size + 3) 3 #[I frm] := by
  rw [hW1]
  refine Blk.alloc ?_ _
  refine Blk.alloc ?_ _
  have h := Blk.new (((w.alloc (.cells (c8 c) 25)).alloc (.cells #[I no, .slice Aw p.length nw] 58)).alloc (.cells (s8 s Ac nc Ap np Ad nd As ns Ah nh) 77)) 3 #[I frm]
  simpa only [World.size_alloc, Nat.add_zero, Nat.add_assoc, Nat.reduceAdd] using h
 have kT1 : Blk W1 (w.heap.size + 4) 3 #[I til] := by
  rw [hW1]
  refine Blk.alloc ?_ _
  have h := Blk.new ((((w.alloc (.cells (c8 c) 25)).alloc (.cells #[I no, .slice Aw p.length nw] 58)).alloc (.cells (s8 s Ac nc Ap np Ad nd As ns Ah nh) 77)).alloc (.cells #[I frm] 3)) 3 #[I til]
  simpa only [World.size_alloc, Nat.add_zero, Nat.add_assoc, Nat.reduceAdd] using h
 have kR1 : Blk W1 (w.heap.size + 5) 23 #[I 0, I 0] := by
  rw [hW1]
  have h := Blk.new (((((w.alloc (.cells (c8 c) 25)).alloc (.cells #[I no, .slice Aw p.length nw] 58)).alloc (.cells (s8 s Ac nc Ap np Ad nd As ns Ah nh) 77)).alloc (.cells #[I frm] 3)).alloc (.cells #[I til] 3)) 23 #[I 0, I 0]
  simpa only [World.size_alloc, Nat.add_zero, Nat.add_assoc, Nat.reduceAdd] using h
 rw [← hW1]
 clear hW1
 go_at_call 62
 refine (HP.out W1 kB1).mono ?_
 rintro e w2 ⟨va, vb, vc, vd, rfl, ho1, ho2, ho3, ho4, hb2⟩
 obtain ⟨A1, n1, k1, rfl⟩ := ho1.shape
 obtain ⟨A2, n2, k2, rfl⟩ := ho2.shape
 obtain ⟨A3, n3, k3, rfl⟩ := ho3.shape
 obtain ⟨A4, n4, k4, rfl⟩ := ho4.shape
 have c0 : w2.cell? ⟨w.heap.size, 0, none⟩ = some (I c.base) := (hb2.cell (p := ⟨w.heap.size, 0, none⟩) kC1.lt).trans (kC1.cell 0)
 have c1 : w2.cell? ⟨w.heap.size, 1, none⟩ = some (I c.lapse) := (hb2.cell (p := ⟨w.heap.size, 1, none⟩) kC1.lt).trans (kC1.cell 1)
 have c2 : w2.cell? ⟨w.heap.size, 2, none⟩ = some (I c.swing) := (hb2.cell (p := ⟨w.heap.size, 2, none⟩) kC1.lt).trans (kC1.cell 2)
 have c3 : w2.cell? ⟨w.heap.size, 3, none⟩ = some (I c.wettest) := (hb2.cell (p := ⟨w.heap.size, 3, none⟩) kC1.lt).trans (kC1.cell 3)
 have c4 : w2.cell? ⟨w.heap.size, 4, none⟩ = some (I c.coldest) := (hb2.cell (p := ⟨w.heap.size, 4, none⟩) kC1.lt).trans (kC1.cell 4)
 have c5 : w2.cell? ⟨w.heap.size, 5, none⟩ = some (I c.warmest) := (hb2.cell (p := ⟨w.heap.size, 5, none⟩) kC1.lt).trans (kC1.cell 5)
 have c6 : w2.cell? ⟨w.heap.size, 6, none⟩ = some (I c.flo) := (hb2.cell (p := ⟨w.heap.size, 6, none⟩) kC1.lt).trans (kC1.cell 6)
 have c7 : w2.cell? ⟨w.heap.size, 7, none⟩ = some (I c.fhi) := (hb2.cell (p := ⟨w.heap.size, 7, none⟩) kC1.lt).trans (kC1.cell 7)
 have zc2 : w.heap.size < w2.heap.size := Nat.lt_of_lt_of_le kC1.lt hb2.size
 have zc3 : w.heap.size < w2.heap.size + 1 := by omega
 have zc4 : w.heap.size < w2.heap.size + 1 + 1 := by omega
 have kF2 := hide (kF1.grow hb2)
 have kT2 := hide (kT1.grow hb2)
 have kR2 := hide (kR1.grow hb2)
 have kC2 := hide (kC1.grow hb2)
 have kB2 := hide (bup kB1 hb2)
 have zz2 := hb2.size
 replace ho1 := hide (ho1.sl Cell.cells_len (by omega))
 replace ho2 := hide (ho2.sl intC_len (by omega))
 replace ho3 := hide (ho3.sl Cell.cells_len (by omega))
 replace ho4 := hide (ho4.sl intC_len (by omega))
 clear hb2 kC1 kS1 kX1 kF1 kT1 kR1 kB1 HP
 go_wp2_with (go_at_call 93; refine (HF.out _).mono ?_; rintro e w3 ⟨rfl, j0, js, hb3⟩)
 obtain ⟨Wq, hWq⟩ : ∃ Wq, Wq = ((w2.alloc (.cells #[I c.base, I c.lapse, I c.swing, I c.wettest, I c.coldest, I c.warmest, I c.flo, I c.fhi, I no, .slice Aw p.length nw, .slice A1 n1 k1, .slice A2 n2 k2] 114)).alloc (.cells #[I c.base, I c.lapse, I c.swing, I c.wettest, I c.coldest, I c.warmest, I c.flo, I c.fhi, I no, .slice Aw p.length nw, .slice A3 n3 k3, .slice A4 n4 k4] 114)).alloc (.cells #[I 1152921504606846976, I (-1152921504606846976)] 23) := ⟨_, rfl⟩
 simp only [World.size_alloc] at j0 js
 have zq : Wq.heap.size = w2.heap.size + 3 := by rw [hWq]; simp
 have kBq : Below w2.heap.size w2 Wq := by rw [hWq]; exact below3 _ _ _ _
 have kL0 : Blk Wq w2.heap.size 114 #[I c.base, I c.lapse, I c.swing, I c.wettest, I c.coldest, I c.warmest, I c.flo, I c.fhi, I no, .slice Aw p.length nw, .slice A1 n1 k1, .slice A2 n2 k2] := by rw [hWq]; exact ((Blk.new _ _ _).alloc _).alloc _
 have kH0 : Blk Wq (w2.heap.size + 1) 114 #[I c.base, I c.lapse, I c.swing, I c.wettest, I c.coldest, I c.warmest, I c.flo, I c.fhi, I no, .slice Aw p.length nw, .slice A3 n3 k3, .slice A4 n4 k4] := by
  rw [hWq]
  refine Blk.alloc ?_ _
  have h := Blk.new (w2.alloc (.cells #[I c.base, I c.lapse, I c.swing, I c.wettest, I c.coldest, I c.warmest, I c.flo, I c.fhi, I no, .slice Aw p.length nw, .slice A1 n1 k1, .slice A2 n2 k2] 114)) 114 #[I c.base, I c.lapse, I c.swing, I c.wettest, I c.coldest, I c.warmest, I c.flo, I c.fhi, I no, .slice Aw p.length nw, .slice A3 n3 k3, .slice A4 n4 k4]
  simpa only [World.size_alloc] using h
 have kO0 : Blk Wq (w2.heap.size + 2) 23 #[I 1152921504606846976, I (-1152921504606846976)] := by
  rw [hWq]
  have h := Blk.new ((w2.alloc (.cells #[I c.base, I c.lapse, I c.swing, I c.wettest, I c.coldest, I c.warmest, I c.flo, I c.fhi, I no, .slice Aw p.length nw, .slice A1 n1 k1, .slice A2 n2 k2] 114)).alloc (.cells #[I c.base, I c.lapse, I c.swing, I c.wettest, I c.coldest, I c.warmest, I c.flo, I c.fhi, I no, .slice Aw p.length nw, .slice A3 n3 k3, .slice A4 n4 k4] 114)) 23 #[I 1152921504606846976, I (-1152921504606846976)]
  simpa only [World.size_alloc, Nat.add_assoc, Nat.reduceAdd] using h
 have hb3' : Below Wq.heap.size Wq w3 := by rw [hWq]; exact hb3
 clear hb3 hWq
 have kL3 := hide (kL0.grow hb3')
 have kH3 := hide (kH0.grow hb3')
 have kO3 := hide (kO0.grow hb3')
 have kW3 := hide (bup kBq hb3')
 have kF3 := hide (kF2.out.grow kW3.out)
 have kT3 := hide (kT2.out.grow kW3.out)
 have kR3 := hide (kR2.out.grow kW3.out)
 have kB3 := hide (bup kB2.out kW3.out)
 have js : w3.heap.size = w2.heap.size + 4 := by rw [js]
 clear kL0 kH0 kO0 kBq hb3' kF2 kT2 kR2 kB2 kC2 zq HF c0 c1 c2 c3 c4 c5 c6 c7 zc3 zc4
 refine (wpIn_wide (n := 4)).1 ?_
 refine wpIn_rangeFunc_ownH (α := FacC c) rfl (by omega) (gf := 111) (lb := #[.pointer (some ⟨w2.heap.size + 3, 0, none⟩)]) rfl trivial (enters_of Tryz.func111 (by kernel_rfl) rfl)
  (factors1_stops c (w2.heap.size + 3) w3.heap.size (fun b => b = w2.heap.size + 2) w3 hc (Nat.le_refl _) ?reads) keep_t (keep_b (Nat.le_refl _)) (Below.refl _ _) (fun _ => rfl)
  (fun pre W => Keep w3.heap.size (fun b => b = w2.heap.size + 2) w3 W ∧ Blk W (w2.heap.size + 2) 23 #[I (loA c p CS WL frm til pre), I (hiA c p CS WH frm til pre)])
  (fun _ _ _ => False)
  (OwnFrom.and (keep_own (Nat.le_refl _) (Nat.le_refl _)) blk_stays)
  (fun _ _ _ _ _ hs _ _ => hs)
  ⟨Keep.refl _ _ _, kO3.out⟩
  (fun x a' W => a' = { tmps := #[.agg (c8 c), .agg #[I no, .slice Aw p.length nw], .agg (s8 s Ac nc Ap np Ad nd As ns Ah nh), .slice Al l.length nl, I frm, I til, .pointer (some ⟨w.heap.size, 0, none⟩), .pointer (some ⟨w.heap.size + 1, 0, none⟩), .pointer (some ⟨w.heap.size + 1 + 1, 0, none⟩), undef, .pointer (some ⟨w.heap.size + 1 + 1 + 1, 0, none⟩), .pointer (some ⟨w.heap.size + 1 + 1 + 1 + 1, 0, none⟩), .pointer (some ⟨w.heap.size + 1 + 1 + 1 + 1 + 1, 0, none⟩), I 0, .pointer (some ⟨w2.heap.size, 0, none⟩), .pointer (some ⟨w2.heap.size + 1, 0, none⟩), I 0, .pointer (some ⟨w2.heap.size + 1 + 1, 0, none⟩), I x.1, .tuple #[.agg #[I c.base, I c.lapse, I c.swing, I c.wettest, I c.coldest, I c.warmest, I c.flo, I c.fhi, I no, .slice Aw p.length nw, .slice A1 n1 k1, .slice A2 n2 k2], .agg #[I c.base, I c.lapse, I c.swing, I c.wettest, I c.coldest, I c.warmest, I c.flo, I c.fhi, I no, .slice Aw p.length nw, .slice A3 n3 k3, .slice A4 n4 k4], I 0], .agg (c8 c), .agg #[I no, .slice Aw p.length nw], .agg (s8 s Ac nc Ap np Ad nd As ns Ah nh), .slice Al l.length nl, .tuple #[.agg #[I c.base, I c.lapse, I c.swing, I c.wettest, I c.coldest, I c.warmest, I c.flo, I c.fhi, I no, .slice Aw p.length nw, .slice A1 n1 k1, .slice A2 n2 k2], .agg #[I c.base, I c.lapse, I c.swing, I c.wettest, I c.coldest, I c.warmest, I c.flo, I c.fhi, I no, .slice Aw p.length nw, .slice A3 n3 k3, .slice A4 n4 k4], I 0], .agg #[I c.base, I c.lapse, I c.swing, I c.wettest, I c.coldest, I c.warmest, I c.flo, I c.fhi, I no, .slice Aw p.length nw, .slice A1 n1 k1, .slice A2 n2 k2], .agg #[I c.base, I c.lapse, I c.swing, I c.wettest, I c.coldest, I c.warmest, I c.flo, I c.fhi, I no, .slice Aw p.length nw, .slice A3 n3 k3, .slice A4 n4 k4], I 0, I 0, .bool false, undef, undef, .agg #[I 1152921504606846976, I (-1152921504606846976)], .agg (c8 c), .func (.func 111) #[] #[.pointer (some ⟨w2.heap.size + 1 + 1 + 1, 0, none⟩)], I x.1, undef, undef, undef, undef, undef, undef, undef, undef, undef, undef, undef, undef, undef, undef, undef, undef, undef, undef, undef, undef, undef, undef, undef, undef, undef, undef, undef], defers := [] })
  (fun x a' s X Y row hs hg hr => hs)
  ?assign ?body ?done ?stop
 case reads =>
  intro W hk
  exact hk.clim j0 (by omega) (by omega)
 case assign =>
  rintro lr pre x W K ⟨hk, hb'⟩ hK
  gi_wp2
  exact hK _ _ ((KeepsOthers.refl _).from _) (Keep.refl _ _ _) ⟨hk, hb'⟩ rfl
 case body =>
  rintro lr pre x a' W hlr _ ⟨hk, hbl⟩ rfl hlt
  have hx2 : 0 ≤ x.1 ∧ x.1 ≤ 2000 := by have := x.2; have := hc.flo2; have := hc.fhi2; omega
  have hdl1 := HBL.out x.1 til hx2
  have hdl2 := HBL.out x.1 frm hx2
  have hdh1 := HBH.out x.1 til hx2
  have hdh2 := HBH.out x.1 frm hx2
  have hs1 := hide (loA_snoc (c := c) (p := p) (cs := CS) (ws := WL) (frm := frm) (til := til) pre x)
  have hs2 := hide (hiA_snoc (c := c) (p := p) (cs := CS) (ws := WH) (frm := frm) (til := til) pre x)
  have hlo := loA_bd (c := c) (p := p) (cs := CS) (ws := WL) (frm := frm) (til := til) (fun f => by have h0 : 0 ≤ f.1 ∧ f.1 ≤ 2000 := (by have := f.2; have := hc.flo2; have := hc.fhi2; omega); have := HBL.out f.1 til h0; have := HBL.out f.1 frm h0; omega) pre
  have hhi := hiA_bd (c := c) (p := p) (cs := CS) (ws := WH) (frm := frm) (til := til) (fun f => by have h0 : 0 ≤ f.1 ∧ f.1 ≤ 2000 := (by have := f.2; have := hc.flo2; have := hc.fhi2; omega); have := HBH.out f.1 til h0; have := HBH.out f.1 frm h0; omega) pre
  have C1 := HCL.out x.1 til (.slice A1 n1 k1) (.slice A2 n2 k2)
  have C2 := HCL.out x.1 frm (.slice A1 n1 k1) (.slice A2 n2 k2)
  have C3 := HCH.out x.1 til (.slice A3 n3 k3) (.slice A4 n4 k4)
  have C4 := HCH.out x.1 frm (.slice A3 n3 k3) (.slice A4 n4 k4)
  obtain ⟨lo, hlo'⟩ : ∃ lo, loA c p CS WL frm til pre = lo := ⟨_, rfl⟩
  obtain ⟨hi, hhi'⟩ : ∃ hi, hiA c p CS WH frm til pre = hi := ⟨_, rfl⟩
  obtain ⟨d1, hd1⟩ : ∃ d, cameF c p x.1 til CS WL = d := ⟨_, rfl⟩
  obtain ⟨d2, hd2⟩ : ∃ d, cameF c p x.1 frm CS WL = d := ⟨_, rfl⟩
  obtain ⟨d3, hd3⟩ : ∃ d, cameF c p x.1 til CS WH = d := ⟨_, rfl⟩
  obtain ⟨d4, hd4⟩ : ∃ d, cameF c p x.1 frm CS WH = d := ⟨_, rfl⟩
  rw [hlo'] at hlo hs1 hbl
  rw [hhi'] at hhi hs2 hbl
  rw [hd1] at hdl1 hs1 C1
  rw [hd2] at hdl2 hs1 C2
  rw [hd3] at hdh1 hs2 C3
  rw [hd4] at hdh2 hs2 C4
  replace C1 := hide C1
  replace C2 := hide C2
  replace C3 := hide C3
  replace C4 := hide C4
  clear hlo' hhi' hd1 hd2 hd3 hd4
  have m1 : 0 ≤ d1 ∧ d1 ≤ 29491200000 := by omega
  have m2 : 0 ≤ d2 ∧ d2 ≤ 29491200000 := by omega
  have m3 : 0 ≤ d3 ∧ d3 ≤ 29491200000 := by omega
  have m4 : 0 ≤ d4 ∧ d4 ≤ 29491200000 := by omega
  clear hdl1 hdl2 hdh1 hdh2
  have e1 : IntKind.i64.wrap (d1 - d2) = d1 - d2 := IntWalk.i64_in _ (by omega)
  have e2 : IntKind.i64.wrap (d3 - d4) = d3 - d4 := IntWalk.i64_in _ (by omega)
  have kL := hide (hk.blk kL3.out (by omega) (by omega))
  have kH := hide (hk.blk kH3.out (by omega) (by omega))
  have kF := hide (hk.blk kF3.out (by omega) (by omega))
  have kT := hide (hk.blk kT3.out (by omega) (by omega))
  have kB := hide (kB3.out.trans (hk.below (m := w.heap.size) (by omega) (fun b hb => by omega)))
  have zB := hbl.lt
  replace hbl := hide hbl
  have zL := kL.out.lt
  have zH := kH.out.lt
  have zF := kF.out.lt
  have zT := kT.out.lt
  have hh1 := hide (hk.sl ho1.out kW3.out (Nat.le_refl _) (by omega) (fun b hb => by omega))
  have hh2 := hide (hk.sl ho2.out kW3.out (Nat.le_refl _) (by omega) (fun b hb => by omega))
  have hh3 := hide (hk.sl ho3.out kW3.out (Nat.le_refl _) (by omega) (fun b hb => by omega))
  have hh4 := hide (hk.sl ho4.out kW3.out (Nat.le_refl _) (by omega) (fun b hb => by omega))
  replace hk := hide hk
  clear HCL HCH HBL HBH j0
  have HS7 : ∀ W : World, Blk W w2.heap.size 114 #[I c.base, I c.lapse, I c.swing, I c.wettest, I c.coldest, I c.warmest, I c.flo, I c.fhi, I no, .slice Aw p.length nw, .slice A1 n1 k1, .slice A2 n2 k2] → Blk W (w.heap.size + 3) 3 #[I frm] → Blk W (w.heap.size + 4) 3 #[I til] → Blk W (w2.heap.size + 2) 23 #[I lo, I hi] → (fun W : World => W.cell? ⟨w2.heap.size, 0, none⟩ = some (I c.base) ∧ W.cell? ⟨w2.heap.size, 1, none⟩ = some (I c.lapse) ∧ W.cell? ⟨w2.heap.size, 2, none⟩ = some (I c.swing) ∧ W.cell? ⟨w2.heap.size, 3, none⟩ = some (I c.wettest) ∧ W.cell? ⟨w2.heap.size, 4, none⟩ = some (I c.coldest) ∧ W.cell? ⟨w2.heap.size, 5, none⟩ = some (I c.warmest) ∧ W.cell? ⟨w2.heap.size, 6, none⟩ = some (I c.flo) ∧ W.cell? ⟨w2.heap.size, 7, none⟩ = some (I c.fhi) ∧ W.cell? ⟨w2.heap.size, 8, none⟩ = some (I no) ∧ W.cell? ⟨w2.heap.size, 9, none⟩ = some (.slice Aw p.length nw) ∧ W.cell? ⟨w2.heap.size, 10, none⟩ = some (.slice A1 n1 k1) ∧ W.cell? ⟨w2.heap.size, 11, none⟩ = some (.slice A2 n2 k2) ∧ W.cell? ⟨w.heap.size + 1 + 1 + 1, 0, none⟩ = some (I frm) ∧ W.cell? ⟨w.heap.size + 1 + 1 + 1 + 1, 0, none⟩ = some (I til) ∧ W.cell? ⟨w2.heap.size + 1 + 1, 0, none⟩ = some (I lo) ∧ W.frozen? ⟨w2.heap.size + 1 + 1, 0, none⟩ = false) W :=
   fun W a b c d => ⟨a.cell 0, a.cell 1, a.cell 2, a.cell 3, a.cell 4, a.cell 5, a.cell 6, a.cell 7, a.cell 8, a.cell 9, a.cell 10, a.cell 11, b.cell 0, c.cell 0, d.cell 0, d.frozen 0⟩
  replace HS7 := hide HS7
  gi_wp2
  refine wpIn_round_zg (S := fun W => W.cell? ⟨w2.heap.size, 0, none⟩ = some (I c.base) ∧ W.cell? ⟨w2.heap.size, 1, none⟩ = some (I c.lapse) ∧ W.cell? ⟨w2.heap.size, 2, none⟩ = some (I c.swing) ∧ W.cell? ⟨w2.heap.size, 3, none⟩ = some (I c.wettest) ∧ W.cell? ⟨w2.heap.size, 4, none⟩ = some (I c.coldest) ∧ W.cell? ⟨w2.heap.size, 5, none⟩ = some (I c.warmest) ∧ W.cell? ⟨w2.heap.size, 6, none⟩ = some (I c.flo) ∧ W.cell? ⟨w2.heap.size, 7, none⟩ = some (I c.fhi) ∧ W.cell? ⟨w2.heap.size, 8, none⟩ = some (I no) ∧ W.cell? ⟨w2.heap.size, 9, none⟩ = some (.slice Aw p.length nw) ∧ W.cell? ⟨w2.heap.size, 10, none⟩ = some (.slice A1 n1 k1) ∧ W.cell? ⟨w2.heap.size, 11, none⟩ = some (.slice A2 n2 k2) ∧ W.cell? ⟨w.heap.size + 1 + 1 + 1, 0, none⟩ = some (I frm) ∧ W.cell? ⟨w.heap.size + 1 + 1 + 1 + 1, 0, none⟩ = some (I til) ∧ W.cell? ⟨w2.heap.size + 1 + 1, 0, none⟩ = some (I lo) ∧ W.frozen? ⟨w2.heap.size + 1 + 1, 0, none⟩ = false) 13 (by kernel_rfl) (by kernel_rfl) (by rintro ⟨_, _, h⟩; exact h) (by kernel_rfl) ?_
  have hS0 := HS7.out W.drew kL.out kF.out kT.out hbl.out
  have wB1 : Below W.heap.size W W.drew := (Below.refl _ _).drew
  (refine zg_tk 0 ?_; refine zg_tk 1 ?_; refine zg_tk 2 ?_; refine zg_tk 3 ?_; refine zg_tk 4 ?_; refine zg_tk 6 ?_; refine zg_tk 7 ?_; refine zg_tk 8 ?_; (try go_frame))
  (refine zg_rd 5 fun K_ hK_ => ?_; go_simp; (refine (C1.out W.drew hx2 (bup kB.out wB1) (hh1.out.mono wB1) (hh2.out.mono wB1)).mono ?_; rintro e w4 ⟨rfl, hb4⟩); refine hK_.out _ _ ?_ (fun hHeld => ?_); rotate_left; clear hK_ K_; (try go_frame); rotate_left)
  ·exact HS7.out w4 (kL.out.grow (bup wB1 hb4)) (kF.out.grow (bup wB1 hb4)) (kT.out.grow (bup wB1 hb4)) (hbl.out.grow (bup wB1 hb4))
  have wB4 := bup wB1 hb4
  (refine zg_rd 9 fun K_ hK_ => ?_; go_simp; (refine (C2.out w4 hx2 (bup kB.out wB4) (hh1.out.mono wB4) (hh2.out.mono wB4)).mono ?_; rintro e w5 ⟨rfl, hb5⟩); refine hK_.out _ _ ?_ (fun hHeld => ?_); rotate_left; clear hK_ K_; (try go_frame); rotate_left)
  ·exact HS7.out w5 (kL.out.grow (bup wB4 hb5)) (kF.out.grow (bup wB4 hb5)) (kT.out.grow (bup wB4 hb5)) (hbl.out.grow (bup wB4 hb5))
  have wB5 := bup wB4 hb5
  (refine zg_tk 10 ?_; refine zg_tk 11 ?_; refine zg_tk 12 ?_; (try go_frame))
  (refine zg_ls 13 fun K_ hK_ => ?_; go_simp; skip; refine hK_.out _ _ ?_; clear hK_ K_; (try go_frame))
  obtain ⟨nl, hnl⟩ : ∃ nl, min lo (d1 - d2) = nl := ⟨_, rfl⟩
  have hif : (if d1 - d2 < lo then d1 - d2 else lo) = nl := by rw [← hnl]; split <;> omega
  simp only [hif]
  rw [hnl] at hs1
  clear hif hnl
  obtain ⟨W6, hW6⟩ : ∃ W6, W6 = w5.setCell ⟨w2.heap.size + 1 + 1, 0, none⟩ (Value.int .i64 nl) := ⟨_, rfl⟩
  have ko6 : KeepsOthers W W6 := by rw [hW6]; exact (keeps_of_below wB5).trans (KeepsOthers.setCell _ _ _)
  have kk6 : Keep w3.heap.size (fun b => b = w2.heap.size + 2) W W6 := by rw [hW6]; exact Keep.set (X := fun b => b = w2.heap.size + 2) (g := w2.heap.size + 2) (Keep.of_below wB5 hk.out.size) rfl _
  have hb6 : Blk W6 (w2.heap.size + 2) 23 #[I nl, I hi] := by
   rw [hW6]
   have h := (hbl.out.grow wB5).set_ 0 (I nl)
   simpa using h
  rw [← hW6]
  have hk6 := hide (hk.out.trans kk6)
  have kH6 := hide (kk6.blk kH.out (by omega) (by omega))
  have kF6 := hide (kk6.blk kF.out (by omega) (by omega))
  have kT6 := hide (kk6.blk kT.out (by omega) (by omega))
  have kB6 := hide (kB3.out.trans (hk6.out.below (m := w.heap.size) (by omega) (fun b hb => by omega)))
  have hh3 := hide (hk6.out.sl ho3.out kW3.out (Nat.le_refl _) (by omega) (fun b hb => by omega))
  have hh4 := hide (hk6.out.sl ho4.out kW3.out (Nat.le_refl _) (by omega) (fun b hb => by omega))
  replace hb6 := hide hb6
  replace ko6 := hide ko6
  replace kk6 := hide kk6
  clear hW6 hHeld hS0 HS7 wB1 wB4 wB5 hb4 hb5 hbl kL kH kF kT kB hh1 hh2 hk C1 C2 zB zL zH zF zT e1
  have zB := hb6.out.lt
  have HS8 : ∀ W : World, Blk W (w2.heap.size + 1) 114 #[I c.base, I c.lapse, I c.swing, I c.wettest, I c.coldest, I c.warmest, I c.flo, I c.fhi, I no, .slice Aw p.length nw, .slice A3 n3 k3, .slice A4 n4 k4] → Blk W (w.heap.size + 3) 3 #[I frm] → Blk W (w.heap.size + 4) 3 #[I til] → Blk W (w2.heap.size + 2) 23 #[I nl, I hi] → (fun W : World => W.cell? ⟨w2.heap.size + 1, 0, none⟩ = some (I c.base) ∧ W.cell? ⟨w2.heap.size + 1, 1, none⟩ = some (I c.lapse) ∧ W.cell? ⟨w2.heap.size + 1, 2, none⟩ = some (I c.swing) ∧ W.cell? ⟨w2.heap.size + 1, 3, none⟩ = some (I c.wettest) ∧ W.cell? ⟨w2.heap.size + 1, 4, none⟩ = some (I c.coldest) ∧ W.cell? ⟨w2.heap.size + 1, 5, none⟩ = some (I c.warmest) ∧ W.cell? ⟨w2.heap.size + 1, 6, none⟩ = some (I c.flo) ∧ W.cell? ⟨w2.heap.size + 1, 7, none⟩ = some (I c.fhi) ∧ W.cell? ⟨w2.heap.size + 1, 8, none⟩ = some (I no) ∧ W.cell? ⟨w2.heap.size + 1, 9, none⟩ = some (.slice Aw p.length nw) ∧ W.cell? ⟨w2.heap.size + 1, 10, none⟩ = some (.slice A3 n3 k3) ∧ W.cell? ⟨w2.heap.size + 1, 11, none⟩ = some (.slice A4 n4 k4) ∧ W.cell? ⟨w.heap.size + 1 + 1 + 1, 0, none⟩ = some (I frm) ∧ W.cell? ⟨w.heap.size + 1 + 1 + 1 + 1, 0, none⟩ = some (I til) ∧ W.cell? ⟨w2.heap.size + 1 + 1, 1, none⟩ = some (I hi) ∧ W.frozen? ⟨w2.heap.size + 1 + 1, 1, none⟩ = false) W :=
   fun W a b c d => ⟨a.cell 0, a.cell 1, a.cell 2, a.cell 3, a.cell 4, a.cell 5, a.cell 6, a.cell 7, a.cell 8, a.cell 9, a.cell 10, a.cell 11, b.cell 0, c.cell 0, d.cell 1, d.frozen 1⟩
  replace HS8 := hide HS8
  gi_wp2
  refine wpIn_round_zg (S := fun W => W.cell? ⟨w2.heap.size + 1, 0, none⟩ = some (I c.base) ∧ W.cell? ⟨w2.heap.size + 1, 1, none⟩ = some (I c.lapse) ∧ W.cell? ⟨w2.heap.size + 1, 2, none⟩ = some (I c.swing) ∧ W.cell? ⟨w2.heap.size + 1, 3, none⟩ = some (I c.wettest) ∧ W.cell? ⟨w2.heap.size + 1, 4, none⟩ = some (I c.coldest) ∧ W.cell? ⟨w2.heap.size + 1, 5, none⟩ = some (I c.warmest) ∧ W.cell? ⟨w2.heap.size + 1, 6, none⟩ = some (I c.flo) ∧ W.cell? ⟨w2.heap.size + 1, 7, none⟩ = some (I c.fhi) ∧ W.cell? ⟨w2.heap.size + 1, 8, none⟩ = some (I no) ∧ W.cell? ⟨w2.heap.size + 1, 9, none⟩ = some (.slice Aw p.length nw) ∧ W.cell? ⟨w2.heap.size + 1, 10, none⟩ = some (.slice A3 n3 k3) ∧ W.cell? ⟨w2.heap.size + 1, 11, none⟩ = some (.slice A4 n4 k4) ∧ W.cell? ⟨w.heap.size + 1 + 1 + 1, 0, none⟩ = some (I frm) ∧ W.cell? ⟨w.heap.size + 1 + 1 + 1 + 1, 0, none⟩ = some (I til) ∧ W.cell? ⟨w2.heap.size + 1 + 1, 1, none⟩ = some (I hi) ∧ W.frozen? ⟨w2.heap.size + 1 + 1, 1, none⟩ = false) 13 (by kernel_rfl) (by kernel_rfl) (by rintro ⟨_, _, h⟩; exact h) (by kernel_rfl) ?_
  have hS0 := HS8.out W6.drew kH6.out kF6.out kT6.out hb6.out
  have wB1 : Below W6.heap.size W6 W6.drew := (Below.refl _ _).drew
  (refine zg_tk 0 ?_; refine zg_tk 1 ?_; refine zg_tk 2 ?_; refine zg_tk 3 ?_; refine zg_tk 4 ?_; refine zg_tk 6 ?_; refine zg_tk 7 ?_; refine zg_tk 8 ?_; (try go_frame))
  (refine zg_rd 5 fun K_ hK_ => ?_; go_simp; (refine (C3.out W6.drew hx2 (bup kB6.out wB1) (hh3.out.mono wB1) (hh4.out.mono wB1)).mono ?_; rintro e w7 ⟨rfl, hb7⟩); refine hK_.out _ _ ?_ (fun hHeld => ?_); rotate_left; clear hK_ K_; (try go_frame); rotate_left)
  ·exact HS8.out w7 (kH6.out.grow (bup wB1 hb7)) (kF6.out.grow (bup wB1 hb7)) (kT6.out.grow (bup wB1 hb7)) (hb6.out.grow (bup wB1 hb7))
  have wB4 := bup wB1 hb7
  (refine zg_rd 9 fun K_ hK_ => ?_; go_simp; (refine (C4.out w7 hx2 (bup kB6.out wB4) (hh3.out.mono wB4) (hh4.out.mono wB4)).mono ?_; rintro e w8 ⟨rfl, hb8⟩); refine hK_.out _ _ ?_ (fun hHeld => ?_); rotate_left; clear hK_ K_; (try go_frame); rotate_left)
  ·exact HS8.out w8 (kH6.out.grow (bup wB4 hb8)) (kF6.out.grow (bup wB4 hb8)) (kT6.out.grow (bup wB4 hb8)) (hb6.out.grow (bup wB4 hb8))
  have wB5 := bup wB4 hb8
  (refine zg_tk 10 ?_; refine zg_tk 11 ?_; refine zg_tk 12 ?_; (try go_frame))
  (refine zg_ls 13 fun K_ hK_ => ?_; go_simp; skip; refine hK_.out _ _ ?_; clear hK_ K_; (try go_frame))
  obtain ⟨nh', hnh⟩ : ∃ nl, max hi (d3 - d4) = nl := ⟨_, rfl⟩
  have hif : (if hi < d3 - d4 then d3 - d4 else hi) = nh' := by rw [← hnh]; split <;> omega
  simp only [hif]
  rw [hnh] at hs2
  refine (show _ ∧ _ ∧ _ ∧ _ from ⟨((ko6.out.trans (keeps_of_below wB5)).trans (KeepsOthers.setCell _ _ _)).from _, kk6.out.trans (Keep.set (X := fun b => b = w2.heap.size + 2) (g := w2.heap.size + 2) (Keep.of_below wB5 hk6.out.size) rfl _), hk6.out.trans (Keep.set (X := fun b => b = w2.heap.size + 2) (g := w2.heap.size + 2) (Keep.of_below wB5 hk6.out.size) rfl _), ?_⟩)
  rw [hs1.out, hs2.out]
  have h := (hb6.out.grow wB5).set_ 1 (I nh')
  simpa using h
 case done =>
  rintro D1 ys V hD1 rfl ⟨hk, hbl⟩ hK1
  rw [hLO.out, hHI.out] at hbl
  have kR := hk.blk kR3.out (by omega) (by omega)
  have kV : Below w.heap.size w V := kB3.out.trans (hk.below (by omega) (fun b hb => by omega))
  obtain ⟨zr, r0, r1, r2, r3⟩ := blk_box kR
  obtain ⟨zo, o0, o1, o2, o3⟩ := blk_box hbl
  obtain ⟨gO, hgO⟩ : ∃ g, w2.heap.size + 1 + 1 = g := ⟨_, rfl⟩
  obtain ⟨gR, hgR⟩ : ∃ g, w.heap.size + 1 + 1 + 1 + 1 + 1 = g := ⟨_, rfl⟩
  have e3 : gO ≠ gR := by omega
  have e4 : gR ≠ gO := by omega
  have q0 : V.cell? ⟨gO, 0, none⟩ = some (I LO) := by rw [← hgO]; exact o0
  have q1 : V.cell? ⟨gO, 1, none⟩ = some (I HI) := by rw [← hgO]; exact o1
  have p0 : V.cell? ⟨gR, 0, none⟩ = some (I 0) := by rw [← hgR]; exact r0
  have p1 : V.cell? ⟨gR, 1, none⟩ = some (I 0) := by rw [← hgR]; exact r1
  have p2 : V.frozen? ⟨gR, 0, none⟩ = false := by rw [← hgR]; exact r2
  have p3 : V.frozen? ⟨gR, 1, none⟩ = false := by rw [← hgR]; exact r3
  clear r0 r1 r2 r3 o0 o1 o2 o3 j0
  replace hk := hide hk
  replace hK1 := hide hK1
  replace kV := hide kV
  replace kR := hide (show Blk V gR 23 #[I 0, I 0] from hgR ▸ kR)
  rw [hgO, hgR]
  go_wp2_with fail
  obtain ⟨V3, hV3⟩ : ∃ V3, V3 = (V.setCell ⟨gR, 0, none⟩ (Value.int .i64 LO)).setCell ⟨gR, 1, none⟩ (Value.int .i64 HI) := ⟨_, rfl⟩
  rw [← hV3]
  have hDR : D1 ≠ gR := by omega
  have b3 : ∀ g, g ≠ gR → V3.heap[g]? = V.heap[g]? := fun g hg => by rw [hV3]; exact (Below.heap_setCell _ _ _ g hg).trans (Below.heap_setCell _ _ _ g hg)
  have hd1 : V3.heap[D1]? = some (.deferred (some [])) := (b3 D1 hDR).trans hK1.out
  have k3 : Below w.heap.size w V3 := by rw [hV3]; exact gap_below2 kV.out (by omega)
  have kR3 : Blk V3 gR 23 #[I LO, I HI] := by rw [hV3]; exact gap_set2 kR.out
  have kR4 : Blk (V3.putObj D1 (.deferred none)) gR 23 #[I LO, I HI] := (World.putObj_heap_other hDR.symm).trans kR3
  have c0 := kR4.cell 0
  have c1 := kR4.cell 1
  refine ⟨by simp, .inl ⟨_, _, rfl, run_takeDeferred hd1, ?_⟩⟩
  refine ⟨.tuple #[.agg #[I LO, I HI], I 0], ?_, rfl, below_putObj k3 (by omega) _⟩
  simp [results, Tryz.results61, go_sem, c0, c1]
 case stop =>
  rintro D c' pre W _ _ h _
  exact h.elim
end Go.Proofs.YtifeniiefhpadaaGreatDoor
