/- The law SpringWhenSpec: When is as the reference has it. Conditions stand in the theorems. -/
import Derived.Test.YtmjfdobjnnfafaaGreatDoorSpring28
import Derived.Test.YtmjfdobjnnfafaaGreatDoorRefW
import Derived.Test.YtmjfdobjnnfafaaGreatDoorOneSkip
set_option linter.all false
set_option maxHeartbeats 8000000
set_option maxRecDepth 100000
namespace Go.Proofs.YtmjfdobjnnfafaaGreatDoor
open Go.RowKit

theorem law_WhenSpec (c : Climate) (no : Int) (vd : Value) (p : List Weather) (s : Scene) (V : SceneV) (vl : Value) (l : List Int) (v : Int) (w : World) (hp : Pow10 w) (hd : Sl w 3 Weather.cells vd p) (hs : SceneAt w s V) (hl : Sl w 1 intC vl l) :
  Calls Tryz.prog 7 #[c.v, .agg #[I no, vd], s.v V, vl, I v] w fun e w' => e = .returned (.bool true) ∧ Below w.heap.size w w' := by
 obtain ⟨Ac, nc, hcc, _⟩ := hs.cells.open_
 obtain ⟨Ap, np, hpp, _⟩ := hs.pairs.open_
 obtain ⟨Ad, nd, hdd, _⟩ := hs.days.open_
 obtain ⟨As, ns, hss, _⟩ := hs.sights.open_
 obtain ⟨Ah, nh, hch, _⟩ := hs.changes.open_
 obtain ⟨Aw, nw, hvd, _⟩ := hd.open_
 obtain ⟨Al, nl2, hvl, _⟩ := hl.open_
 have JW := fun w' (hb : Below w.heap.size w w') => spring_When c no vd p s V vl l v w' (hs.mono hb) (hl.mono hb) (hd.mono hb)
 have KW := fun w' (hb : Below w.heap.size w w') => ref_When c no vd p s V vl l v w' (hs.mono hb) (hl.mono hb) (hd.mono hb)
 have JS := fun w' (hb : Below w.heap.size w w') => law_skip_nil s V w' (hs.mono hb)
 have JH := fun w' (hb : Below w.heap.size w w') => law_short no vd p w' (hd.mono hb)
 obtain ⟨Z, hZ⟩ : ∃ z, whenV c ⟨no, p⟩ s l v = z := ⟨_, rfl⟩
 obtain ⟨B, hB⟩ : ∃ z, whenB c ⟨no, p⟩ s l v = z := ⟨_, rfl⟩
 obtain ⟨E, hE⟩ : ∃ z, whenE c ⟨no, p⟩ s l v = z := ⟨_, rfl⟩
 simp only [hZ, hB, hE] at JW KW
 clear hZ hB hE
 obtain ⟨z1, z2⟩ := Z
 simp only at JW KW
 unfold Scene.v at *
 simp only [hcc, hpp, hdd, hss, hch, hvd, hvl] at JW KW JS JH ⊢
 (try unfold Climate.v at *)
 clear hcc hpp hdd hss hch hvd hvl hs hl hd
 replace JW := hide JW
 replace KW := hide KW
 replace JS := hide JS
 replace JH := hide JH
 replace hp := hide hp
 (try unfold Climate.v at *)
 (try unfold Weather.v at *)
 go_enter Tryz.func7, Tryz.ntmps7
 have B0 : Below w.heap.size w w := Below.refl _ _
 go_wp2_with fail
 obtain ⟨w1, hw1⟩ : ∃ w1, w1 = (((w.alloc (.cells (c8 c) 25)).alloc (.cells #[I no, .slice Aw p.length nw] 28)).alloc (.cells (s8 s Ac nc Ap np Ad nd As ns Ah nh) 63)) := ⟨_, rfl⟩
 have kC : Blk w1 (w.heap.size) 25 (c8 c) := by
  rw [hw1]
  refine Blk.alloc ?_ _
  refine Blk.alloc ?_ _
  have h := Blk.new w 25 (c8 c)
  first | exact h | simpa only [World.size_alloc] using h
 have kS : Blk w1 (w.heap.size + 1) 28 #[I no, .slice Aw p.length nw] := by
  rw [hw1]
  refine Blk.alloc ?_ _
  have h := Blk.new (w.alloc (.cells (c8 c) 25)) 28 #[I no, .slice Aw p.length nw]
  first | exact h | simpa only [World.size_alloc] using h
 have kX : Blk w1 (w.heap.size + 1 + 1) 63 (s8 s Ac nc Ap np Ad nd As ns Ah nh) := by
  rw [hw1]
  have h := Blk.new ((w.alloc (.cells (c8 c) 25)).alloc (.cells #[I no, .slice Aw p.length nw] 28)) 63 (s8 s Ac nc Ap np Ad nd As ns Ah nh)
  first | exact h | simpa only [World.size_alloc] using h
 have B1 : Below w.heap.size w w1 := by rw [hw1]; exact bup B0 (below3 _ _ _ _)
 rw [← hw1]
 clear hw1 B0
 obtain ⟨bX, hbX⟩ : ∃ b, w.heap.size + 1 + 1 = b := ⟨_, rfl⟩
 rw [hbX] at kX ⊢
 obtain ⟨bS, hbS⟩ : ∃ b, w.heap.size + 1 = b := ⟨_, rfl⟩
 rw [hbS] at kS ⊢
 obtain ⟨bC, hbC⟩ : ∃ b, w.heap.size = b := ⟨_, rfl⟩
 rw [hbC] at kC ⊢
 replace kC := hide kC
 replace kS := hide kS
 replace kX := hide kX
 clear hbC
 clear hbS
 clear hbX
 go_at_call 22
 refine (law_sane w1 (hp.out.mono B1)).mono ?_
 rintro e w2 ⟨rfl, hb⟩
 replace kC := hide (kC.out.grow hb)
 replace kS := hide (kS.out.grow hb)
 replace kX := hide (kX.out.grow hb)
 have B2 := bup B1 hb
 clear hb B1
 obtain ⟨rX0, rX1, rX2, rX3, rX4, rX5, rX6, rX7⟩ := kX.out.cells8
 have zX : bX < w2.heap.size := kX.out.lt
 go_wp2_with fail
 clear rX0 rX1 rX2 rX3 rX4 rX5 rX6 rX7 zX
 go_at_call 47
 refine (JS.out w2 B2).mono ?_
 rintro e w3 ⟨⟨q, rfl⟩, hb⟩
 replace kC := hide (kC.out.grow hb)
 replace kS := hide (kS.out.grow hb)
 replace kX := hide (kX.out.grow hb)
 have B3 := bup B2 hb
 clear hb B2
 obtain ⟨rS0, rS1⟩ := kS.out.cells2
 have zS : bS < w3.heap.size := kS.out.lt
 cases q
 case true => (go_wp2_with fail; go_ret; exact ⟨rfl, B3⟩)
 go_wp2_with fail
 clear rS0 rS1 zS
 go_at_call 48
 refine (JH.out w3 B3).mono ?_
 rintro e w4 ⟨⟨q, rfl⟩, hb⟩
 replace kC := hide (kC.out.grow hb)
 replace kS := hide (kS.out.grow hb)
 replace kX := hide (kX.out.grow hb)
 have B4 := bup B3 hb
 clear hb B3
 cases q
 case false => (go_wp2_with fail; go_ret; exact ⟨rfl, B4⟩)
 obtain ⟨rC0, rC1, rC2, rC3, rC4, rC5, rC6, rC7⟩ := kC.out.cells8
 have zC : bC < w4.heap.size := kC.out.lt
 obtain ⟨rS0, rS1⟩ := kS.out.cells2
 have zS : bS < w4.heap.size := kS.out.lt
 obtain ⟨rX0, rX1, rX2, rX3, rX4, rX5, rX6, rX7⟩ := kX.out.cells8
 have zX : bX < w4.heap.size := kX.out.lt
 go_wp2_with fail
 clear rC0 rC1 rC2 rC3 rC4 rC5 rC6 rC7 zC rS0 rS1 zS rX0 rX1 rX2 rX3 rX4 rX5 rX6 rX7 zX
 go_at_call 49
 refine (JW.out w4 B4).mono ?_
 rintro e w5 ⟨rfl, hb⟩
 replace kC := hide (kC.out.grow hb)
 replace kS := hide (kS.out.grow hb)
 replace kX := hide (kX.out.grow hb)
 have B5 := bup B4 hb
 clear hb B4
 obtain ⟨rC0, rC1, rC2, rC3, rC4, rC5, rC6, rC7⟩ := kC.out.cells8
 have zC : bC < w5.heap.size := kC.out.lt
 have zC_1 : bC < w5.heap.size + 1 := by omega
 obtain ⟨rS0, rS1⟩ := kS.out.cells2
 have zS : bS < w5.heap.size := kS.out.lt
 have zS_1 : bS < w5.heap.size + 1 := by omega
 obtain ⟨rX0, rX1, rX2, rX3, rX4, rX5, rX6, rX7⟩ := kX.out.cells8
 have zX : bX < w5.heap.size := kX.out.lt
 have zX_1 : bX < w5.heap.size + 1 := by omega
 go_wp2_with fail
 clear rC0 rC1 rC2 rC3 rC4 rC5 rC6 rC7 zC zC_1 rS0 rS1 zS zS_1 rX0 rX1 rX2 rX3 rX4 rX5 rX6 rX7 zX zX_1
 obtain ⟨w6, hw6⟩ : ∃ w6, w6 = (w5.alloc (.cells #[I z1, I z2] 23)) := ⟨_, rfl⟩
 have kT : Blk w6 (w5.heap.size) 23 #[I z1, I z2] := by
  rw [hw6]
  have h := Blk.new w5 23 #[I z1, I z2]
  first | exact h | simpa only [World.size_alloc] using h
 replace kC : Hid (Blk w6 bC 25 (c8 c)) := hide (by rw [hw6]; exact (kC.out).alloc _)
 replace kS : Hid (Blk w6 bS 28 #[I no, .slice Aw p.length nw]) := hide (by rw [hw6]; exact (kS.out).alloc _)
 replace kX : Hid (Blk w6 bX 63 (s8 s Ac nc Ap np Ad nd As ns Ah nh)) := hide (by rw [hw6]; exact (kX.out).alloc _)
 have B6 : Below w.heap.size w w6 := by rw [hw6]; exact bup B5 (below1 _ _)
 rw [← hw6]
 clear hw6 B5
 obtain ⟨bT, hbT⟩ : ∃ b, w5.heap.size = b := ⟨_, rfl⟩
 rw [hbT] at kT ⊢
 replace kT := hide kT
 clear hbT
 go_at_call 50
 refine (KW.out w6 B6).mono ?_
 rintro e w7 ⟨rfl, hb⟩
 replace kC := hide (kC.out.grow hb)
 replace kS := hide (kS.out.grow hb)
 replace kX := hide (kX.out.grow hb)
 replace kT := hide (kT.out.grow hb)
 have B7 := bup B6 hb
 clear hb B6
 obtain ⟨rT0, rT1⟩ := kT.out.cells2
 have zT : bT < w7.heap.size := kT.out.lt
 have zT_1 : bT < w7.heap.size + 1 := by omega
 cases B
 case false => (go_wp2_with fail; go_ret; exact ⟨rfl, bup B7 (below1 _ _)⟩)
 case true => (go_wp2_with fail; go_ret; exact ⟨rfl, bup B7 (below1 _ _)⟩)
end Go.Proofs.YtmjfdobjnnfafaaGreatDoor
