/- The law SpringHeightSpec: At, Frost, Snow and Melt are as the reference has them. Conditions stand in the theorems. -/
import Derived.Test.YtmjfdobjnnfafaaGreatDoorSpring28
import Derived.Test.YtmjfdobjnnfafaaGreatDoorRef2
set_option linter.all false
namespace Go.Proofs.YtmjfdobjnnfafaaGreatDoor
open Go.RowKit

set_option maxRecDepth 100000 in
set_option maxHeartbeats 8000000 in
theorem law_HeightSpec (c : Climate) (x : Weather) (t h f : Int) (w : World) (hp : Pow10 w) :
    Calls Tryz.prog 4 #[c.v, x.v, I t, I h, I f] w fun e w' => e = .returned (.bool true) ∧ Below w.heap.size w w' := by
  have J1 := fun w => spring_At c t h w
  have K1 := fun w => ref_At c t h w
  have J2 := fun w => spring_Frost c t w
  have K2 := fun w => ref_Frost c t w
  have J3 := fun w => spring_Snow c x h w
  have K3 := fun w => ref_Snow c x h w
  have J4 := fun w => spring_Melt c x h f w
  have K4 := fun w => ref_Melt c x h f w
  obtain ⟨v1, hv1⟩ : ∃ z, atV c t h = z := ⟨_, rfl⟩
  obtain ⟨e1, he1⟩ : ∃ z, askedE c [tempB t, heightB h] = z := ⟨_, rfl⟩
  obtain ⟨v2, hv2⟩ : ∃ z, frostV c t = z := ⟨_, rfl⟩
  obtain ⟨v3, hv3⟩ : ∃ z, snowV c x h = z := ⟨_, rfl⟩
  obtain ⟨e3, he3⟩ : ∃ z, dayE1 c x [heightB h] = z := ⟨_, rfl⟩
  obtain ⟨v4, hv4⟩ : ∃ z, meltV c x h f = z := ⟨_, rfl⟩
  obtain ⟨e4, he4⟩ : ∃ z, dayE1 c x [heightB h, inB f 0 2000] = z := ⟨_, rfl⟩
  simp only [hv1, he1, hv2, hv3, he3, hv4, he4] at J1 K1 J2 K2 J3 K3 J4 K4
  clear hv1 he1 hv2 hv3 he3 hv4 he4
  (try unfold Climate.v at *)
  (try unfold Weather.v at *)
  replace J1 := hide J1
  replace K1 := hide K1
  replace J2 := hide J2
  replace K2 := hide K2
  replace J3 := hide J3
  replace K3 := hide K3
  replace J4 := hide J4
  replace K4 := hide K4
  replace hp := hide hp
  (try unfold Climate.v at *)
  (try unfold Weather.v at *)
  go_enter Tryz.func4, Tryz.ntmps4
  have B0 : Below w.heap.size w w := Below.refl _ _
  go_wp2_with fail
  obtain ⟨w1, hw1⟩ : ∃ w1, w1 = ((w.alloc (.cells #[I c.base, I c.lapse, I c.swing, I c.wettest, I c.coldest, I c.warmest, I c.flo, I c.fhi] 25)).alloc (.cells #[I x.day, I x.temp, I x.rain] 36)) := ⟨_, rfl⟩
  have kC : Blk w1 (w.heap.size) 25 #[I c.base, I c.lapse, I c.swing, I c.wettest, I c.coldest, I c.warmest, I c.flo, I c.fhi] := by
    rw [hw1]
    refine Blk.alloc ?_ _
    have h := Blk.new w 25 #[I c.base, I c.lapse, I c.swing, I c.wettest, I c.coldest, I c.warmest, I c.flo, I c.fhi]
    first | exact h | simpa only [World.size_alloc] using h
  have kX : Blk w1 (w.heap.size + 1) 36 #[I x.day, I x.temp, I x.rain] := by
    rw [hw1]
    have h := Blk.new (w.alloc (.cells #[I c.base, I c.lapse, I c.swing, I c.wettest, I c.coldest, I c.warmest, I c.flo, I c.fhi] 25)) 36 #[I x.day, I x.temp, I x.rain]
    first | exact h | simpa only [World.size_alloc] using h
  have B1 : Below w.heap.size w w1 := by rw [hw1]; exact bup B0 (below2 _ _ _)
  rw [← hw1]
  clear hw1 B0
  obtain ⟨bX, hbX⟩ : ∃ b, w.heap.size + 1 = b := ⟨_, rfl⟩
  rw [hbX] at kX ⊢
  obtain ⟨bC, hbC⟩ : ∃ b, w.heap.size = b := ⟨_, rfl⟩
  rw [hbC] at kC ⊢
  replace kC := hide kC
  replace kX := hide kX
  clear hbC
  clear hbX
  go_at_call 22
  refine (law_sane w1 (hp.out.mono B1)).mono ?_
  rintro e w2 ⟨rfl, hb⟩
  replace kC := hide (kC.out.grow hb)
  replace kX := hide (kX.out.grow hb)
  have B2 := bup B1 hb
  clear hb B1
  obtain ⟨rC0, rC1, rC2, rC3, rC4, rC5, rC6, rC7⟩ := kC.out.cells8
  have zC : bC < w2.heap.size := kC.out.lt
  obtain ⟨rX0, rX1, rX2⟩ := kX.out.cells3
  have zX : bX < w2.heap.size := kX.out.lt
  go_wp2_with fail
  clear rC0 rC1 rC2 rC3 rC4 rC5 rC6 rC7 zC rX0 rX1 rX2 zX
  go_at_call 29
  refine (J1.out w2).mono ?_
  rintro e w3 ⟨rfl, hb⟩
  replace kC := hide (kC.out.grow hb)
  replace kX := hide (kX.out.grow hb)
  have B3 := bup B2 hb
  clear hb B2
  obtain ⟨rC0, rC1, rC2, rC3, rC4, rC5, rC6, rC7⟩ := kC.out.cells8
  have zC : bC < w3.heap.size := kC.out.lt
  obtain ⟨rX0, rX1, rX2⟩ := kX.out.cells3
  have zX : bX < w3.heap.size := kX.out.lt
  go_wp2_with fail
  clear rC0 rC1 rC2 rC3 rC4 rC5 rC6 rC7 zC rX0 rX1 rX2 zX
  go_at_call 30
  refine (K1.out w3).mono ?_
  rintro e w4 ⟨rfl, hb⟩
  replace kC := hide (kC.out.grow hb)
  replace kX := hide (kX.out.grow hb)
  have B4 := bup B3 hb
  clear hb B3
  obtain ⟨rC0, rC1, rC2, rC3, rC4, rC5, rC6, rC7⟩ := kC.out.cells8
  have zC : bC < w4.heap.size := kC.out.lt
  obtain ⟨rX0, rX1, rX2⟩ := kX.out.cells3
  have zX : bX < w4.heap.size := kX.out.lt
  go_wp2_with fail
  clear rC0 rC1 rC2 rC3 rC4 rC5 rC6 rC7 zC rX0 rX1 rX2 zX
  go_at_call 31
  refine (J2.out w4).mono ?_
  rintro e w5 ⟨rfl, hb⟩
  replace kC := hide (kC.out.grow hb)
  replace kX := hide (kX.out.grow hb)
  have B5 := bup B4 hb
  clear hb B4
  obtain ⟨rC0, rC1, rC2, rC3, rC4, rC5, rC6, rC7⟩ := kC.out.cells8
  have zC : bC < w5.heap.size := kC.out.lt
  obtain ⟨rX0, rX1, rX2⟩ := kX.out.cells3
  have zX : bX < w5.heap.size := kX.out.lt
  go_wp2_with fail
  clear rC0 rC1 rC2 rC3 rC4 rC5 rC6 rC7 zC rX0 rX1 rX2 zX
  go_at_call 32
  refine (K2.out w5).mono ?_
  rintro e w6 ⟨rfl, hb⟩
  replace kC := hide (kC.out.grow hb)
  replace kX := hide (kX.out.grow hb)
  have B6 := bup B5 hb
  clear hb B5
  obtain ⟨rC0, rC1, rC2, rC3, rC4, rC5, rC6, rC7⟩ := kC.out.cells8
  have zC : bC < w6.heap.size := kC.out.lt
  obtain ⟨rX0, rX1, rX2⟩ := kX.out.cells3
  have zX : bX < w6.heap.size := kX.out.lt
  go_wp2_with fail
  clear rC0 rC1 rC2 rC3 rC4 rC5 rC6 rC7 zC rX0 rX1 rX2 zX
  go_at_call 33
  refine (J3.out w6).mono ?_
  rintro e w7 ⟨rfl, hb⟩
  replace kC := hide (kC.out.grow hb)
  replace kX := hide (kX.out.grow hb)
  have B7 := bup B6 hb
  clear hb B6
  obtain ⟨rC0, rC1, rC2, rC3, rC4, rC5, rC6, rC7⟩ := kC.out.cells8
  have zC : bC < w7.heap.size := kC.out.lt
  obtain ⟨rX0, rX1, rX2⟩ := kX.out.cells3
  have zX : bX < w7.heap.size := kX.out.lt
  go_wp2_with fail
  clear rC0 rC1 rC2 rC3 rC4 rC5 rC6 rC7 zC rX0 rX1 rX2 zX
  go_at_call 34
  refine (K3.out w7).mono ?_
  rintro e w8 ⟨rfl, hb⟩
  replace kC := hide (kC.out.grow hb)
  replace kX := hide (kX.out.grow hb)
  have B8 := bup B7 hb
  clear hb B7
  obtain ⟨rC0, rC1, rC2, rC3, rC4, rC5, rC6, rC7⟩ := kC.out.cells8
  have zC : bC < w8.heap.size := kC.out.lt
  obtain ⟨rX0, rX1, rX2⟩ := kX.out.cells3
  have zX : bX < w8.heap.size := kX.out.lt
  go_wp2_with fail
  clear rC0 rC1 rC2 rC3 rC4 rC5 rC6 rC7 zC rX0 rX1 rX2 zX
  go_at_call 35
  refine (J4.out w8).mono ?_
  rintro e w9 ⟨rfl, hb⟩
  replace kC := hide (kC.out.grow hb)
  replace kX := hide (kX.out.grow hb)
  have B9 := bup B8 hb
  clear hb B8
  obtain ⟨rC0, rC1, rC2, rC3, rC4, rC5, rC6, rC7⟩ := kC.out.cells8
  have zC : bC < w9.heap.size := kC.out.lt
  obtain ⟨rX0, rX1, rX2⟩ := kX.out.cells3
  have zX : bX < w9.heap.size := kX.out.lt
  go_wp2_with fail
  clear rC0 rC1 rC2 rC3 rC4 rC5 rC6 rC7 zC rX0 rX1 rX2 zX
  go_at_call 36
  refine (K4.out w9).mono ?_
  rintro e w10 ⟨rfl, hb⟩
  replace kC := hide (kC.out.grow hb)
  replace kX := hide (kX.out.grow hb)
  have B10 := bup B9 hb
  clear hb B9
  obtain ⟨rC0, rC1, rC2, rC3, rC4, rC5, rC6, rC7⟩ := kC.out.cells8
  have zC : bC < w10.heap.size := kC.out.lt
  obtain ⟨rX0, rX1, rX2⟩ := kX.out.cells3
  have zX : bX < w10.heap.size := kX.out.lt
  go_wp2_with fail
  go_ret
  exact ⟨rfl, B10⟩
end Go.Proofs.YtmjfdobjnnfafaaGreatDoor
