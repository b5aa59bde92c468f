/- The law SpringGapSpec: Gap, Allowed and Fill are as the reference has them. Conditions stand in the theorems. -/
import Derived.Test.YtmjfdobjnnfafaaGreatDoorSpring28
import Derived.Test.YtmjfdobjnnfafaaGreatDoorRef8
import Derived.Test.YtmjfdobjnnfafaaGreatDoorLight
set_option linter.all false
namespace Go.Proofs.YtmjfdobjnnfafaaGreatDoor
open Go.RowKit

theorem fillV_len (c : Climate) (l : List Weather) (a b : Int) (t : Bool) : (fillV c l a b t).length ≤ 140737488355328 := by
  unfold fillV
  split
  · rename_i h
    rw [fillF_len]
    unfold fillE at h
    split at h
    · have := stretch_ok h
      omega
    · rename_i h2; exact absurd h h2
  · simp

set_option maxRecDepth 100000 in
set_option maxHeartbeats 8000000 in
theorem law_GapSpec (c : Climate) (va : Value) (l : List Weather) (vd : Value) (days : List Weather) (a b : Int) (t : Bool) (w : World) (hp : Pow10 w) (ha : Sl w 3 Weather.cells va l) (hd : Sl w 3 Weather.cells vd days) :
    Calls Tryz.prog 5 #[c.v, va, vd, I a, I b, .bool t] w fun e w' => e = .returned (.bool true) ∧ Below w.heap.size w w' := by
  have J1 := fun w' (hb : Below w.heap.size w w') => spring_Gap c va l a w' (ha.mono hb)
  have K1 := fun w' (hb : Below w.heap.size w w') => ref_Gap c va l a w' (ha.mono hb)
  have J2 := fun w' (hb : Below w.heap.size w w') => spring_Allowed c va vd l days w' (ha.mono hb) (hd.mono hb)
  have K2 := fun w' (hb : Below w.heap.size w w') => ref_Allowed c va vd l days w' (ha.mono hb) (hd.mono hb)
  have J3 := fun w' (hb : Below w.heap.size w w') => spring_Fill c va l a b t w' (ha.mono hb)
  have K3 := fun w' (hb : Below w.heap.size w w') => ref_Fill c va l a b t w' (ha.mono hb)
  have hFl := fillV_len c l a b t
  obtain ⟨G, hG⟩ : ∃ z, gapV c l a = z := ⟨_, rfl⟩
  obtain ⟨e1, he1⟩ : ∃ z, gapE c l a = z := ⟨_, rfl⟩
  obtain ⟨b2, hb2⟩ : ∃ z, allowV c l days = z := ⟨_, rfl⟩
  obtain ⟨e2, he2⟩ : ∃ z, allowE c l days = z := ⟨_, rfl⟩
  obtain ⟨F, hF⟩ : ∃ z, fillV c l a b t = z := ⟨_, rfl⟩
  obtain ⟨e3, he3⟩ : ∃ z, fillE c l a b = z := ⟨_, rfl⟩
  simp only [hG, he1, hb2, he2, hF, he3] at J1 K1 J2 K2 J3 K3 hFl
  clear hG he1 hb2 he2 hF he3
  (try unfold Climate.v at *)
  replace J1 := hide J1
  replace K1 := hide K1
  replace J2 := hide J2
  replace K2 := hide K2
  replace J3 := hide J3
  replace K3 := hide K3
  replace hd := hide hd
  replace ha := hide ha
  replace hFl := hide hFl
  replace hp := hide hp
  (try unfold Climate.v at *)
  (try unfold Weather.v at *)
  go_enter Tryz.func5, Tryz.ntmps5
  have B0 : Below w.heap.size w w := Below.refl _ _
  go_wp2_with fail
  obtain ⟨w1, hw1⟩ : ∃ w1, w1 = (w.alloc (.cells #[I c.base, I c.lapse, I c.swing, I c.wettest, I c.coldest, I c.warmest, I c.flo, I c.fhi] 25)) := ⟨_, rfl⟩
  have kC : Blk w1 (w.heap.size) 25 #[I c.base, I c.lapse, I c.swing, I c.wettest, I c.coldest, I c.warmest, I c.flo, I c.fhi] := by
    rw [hw1]
    have h := Blk.new w 25 #[I c.base, I c.lapse, I c.swing, I c.wettest, I c.coldest, I c.warmest, I c.flo, I c.fhi]
    first | exact h | simpa only [World.size_alloc] using h
  have B1 : Below w.heap.size w w1 := by rw [hw1]; exact bup B0 (below1 _ _)
  rw [← hw1]
  clear hw1 B0
  obtain ⟨bC, hbC⟩ : ∃ b, w.heap.size = b := ⟨_, rfl⟩
  rw [hbC] at kC ⊢
  replace kC := hide kC
  clear hbC
  go_at_call 22
  refine (law_sane w1 (hp.out.mono B1)).mono ?_
  rintro e w2 ⟨rfl, hb⟩
  replace kC := hide (kC.out.grow hb)
  have B2 := bup B1 hb
  clear hb B1
  obtain ⟨rC0, rC1, rC2, rC3, rC4, rC5, rC6, rC7⟩ := kC.out.cells8
  have zC : bC < w2.heap.size := kC.out.lt
  go_wp2_with fail
  clear rC0 rC1 rC2 rC3 rC4 rC5 rC6 rC7 zC
  go_at_call 37
  refine (law_light va l a b w2 (ha.out.mono B2)).mono ?_
  rintro e w_ ⟨⟨q, rfl⟩, rfl⟩
  cases q
  case false => (go_wp2_with fail; go_ret; exact ⟨rfl, B2⟩)
  obtain ⟨rC0, rC1, rC2, rC3, rC4, rC5, rC6, rC7⟩ := kC.out.cells8
  have zC : bC < w2.heap.size := kC.out.lt
  go_wp2_with fail
  clear rC0 rC1 rC2 rC3 rC4 rC5 rC6 rC7 zC
  go_at_call 38
  refine (J1.out w2 B2).mono ?_
  rintro e w3 ⟨rfl, hb⟩
  replace kC := hide (kC.out.grow hb)
  have B3 := bup B2 hb
  clear hb B2
  obtain ⟨rC0, rC1, rC2, rC3, rC4, rC5, rC6, rC7⟩ := kC.out.cells8
  have zC : bC < w3.heap.size := kC.out.lt
  have zC_1 : bC < w3.heap.size + 1 := by omega
  have zC_2 : bC < w3.heap.size + 1 + 1 := by omega
  go_wp2_with fail
  clear rC0 rC1 rC2 rC3 rC4 rC5 rC6 rC7 zC zC_1 zC_2
  obtain ⟨w4, hw4⟩ : ∃ w4, w4 = ((w3.alloc (.cells #[I G.tlo, I G.thi] 23)).alloc (.cells #[I G.rlo, I G.rhi] 23)) := ⟨_, rfl⟩
  have kT : Blk w4 (w3.heap.size) 23 #[I G.tlo, I G.thi] := by
    rw [hw4]
    refine Blk.alloc ?_ _
    have h := Blk.new w3 23 #[I G.tlo, I G.thi]
    first | exact h | simpa only [World.size_alloc] using h
  have kR : Blk w4 (w3.heap.size + 1) 23 #[I G.rlo, I G.rhi] := by
    rw [hw4]
    have h := Blk.new (w3.alloc (.cells #[I G.tlo, I G.thi] 23)) 23 #[I G.rlo, I G.rhi]
    first | exact h | simpa only [World.size_alloc] using h
  replace kC : Hid (Blk w4 bC 25 #[I c.base, I c.lapse, I c.swing, I c.wettest, I c.coldest, I c.warmest, I c.flo, I c.fhi]) := hide (by rw [hw4]; exact ((kC.out).alloc _).alloc _)
  have B4 : Below w.heap.size w w4 := by rw [hw4]; exact bup B3 (below2 _ _ _)
  rw [← hw4]
  clear hw4 B3
  obtain ⟨bR, hbR⟩ : ∃ b, w3.heap.size + 1 = b := ⟨_, rfl⟩
  rw [hbR] at kR ⊢
  obtain ⟨bT, hbT⟩ : ∃ b, w3.heap.size = b := ⟨_, rfl⟩
  rw [hbT] at kT ⊢
  replace kT := hide kT
  replace kR := hide kR
  clear hbT
  clear hbR
  go_at_call 39
  refine (K1.out w4 B4).mono ?_
  rintro e w5 ⟨rfl, hb⟩
  replace kC := hide (kC.out.grow hb)
  replace kT := hide (kT.out.grow hb)
  replace kR := hide (kR.out.grow hb)
  have B5 := bup B4 hb
  clear hb B4
  obtain ⟨rC0, rC1, rC2, rC3, rC4, rC5, rC6, rC7⟩ := kC.out.cells8
  have zC : bC < w5.heap.size := kC.out.lt
  have zC_1 : bC < w5.heap.size + 1 := by omega
  have zC_2 : bC < w5.heap.size + 1 + 1 := by omega
  go_wp2_with fail
  clear rC0 rC1 rC2 rC3 rC4 rC5 rC6 rC7 zC zC_1 zC_2
  obtain ⟨w6, hw6⟩ : ∃ w6, w6 = ((w5.alloc (.cells #[I G.tlo, I G.thi] 23)).alloc (.cells #[I G.rlo, I G.rhi] 23)) := ⟨_, rfl⟩
  have kU : Blk w6 (w5.heap.size) 23 #[I G.tlo, I G.thi] := by
    rw [hw6]
    refine Blk.alloc ?_ _
    have h := Blk.new w5 23 #[I G.tlo, I G.thi]
    first | exact h | simpa only [World.size_alloc] using h
  have kS : Blk w6 (w5.heap.size + 1) 23 #[I G.rlo, I G.rhi] := by
    rw [hw6]
    have h := Blk.new (w5.alloc (.cells #[I G.tlo, I G.thi] 23)) 23 #[I G.rlo, I G.rhi]
    first | exact h | simpa only [World.size_alloc] using h
  replace kC : Hid (Blk w6 bC 25 #[I c.base, I c.lapse, I c.swing, I c.wettest, I c.coldest, I c.warmest, I c.flo, I c.fhi]) := hide (by rw [hw6]; exact ((kC.out).alloc _).alloc _)
  replace kT : Hid (Blk w6 bT 23 #[I G.tlo, I G.thi]) := hide (by rw [hw6]; exact ((kT.out).alloc _).alloc _)
  replace kR : Hid (Blk w6 bR 23 #[I G.rlo, I G.rhi]) := hide (by rw [hw6]; exact ((kR.out).alloc _).alloc _)
  have B6 : Below w.heap.size w w6 := by rw [hw6]; exact bup B5 (below2 _ _ _)
  rw [← hw6]
  clear hw6 B5
  obtain ⟨bS, hbS⟩ : ∃ b, w5.heap.size + 1 = b := ⟨_, rfl⟩
  rw [hbS] at kS ⊢
  obtain ⟨bU, hbU⟩ : ∃ b, w5.heap.size = b := ⟨_, rfl⟩
  rw [hbU] at kU ⊢
  replace kU := hide kU
  replace kS := hide kS
  clear hbU
  clear hbS
  go_at_call 40
  refine (J2.out w6 B6).mono ?_
  rintro e w7 ⟨rfl, hb⟩
  replace kC := hide (kC.out.grow hb)
  replace kT := hide (kT.out.grow hb)
  replace kR := hide (kR.out.grow hb)
  replace kU := hide (kU.out.grow hb)
  replace kS := hide (kS.out.grow hb)
  have B7 := bup B6 hb
  clear hb B6
  obtain ⟨rC0, rC1, rC2, rC3, rC4, rC5, rC6, rC7⟩ := kC.out.cells8
  have zC : bC < w7.heap.size := kC.out.lt
  go_wp2_with fail
  clear rC0 rC1 rC2 rC3 rC4 rC5 rC6 rC7 zC
  go_at_call 41
  refine (K2.out w7 B7).mono ?_
  rintro e w8 ⟨rfl, hb⟩
  replace kC := hide (kC.out.grow hb)
  replace kT := hide (kT.out.grow hb)
  replace kR := hide (kR.out.grow hb)
  replace kU := hide (kU.out.grow hb)
  replace kS := hide (kS.out.grow hb)
  have B8 := bup B7 hb
  clear hb B7
  obtain ⟨rC0, rC1, rC2, rC3, rC4, rC5, rC6, rC7⟩ := kC.out.cells8
  have zC : bC < w8.heap.size := kC.out.lt
  go_wp2_with fail
  clear rC0 rC1 rC2 rC3 rC4 rC5 rC6 rC7 zC
  go_at_call 42
  refine (J3.out w8 B8).mono ?_
  rintro e w9 ⟨v1, rfl, ho, hb⟩
  replace kC := hide (kC.out.grow hb)
  replace kT := hide (kT.out.grow hb)
  replace kR := hide (kR.out.grow hb)
  replace kU := hide (kU.out.grow hb)
  replace kS := hide (kS.out.grow hb)
  have B9 := bup B8 hb
  clear hb B8
  have s1 := hide (ho.sl Weather.cells_len hFl.out)
  obtain ⟨A1, n1, c1, rfl⟩ := ho.shape
  clear ho
  obtain ⟨rC0, rC1, rC2, rC3, rC4, rC5, rC6, rC7⟩ := kC.out.cells8
  have zC : bC < w9.heap.size := kC.out.lt
  go_wp2_with fail
  clear rC0 rC1 rC2 rC3 rC4 rC5 rC6 rC7 zC
  go_at_call 43
  refine (K3.out w9 B9).mono ?_
  rintro e w10 ⟨v2, rfl, ho, hb⟩
  replace kC := hide (kC.out.grow hb)
  replace kT := hide (kT.out.grow hb)
  replace kR := hide (kR.out.grow hb)
  replace kU := hide (kU.out.grow hb)
  replace kS := hide (kS.out.grow hb)
  have B10 := bup B9 hb
  replace s1 := hide (s1.out.mono hb)
  clear hb B9
  have s2 := hide (ho.sl Weather.cells_len hFl.out)
  obtain ⟨A2, n2, c2, rfl⟩ := ho.shape
  clear ho
  obtain ⟨rT0, rT1⟩ := kT.out.cells2
  have zT : bT < w10.heap.size := kT.out.lt
  obtain ⟨rR0, rR1⟩ := kR.out.cells2
  have zR : bR < w10.heap.size := kR.out.lt
  obtain ⟨rU0, rU1⟩ := kU.out.cells2
  have zU : bU < w10.heap.size := kU.out.lt
  obtain ⟨rS0, rS1⟩ := kS.out.cells2
  have zS : bS < w10.heap.size := kS.out.lt
  go_wp2_with fail
  clear rT0 rT1 zT rR0 rR1 zR rU0 rU1 zU rS0 rS1 zS
  go_at_call 44
  refine (ref_SameWeathers _ _ F F w10 s1.out s2.out).mono ?_
  rw [decide_eq_true (rfl : F = F)]
  rintro e wz ⟨rfl, hb⟩
  go_wp2_with fail
  go_ret
  exact ⟨rfl, bup B10 hb⟩
end Go.Proofs.YtmjfdobjnnfafaaGreatDoor
