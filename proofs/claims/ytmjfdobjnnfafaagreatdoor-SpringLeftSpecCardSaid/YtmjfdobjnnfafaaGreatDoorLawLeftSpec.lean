/- The law SpringLeftSpec: Fits and Left are as the reference has them. Conditions stand in the theorems. -/
import Derived.Test.YtmjfdobjnnfafaaGreatDoorSpring28
import Derived.Test.YtmjfdobjnnfafaaGreatDoorRefLeft
import Derived.Test.YtmjfdobjnnfafaaGreatDoorIndexFuncPack
import Derived.Test.YtmjfdobjnnfafaaGreatDoorAgainLib
set_option linter.all false
namespace Go.Proofs.YtmjfdobjnnfafaaGreatDoor
open Go.RowKit

theorem leftV_len (c : Climate) (l : List Weather) (xs : List SprL) : (leftV c l xs).length ≤ xs.length := by
  unfold leftV
  split
  · exact leftF_len c l xs
  · simp

set_option maxRecDepth 100000 in
set_option maxHeartbeats 8000000 in
theorem law_LeftSpec (c : Climate) (va : Value) (l : List Weather) (no : Int) (vd : Value) (p : List Weather) (vs : Value) (xs : List SprL) (w : World) (hp : Pow10 w) (ha : Sl w 3 Weather.cells va l) (hd : Sl w 3 Weather.cells vd p) (hs : SprsAt w vs xs) :
    Calls Tryz.prog 18 #[c.v, va, .agg #[I no, vd], vs] w fun e w' => e = .returned (.bool true) ∧ Below w.heap.size w w' := by
  obtain ⟨Aw, nl, hvd, _⟩ := hd.open_
  have J1 := fun w' (hb : Below w.heap.size w w') => spring_Fits c va l no vd p w' (ha.mono hb) (hd.mono hb)
  have K1 := fun w' (hb : Below w.heap.size w w') => ref_Fits c va l no vd p w' (ha.mono hb) (hd.mono hb)
  have J2 := fun w' (hb : Below w.heap.size w w') => spring_Left c va vs l xs w' (ha.mono hb) (hs.mono hb)
  have K2 := fun w' (hb : Below w.heap.size w w') => ref_Left c va vs l xs w' (ha.mono hb) (hs.mono hb)
  have hxl : xs.length ≤ 140737488355328 := by
    obtain ⟨_, _, _, _, _, h, _⟩ := hs.1.open_
    exact h
  have hFl : (leftV c l xs).length ≤ 140737488355328 := Nat.le_trans (leftV_len c l xs) hxl
  obtain ⟨b1, hb1⟩ : ∃ z, fitsV c l ⟨no, p⟩ = z := ⟨_, rfl⟩
  obtain ⟨e1, he1⟩ : ∃ z, fitsE c l ⟨no, p⟩ = z := ⟨_, rfl⟩
  obtain ⟨F, hF⟩ : ∃ z, leftV c l xs = z := ⟨_, rfl⟩
  obtain ⟨e2, he2⟩ : ∃ z, leftE c l xs = z := ⟨_, rfl⟩
  simp only [hb1, he1, hF, he2] at J1 K1 J2 K2 hFl
  clear hb1 he1 hF he2
  subst hvd
  (try unfold Climate.v at *)
  clear hxl
  replace J1 := hide J1
  replace K1 := hide K1
  replace J2 := hide J2
  replace K2 := hide K2
  replace hd := hide hd
  replace ha := hide ha
  replace hs := hide hs
  replace hFl := hide hFl
  replace hp := hide hp
  (try unfold Climate.v at *)
  (try unfold Weather.v at *)
  go_enter Tryz.func18, Tryz.ntmps18
  have B0 : Below w.heap.size w w := Below.refl _ _
  go_wp2_with fail
  obtain ⟨w1, hw1⟩ : ∃ w1, w1 = ((w.alloc (.cells #[I c.base, I c.lapse, I c.swing, I c.wettest, I c.coldest, I c.warmest, I c.flo, I c.fhi] 25)).alloc (.cells #[I no, .slice Aw p.length nl] 28)) := ⟨_, rfl⟩
  have kC : Blk w1 (w.heap.size) 25 #[I c.base, I c.lapse, I c.swing, I c.wettest, I c.coldest, I c.warmest, I c.flo, I c.fhi] := by
    rw [hw1]
    refine Blk.alloc ?_ _
    have h := Blk.new w 25 #[I c.base, I c.lapse, I c.swing, I c.wettest, I c.coldest, I c.warmest, I c.flo, I c.fhi]
    first | exact h | simpa only [World.size_alloc] using h
  have kS : Blk w1 (w.heap.size + 1) 28 #[I no, .slice Aw p.length nl] := by
    rw [hw1]
    have h := Blk.new (w.alloc (.cells #[I c.base, I c.lapse, I c.swing, I c.wettest, I c.coldest, I c.warmest, I c.flo, I c.fhi] 25)) 28 #[I no, .slice Aw p.length nl]
    first | exact h | simpa only [World.size_alloc] using h
  have B1 : Below w.heap.size w w1 := by rw [hw1]; exact bup B0 (below2 _ _ _)
  rw [← hw1]
  clear hw1 B0
  obtain ⟨bS, hbS⟩ : ∃ b, w.heap.size + 1 = b := ⟨_, rfl⟩
  rw [hbS] at kS ⊢
  obtain ⟨bC, hbC⟩ : ∃ b, w.heap.size = b := ⟨_, rfl⟩
  rw [hbC] at kC ⊢
  replace kC := hide kC
  replace kS := hide kS
  clear hbC
  clear hbS
  go_at_call 22
  refine (law_sane w1 (hp.out.mono B1)).mono ?_
  rintro e w2 ⟨rfl, hb⟩
  replace kC := hide (kC.out.grow hb)
  replace kS := hide (kS.out.grow hb)
  have B2 := bup B1 hb
  clear hb B1
  obtain ⟨rC0, rC1, rC2, rC3, rC4, rC5, rC6, rC7⟩ := kC.out.cells8
  have zC : bC < w2.heap.size := kC.out.lt
  obtain ⟨rS0, rS1⟩ := kS.out.cells2
  have zS : bS < w2.heap.size := kS.out.lt
  go_wp2_with fail
  clear rC0 rC1 rC2 rC3 rC4 rC5 rC6 rC7 zC rS0 rS1 zS
  go_at_call 66
  refine (J1.out w2 B2).mono ?_
  rintro e w3 ⟨rfl, hb⟩
  replace kC := hide (kC.out.grow hb)
  replace kS := hide (kS.out.grow hb)
  have B3 := bup B2 hb
  clear hb B2
  obtain ⟨rC0, rC1, rC2, rC3, rC4, rC5, rC6, rC7⟩ := kC.out.cells8
  have zC : bC < w3.heap.size := kC.out.lt
  obtain ⟨rS0, rS1⟩ := kS.out.cells2
  have zS : bS < w3.heap.size := kS.out.lt
  go_wp2_with fail
  clear rC0 rC1 rC2 rC3 rC4 rC5 rC6 rC7 zC rS0 rS1 zS
  go_at_call 67
  refine (K1.out w3 B3).mono ?_
  rintro e w4 ⟨rfl, hb⟩
  replace kC := hide (kC.out.grow hb)
  replace kS := hide (kS.out.grow hb)
  have B4 := bup B3 hb
  clear hb B3
  obtain ⟨rC0, rC1, rC2, rC3, rC4, rC5, rC6, rC7⟩ := kC.out.cells8
  have zC : bC < w4.heap.size := kC.out.lt
  obtain ⟨rS0, rS1⟩ := kS.out.cells2
  have zS : bS < w4.heap.size := kS.out.lt
  go_wp2_with fail
  clear rC0 rC1 rC2 rC3 rC4 rC5 rC6 rC7 zC rS0 rS1 zS
  go_at_call 68
  refine (J2.out w4 B4).mono ?_
  rintro e w5 ⟨v1, rfl, ho, hb⟩
  replace kC := hide (kC.out.grow hb)
  replace kS := hide (kS.out.grow hb)
  have B5 := bup B4 hb
  clear hb B4
  have s1 := hide (ho.sl intC_len hFl.out)
  obtain ⟨A1, n1, c1, rfl⟩ := ho.shape
  clear ho
  obtain ⟨rC0, rC1, rC2, rC3, rC4, rC5, rC6, rC7⟩ := kC.out.cells8
  have zC : bC < w5.heap.size := kC.out.lt
  obtain ⟨rS0, rS1⟩ := kS.out.cells2
  have zS : bS < w5.heap.size := kS.out.lt
  go_wp2_with fail
  clear rC0 rC1 rC2 rC3 rC4 rC5 rC6 rC7 zC rS0 rS1 zS
  go_at_call 69
  refine (K2.out w5 B5).mono ?_
  rintro e w6 ⟨v2, rfl, ho, hb⟩
  replace kC := hide (kC.out.grow hb)
  replace kS := hide (kS.out.grow hb)
  have B6 := bup B5 hb
  replace s1 := hide (s1.out.mono hb)
  clear hb B5
  have s2 := hide (ho.sl intC_len hFl.out)
  obtain ⟨A2, n2, c2, rfl⟩ := ho.shape
  clear ho
  go_wp2_with fail
  go_at_call 70
  refine (equal_int _ _ F F w6 s1.out s2.out).mono ?_
  rw [decide_eq_true (rfl : F = F)]
  rintro e wz ⟨rfl, hb⟩
  go_wp2_with fail
  go_ret
  exact ⟨rfl, bup B6 hb⟩
end Go.Proofs.YtmjfdobjnnfafaaGreatDoor
