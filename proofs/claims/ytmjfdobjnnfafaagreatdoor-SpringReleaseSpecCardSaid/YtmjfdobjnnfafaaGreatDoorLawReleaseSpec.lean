/- The law SpringReleaseSpec: Release is as the reference has it. Conditions stand in the theorems. -/
import Derived.Test.YtmjfdobjnnfafaaGreatDoorSpring28
import Derived.Test.YtmjfdobjnnfafaaGreatDoorRef5
set_option linter.all false
namespace Go.Proofs.YtmjfdobjnnfafaaGreatDoor
open Go.RowKit

set_option maxRecDepth 100000 in
set_option maxHeartbeats 8000000 in
theorem law_ReleaseSpec (c : Climate) (no : Int) (vd : Value) (p : List Weather) (h W f d : Int) (w : World) (hp : Pow10 w) (hd : Sl w 3 Weather.cells vd p) :
    Calls Tryz.prog 6 #[c.v, .agg #[I no, vd], I h, I W, I f, I d] w fun e w' => e = .returned (.bool true) ∧ Below w.heap.size w w' := by
  obtain ⟨Aw, nl, rfl, _⟩ := hd.open_
  have J1 := fun w' (hb : Below w.heap.size w w') => spring_Release c no _ p h W f d w' (hd.mono hb)
  have K1 := fun w' (hb : Below w.heap.size w w') => ref_Release c no _ p h W f d w' (hd.mono hb)
  obtain ⟨e1, he1⟩ : ∃ z, relE c ⟨no, p⟩ h W f d = z := ⟨_, rfl⟩
  obtain ⟨v1, hv1⟩ : ∃ z, relV c ⟨no, p⟩ h W f d = z := ⟨_, rfl⟩
  simp only [he1, hv1] at J1 K1
  clear he1 hv1
  (try unfold Climate.v at *)
  replace J1 := hide J1
  replace K1 := hide K1
  replace hd := hide hd
  replace hp := hide hp
  (try unfold Climate.v at *)
  (try unfold Weather.v at *)
  go_enter Tryz.func6, Tryz.ntmps6
  have B0 : Below w.heap.size w w := Below.refl _ _
  go_wp2_with fail
  obtain ⟨w1, hw1⟩ : ∃ w1, w1 = ((w.alloc (.cells #[I c.base, I c.lapse, I c.swing, I c.wettest, I c.coldest, I c.warmest, I c.flo, I c.fhi] 25)).alloc (.cells #[I no, .slice Aw p.length nl] 28)) := ⟨_, rfl⟩
  have kC : Blk w1 (w.heap.size) 25 #[I c.base, I c.lapse, I c.swing, I c.wettest, I c.coldest, I c.warmest, I c.flo, I c.fhi] := by
    rw [hw1]
    refine Blk.alloc ?_ _
    have h := Blk.new w 25 #[I c.base, I c.lapse, I c.swing, I c.wettest, I c.coldest, I c.warmest, I c.flo, I c.fhi]
    first | exact h | simpa only [World.size_alloc] using h
  have kS : Blk w1 (w.heap.size + 1) 28 #[I no, .slice Aw p.length nl] := by
    rw [hw1]
    have h := Blk.new (w.alloc (.cells #[I c.base, I c.lapse, I c.swing, I c.wettest, I c.coldest, I c.warmest, I c.flo, I c.fhi] 25)) 28 #[I no, .slice Aw p.length nl]
    first | exact h | simpa only [World.size_alloc] using h
  have B1 : Below w.heap.size w w1 := by rw [hw1]; exact bup B0 (below2 _ _ _)
  rw [← hw1]
  clear hw1 B0
  obtain ⟨bS, hbS⟩ : ∃ b, w.heap.size + 1 = b := ⟨_, rfl⟩
  rw [hbS] at kS ⊢
  obtain ⟨bC, hbC⟩ : ∃ b, w.heap.size = b := ⟨_, rfl⟩
  rw [hbC] at kC ⊢
  replace kC := hide kC
  replace kS := hide kS
  clear hbC
  clear hbS
  go_at_call 22
  refine (law_sane w1 (hp.out.mono B1)).mono ?_
  rintro e w2 ⟨rfl, hb⟩
  replace kC := hide (kC.out.grow hb)
  replace kS := hide (kS.out.grow hb)
  have B2 := bup B1 hb
  clear hb B1
  obtain ⟨rC0, rC1, rC2, rC3, rC4, rC5, rC6, rC7⟩ := kC.out.cells8
  have zC : bC < w2.heap.size := kC.out.lt
  obtain ⟨rS0, rS1⟩ := kS.out.cells2
  have zS : bS < w2.heap.size := kS.out.lt
  go_wp2_with fail
  clear rC0 rC1 rC2 rC3 rC4 rC5 rC6 rC7 zC rS0 rS1 zS
  go_at_call 45
  refine (J1.out w2 B2).mono ?_
  rintro e w3 ⟨rfl, hb⟩
  replace kC := hide (kC.out.grow hb)
  replace kS := hide (kS.out.grow hb)
  have B3 := bup B2 hb
  clear hb B2
  obtain ⟨rC0, rC1, rC2, rC3, rC4, rC5, rC6, rC7⟩ := kC.out.cells8
  have zC : bC < w3.heap.size := kC.out.lt
  obtain ⟨rS0, rS1⟩ := kS.out.cells2
  have zS : bS < w3.heap.size := kS.out.lt
  go_wp2_with fail
  clear rC0 rC1 rC2 rC3 rC4 rC5 rC6 rC7 zC rS0 rS1 zS
  go_at_call 46
  refine (K1.out w3 B3).mono ?_
  rintro e w4 ⟨rfl, hb⟩
  replace kC := hide (kC.out.grow hb)
  replace kS := hide (kS.out.grow hb)
  have B4 := bup B3 hb
  clear hb B3
  obtain ⟨rC0, rC1, rC2, rC3, rC4, rC5, rC6, rC7⟩ := kC.out.cells8
  have zC : bC < w4.heap.size := kC.out.lt
  obtain ⟨rS0, rS1⟩ := kS.out.cells2
  have zS : bS < w4.heap.size := kS.out.lt
  go_wp2_with fail
  go_ret
  exact ⟨rfl, B4⟩
end Go.Proofs.YtmjfdobjnnfafaaGreatDoor
