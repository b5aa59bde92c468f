/- The law SpringCheckSpec: CheckClimate, CheckLog and CheckSpring are as the reference has them. Conditions stand in the theorems. -/
import Derived.Test.YtmjfdobjnnfafaaGreatDoorSpring28
import Derived.Test.YtmjfdobjnnfafaaGreatDoorRef4
set_option linter.all false
namespace Go.Proofs.YtmjfdobjnnfafaaGreatDoor
open Go.RowKit

set_option maxRecDepth 100000 in
set_option maxHeartbeats 8000000 in
theorem law_CheckSpec (c : Climate) (va : Value) (l : List Weather) (no : Int) (vd : Value) (p : List Weather) (w : World) (hp : Pow10 w) (ha : Sl w 3 Weather.cells va l) (hd : Sl w 3 Weather.cells vd p) :
    Calls Tryz.prog 3 #[c.v, va, .agg #[I no, vd]] w fun e w' => e = .returned (.bool true) ∧ Below w.heap.size w w' := by
  obtain ⟨Aw, nl, rfl, _⟩ := hd.open_
  have J1 := fun w => spring_CheckClimate c w
  have K1 := fun w => ref_CheckClimate c w
  have J2 := fun w' (hb : Below w.heap.size w w') => spring_CheckLog c va l w' (ha.mono hb)
  have K2 := fun w' (hb : Below w.heap.size w w') => ref_CheckLog c va l w' (ha.mono hb)
  have J3 := fun w' (hb : Below w.heap.size w w') => spring_CheckSpring c no _ p w' (hd.mono hb)
  have K3 := fun w' (hb : Below w.heap.size w w') => ref_CheckSpring c no _ p w' (hd.mono hb)
  obtain ⟨e1, he1⟩ : ∃ z, climateE c = z := ⟨_, rfl⟩
  obtain ⟨e2, he2⟩ : ∃ z, logE c l = z := ⟨_, rfl⟩
  obtain ⟨e3, he3⟩ : ∃ z, springE c ⟨no, p⟩ = z := ⟨_, rfl⟩
  simp only [he1, he2, he3] at J1 K1 J2 K2 J3 K3
  clear he1 he2 he3
  (try unfold Climate.v at *)
  replace J1 := hide J1
  replace K1 := hide K1
  replace J2 := hide J2
  replace K2 := hide K2
  replace J3 := hide J3
  replace K3 := hide K3
  replace hd := hide hd
  replace ha := hide ha
  replace hp := hide hp
  (try unfold Climate.v at *)
  (try unfold Weather.v at *)
  go_enter Tryz.func3, Tryz.ntmps3
  have B0 : Below w.heap.size w w := Below.refl _ _
  go_wp2_with fail
  obtain ⟨w1, hw1⟩ : ∃ w1, w1 = ((w.alloc (.cells #[I c.base, I c.lapse, I c.swing, I c.wettest, I c.coldest, I c.warmest, I c.flo, I c.fhi] 25)).alloc (.cells #[I no, .slice Aw p.length nl] 28)) := ⟨_, rfl⟩
  have kC : Blk w1 (w.heap.size) 25 #[I c.base, I c.lapse, I c.swing, I c.wettest, I c.coldest, I c.warmest, I c.flo, I c.fhi] := by
    rw [hw1]
    refine Blk.alloc ?_ _
    have h := Blk.new w 25 #[I c.base, I c.lapse, I c.swing, I c.wettest, I c.coldest, I c.warmest, I c.flo, I c.fhi]
    first | exact h | simpa only [World.size_alloc] using h
  have kS : Blk w1 (w.heap.size + 1) 28 #[I no, .slice Aw p.length nl] := by
    rw [hw1]
    have h := Blk.new (w.alloc (.cells #[I c.base, I c.lapse, I c.swing, I c.wettest, I c.coldest, I c.warmest, I c.flo, I c.fhi] 25)) 28 #[I no, .slice Aw p.length nl]
    first | exact h | simpa only [World.size_alloc] using h
  have B1 : Below w.heap.size w w1 := by rw [hw1]; exact bup B0 (below2 _ _ _)
  rw [← hw1]
  clear hw1 B0
  obtain ⟨bS, hbS⟩ : ∃ b, w.heap.size + 1 = b := ⟨_, rfl⟩
  rw [hbS] at kS ⊢
  obtain ⟨bC, hbC⟩ : ∃ b, w.heap.size = b := ⟨_, rfl⟩
  rw [hbC] at kC ⊢
  replace kC := hide kC
  replace kS := hide kS
  clear hbC
  clear hbS
  go_at_call 22
  refine (law_sane w1 (hp.out.mono B1)).mono ?_
  rintro e w2 ⟨rfl, hb⟩
  replace kC := hide (kC.out.grow hb)
  replace kS := hide (kS.out.grow hb)
  have B2 := bup B1 hb
  clear hb B1
  obtain ⟨rC0, rC1, rC2, rC3, rC4, rC5, rC6, rC7⟩ := kC.out.cells8
  have zC : bC < w2.heap.size := kC.out.lt
  obtain ⟨rS0, rS1⟩ := kS.out.cells2
  have zS : bS < w2.heap.size := kS.out.lt
  go_wp2_with fail
  (refine wp_region_grow (by kernel_rfl) (by kernel_rfl) ?_; (repeat (first | go_big_quiet_skip | (go_big_quiet_want; go_big_quiet_op; first | go_big_quiet_on | (apply Exists.intro; refine ⟨fun _ => ?_, ?_⟩; (focus ((first | (go_at_call 23; exact calls_grew (J1.out _)) | (go_at_call 24; exact calls_grew (K1.out _)) | (go_at_call 25; exact calls_grew (J2.out _ (bup B2 (Grew.below _)))) | (go_at_call 26; exact calls_grew (K2.out _ (bup B2 (Grew.below _)))) | (go_at_call 27; exact calls_grew (J3.out _ (bup B2 (Grew.below _)))) | (go_at_call 28; exact calls_grew (K3.out _ (bup B2 (Grew.below _))))))); go_big_quiet_on)))); refine wpQuiet_nil ?_; rintro W1 ⟨⟨_, hW1⟩, rfl⟩)
  go_wp2_with fail
  go_ret
  exact ⟨rfl, bup B2 hW1⟩
end Go.Proofs.YtmjfdobjnnfafaaGreatDoor
