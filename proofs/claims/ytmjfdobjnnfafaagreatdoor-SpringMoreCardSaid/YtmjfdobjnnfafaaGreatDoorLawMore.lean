/- The law SpringMore: more snow, or a greater factor, and what comes and what is left. Conditions stand in the theorems. -/
import Derived.Test.YtmjfdobjnnfafaaGreatDoorSpring28
set_option linter.all false
namespace Go.Proofs.YtmjfdobjnnfafaaGreatDoor
open Go.RowKit

theorem meltF_mono {c : Climate} {x : Weather} {h f g : Int} (hfg : f ≤ g) : meltF c x h f ≤ meltF c x h g := by
  unfold meltF
  have h1 : f * max 0 (atF c x.temp h) ≤ g * max 0 (atF c x.temp h) := Int.mul_le_mul_of_nonneg_right hfg (by omega)
  omega
/-- Two runs with a like factor: what is left keeps its order, and what is not left has come. -/
theorem rel_water {c : Climate} {h f e D : Int} : ∀ (l : List Weather) (a b a' b' : Int), b ≤ b' → b' - b ≤ D → a + b + D = a' + b' →
    (relF c h f e l (a, b)).2 ≤ (relF c h f e l (a', b')).2 ∧ (relF c h f e l (a', b')).2 - (relF c h f e l (a, b)).2 ≤ D ∧ (relF c h f e l (a, b)).1 + (relF c h f e l (a, b)).2 + D = (relF c h f e l (a', b')).1 + (relF c h f e l (a', b')).2
  | [], a, b, a', b', h1, h2, h3 => ⟨h1, h2, h3⟩
  | x :: xs, a, b, a', b', h1, h2, h3 => by
    rcases ilt x.day e with g | g
    · rw [relF_go g, relF_go g]
      exact rel_water xs _ _ _ _ (by omega) (by omega) (by omega)
    · rw [relF_stop g, relF_stop g]
      exact ⟨h1, h2, h3⟩
/-- Two runs with like water: the greater factor leaves less, and what is not left has come. -/
theorem rel_factor {c : Climate} {h f g e : Int} (hfg : f ≤ g) : ∀ (l : List Weather) (a b a' b' : Int), b' ≤ b → a + b = a' + b' →
    (relF c h g e l (a', b')).2 ≤ (relF c h f e l (a, b)).2 ∧ (relF c h f e l (a, b)).1 + (relF c h f e l (a, b)).2 = (relF c h g e l (a', b')).1 + (relF c h g e l (a', b')).2
  | [], a, b, a', b', h1, h2 => ⟨h1, h2⟩
  | x :: xs, a, b, a', b', h1, h2 => by
    rcases ilt x.day e with k | k
    · rw [relF_go k, relF_go k]
      have hm := meltF_mono (c := c) (x := x) (h := h) hfg
      exact rel_factor hfg xs _ _ _ _ (by omega) (by omega)
    · rw [relF_stop k, relF_stop k]
      exact ⟨h1, h2⟩
theorem rel_left {c : Climate} {h f e : Int} (hc : ClimOk c) (hh : 0 ≤ h ∧ h ≤ 9000) (hf : 0 ≤ f ∧ f ≤ 2000) : ∀ (l : List Weather) (a b : Int), (∀ x ∈ l, WeaOk c x) → 0 ≤ b → (relF c h f e l (a, b)).2 ≤ b + 1000 * l.length
  | [], a, b, _, hb => by simp [relF]
  | x :: xs, a, b, hl, hb => by
    rcases ilt x.day e with g | g
    · have hx := hl x (List.mem_cons_self ..)
      have h1 := fall_sum (c := c) (h := h) hx.rain.1
      have h2 := (meltF_bd (f := f) hc (hx.t600 hc) hh hf).2
      have h3 := hx.rain.2
      have h4 := hc.wettest
      rw [relF_go g]
      have ih := rel_left (e := e) hc hh hf xs (a + ((fallF c x h).2 + b + (fallF c x h).1 - max 0 (b + (fallF c x h).1 - meltF c x h f))) (max 0 (b + (fallF c x h).1 - meltF c x h f)) (fun y hy => hl y (List.mem_cons_of_mem _ hy)) (by omega)
      rw [List.length_cons]
      push_cast
      omega
    · rw [relF_stop g]
      simp only [List.length_cons]
      push_cast
      omega
theorem relE_zero {c : Climate} {s : Spring} {h W f d : Int} (hz : relE c s h W f d = 0) : SprOk c s ∧ (0 ≤ h ∧ h ≤ 9000) ∧ (0 ≤ W ∧ W ≤ 65536) ∧ (0 ≤ f ∧ f ≤ 2000) ∧ (beginF s ≤ d ∧ d ≤ endF s) := by
  unfold relE at hz
  split at hz
  · rename_i h1
    have ho := SprOk.of h1
    rcases asked_cases c [heightB h, inB W 0 65536, inB f 0 2000, inB d (beginF s) (endF s)] with ⟨_, _, g⟩ | ⟨g, _⟩
    · simp at g
      obtain ⟨g1, g2, g3, g4⟩ := g
      exact ⟨ho, heightB_bd g1, inB_true.1 g2, inB_true.1 g3, inB_true.1 g4⟩
    · exact absurd hz g
  · rename_i h1; exact absurd hz h1

set_option maxRecDepth 100000 in
set_option maxHeartbeats 8000000 in
theorem law_More_long (c : Climate) (no : Int) (vd : Value) (p : List Weather) (h a b f0 f1 d : Int) (w : World) (hp : Pow10 w) (hd : Sl w 3 Weather.cells vd p) (g : decide ((40 : Int) < p.length) = true) :
    Calls Tryz.prog 11 #[c.v, .agg #[I no, vd], I h, .agg #[I a, I b], .agg #[I f0, I f1], I d] w fun e w' => e = .returned (.bool true) ∧ Below w.heap.size w w' := by
  obtain ⟨Aw, nl, rfl, _⟩ := hd.open_
  have H1 := hide (fun (W f : Int) w' (hb : Below w.heap.size w w') => spring_Release c no _ p h W f d w' (hd.mono hb))
  clear H1
  replace hp := hide hp
  replace hd := hide hd
  unfold Climate.v at *
  go_enter Tryz.func11, Tryz.ntmps11
  have B0 : Below w.heap.size w w := Below.refl _ _
  go_wp2_with fail
  obtain ⟨w1, hw1⟩ : ∃ w1, w1 = ((((w.alloc (.cells #[I c.base, I c.lapse, I c.swing, I c.wettest, I c.coldest, I c.warmest, I c.flo, I c.fhi] 25)).alloc (.cells #[I no, .slice Aw p.length nl] 28)).alloc (.cells #[I a, I b] 77)).alloc (.cells #[I f0, I f1] 77)) := ⟨_, rfl⟩
  have kC : Blk w1 (w.heap.size) 25 #[I c.base, I c.lapse, I c.swing, I c.wettest, I c.coldest, I c.warmest, I c.flo, I c.fhi] := by
    rw [hw1]
    refine Blk.alloc ?_ _
    refine Blk.alloc ?_ _
    refine Blk.alloc ?_ _
    have h := Blk.new w 25 #[I c.base, I c.lapse, I c.swing, I c.wettest, I c.coldest, I c.warmest, I c.flo, I c.fhi]
    first | exact h | simpa only [World.size_alloc] using h
  have kS : Blk w1 (w.heap.size + 1) 28 #[I no, .slice Aw p.length nl] := by
    rw [hw1]
    refine Blk.alloc ?_ _
    refine Blk.alloc ?_ _
    have h := Blk.new (w.alloc (.cells #[I c.base, I c.lapse, I c.swing, I c.wettest, I c.coldest, I c.warmest, I c.flo, I c.fhi] 25)) 28 #[I no, .slice Aw p.length nl]
    first | exact h | simpa only [World.size_alloc] using h
  have kW : Blk w1 (w.heap.size + 1 + 1) 77 #[I a, I b] := by
    rw [hw1]
    refine Blk.alloc ?_ _
    have h := Blk.new ((w.alloc (.cells #[I c.base, I c.lapse, I c.swing, I c.wettest, I c.coldest, I c.warmest, I c.flo, I c.fhi] 25)).alloc (.cells #[I no, .slice Aw p.length nl] 28)) 77 #[I a, I b]
    first | exact h | simpa only [World.size_alloc] using h
  have kF : Blk w1 (w.heap.size + 1 + 1 + 1) 77 #[I f0, I f1] := by
    rw [hw1]
    have h := Blk.new (((w.alloc (.cells #[I c.base, I c.lapse, I c.swing, I c.wettest, I c.coldest, I c.warmest, I c.flo, I c.fhi] 25)).alloc (.cells #[I no, .slice Aw p.length nl] 28)).alloc (.cells #[I a, I b] 77)) 77 #[I f0, I f1]
    first | exact h | simpa only [World.size_alloc] using h
  have B1 : Below w.heap.size w w1 := by rw [hw1]; exact bup B0 (below4 _ _ _ _ _)
  rw [← hw1]
  clear hw1 B0
  obtain ⟨bF, hbF⟩ : ∃ b, w.heap.size + 1 + 1 + 1 = b := ⟨_, rfl⟩
  rw [hbF] at kF ⊢
  obtain ⟨bW, hbW⟩ : ∃ b, w.heap.size + 1 + 1 = b := ⟨_, rfl⟩
  rw [hbW] at kW ⊢
  obtain ⟨bS, hbS⟩ : ∃ b, w.heap.size + 1 = b := ⟨_, rfl⟩
  rw [hbS] at kS ⊢
  obtain ⟨bC, hbC⟩ : ∃ b, w.heap.size = b := ⟨_, rfl⟩
  rw [hbC] at kC ⊢
  replace kC := hide kC
  replace kS := hide kS
  replace kW := hide kW
  replace kF := hide kF
  clear hbC
  clear hbS
  clear hbW
  clear hbF
  go_at_call 22
  refine (law_sane w1 (hp.out.mono B1)).mono ?_
  rintro e w2 ⟨rfl, hb⟩
  replace kC := hide (kC.out.grow hb)
  replace kS := hide (kS.out.grow hb)
  replace kW := hide (kW.out.grow hb)
  replace kF := hide (kF.out.grow hb)
  have B2 := bup B1 hb
  clear hb B1
  have rC0 : w2.cell? ⟨bC, 0, none⟩ = some (I c.base) := kC.out.cell 0
  have rC1 : w2.cell? ⟨bC, 1, none⟩ = some (I c.lapse) := kC.out.cell 1
  have rC2 : w2.cell? ⟨bC, 2, none⟩ = some (I c.swing) := kC.out.cell 2
  have rC3 : w2.cell? ⟨bC, 3, none⟩ = some (I c.wettest) := kC.out.cell 3
  have rC4 : w2.cell? ⟨bC, 4, none⟩ = some (I c.coldest) := kC.out.cell 4
  have rC5 : w2.cell? ⟨bC, 5, none⟩ = some (I c.warmest) := kC.out.cell 5
  have rC6 : w2.cell? ⟨bC, 6, none⟩ = some (I c.flo) := kC.out.cell 6
  have rC7 : w2.cell? ⟨bC, 7, none⟩ = some (I c.fhi) := kC.out.cell 7
  have zC : bC < w2.heap.size := kC.out.lt
  have rS0 : w2.cell? ⟨bS, 0, none⟩ = some (I no) := kS.out.cell 0
  have rS1 : w2.cell? ⟨bS, 1, none⟩ = some (.slice Aw p.length nl) := kS.out.cell 1
  have zS : bS < w2.heap.size := kS.out.lt
  have rW0 : w2.cell? ⟨bW, 0, none⟩ = some (I a) := kW.out.cell 0
  have rW1 : w2.cell? ⟨bW, 1, none⟩ = some (I b) := kW.out.cell 1
  have zW : bW < w2.heap.size := kW.out.lt
  have rF0 : w2.cell? ⟨bF, 0, none⟩ = some (I f0) := kF.out.cell 0
  have rF1 : w2.cell? ⟨bF, 1, none⟩ = some (I f1) := kF.out.cell 1
  have zF : bF < w2.heap.size := kF.out.lt
  go_wp2_with fail
  go_ret
  exact ⟨rfl, B2⟩

set_option maxRecDepth 100000 in
set_option maxHeartbeats 8000000 in
theorem law_More_water (c : Climate) (no : Int) (vd : Value) (p : List Weather) (h a b f0 f1 d : Int) (w : World) (hp : Pow10 w) (hd : Sl w 3 Weather.cells vd p) (g1 : decide ((40 : Int) < p.length) = false) (g2 : decide (b < a) = true) :
    Calls Tryz.prog 11 #[c.v, .agg #[I no, vd], I h, .agg #[I a, I b], .agg #[I f0, I f1], I d] w fun e w' => e = .returned (.bool true) ∧ Below w.heap.size w w' := by
  obtain ⟨Aw, nl, rfl, _⟩ := hd.open_
  have H1 := hide (fun (W f : Int) w' (hb : Below w.heap.size w w') => spring_Release c no _ p h W f d w' (hd.mono hb))
  clear H1
  replace hp := hide hp
  replace hd := hide hd
  unfold Climate.v at *
  go_enter Tryz.func11, Tryz.ntmps11
  have B0 : Below w.heap.size w w := Below.refl _ _
  go_wp2_with fail
  obtain ⟨w1, hw1⟩ : ∃ w1, w1 = ((((w.alloc (.cells #[I c.base, I c.lapse, I c.swing, I c.wettest, I c.coldest, I c.warmest, I c.flo, I c.fhi] 25)).alloc (.cells #[I no, .slice Aw p.length nl] 28)).alloc (.cells #[I a, I b] 77)).alloc (.cells #[I f0, I f1] 77)) := ⟨_, rfl⟩
  have kC : Blk w1 (w.heap.size) 25 #[I c.base, I c.lapse, I c.swing, I c.wettest, I c.coldest, I c.warmest, I c.flo, I c.fhi] := by
    rw [hw1]
    refine Blk.alloc ?_ _
    refine Blk.alloc ?_ _
    refine Blk.alloc ?_ _
    have h := Blk.new w 25 #[I c.base, I c.lapse, I c.swing, I c.wettest, I c.coldest, I c.warmest, I c.flo, I c.fhi]
    first | exact h | simpa only [World.size_alloc] using h
  have kS : Blk w1 (w.heap.size + 1) 28 #[I no, .slice Aw p.length nl] := by
    rw [hw1]
    refine Blk.alloc ?_ _
    refine Blk.alloc ?_ _
    have h := Blk.new (w.alloc (.cells #[I c.base, I c.lapse, I c.swing, I c.wettest, I c.coldest, I c.warmest, I c.flo, I c.fhi] 25)) 28 #[I no, .slice Aw p.length nl]
    first | exact h | simpa only [World.size_alloc] using h
  have kW : Blk w1 (w.heap.size + 1 + 1) 77 #[I a, I b] := by
    rw [hw1]
    refine Blk.alloc ?_ _
    have h := Blk.new ((w.alloc (.cells #[I c.base, I c.lapse, I c.swing, I c.wettest, I c.coldest, I c.warmest, I c.flo, I c.fhi] 25)).alloc (.cells #[I no, .slice Aw p.length nl] 28)) 77 #[I a, I b]
    first | exact h | simpa only [World.size_alloc] using h
  have kF : Blk w1 (w.heap.size + 1 + 1 + 1) 77 #[I f0, I f1] := by
    rw [hw1]
    have h := Blk.new (((w.alloc (.cells #[I c.base, I c.lapse, I c.swing, I c.wettest, I c.coldest, I c.warmest, I c.flo, I c.fhi] 25)).alloc (.cells #[I no, .slice Aw p.length nl] 28)).alloc (.cells #[I a, I b] 77)) 77 #[I f0, I f1]
    first | exact h | simpa only [World.size_alloc] using h
  have B1 : Below w.heap.size w w1 := by rw [hw1]; exact bup B0 (below4 _ _ _ _ _)
  rw [← hw1]
  clear hw1 B0
  obtain ⟨bF, hbF⟩ : ∃ b, w.heap.size + 1 + 1 + 1 = b := ⟨_, rfl⟩
  rw [hbF] at kF ⊢
  obtain ⟨bW, hbW⟩ : ∃ b, w.heap.size + 1 + 1 = b := ⟨_, rfl⟩
  rw [hbW] at kW ⊢
  obtain ⟨bS, hbS⟩ : ∃ b, w.heap.size + 1 = b := ⟨_, rfl⟩
  rw [hbS] at kS ⊢
  obtain ⟨bC, hbC⟩ : ∃ b, w.heap.size = b := ⟨_, rfl⟩
  rw [hbC] at kC ⊢
  replace kC := hide kC
  replace kS := hide kS
  replace kW := hide kW
  replace kF := hide kF
  clear hbC
  clear hbS
  clear hbW
  clear hbF
  go_at_call 22
  refine (law_sane w1 (hp.out.mono B1)).mono ?_
  rintro e w2 ⟨rfl, hb⟩
  replace kC := hide (kC.out.grow hb)
  replace kS := hide (kS.out.grow hb)
  replace kW := hide (kW.out.grow hb)
  replace kF := hide (kF.out.grow hb)
  have B2 := bup B1 hb
  clear hb B1
  have rC0 : w2.cell? ⟨bC, 0, none⟩ = some (I c.base) := kC.out.cell 0
  have rC1 : w2.cell? ⟨bC, 1, none⟩ = some (I c.lapse) := kC.out.cell 1
  have rC2 : w2.cell? ⟨bC, 2, none⟩ = some (I c.swing) := kC.out.cell 2
  have rC3 : w2.cell? ⟨bC, 3, none⟩ = some (I c.wettest) := kC.out.cell 3
  have rC4 : w2.cell? ⟨bC, 4, none⟩ = some (I c.coldest) := kC.out.cell 4
  have rC5 : w2.cell? ⟨bC, 5, none⟩ = some (I c.warmest) := kC.out.cell 5
  have rC6 : w2.cell? ⟨bC, 6, none⟩ = some (I c.flo) := kC.out.cell 6
  have rC7 : w2.cell? ⟨bC, 7, none⟩ = some (I c.fhi) := kC.out.cell 7
  have zC : bC < w2.heap.size := kC.out.lt
  have rS0 : w2.cell? ⟨bS, 0, none⟩ = some (I no) := kS.out.cell 0
  have rS1 : w2.cell? ⟨bS, 1, none⟩ = some (.slice Aw p.length nl) := kS.out.cell 1
  have zS : bS < w2.heap.size := kS.out.lt
  have rW0 : w2.cell? ⟨bW, 0, none⟩ = some (I a) := kW.out.cell 0
  have rW1 : w2.cell? ⟨bW, 1, none⟩ = some (I b) := kW.out.cell 1
  have zW : bW < w2.heap.size := kW.out.lt
  have rF0 : w2.cell? ⟨bF, 0, none⟩ = some (I f0) := kF.out.cell 0
  have rF1 : w2.cell? ⟨bF, 1, none⟩ = some (I f1) := kF.out.cell 1
  have zF : bF < w2.heap.size := kF.out.lt
  go_wp2_with fail
  go_ret
  exact ⟨rfl, B2⟩

set_option maxRecDepth 100000 in
set_option maxHeartbeats 8000000 in
theorem law_More_factor (c : Climate) (no : Int) (vd : Value) (p : List Weather) (h a b f0 f1 d : Int) (w : World) (hp : Pow10 w) (hd : Sl w 3 Weather.cells vd p) (g1 : decide ((40 : Int) < p.length) = false) (g2 : decide (b < a) = false) (g3 : decide (f1 < f0) = true) :
    Calls Tryz.prog 11 #[c.v, .agg #[I no, vd], I h, .agg #[I a, I b], .agg #[I f0, I f1], I d] w fun e w' => e = .returned (.bool true) ∧ Below w.heap.size w w' := by
  obtain ⟨Aw, nl, rfl, _⟩ := hd.open_
  have H1 := hide (fun (W f : Int) w' (hb : Below w.heap.size w w') => spring_Release c no _ p h W f d w' (hd.mono hb))
  clear H1
  replace hp := hide hp
  replace hd := hide hd
  unfold Climate.v at *
  go_enter Tryz.func11, Tryz.ntmps11
  have B0 : Below w.heap.size w w := Below.refl _ _
  go_wp2_with fail
  obtain ⟨w1, hw1⟩ : ∃ w1, w1 = ((((w.alloc (.cells #[I c.base, I c.lapse, I c.swing, I c.wettest, I c.coldest, I c.warmest, I c.flo, I c.fhi] 25)).alloc (.cells #[I no, .slice Aw p.length nl] 28)).alloc (.cells #[I a, I b] 77)).alloc (.cells #[I f0, I f1] 77)) := ⟨_, rfl⟩
  have kC : Blk w1 (w.heap.size) 25 #[I c.base, I c.lapse, I c.swing, I c.wettest, I c.coldest, I c.warmest, I c.flo, I c.fhi] := by
    rw [hw1]
    refine Blk.alloc ?_ _
    refine Blk.alloc ?_ _
    refine Blk.alloc ?_ _
    have h := Blk.new w 25 #[I c.base, I c.lapse, I c.swing, I c.wettest, I c.coldest, I c.warmest, I c.flo, I c.fhi]
    first | exact h | simpa only [World.size_alloc] using h
  have kS : Blk w1 (w.heap.size + 1) 28 #[I no, .slice Aw p.length nl] := by
    rw [hw1]
    refine Blk.alloc ?_ _
    refine Blk.alloc ?_ _
    have h := Blk.new (w.alloc (.cells #[I c.base, I c.lapse, I c.swing, I c.wettest, I c.coldest, I c.warmest, I c.flo, I c.fhi] 25)) 28 #[I no, .slice Aw p.length nl]
    first | exact h | simpa only [World.size_alloc] using h
  have kW : Blk w1 (w.heap.size + 1 + 1) 77 #[I a, I b] := by
    rw [hw1]
    refine Blk.alloc ?_ _
    have h := Blk.new ((w.alloc (.cells #[I c.base, I c.lapse, I c.swing, I c.wettest, I c.coldest, I c.warmest, I c.flo, I c.fhi] 25)).alloc (.cells #[I no, .slice Aw p.length nl] 28)) 77 #[I a, I b]
    first | exact h | simpa only [World.size_alloc] using h
  have kF : Blk w1 (w.heap.size + 1 + 1 + 1) 77 #[I f0, I f1] := by
    rw [hw1]
    have h := Blk.new (((w.alloc (.cells #[I c.base, I c.lapse, I c.swing, I c.wettest, I c.coldest, I c.warmest, I c.flo, I c.fhi] 25)).alloc (.cells #[I no, .slice Aw p.length nl] 28)).alloc (.cells #[I a, I b] 77)) 77 #[I f0, I f1]
    first | exact h | simpa only [World.size_alloc] using h
  have B1 : Below w.heap.size w w1 := by rw [hw1]; exact bup B0 (below4 _ _ _ _ _)
  rw [← hw1]
  clear hw1 B0
  obtain ⟨bF, hbF⟩ : ∃ b, w.heap.size + 1 + 1 + 1 = b := ⟨_, rfl⟩
  rw [hbF] at kF ⊢
  obtain ⟨bW, hbW⟩ : ∃ b, w.heap.size + 1 + 1 = b := ⟨_, rfl⟩
  rw [hbW] at kW ⊢
  obtain ⟨bS, hbS⟩ : ∃ b, w.heap.size + 1 = b := ⟨_, rfl⟩
  rw [hbS] at kS ⊢
  obtain ⟨bC, hbC⟩ : ∃ b, w.heap.size = b := ⟨_, rfl⟩
  rw [hbC] at kC ⊢
  replace kC := hide kC
  replace kS := hide kS
  replace kW := hide kW
  replace kF := hide kF
  clear hbC
  clear hbS
  clear hbW
  clear hbF
  go_at_call 22
  refine (law_sane w1 (hp.out.mono B1)).mono ?_
  rintro e w2 ⟨rfl, hb⟩
  replace kC := hide (kC.out.grow hb)
  replace kS := hide (kS.out.grow hb)
  replace kW := hide (kW.out.grow hb)
  replace kF := hide (kF.out.grow hb)
  have B2 := bup B1 hb
  clear hb B1
  have rC0 : w2.cell? ⟨bC, 0, none⟩ = some (I c.base) := kC.out.cell 0
  have rC1 : w2.cell? ⟨bC, 1, none⟩ = some (I c.lapse) := kC.out.cell 1
  have rC2 : w2.cell? ⟨bC, 2, none⟩ = some (I c.swing) := kC.out.cell 2
  have rC3 : w2.cell? ⟨bC, 3, none⟩ = some (I c.wettest) := kC.out.cell 3
  have rC4 : w2.cell? ⟨bC, 4, none⟩ = some (I c.coldest) := kC.out.cell 4
  have rC5 : w2.cell? ⟨bC, 5, none⟩ = some (I c.warmest) := kC.out.cell 5
  have rC6 : w2.cell? ⟨bC, 6, none⟩ = some (I c.flo) := kC.out.cell 6
  have rC7 : w2.cell? ⟨bC, 7, none⟩ = some (I c.fhi) := kC.out.cell 7
  have zC : bC < w2.heap.size := kC.out.lt
  have rS0 : w2.cell? ⟨bS, 0, none⟩ = some (I no) := kS.out.cell 0
  have rS1 : w2.cell? ⟨bS, 1, none⟩ = some (.slice Aw p.length nl) := kS.out.cell 1
  have zS : bS < w2.heap.size := kS.out.lt
  have rW0 : w2.cell? ⟨bW, 0, none⟩ = some (I a) := kW.out.cell 0
  have rW1 : w2.cell? ⟨bW, 1, none⟩ = some (I b) := kW.out.cell 1
  have zW : bW < w2.heap.size := kW.out.lt
  have rF0 : w2.cell? ⟨bF, 0, none⟩ = some (I f0) := kF.out.cell 0
  have rF1 : w2.cell? ⟨bF, 1, none⟩ = some (I f1) := kF.out.cell 1
  have zF : bF < w2.heap.size := kF.out.lt
  go_wp2_with fail
  go_ret
  exact ⟨rfl, B2⟩

set_option maxRecDepth 100000 in
set_option maxHeartbeats 8000000 in
theorem law_More_err (c : Climate) (no : Int) (vd : Value) (p : List Weather) (h a b f0 f1 d : Int) (w : World) (hp : Pow10 w) (hd : Sl w 3 Weather.cells vd p) (g1 : decide ((40 : Int) < p.length) = false) (g2 : decide (b < a) = false) (g3 : decide (f1 < f0) = false) (g4 : relE c ⟨no, p⟩ h a f0 d ≠ 0 ∨ relE c ⟨no, p⟩ h b f0 d ≠ 0 ∨ relE c ⟨no, p⟩ h a f1 d ≠ 0) :
    Calls Tryz.prog 11 #[c.v, .agg #[I no, vd], I h, .agg #[I a, I b], .agg #[I f0, I f1], I d] w fun e w' => e = .returned (.bool true) ∧ Below w.heap.size w w' := by
  obtain ⟨Aw, nl, rfl, _⟩ := hd.open_
  have H1 := hide (fun (W f : Int) w' (hb : Below w.heap.size w w') => spring_Release c no _ p h W f d w' (hd.mono hb))
  obtain ⟨e1, he1⟩ : ∃ e, relE c ⟨no, p⟩ h a f0 d = e := ⟨_, rfl⟩
  obtain ⟨e2, he2⟩ : ∃ e, relE c ⟨no, p⟩ h b f0 d = e := ⟨_, rfl⟩
  obtain ⟨e3, he3⟩ : ∃ e, relE c ⟨no, p⟩ h a f1 d = e := ⟨_, rfl⟩
  obtain ⟨r1, hr1⟩ : ∃ r, relV c ⟨no, p⟩ h a f0 d = r := ⟨_, rfl⟩
  obtain ⟨r2, hr2⟩ : ∃ r, relV c ⟨no, p⟩ h b f0 d = r := ⟨_, rfl⟩
  obtain ⟨r3, hr3⟩ : ∃ r, relV c ⟨no, p⟩ h a f1 d = r := ⟨_, rfl⟩
  have J1 := hide (H1.out a f0)
  have J2 := hide (H1.out b f0)
  have J3 := hide (H1.out a f1)
  rw [he1, hr1] at J1
  rw [he2, hr2] at J2
  rw [he3, hr3] at J3
  clear H1
  rw [he1, he2, he3] at g4
  have g5 : (e1 != 0) = true ∨ ((e1 != 0) = false ∧ (e2 != 0) = true) ∨ ((e1 != 0) = false ∧ (e2 != 0) = false ∧ (e3 != 0) = true) := by
    cases h1 : (e1 != 0) with
    | true => exact .inl rfl
    | false =>
      cases h2 : (e2 != 0) with
      | true => exact .inr (.inl ⟨rfl, rfl⟩)
      | false =>
        refine .inr (.inr ⟨rfl, rfl, ?_⟩)
        simp at h1 h2 ⊢
        omega
  clear g4 he1 he2 he3 hr1 hr2 hr3
  replace hp := hide hp
  replace hd := hide hd
  unfold Climate.v at *
  rcases g5 with g5 | ⟨g4, g5⟩ | ⟨g4, g7, g5⟩
  all_goals
    go_enter Tryz.func11, Tryz.ntmps11
    have B0 : Below w.heap.size w w := Below.refl _ _
    go_wp2_with fail
    obtain ⟨w1, hw1⟩ : ∃ w1, w1 = ((((w.alloc (.cells #[I c.base, I c.lapse, I c.swing, I c.wettest, I c.coldest, I c.warmest, I c.flo, I c.fhi] 25)).alloc (.cells #[I no, .slice Aw p.length nl] 28)).alloc (.cells #[I a, I b] 77)).alloc (.cells #[I f0, I f1] 77)) := ⟨_, rfl⟩
    have kC : Blk w1 (w.heap.size) 25 #[I c.base, I c.lapse, I c.swing, I c.wettest, I c.coldest, I c.warmest, I c.flo, I c.fhi] := by
      rw [hw1]
      refine Blk.alloc ?_ _
      refine Blk.alloc ?_ _
      refine Blk.alloc ?_ _
      have h := Blk.new w 25 #[I c.base, I c.lapse, I c.swing, I c.wettest, I c.coldest, I c.warmest, I c.flo, I c.fhi]
      first | exact h | simpa only [World.size_alloc] using h
    have kS : Blk w1 (w.heap.size + 1) 28 #[I no, .slice Aw p.length nl] := by
      rw [hw1]
      refine Blk.alloc ?_ _
      refine Blk.alloc ?_ _
      have h := Blk.new (w.alloc (.cells #[I c.base, I c.lapse, I c.swing, I c.wettest, I c.coldest, I c.warmest, I c.flo, I c.fhi] 25)) 28 #[I no, .slice Aw p.length nl]
      first | exact h | simpa only [World.size_alloc] using h
    have kW : Blk w1 (w.heap.size + 1 + 1) 77 #[I a, I b] := by
      rw [hw1]
      refine Blk.alloc ?_ _
      have h := Blk.new ((w.alloc (.cells #[I c.base, I c.lapse, I c.swing, I c.wettest, I c.coldest, I c.warmest, I c.flo, I c.fhi] 25)).alloc (.cells #[I no, .slice Aw p.length nl] 28)) 77 #[I a, I b]
      first | exact h | simpa only [World.size_alloc] using h
    have kF : Blk w1 (w.heap.size + 1 + 1 + 1) 77 #[I f0, I f1] := by
      rw [hw1]
      have h := Blk.new (((w.alloc (.cells #[I c.base, I c.lapse, I c.swing, I c.wettest, I c.coldest, I c.warmest, I c.flo, I c.fhi] 25)).alloc (.cells #[I no, .slice Aw p.length nl] 28)).alloc (.cells #[I a, I b] 77)) 77 #[I f0, I f1]
      first | exact h | simpa only [World.size_alloc] using h
    have B1 : Below w.heap.size w w1 := by rw [hw1]; exact bup B0 (below4 _ _ _ _ _)
    rw [← hw1]
    clear hw1 B0
    obtain ⟨bF, hbF⟩ : ∃ b, w.heap.size + 1 + 1 + 1 = b := ⟨_, rfl⟩
    rw [hbF] at kF ⊢
    obtain ⟨bW, hbW⟩ : ∃ b, w.heap.size + 1 + 1 = b := ⟨_, rfl⟩
    rw [hbW] at kW ⊢
    obtain ⟨bS, hbS⟩ : ∃ b, w.heap.size + 1 = b := ⟨_, rfl⟩
    rw [hbS] at kS ⊢
    obtain ⟨bC, hbC⟩ : ∃ b, w.heap.size = b := ⟨_, rfl⟩
    rw [hbC] at kC ⊢
    replace kC := hide kC
    replace kS := hide kS
    replace kW := hide kW
    replace kF := hide kF
    clear hbC
    clear hbS
    clear hbW
    clear hbF
    go_at_call 22
    refine (law_sane w1 (hp.out.mono B1)).mono ?_
    rintro e w2 ⟨rfl, hb⟩
    replace kC := hide (kC.out.grow hb)
    replace kS := hide (kS.out.grow hb)
    replace kW := hide (kW.out.grow hb)
    replace kF := hide (kF.out.grow hb)
    have B2 := bup B1 hb
    clear hb B1
    have rC0 : w2.cell? ⟨bC, 0, none⟩ = some (I c.base) := kC.out.cell 0
    have rC1 : w2.cell? ⟨bC, 1, none⟩ = some (I c.lapse) := kC.out.cell 1
    have rC2 : w2.cell? ⟨bC, 2, none⟩ = some (I c.swing) := kC.out.cell 2
    have rC3 : w2.cell? ⟨bC, 3, none⟩ = some (I c.wettest) := kC.out.cell 3
    have rC4 : w2.cell? ⟨bC, 4, none⟩ = some (I c.coldest) := kC.out.cell 4
    have rC5 : w2.cell? ⟨bC, 5, none⟩ = some (I c.warmest) := kC.out.cell 5
    have rC6 : w2.cell? ⟨bC, 6, none⟩ = some (I c.flo) := kC.out.cell 6
    have rC7 : w2.cell? ⟨bC, 7, none⟩ = some (I c.fhi) := kC.out.cell 7
    have zC : bC < w2.heap.size := kC.out.lt
    have rS0 : w2.cell? ⟨bS, 0, none⟩ = some (I no) := kS.out.cell 0
    have rS1 : w2.cell? ⟨bS, 1, none⟩ = some (.slice Aw p.length nl) := kS.out.cell 1
    have zS : bS < w2.heap.size := kS.out.lt
    have rW0 : w2.cell? ⟨bW, 0, none⟩ = some (I a) := kW.out.cell 0
    have rW1 : w2.cell? ⟨bW, 1, none⟩ = some (I b) := kW.out.cell 1
    have zW : bW < w2.heap.size := kW.out.lt
    have rF0 : w2.cell? ⟨bF, 0, none⟩ = some (I f0) := kF.out.cell 0
    have rF1 : w2.cell? ⟨bF, 1, none⟩ = some (I f1) := kF.out.cell 1
    have zF : bF < w2.heap.size := kF.out.lt
    go_wp2_with fail
    clear rC0 rC1 rC2 rC3 rC4 rC5 rC6 rC7 zC rS0 rS1 zS rW0 rW1 zW rF0 rF1 zF
    go_at_call 45
    refine (J1.out w2 B2).mono ?_
    rintro e w3 ⟨rfl, hb⟩
    replace kC := hide (kC.out.grow hb)
    replace kS := hide (kS.out.grow hb)
    replace kW := hide (kW.out.grow hb)
    replace kF := hide (kF.out.grow hb)
    have B3 := bup B2 hb
    clear hb B2
    have rC0 : w3.cell? ⟨bC, 0, none⟩ = some (I c.base) := kC.out.cell 0
    have rC1 : w3.cell? ⟨bC, 1, none⟩ = some (I c.lapse) := kC.out.cell 1
    have rC2 : w3.cell? ⟨bC, 2, none⟩ = some (I c.swing) := kC.out.cell 2
    have rC3 : w3.cell? ⟨bC, 3, none⟩ = some (I c.wettest) := kC.out.cell 3
    have rC4 : w3.cell? ⟨bC, 4, none⟩ = some (I c.coldest) := kC.out.cell 4
    have rC5 : w3.cell? ⟨bC, 5, none⟩ = some (I c.warmest) := kC.out.cell 5
    have rC6 : w3.cell? ⟨bC, 6, none⟩ = some (I c.flo) := kC.out.cell 6
    have rC7 : w3.cell? ⟨bC, 7, none⟩ = some (I c.fhi) := kC.out.cell 7
    have zC : bC < w3.heap.size := kC.out.lt
    have rS0 : w3.cell? ⟨bS, 0, none⟩ = some (I no) := kS.out.cell 0
    have rS1 : w3.cell? ⟨bS, 1, none⟩ = some (.slice Aw p.length nl) := kS.out.cell 1
    have zS : bS < w3.heap.size := kS.out.lt
    have rW0 : w3.cell? ⟨bW, 0, none⟩ = some (I a) := kW.out.cell 0
    have rW1 : w3.cell? ⟨bW, 1, none⟩ = some (I b) := kW.out.cell 1
    have zW : bW < w3.heap.size := kW.out.lt
    have rF0 : w3.cell? ⟨bF, 0, none⟩ = some (I f0) := kF.out.cell 0
    have rF1 : w3.cell? ⟨bF, 1, none⟩ = some (I f1) := kF.out.cell 1
    have zF : bF < w3.heap.size := kF.out.lt
    go_wp2_with fail
    clear rC0 rC1 rC2 rC3 rC4 rC5 rC6 rC7 zC rS0 rS1 zS rW0 rW1 zW rF0 rF1 zF
    go_at_call 45
    refine (J2.out w3 B3).mono ?_
    rintro e w4 ⟨rfl, hb⟩
    replace kC := hide (kC.out.grow hb)
    replace kS := hide (kS.out.grow hb)
    replace kW := hide (kW.out.grow hb)
    replace kF := hide (kF.out.grow hb)
    have B4 := bup B3 hb
    clear hb B3
    have rC0 : w4.cell? ⟨bC, 0, none⟩ = some (I c.base) := kC.out.cell 0
    have rC1 : w4.cell? ⟨bC, 1, none⟩ = some (I c.lapse) := kC.out.cell 1
    have rC2 : w4.cell? ⟨bC, 2, none⟩ = some (I c.swing) := kC.out.cell 2
    have rC3 : w4.cell? ⟨bC, 3, none⟩ = some (I c.wettest) := kC.out.cell 3
    have rC4 : w4.cell? ⟨bC, 4, none⟩ = some (I c.coldest) := kC.out.cell 4
    have rC5 : w4.cell? ⟨bC, 5, none⟩ = some (I c.warmest) := kC.out.cell 5
    have rC6 : w4.cell? ⟨bC, 6, none⟩ = some (I c.flo) := kC.out.cell 6
    have rC7 : w4.cell? ⟨bC, 7, none⟩ = some (I c.fhi) := kC.out.cell 7
    have zC : bC < w4.heap.size := kC.out.lt
    have rS0 : w4.cell? ⟨bS, 0, none⟩ = some (I no) := kS.out.cell 0
    have rS1 : w4.cell? ⟨bS, 1, none⟩ = some (.slice Aw p.length nl) := kS.out.cell 1
    have zS : bS < w4.heap.size := kS.out.lt
    have rW0 : w4.cell? ⟨bW, 0, none⟩ = some (I a) := kW.out.cell 0
    have rW1 : w4.cell? ⟨bW, 1, none⟩ = some (I b) := kW.out.cell 1
    have zW : bW < w4.heap.size := kW.out.lt
    have rF0 : w4.cell? ⟨bF, 0, none⟩ = some (I f0) := kF.out.cell 0
    have rF1 : w4.cell? ⟨bF, 1, none⟩ = some (I f1) := kF.out.cell 1
    have zF : bF < w4.heap.size := kF.out.lt
    go_wp2_with fail
    clear rC0 rC1 rC2 rC3 rC4 rC5 rC6 rC7 zC rS0 rS1 zS rW0 rW1 zW rF0 rF1 zF
    go_at_call 45
    refine (J3.out w4 B4).mono ?_
    rintro e w5 ⟨rfl, hb⟩
    replace kC := hide (kC.out.grow hb)
    replace kS := hide (kS.out.grow hb)
    replace kW := hide (kW.out.grow hb)
    replace kF := hide (kF.out.grow hb)
    have B5 := bup B4 hb
    clear hb B4
    have rC0 : w5.cell? ⟨bC, 0, none⟩ = some (I c.base) := kC.out.cell 0
    have rC1 : w5.cell? ⟨bC, 1, none⟩ = some (I c.lapse) := kC.out.cell 1
    have rC2 : w5.cell? ⟨bC, 2, none⟩ = some (I c.swing) := kC.out.cell 2
    have rC3 : w5.cell? ⟨bC, 3, none⟩ = some (I c.wettest) := kC.out.cell 3
    have rC4 : w5.cell? ⟨bC, 4, none⟩ = some (I c.coldest) := kC.out.cell 4
    have rC5 : w5.cell? ⟨bC, 5, none⟩ = some (I c.warmest) := kC.out.cell 5
    have rC6 : w5.cell? ⟨bC, 6, none⟩ = some (I c.flo) := kC.out.cell 6
    have rC7 : w5.cell? ⟨bC, 7, none⟩ = some (I c.fhi) := kC.out.cell 7
    have zC : bC < w5.heap.size := kC.out.lt
    have rS0 : w5.cell? ⟨bS, 0, none⟩ = some (I no) := kS.out.cell 0
    have rS1 : w5.cell? ⟨bS, 1, none⟩ = some (.slice Aw p.length nl) := kS.out.cell 1
    have zS : bS < w5.heap.size := kS.out.lt
    have rW0 : w5.cell? ⟨bW, 0, none⟩ = some (I a) := kW.out.cell 0
    have rW1 : w5.cell? ⟨bW, 1, none⟩ = some (I b) := kW.out.cell 1
    have zW : bW < w5.heap.size := kW.out.lt
    have rF0 : w5.cell? ⟨bF, 0, none⟩ = some (I f0) := kF.out.cell 0
    have rF1 : w5.cell? ⟨bF, 1, none⟩ = some (I f1) := kF.out.cell 1
    have zF : bF < w5.heap.size := kF.out.lt
    go_wp2_with fail
    go_ret
    exact ⟨rfl, B5⟩

set_option maxRecDepth 100000 in
set_option maxHeartbeats 8000000 in
theorem law_More_ok (c : Climate) (no : Int) (vd : Value) (p : List Weather) (h a b f0 f1 d : Int) (w : World) (hp : Pow10 w) (hd : Sl w 3 Weather.cells vd p) (g1 : decide ((40 : Int) < p.length) = false) (g2 : decide (b < a) = false) (g3 : decide (f1 < f0) = false) (g4 : relE c ⟨no, p⟩ h a f0 d = 0) (g5 : relE c ⟨no, p⟩ h b f0 d = 0) (g6 : relE c ⟨no, p⟩ h a f1 d = 0) :
    Calls Tryz.prog 11 #[c.v, .agg #[I no, vd], I h, .agg #[I a, I b], .agg #[I f0, I f1], I d] w fun e w' => e = .returned (.bool true) ∧ Below w.heap.size w w' := by
  obtain ⟨Aw, nl, rfl, _⟩ := hd.open_
  have H1 := hide (fun (W f : Int) w' (hb : Below w.heap.size w w') => spring_Release c no _ p h W f d w' (hd.mono hb))
  obtain ⟨e1, he1⟩ : ∃ e, relE c ⟨no, p⟩ h a f0 d = e := ⟨_, rfl⟩
  obtain ⟨e2, he2⟩ : ∃ e, relE c ⟨no, p⟩ h b f0 d = e := ⟨_, rfl⟩
  obtain ⟨e3, he3⟩ : ∃ e, relE c ⟨no, p⟩ h a f1 d = e := ⟨_, rfl⟩
  obtain ⟨r1, hr1⟩ : ∃ r, relV c ⟨no, p⟩ h a f0 d = r := ⟨_, rfl⟩
  obtain ⟨r2, hr2⟩ : ∃ r, relV c ⟨no, p⟩ h b f0 d = r := ⟨_, rfl⟩
  obtain ⟨r3, hr3⟩ : ∃ r, relV c ⟨no, p⟩ h a f1 d = r := ⟨_, rfl⟩
  have J1 := hide (H1.out a f0)
  have J2 := hide (H1.out b f0)
  have J3 := hide (H1.out a f1)
  rw [he1, hr1] at J1
  rw [he2, hr2] at J2
  rw [he3, hr3] at J3
  clear H1
  have q1 := relE_zero g4
  have q2 := relE_zero g5
  have g2' : a ≤ b := by simpa using g2
  have g3' : f0 ≤ f1 := by simpa using g3
  have v1 : r1 = relF c h f0 d p (0, a) := by rw [← hr1]; simp [relV, g4]
  have v2 : r2 = relF c h f0 d p (0, b) := by rw [← hr2]; simp [relV, g5]
  have v3 : r3 = relF c h f1 d p (0, a) := by rw [← hr3]; simp [relV, g6]
  have m1 := rel_water (c := c) (h := h) (f := f0) (e := d) (D := b - a) p 0 a 0 b g2' (by omega) (by omega)
  have m2 := rel_factor (c := c) (h := h) (e := d) g3' p 0 a 0 a (by omega) (by omega)
  have n1 := relF_bd (e := d) q1.1.clim q1.2.1 q1.2.2.2.1 p 0 a q1.1.mem q1.2.2.1.1
  have n2 := relF_bd (e := d) q2.1.clim q2.2.1 q2.2.2.2.1 p 0 b q2.1.mem q2.2.2.1.1
  have l1 := rel_left (e := d) q1.1.clim q1.2.1 q1.2.2.2.1 p 0 a q1.1.mem q1.2.2.1.1
  have l2 := rel_left (e := d) q2.1.clim q2.2.1 q2.2.2.2.1 p 0 b q2.1.mem q2.2.2.1.1
  rw [← v1] at l1
  rw [← v2] at l2
  have hpn := q1.1.n2
  rw [← v1, ← v2] at m1
  rw [← v1, ← v3] at m2
  rw [← v1] at n1
  rw [← v2] at n2
  have hs1 := rel_water (c := c) (h := h) (f := f0) (e := d) (D := 0) p 0 a 0 a (by omega) (by omega) (by omega)
  have hpn' : p.length ≤ 512 := hpn
  have q1w := q1.2.2.1
  have q2w := q2.2.2.1
  rw [g4] at he1
  rw [g5] at he2
  rw [g6] at he3
  subst he1 he2 he3
  clear v1 v2 v3 hr1 hr2 hr3 g4 g5 g6 q1 q2 hs1 hpn
  obtain ⟨x1, y1⟩ := r1
  obtain ⟨x2, y2⟩ := r2
  obtain ⟨x3, y3⟩ := r3
  simp only at m1 m2 n1 n2 l1 l2 J1 J2 J3
  have hy1 : 0 ≤ y1 ∧ y1 ≤ 1000000 := by omega
  have hy2 : 0 ≤ y2 ∧ y2 ≤ 1000000 := by omega
  have k1 : IntKind.i64.wrap (y2 - y1) = y2 - y1 := IntWalk.i64_in _ (by omega)
  have k2 : IntKind.i64.wrap (b - a) = b - a := IntWalk.i64_in _ (by omega)
  have d1 : decide (x1 ≤ x2) = true := by simp; omega
  have d2 : decide (y1 ≤ y2) = true := by simp; omega
  have d3 : decide (y2 - y1 ≤ b - a) = true := by simp; omega
  have d4 : decide (x1 ≤ x3) = true := by simp; omega
  have d5 : decide (y3 ≤ y1) = true := by simp; omega
  clear m1 m2 n1 n2 l1 l2 hy1 hy2 q1w q2w
  replace hp := hide hp
  replace hd := hide hd
  unfold Climate.v at *
  go_enter Tryz.func11, Tryz.ntmps11
  have B0 : Below w.heap.size w w := Below.refl _ _
  go_wp2_with fail
  obtain ⟨w1, hw1⟩ : ∃ w1, w1 = ((((w.alloc (.cells #[I c.base, I c.lapse, I c.swing, I c.wettest, I c.coldest, I c.warmest, I c.flo, I c.fhi] 25)).alloc (.cells #[I no, .slice Aw p.length nl] 28)).alloc (.cells #[I a, I b] 77)).alloc (.cells #[I f0, I f1] 77)) := ⟨_, rfl⟩
  have kC : Blk w1 (w.heap.size) 25 #[I c.base, I c.lapse, I c.swing, I c.wettest, I c.coldest, I c.warmest, I c.flo, I c.fhi] := by
    rw [hw1]
    refine Blk.alloc ?_ _
    refine Blk.alloc ?_ _
    refine Blk.alloc ?_ _
    have h := Blk.new w 25 #[I c.base, I c.lapse, I c.swing, I c.wettest, I c.coldest, I c.warmest, I c.flo, I c.fhi]
    first | exact h | simpa only [World.size_alloc] using h
  have kS : Blk w1 (w.heap.size + 1) 28 #[I no, .slice Aw p.length nl] := by
    rw [hw1]
    refine Blk.alloc ?_ _
    refine Blk.alloc ?_ _
    have h := Blk.new (w.alloc (.cells #[I c.base, I c.lapse, I c.swing, I c.wettest, I c.coldest, I c.warmest, I c.flo, I c.fhi] 25)) 28 #[I no, .slice Aw p.length nl]
    first | exact h | simpa only [World.size_alloc] using h
  have kW : Blk w1 (w.heap.size + 1 + 1) 77 #[I a, I b] := by
    rw [hw1]
    refine Blk.alloc ?_ _
    have h := Blk.new ((w.alloc (.cells #[I c.base, I c.lapse, I c.swing, I c.wettest, I c.coldest, I c.warmest, I c.flo, I c.fhi] 25)).alloc (.cells #[I no, .slice Aw p.length nl] 28)) 77 #[I a, I b]
    first | exact h | simpa only [World.size_alloc] using h
  have kF : Blk w1 (w.heap.size + 1 + 1 + 1) 77 #[I f0, I f1] := by
    rw [hw1]
    have h := Blk.new (((w.alloc (.cells #[I c.base, I c.lapse, I c.swing, I c.wettest, I c.coldest, I c.warmest, I c.flo, I c.fhi] 25)).alloc (.cells #[I no, .slice Aw p.length nl] 28)).alloc (.cells #[I a, I b] 77)) 77 #[I f0, I f1]
    first | exact h | simpa only [World.size_alloc] using h
  have B1 : Below w.heap.size w w1 := by rw [hw1]; exact bup B0 (below4 _ _ _ _ _)
  rw [← hw1]
  clear hw1 B0
  obtain ⟨bF, hbF⟩ : ∃ b, w.heap.size + 1 + 1 + 1 = b := ⟨_, rfl⟩
  rw [hbF] at kF ⊢
  obtain ⟨bW, hbW⟩ : ∃ b, w.heap.size + 1 + 1 = b := ⟨_, rfl⟩
  rw [hbW] at kW ⊢
  obtain ⟨bS, hbS⟩ : ∃ b, w.heap.size + 1 = b := ⟨_, rfl⟩
  rw [hbS] at kS ⊢
  obtain ⟨bC, hbC⟩ : ∃ b, w.heap.size = b := ⟨_, rfl⟩
  rw [hbC] at kC ⊢
  replace kC := hide kC
  replace kS := hide kS
  replace kW := hide kW
  replace kF := hide kF
  clear hbC
  clear hbS
  clear hbW
  clear hbF
  go_at_call 22
  refine (law_sane w1 (hp.out.mono B1)).mono ?_
  rintro e w2 ⟨rfl, hb⟩
  replace kC := hide (kC.out.grow hb)
  replace kS := hide (kS.out.grow hb)
  replace kW := hide (kW.out.grow hb)
  replace kF := hide (kF.out.grow hb)
  have B2 := bup B1 hb
  clear hb B1
  have rC0 : w2.cell? ⟨bC, 0, none⟩ = some (I c.base) := kC.out.cell 0
  have rC1 : w2.cell? ⟨bC, 1, none⟩ = some (I c.lapse) := kC.out.cell 1
  have rC2 : w2.cell? ⟨bC, 2, none⟩ = some (I c.swing) := kC.out.cell 2
  have rC3 : w2.cell? ⟨bC, 3, none⟩ = some (I c.wettest) := kC.out.cell 3
  have rC4 : w2.cell? ⟨bC, 4, none⟩ = some (I c.coldest) := kC.out.cell 4
  have rC5 : w2.cell? ⟨bC, 5, none⟩ = some (I c.warmest) := kC.out.cell 5
  have rC6 : w2.cell? ⟨bC, 6, none⟩ = some (I c.flo) := kC.out.cell 6
  have rC7 : w2.cell? ⟨bC, 7, none⟩ = some (I c.fhi) := kC.out.cell 7
  have zC : bC < w2.heap.size := kC.out.lt
  have rS0 : w2.cell? ⟨bS, 0, none⟩ = some (I no) := kS.out.cell 0
  have rS1 : w2.cell? ⟨bS, 1, none⟩ = some (.slice Aw p.length nl) := kS.out.cell 1
  have zS : bS < w2.heap.size := kS.out.lt
  have rW0 : w2.cell? ⟨bW, 0, none⟩ = some (I a) := kW.out.cell 0
  have rW1 : w2.cell? ⟨bW, 1, none⟩ = some (I b) := kW.out.cell 1
  have zW : bW < w2.heap.size := kW.out.lt
  have rF0 : w2.cell? ⟨bF, 0, none⟩ = some (I f0) := kF.out.cell 0
  have rF1 : w2.cell? ⟨bF, 1, none⟩ = some (I f1) := kF.out.cell 1
  have zF : bF < w2.heap.size := kF.out.lt
  go_wp2_with fail
  clear rC0 rC1 rC2 rC3 rC4 rC5 rC6 rC7 zC rS0 rS1 zS rW0 rW1 zW rF0 rF1 zF
  go_at_call 45
  refine (J1.out w2 B2).mono ?_
  rintro e w3 ⟨rfl, hb⟩
  replace kC := hide (kC.out.grow hb)
  replace kS := hide (kS.out.grow hb)
  replace kW := hide (kW.out.grow hb)
  replace kF := hide (kF.out.grow hb)
  have B3 := bup B2 hb
  clear hb B2
  have rC0 : w3.cell? ⟨bC, 0, none⟩ = some (I c.base) := kC.out.cell 0
  have rC1 : w3.cell? ⟨bC, 1, none⟩ = some (I c.lapse) := kC.out.cell 1
  have rC2 : w3.cell? ⟨bC, 2, none⟩ = some (I c.swing) := kC.out.cell 2
  have rC3 : w3.cell? ⟨bC, 3, none⟩ = some (I c.wettest) := kC.out.cell 3
  have rC4 : w3.cell? ⟨bC, 4, none⟩ = some (I c.coldest) := kC.out.cell 4
  have rC5 : w3.cell? ⟨bC, 5, none⟩ = some (I c.warmest) := kC.out.cell 5
  have rC6 : w3.cell? ⟨bC, 6, none⟩ = some (I c.flo) := kC.out.cell 6
  have rC7 : w3.cell? ⟨bC, 7, none⟩ = some (I c.fhi) := kC.out.cell 7
  have zC : bC < w3.heap.size := kC.out.lt
  have rS0 : w3.cell? ⟨bS, 0, none⟩ = some (I no) := kS.out.cell 0
  have rS1 : w3.cell? ⟨bS, 1, none⟩ = some (.slice Aw p.length nl) := kS.out.cell 1
  have zS : bS < w3.heap.size := kS.out.lt
  have rW0 : w3.cell? ⟨bW, 0, none⟩ = some (I a) := kW.out.cell 0
  have rW1 : w3.cell? ⟨bW, 1, none⟩ = some (I b) := kW.out.cell 1
  have zW : bW < w3.heap.size := kW.out.lt
  have rF0 : w3.cell? ⟨bF, 0, none⟩ = some (I f0) := kF.out.cell 0
  have rF1 : w3.cell? ⟨bF, 1, none⟩ = some (I f1) := kF.out.cell 1
  have zF : bF < w3.heap.size := kF.out.lt
  go_wp2_with fail
  clear rC0 rC1 rC2 rC3 rC4 rC5 rC6 rC7 zC rS0 rS1 zS rW0 rW1 zW rF0 rF1 zF
  go_at_call 45
  refine (J2.out w3 B3).mono ?_
  rintro e w4 ⟨rfl, hb⟩
  replace kC := hide (kC.out.grow hb)
  replace kS := hide (kS.out.grow hb)
  replace kW := hide (kW.out.grow hb)
  replace kF := hide (kF.out.grow hb)
  have B4 := bup B3 hb
  clear hb B3
  have rC0 : w4.cell? ⟨bC, 0, none⟩ = some (I c.base) := kC.out.cell 0
  have rC1 : w4.cell? ⟨bC, 1, none⟩ = some (I c.lapse) := kC.out.cell 1
  have rC2 : w4.cell? ⟨bC, 2, none⟩ = some (I c.swing) := kC.out.cell 2
  have rC3 : w4.cell? ⟨bC, 3, none⟩ = some (I c.wettest) := kC.out.cell 3
  have rC4 : w4.cell? ⟨bC, 4, none⟩ = some (I c.coldest) := kC.out.cell 4
  have rC5 : w4.cell? ⟨bC, 5, none⟩ = some (I c.warmest) := kC.out.cell 5
  have rC6 : w4.cell? ⟨bC, 6, none⟩ = some (I c.flo) := kC.out.cell 6
  have rC7 : w4.cell? ⟨bC, 7, none⟩ = some (I c.fhi) := kC.out.cell 7
  have zC : bC < w4.heap.size := kC.out.lt
  have rS0 : w4.cell? ⟨bS, 0, none⟩ = some (I no) := kS.out.cell 0
  have rS1 : w4.cell? ⟨bS, 1, none⟩ = some (.slice Aw p.length nl) := kS.out.cell 1
  have zS : bS < w4.heap.size := kS.out.lt
  have rW0 : w4.cell? ⟨bW, 0, none⟩ = some (I a) := kW.out.cell 0
  have rW1 : w4.cell? ⟨bW, 1, none⟩ = some (I b) := kW.out.cell 1
  have zW : bW < w4.heap.size := kW.out.lt
  have rF0 : w4.cell? ⟨bF, 0, none⟩ = some (I f0) := kF.out.cell 0
  have rF1 : w4.cell? ⟨bF, 1, none⟩ = some (I f1) := kF.out.cell 1
  have zF : bF < w4.heap.size := kF.out.lt
  go_wp2_with fail
  clear rC0 rC1 rC2 rC3 rC4 rC5 rC6 rC7 zC rS0 rS1 zS rW0 rW1 zW rF0 rF1 zF
  go_at_call 45
  refine (J3.out w4 B4).mono ?_
  rintro e w5 ⟨rfl, hb⟩
  replace kC := hide (kC.out.grow hb)
  replace kS := hide (kS.out.grow hb)
  replace kW := hide (kW.out.grow hb)
  replace kF := hide (kF.out.grow hb)
  have B5 := bup B4 hb
  clear hb B4
  have rC0 : w5.cell? ⟨bC, 0, none⟩ = some (I c.base) := kC.out.cell 0
  have rC1 : w5.cell? ⟨bC, 1, none⟩ = some (I c.lapse) := kC.out.cell 1
  have rC2 : w5.cell? ⟨bC, 2, none⟩ = some (I c.swing) := kC.out.cell 2
  have rC3 : w5.cell? ⟨bC, 3, none⟩ = some (I c.wettest) := kC.out.cell 3
  have rC4 : w5.cell? ⟨bC, 4, none⟩ = some (I c.coldest) := kC.out.cell 4
  have rC5 : w5.cell? ⟨bC, 5, none⟩ = some (I c.warmest) := kC.out.cell 5
  have rC6 : w5.cell? ⟨bC, 6, none⟩ = some (I c.flo) := kC.out.cell 6
  have rC7 : w5.cell? ⟨bC, 7, none⟩ = some (I c.fhi) := kC.out.cell 7
  have zC : bC < w5.heap.size := kC.out.lt
  have rS0 : w5.cell? ⟨bS, 0, none⟩ = some (I no) := kS.out.cell 0
  have rS1 : w5.cell? ⟨bS, 1, none⟩ = some (.slice Aw p.length nl) := kS.out.cell 1
  have zS : bS < w5.heap.size := kS.out.lt
  have rW0 : w5.cell? ⟨bW, 0, none⟩ = some (I a) := kW.out.cell 0
  have rW1 : w5.cell? ⟨bW, 1, none⟩ = some (I b) := kW.out.cell 1
  have zW : bW < w5.heap.size := kW.out.lt
  have rF0 : w5.cell? ⟨bF, 0, none⟩ = some (I f0) := kF.out.cell 0
  have rF1 : w5.cell? ⟨bF, 1, none⟩ = some (I f1) := kF.out.cell 1
  have zF : bF < w5.heap.size := kF.out.lt
  go_wp2_with fail
  go_ret
  exact ⟨rfl, B5⟩

theorem law_More (c : Climate) (no : Int) (vd : Value) (p : List Weather) (h a b f0 f1 d : Int) (w : World) (hp : Pow10 w) (hd : Sl w 3 Weather.cells vd p) :
    Calls Tryz.prog 11 #[c.v, .agg #[I no, vd], I h, .agg #[I a, I b], .agg #[I f0, I f1], I d] w fun e w' => e = .returned (.bool true) ∧ Below w.heap.size w w' := by
  cases g1 : decide ((40 : Int) < p.length) with
  | true => exact law_More_long c no vd p h a b f0 f1 d w hp hd g1
  | false =>
    cases g2 : decide (b < a) with
    | true => exact law_More_water c no vd p h a b f0 f1 d w hp hd g1 g2
    | false =>
      cases g3 : decide (f1 < f0) with
      | true => exact law_More_factor c no vd p h a b f0 f1 d w hp hd g1 g2 g3
      | false =>
        by_cases g4 : relE c ⟨no, p⟩ h a f0 d = 0
        · by_cases g5 : relE c ⟨no, p⟩ h b f0 d = 0
          · by_cases g6 : relE c ⟨no, p⟩ h a f1 d = 0
            · exact law_More_ok c no vd p h a b f0 f1 d w hp hd g1 g2 g3 g4 g5 g6
            · exact law_More_err c no vd p h a b f0 f1 d w hp hd g1 g2 g3 (.inr (.inr g6))
          · exact law_More_err c no vd p h a b f0 f1 d w hp hd g1 g2 g3 (.inr (.inl g5))
        · exact law_More_err c no vd p h a b f0 f1 d w hp hd g1 g2 g3 (.inl g4)
end Go.Proofs.YtmjfdobjnnfafaaGreatDoor
