/- The law SpringChangeSpec: Change and Changes are as the reference has them. Conditions stand in the theorems. -/
import Derived.Test.YtmjfdobjnnfafaaGreatDoorSpring28
import Derived.Test.YtmjfdobjnnfafaaGreatDoorRefChg
import Derived.Test.YtmjfdobjnnfafaaGreatDoorRefS
import Derived.Test.YtmjfdobjnnfafaaGreatDoorLight
set_option linter.all false
set_option maxRecDepth 100000
set_option maxHeartbeats 8000000
namespace Go.Proofs.YtmjfdobjnnfafaaGreatDoor
open Go.RowKit

def lightB (n : Nat) (a b : Int) : Bool := (decide (n ≤ 60) || decide (512 < n)) && (decide (b < a) || decide (a < 0) || decide (1048576 < b) || decide (b - a ≤ 120) || decide (512 < b - a))
theorem law_lightB (v : Value) (l : List Weather) (a b : Int) (w : World) (hv : Sl w 3 Weather.cells v l) : Calls Tryz.prog 37 #[v, I a, I b] w fun e w' => e = .returned (.bool (lightB l.length a b)) ∧ w = w' := by
 obtain ⟨A, n, rfl, _, _, hlen, hA⟩ := hv.open_
 clear hA hv
 obtain ⟨q, hq⟩ : ∃ q, lightB l.length a b = q := ⟨_, rfl⟩
 rw [hq]
 simp only [lightB] at hq
 have hw : 0 ≤ a → a ≤ b → b ≤ 1048576 → IntKind.i64.wrap (b - a) = b - a := fun h1 h2 h3 => IntWalk.i64_in _ (by omega)
 rcases Nat.lt_or_ge 60 l.length with h1 | h1 <;> rcases Nat.lt_or_ge 512 l.length with h2 | h2 <;> rcases ilt b a with h3 | h3 <;> rcases ilt a 0 with h4 | h4 <;> rcases ilt 1048576 b with h5 | h5 <;> rcases ilt 120 (b - a) with h6 | h6 <;> rcases ilt 512 (b - a) with h7 | h7
 all_goals first | (exfalso; omega) | skip
 all_goals first | have hw' := hw h4 h3 h5 | skip
 all_goals first
  | (have hqt : q = true := by (rw [← hq]; simp; omega)
     subst hqt
     clear hq hw)
  | (have hqf : q = false := by (rw [← hq]; simp; omega)
     subst hqf
     clear hq hw)
 all_goals
  go_enter Tryz.func37, Tryz.ntmps37
  go_wp2_with fail
  go_ret
  exact ⟨by first | rfl | (simp; omega), rfl⟩

theorem chgsV_len (c : Climate) (l : List Weather) (b : Basin) (ds : List Int) : (chgsV c l b ds).length ≤ 140737488355328 := by
 unfold chgsV
 split
 ·rename_i h
  have hb : basinE b = 0 ∧ inB ds.length 1 16 = true := by
   unfold chgsE at h
   split at h
   ·contradiction
   split at h
   ·cases h
   split at h
   ·rename_i h2 h3
    exact ⟨by simpa using h2, by simp at h3; exact h3.2⟩
   ·cases h
  have h1 := (basin_cells hb.1).1.2
  have h2 := (inB_true.1 hb.2).2
  rw [chgsTo_len]
  have := Nat.mul_le_mul (show ds.length - 1 ≤ 16 by omega) h1
  omega
 ·simp

theorem law_ChangeSpec (c : Climate) (va : Value) (l : List Weather) (b : Basin) (vc vp : Value) (h f t : Int) (vd : Value) (ds : List Int) (w : World) (hp : Pow10 w) (ha : Sl w 3 Weather.cells va l) (hc : Sl w 4 Cell.cells vc b.cells) (hpp : Sl w 2 pairC vp b.pairs) (hd : Sl w 1 intC vd ds) :
  Calls Tryz.prog 15 #[c.v, va, b.v vc vp, I h, I f, I t, vd] w fun e w' => e = .returned (.bool true) ∧ Below w.heap.size w w' := by
 obtain ⟨A, nA, rfl, _⟩ := hc.open_
 obtain ⟨P0, nP, rfl, _⟩ := hpp.open_
 obtain ⟨D, nD, rfl, _, _, hlenD, hD⟩ := hd.open_
 have J1 := fun w' (hb : Below w.heap.size w w') => spring_Change c va l h f t w' (ha.mono hb)
 have K1 := fun w' (hb : Below w.heap.size w w') => ref_Change c va l h f t w' (ha.mono hb)
 have J2 := fun w' (hb : Below w.heap.size w w') => spring_Changes c va _ _ _ l b ds w' (ha.mono hb) (hc.mono hb) (hpp.mono hb) (hd.mono hb)
 have K2 := fun w' (hb : Below w.heap.size w w') => ref_Changes c va _ _ _ l b ds w' (ha.mono hb) (hc.mono hb) (hpp.mono hb) (hd.mono hb)
 have JL := fun (x y : Int) w' (hb : Below w.heap.size w w') => law_lightB va l x y w' (ha.mono hb)
 have hFl := chgsV_len c l b ds
 obtain ⟨P, hP⟩ : ∃ z, changeV c l h f t = z := ⟨_, rfl⟩
 obtain ⟨e1, he1⟩ : ∃ z, changeE c l h f t = z := ⟨_, rfl⟩
 obtain ⟨F, hF⟩ : ∃ z, chgsV c l b ds = z := ⟨_, rfl⟩
 obtain ⟨e2, he2⟩ : ∃ z, chgsE c l b ds = z := ⟨_, rfl⟩
 obtain ⟨lb, hlb⟩ : ∃ z, lightB l.length = z := ⟨_, rfl⟩
 simp only [hP, he1, hF, he2, hlb] at J1 K1 J2 K2 JL hFl
 clear hP he1 hF he2 hlb
 obtain ⟨p1, p2⟩ := P
 simp only at J1 K1
 unfold Basin.v at *
 (try unfold Climate.v at *)
 replace J1 := hide J1
 replace K1 := hide K1
 replace J2 := hide J2
 replace K2 := hide K2
 replace JL := hide JL
 replace hFl := hide hFl
 replace ha := hide ha
 replace hc := hide hc
 replace hpp := hide hpp
 replace hd := hide hd
 replace hD := hide hD
 replace hp := hide hp
 (try unfold Climate.v at *)
 (try unfold Weather.v at *)
 go_enter Tryz.func15, Tryz.ntmps15
 have B0 : Below w.heap.size w w := Below.refl _ _
 go_wp2_with fail
 obtain ⟨w1, hw1⟩ : ∃ w1, w1 = ((w.alloc (.cells (c8 c) 25)).alloc (.cells #[.slice A b.cells.length nA, .slice P0 b.pairs.length nP, I b.gain, I b.slack, I b.deep] 58)) := ⟨_, rfl⟩
 have kC : Blk w1 (w.heap.size) 25 (c8 c) := by
  rw [hw1]
  refine Blk.alloc ?_ _
  have h := Blk.new w 25 (c8 c)
  first | exact h | simpa only [World.size_alloc] using h
 have kS : Blk w1 (w.heap.size + 1) 58 #[.slice A b.cells.length nA, .slice P0 b.pairs.length nP, I b.gain, I b.slack, I b.deep] := by
  rw [hw1]
  have h := Blk.new (w.alloc (.cells (c8 c) 25)) 58 #[.slice A b.cells.length nA, .slice P0 b.pairs.length nP, I b.gain, I b.slack, I b.deep]
  first | exact h | simpa only [World.size_alloc] using h
 have B1 : Below w.heap.size w w1 := by rw [hw1]; exact bup B0 (below2 _ _ _)
 rw [← hw1]
 clear hw1 B0
 obtain ⟨bS, hbS⟩ : ∃ b, w.heap.size + 1 = b := ⟨_, rfl⟩
 rw [hbS] at kS ⊢
 obtain ⟨bC, hbC⟩ : ∃ b, w.heap.size = b := ⟨_, rfl⟩
 rw [hbC] at kC ⊢
 replace kC := hide kC
 replace kS := hide kS
 clear hbC
 clear hbS
 go_at_call 22
 refine (law_sane w1 (hp.out.mono B1)).mono ?_
 rintro e w2 ⟨rfl, hb⟩
 replace kC := hide (kC.out.grow hb)
 replace kS := hide (kS.out.grow hb)
 have B2 := bup B1 hb
 clear hb B1
 go_wp2_with fail
 go_at_call 37
 refine (JL.out f t w2 B2).mono ?_
 obtain ⟨q, hq⟩ : ∃ q, lb f t = q := ⟨_, rfl⟩
 rw [hq]
 clear hq
 rintro e w_ ⟨rfl, rfl⟩
 cases q
 case false => (go_wp2_with fail; go_ret; exact ⟨rfl, B2⟩)
 go_wp2_with fail
 have Bh := hide B2
 clear B2
 go_loopw [15] (fun i wr => ∃ m : Nat, 1 ≤ m ∧ (m ≤ ds.length ∨ m = 1) ∧ i = I m ∧ Hid (Below w2.heap.size w2 wr)) (fun i _ => ds.length - (intOf i).toNat)
 case atStart => exact ⟨1, Nat.le_refl _, .inr rfl, rfl, hide (Below.refl _ _)⟩
 case round =>
  obtain ⟨m, hm1, hm2, rfl, hbw⟩ := hrel
  by_cases hlt : m < ds.length
  ·obtain ⟨k, hm⟩ : ∃ k, m = k + 1 := ⟨m - 1, by omega⟩
   obtain ⟨gd, od, rfl, hgd⟩ := hD.out m hlt
   obtain ⟨d0, hd0⟩ := getElem?_of_lt (xs := ds) (k := k) (by omega)
   obtain ⟨d1, hd1⟩ := getElem?_of_lt hlt
   have kk := bup Bh.out hbw.out
   obtain ⟨hz0, c0⟩ := (hd.out.mono kk).int_at hd0
   obtain ⟨_, c1⟩ := (hd.out.mono kk).int_at hd1
   have k1 : IntKind.i64.wrap ((m : Int) - 1) = (k : Int) := by rw [IntWalk.i64_in _ (by have := hlenD; omega)]; omega
   have k2 : (0 : Int) ≤ (k : Int) := by omega
   have k3 : (k : Int) < (ds.length : Int) := by omega
   have k4 : (m : Int) < (ds.length : Int) := by omega
   have k5 : (0 : Int) ≤ (m : Int) := by omega
   replace hm := hide hm
   replace hd0 := hide hd0
   replace hd1 := hide hd1
   obtain ⟨q, hq⟩ : ∃ q, lb d0 d1 = q := ⟨_, rfl⟩
   have JQ := JL.out d0 d1
   rw [hq] at JQ
   replace JQ := hide JQ
   replace hq := hide hq
   cases q with
   | false =>
    go_wp2_with fail
    (refine wp_region_grow (by kernel_rfl) (by kernel_rfl) ?_; (repeat (first | go_big_quiet_skip | (go_big_quiet_want; go_big_quiet_op; first | go_big_quiet_on | (apply Exists.intro; refine ⟨fun _ => ?_, ?_⟩; (focus ((go_at_call 37; exact calls_grew_same (JQ.out _ (bup kk (Grew.below _)))))); go_big_quiet_on)))); refine wpQuiet_nil ?_; rintro W1 ⟨⟨_, hW1⟩, rfl⟩)
    go_wp2_with fail
    go_ret
    exact ⟨rfl, bup kk hW1⟩
   | true =>
    go_wp2_with fail
    (refine wp_region_grow (by kernel_rfl) (by kernel_rfl) ?_; (repeat (first | go_big_quiet_skip | (go_big_quiet_want; go_big_quiet_op; first | go_big_quiet_on | (apply Exists.intro; refine ⟨fun _ => ?_, ?_⟩; (focus ((go_at_call 37; exact calls_grew_same (JQ.out _ (bup kk (Grew.below _)))))); go_big_quiet_on)))); refine wpQuiet_nil ?_; rintro W1 ⟨⟨_, hW1⟩, rfl⟩)
    go_wp2_with fail
    go_roundw
    case rel => exact ⟨m + 1, by omega, .inl (by omega), by go_num, hide (bup hbw.out hW1)⟩
    case measure => simp [intOf]; omega
  ·clear hm2 hD
   skip
   replace kC := hide (show Blk wr bC 25 (c8 c) from (kC.out).grow hbw.out)
   replace kS := hide (show Blk wr bS 58 #[.slice A b.cells.length nA, .slice P0 b.pairs.length nP, I b.gain, I b.slack, I b.deep] from (kS.out).grow hbw.out)
   have BW := bup Bh.out hbw.out
   clear Bh
   replace hbw := hide hbw
   obtain ⟨rC0, rC1, rC2, rC3, rC4, rC5, rC6, rC7⟩ := kC.out.cells8
   have zC : bC < wr.heap.size := kC.out.lt
   have rS0 : wr.cell? ⟨bS, 0, none⟩ = some (.slice A b.cells.length nA) := kS.out.cell 0
   have rS1 : wr.cell? ⟨bS, 1, none⟩ = some (.slice P0 b.pairs.length nP) := kS.out.cell 1
   have rS2 : wr.cell? ⟨bS, 2, none⟩ = some (I b.gain) := kS.out.cell 2
   have rS3 : wr.cell? ⟨bS, 3, none⟩ = some (I b.slack) := kS.out.cell 3
   have rS4 : wr.cell? ⟨bS, 4, none⟩ = some (I b.deep) := kS.out.cell 4
   have zS : bS < wr.heap.size := kS.out.lt
   go_wp2_with fail
   clear rC0 rC1 rC2 rC3 rC4 rC5 rC6 rC7 zC rS0 rS1 rS2 rS3 rS4 zS
   go_at_call 52
   refine (J1.out wr BW).mono ?_
   rintro e w3 ⟨rfl, hb⟩
   replace kC := hide (kC.out.grow hb)
   replace kS := hide (kS.out.grow hb)
   have B4 := bup BW hb
   clear hb BW
   obtain ⟨rC0, rC1, rC2, rC3, rC4, rC5, rC6, rC7⟩ := kC.out.cells8
   have zC : bC < w3.heap.size := kC.out.lt
   have zC_1 : bC < w3.heap.size + 1 := by omega
   have rS0 : w3.cell? ⟨bS, 0, none⟩ = some (.slice A b.cells.length nA) := kS.out.cell 0
   have rS1 : w3.cell? ⟨bS, 1, none⟩ = some (.slice P0 b.pairs.length nP) := kS.out.cell 1
   have rS2 : w3.cell? ⟨bS, 2, none⟩ = some (I b.gain) := kS.out.cell 2
   have rS3 : w3.cell? ⟨bS, 3, none⟩ = some (I b.slack) := kS.out.cell 3
   have rS4 : w3.cell? ⟨bS, 4, none⟩ = some (I b.deep) := kS.out.cell 4
   have zS : bS < w3.heap.size := kS.out.lt
   have zS_1 : bS < w3.heap.size + 1 := by omega
   go_wp2_with fail
   clear rC0 rC1 rC2 rC3 rC4 rC5 rC6 rC7 zC zC_1 rS0 rS1 rS2 rS3 rS4 zS zS_1
   obtain ⟨w4, hw4⟩ : ∃ w4, w4 = (w3.alloc (.cells #[I p1, I p2] 23)) := ⟨_, rfl⟩
   have kX : Blk w4 (w3.heap.size) 23 #[I p1, I p2] := by
    rw [hw4]
    have h := Blk.new w3 23 #[I p1, I p2]
    first | exact h | simpa only [World.size_alloc] using h
   replace kC : Hid (Blk w4 bC 25 (c8 c)) := hide (by rw [hw4]; exact (kC.out).alloc _)
   replace kS : Hid (Blk w4 bS 58 #[.slice A b.cells.length nA, .slice P0 b.pairs.length nP, I b.gain, I b.slack, I b.deep]) := hide (by rw [hw4]; exact (kS.out).alloc _)
   have B5 : Below w.heap.size w w4 := by rw [hw4]; exact bup B4 (below1 _ _)
   rw [← hw4]
   clear hw4 B4
   obtain ⟨bX, hbX⟩ : ∃ b, w3.heap.size = b := ⟨_, rfl⟩
   rw [hbX] at kX ⊢
   replace kX := hide kX
   clear hbX
   go_at_call 56
   refine (K1.out w4 B5).mono ?_
   rintro e w5 ⟨rfl, hb⟩
   replace kC := hide (kC.out.grow hb)
   replace kS := hide (kS.out.grow hb)
   replace kX := hide (kX.out.grow hb)
   have B6 := bup B5 hb
   clear hb B5
   obtain ⟨rC0, rC1, rC2, rC3, rC4, rC5, rC6, rC7⟩ := kC.out.cells8
   have zC : bC < w5.heap.size := kC.out.lt
   have zC_1 : bC < w5.heap.size + 1 := by omega
   have rS0 : w5.cell? ⟨bS, 0, none⟩ = some (.slice A b.cells.length nA) := kS.out.cell 0
   have rS1 : w5.cell? ⟨bS, 1, none⟩ = some (.slice P0 b.pairs.length nP) := kS.out.cell 1
   have rS2 : w5.cell? ⟨bS, 2, none⟩ = some (I b.gain) := kS.out.cell 2
   have rS3 : w5.cell? ⟨bS, 3, none⟩ = some (I b.slack) := kS.out.cell 3
   have rS4 : w5.cell? ⟨bS, 4, none⟩ = some (I b.deep) := kS.out.cell 4
   have zS : bS < w5.heap.size := kS.out.lt
   have zS_1 : bS < w5.heap.size + 1 := by omega
   go_wp2_with fail
   clear rC0 rC1 rC2 rC3 rC4 rC5 rC6 rC7 zC zC_1 rS0 rS1 rS2 rS3 rS4 zS zS_1
   obtain ⟨w6, hw6⟩ : ∃ w6, w6 = (w5.alloc (.cells #[I p1, I p2] 23)) := ⟨_, rfl⟩
   have kY : Blk w6 (w5.heap.size) 23 #[I p1, I p2] := by
    rw [hw6]
    have h := Blk.new w5 23 #[I p1, I p2]
    first | exact h | simpa only [World.size_alloc] using h
   replace kC : Hid (Blk w6 bC 25 (c8 c)) := hide (by rw [hw6]; exact (kC.out).alloc _)
   replace kS : Hid (Blk w6 bS 58 #[.slice A b.cells.length nA, .slice P0 b.pairs.length nP, I b.gain, I b.slack, I b.deep]) := hide (by rw [hw6]; exact (kS.out).alloc _)
   replace kX : Hid (Blk w6 bX 23 #[I p1, I p2]) := hide (by rw [hw6]; exact (kX.out).alloc _)
   have B7 : Below w.heap.size w w6 := by rw [hw6]; exact bup B6 (below1 _ _)
   rw [← hw6]
   clear hw6 B6
   obtain ⟨bY, hbY⟩ : ∃ b, w5.heap.size = b := ⟨_, rfl⟩
   rw [hbY] at kY ⊢
   replace kY := hide kY
   clear hbY
   go_at_call 57
   refine (J2.out w6 B7).mono ?_
   rintro e w7 ⟨v1, rfl, ho, hb⟩
   replace kC := hide (kC.out.grow hb)
   replace kS := hide (kS.out.grow hb)
   replace kX := hide (kX.out.grow hb)
   replace kY := hide (kY.out.grow hb)
   have B8 := bup B7 hb
   clear hb B7
   have s1 := hide (ho.sl Change.cells_len hFl.out)
   obtain ⟨A1, n1, c1, rfl⟩ := ho.shape
   clear ho
   obtain ⟨rC0, rC1, rC2, rC3, rC4, rC5, rC6, rC7⟩ := kC.out.cells8
   have zC : bC < w7.heap.size := kC.out.lt
   have rS0 : w7.cell? ⟨bS, 0, none⟩ = some (.slice A b.cells.length nA) := kS.out.cell 0
   have rS1 : w7.cell? ⟨bS, 1, none⟩ = some (.slice P0 b.pairs.length nP) := kS.out.cell 1
   have rS2 : w7.cell? ⟨bS, 2, none⟩ = some (I b.gain) := kS.out.cell 2
   have rS3 : w7.cell? ⟨bS, 3, none⟩ = some (I b.slack) := kS.out.cell 3
   have rS4 : w7.cell? ⟨bS, 4, none⟩ = some (I b.deep) := kS.out.cell 4
   have zS : bS < w7.heap.size := kS.out.lt
   go_wp2_with fail
   clear rC0 rC1 rC2 rC3 rC4 rC5 rC6 rC7 zC rS0 rS1 rS2 rS3 rS4 zS
   go_at_call 58
   refine (K2.out w7 B8).mono ?_
   rintro e w8 ⟨v2, rfl, ho, hb⟩
   replace kC := hide (kC.out.grow hb)
   replace kS := hide (kS.out.grow hb)
   replace kX := hide (kX.out.grow hb)
   replace kY := hide (kY.out.grow hb)
   have B9 := bup B8 hb
   replace s1 := hide (s1.out.mono hb)
   clear hb B8
   have s2 := hide (ho.sl Change.cells_len hFl.out)
   obtain ⟨A2, n2, c2, rfl⟩ := ho.shape
   clear ho
   obtain ⟨rX0, rX1⟩ := kX.out.cells2
   have zX : bX < w8.heap.size := kX.out.lt
   obtain ⟨rY0, rY1⟩ := kY.out.cells2
   have zY : bY < w8.heap.size := kY.out.lt
   go_wp2_with fail
   clear rX0 rX1 zX rY0 rY1 zY
   go_at_call 59
   refine (ref_SameChanges _ _ F F w8 s1.out s2.out).mono ?_
   rw [decide_eq_true (rfl : F = F)]
   rintro e wz ⟨rfl, hb⟩
   go_wp2_with fail
   go_ret
   exact ⟨rfl, bup B9 hb⟩
end Go.Proofs.YtmjfdobjnnfafaaGreatDoor
