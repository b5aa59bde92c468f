/- The law SpringParts: volumes by way of a day. Conditions stand in the theorems. -/
import Derived.Test.YtmjfdobjnnfafaaGreatDoorSpring28
import Derived.Test.YtmjfdobjnnfafaaGreatDoorOneVol
import Derived.Test.YtmjfdobjnnfafaaGreatDoorOneSkip
set_option linter.all false
namespace Go.Proofs.YtmjfdobjnnfafaaGreatDoor
open Go.RowKit

theorem vol_zero {c : Climate} {p : Spring} {s : Scene} {l : List Int} {a b : Int} (h : volE c p s l a b ≠ 0) : volV c p s l a b = (0, 0) := by rw [volV, if_neg h]

set_option maxRecDepth 100000 in
set_option maxHeartbeats 8000000 in
theorem law_Parts (c : Climate) (no : Int) (vd : Value) (p : List Weather) (s : Scene) (V : SceneV) (vl : Value) (l : List Int) (a b d : Int) (w : World) (hp : Pow10 w) (hd : Sl w 3 Weather.cells vd p) (hs : SceneAt w s V) (hl : Sl w 1 intC vl l) :
    Calls Tryz.prog 12 #[c.v, .agg #[I no, vd], s.v V, vl, I a, I b, I d] w fun e w' => e = .returned (.bool true) ∧ Below w.heap.size w w' := by
  obtain ⟨Ac, nc, hcc, _⟩ := hs.cells.open_
  obtain ⟨Ap, np, hpp, _⟩ := hs.pairs.open_
  obtain ⟨Ad, nd, hdd, _⟩ := hs.days.open_
  obtain ⟨As, ns, hss, _⟩ := hs.sights.open_
  obtain ⟨Ah, nh, hch, _⟩ := hs.changes.open_
  obtain ⟨Aw, nw, hvd, _⟩ := hd.open_
  have J := fun (x y : Int) w' (hb : Below w.heap.size w w') => spring_Volume c no vd p s V vl l x y w' (hs.mono hb) (hl.mono hb) (hd.mono hb)
  have JS := fun w' (hb : Below w.heap.size w w') => law_skip_nil s V w' (hs.mono hb)
  have JT := fun w' (hb : Below w.heap.size w w') => law_short no vd p w' (hd.mono hb)
  have HM := fun h1 h2 h3 g1 g2 => parts_math (c := c) (p := ⟨no, p⟩) (s := s) (l := l) (frm := a) (by_ := b) (til := d) h1 h2 h3 g1 g2
  have HZ := fun (x y : Int) h => vol_zero (c := c) (p := ⟨no, p⟩) (s := s) (l := l) (a := x) (b := y) h
  obtain ⟨vv, hvv⟩ : ∃ z, volV c ⟨no, p⟩ s l = z := ⟨_, rfl⟩
  obtain ⟨ve, hve⟩ : ∃ z, volE c ⟨no, p⟩ s l = z := ⟨_, rfl⟩
  simp only [hvv, hve] at J HM HZ
  clear hvv hve
  obtain ⟨P, hP⟩ : ∃ z, vv a b = z := ⟨_, rfl⟩
  obtain ⟨Q, hQ⟩ : ∃ z, vv b d = z := ⟨_, rfl⟩
  obtain ⟨R, hR⟩ : ∃ z, vv a d = z := ⟨_, rfl⟩
  obtain ⟨e1, he1⟩ : ∃ z, ve a b = z := ⟨_, rfl⟩
  obtain ⟨e2, he2⟩ : ∃ z, ve b d = z := ⟨_, rfl⟩
  obtain ⟨e3, he3⟩ : ∃ z, ve a d = z := ⟨_, rfl⟩
  have J1 := J a b
  have J2 := J b d
  have J3 := J a d
  have Z1 := HZ a b
  have Z2 := HZ b d
  have Z3 := HZ a d
  rw [hP, he1] at J1 Z1
  rw [hQ, he2] at J2 Z2
  rw [hR, he3] at J3 Z3
  simp only [hP, hQ, hR, he1, he2, he3] at HM
  clear hP hQ hR he1 he2 he3 J HZ
  obtain ⟨p1, p2⟩ := P
  obtain ⟨q1, q2⟩ := Q
  obtain ⟨r1, r2⟩ := R
  simp only at J1 J2 J3 HM
  unfold Scene.v at *
  simp only [hcc, hpp, hdd, hss, hch, hvd] at J1 J2 J3 JS JT ⊢
  (try unfold Climate.v at *)
  clear hcc hpp hdd hss hch hvd
  replace J1 := hide J1
  replace J2 := hide J2
  replace J3 := hide J3
  replace JS := hide JS
  replace JT := hide JT
  replace HM := hide HM
  replace Z1 := hide Z1
  replace Z2 := hide Z2
  replace Z3 := hide Z3
  replace hs := hide hs
  replace hl := hide hl
  replace hd := hide hd
  replace hp := hide hp
  (try unfold Climate.v at *)
  (try unfold Weather.v at *)
  go_enter Tryz.func12, Tryz.ntmps12
  have B0 : Below w.heap.size w w := Below.refl _ _
  go_wp2_with fail
  obtain ⟨w1, hw1⟩ : ∃ w1, w1 = (((w.alloc (.cells #[I c.base, I c.lapse, I c.swing, I c.wettest, I c.coldest, I c.warmest, I c.flo, I c.fhi] 25)).alloc (.cells #[I no, .slice Aw p.length nw] 28)).alloc (.cells #[.slice Ac s.basin.cells.length nc, .slice Ap s.basin.pairs.length np, I s.basin.gain, I s.basin.slack, I s.basin.deep, .slice Ad s.days.length nd, .slice As s.sights.length ns, .slice Ah s.changes.length nh] 63)) := ⟨_, rfl⟩
  have kC : Blk w1 (w.heap.size) 25 #[I c.base, I c.lapse, I c.swing, I c.wettest, I c.coldest, I c.warmest, I c.flo, I c.fhi] := by
    rw [hw1]
    refine Blk.alloc ?_ _
    refine Blk.alloc ?_ _
    have h := Blk.new w 25 #[I c.base, I c.lapse, I c.swing, I c.wettest, I c.coldest, I c.warmest, I c.flo, I c.fhi]
    first | exact h | simpa only [World.size_alloc] using h
  have kS : Blk w1 (w.heap.size + 1) 28 #[I no, .slice Aw p.length nw] := by
    rw [hw1]
    refine Blk.alloc ?_ _
    have h := Blk.new (w.alloc (.cells #[I c.base, I c.lapse, I c.swing, I c.wettest, I c.coldest, I c.warmest, I c.flo, I c.fhi] 25)) 28 #[I no, .slice Aw p.length nw]
    first | exact h | simpa only [World.size_alloc] using h
  have kX : Blk w1 (w.heap.size + 1 + 1) 63 #[.slice Ac s.basin.cells.length nc, .slice Ap s.basin.pairs.length np, I s.basin.gain, I s.basin.slack, I s.basin.deep, .slice Ad s.days.length nd, .slice As s.sights.length ns, .slice Ah s.changes.length nh] := by
    rw [hw1]
    have h := Blk.new ((w.alloc (.cells #[I c.base, I c.lapse, I c.swing, I c.wettest, I c.coldest, I c.warmest, I c.flo, I c.fhi] 25)).alloc (.cells #[I no, .slice Aw p.length nw] 28)) 63 #[.slice Ac s.basin.cells.length nc, .slice Ap s.basin.pairs.length np, I s.basin.gain, I s.basin.slack, I s.basin.deep, .slice Ad s.days.length nd, .slice As s.sights.length ns, .slice Ah s.changes.length nh]
    first | exact h | simpa only [World.size_alloc] using h
  have B1 : Below w.heap.size w w1 := by rw [hw1]; exact bup B0 (below3 _ _ _ _)
  rw [← hw1]
  clear hw1 B0
  obtain ⟨bX, hbX⟩ : ∃ b, w.heap.size + 1 + 1 = b := ⟨_, rfl⟩
  rw [hbX] at kX ⊢
  obtain ⟨bS, hbS⟩ : ∃ b, w.heap.size + 1 = b := ⟨_, rfl⟩
  rw [hbS] at kS ⊢
  obtain ⟨bC, hbC⟩ : ∃ b, w.heap.size = b := ⟨_, rfl⟩
  rw [hbC] at kC ⊢
  replace kC := hide kC
  replace kS := hide kS
  replace kX := hide kX
  clear hbC
  clear hbS
  clear hbX
  go_at_call 22
  refine (law_sane w1 (hp.out.mono B1)).mono ?_
  rintro e w2 ⟨rfl, hb⟩
  replace kC := hide (kC.out.grow hb)
  replace kS := hide (kS.out.grow hb)
  replace kX := hide (kX.out.grow hb)
  have B2 := bup B1 hb
  clear hb B1
  obtain ⟨rX0, rX1, rX2, rX3, rX4, rX5, rX6, rX7⟩ := kX.out.cells8
  have zX : bX < w2.heap.size := kX.out.lt
  go_wp2_with fail
  clear rX0 rX1 rX2 rX3 rX4 rX5 rX6 rX7 zX
  go_at_call 47
  refine (JS.out w2 B2).mono ?_
  rintro e w3 ⟨⟨q, rfl⟩, hb⟩
  replace kC := hide (kC.out.grow hb)
  replace kS := hide (kS.out.grow hb)
  replace kX := hide (kX.out.grow hb)
  have B3 := bup B2 hb
  clear hb B2
  cases q
  case true => (go_wp2_with fail; go_ret; exact ⟨rfl, B3⟩)
  obtain ⟨rS0, rS1⟩ := kS.out.cells2
  have zS : bS < w3.heap.size := kS.out.lt
  go_wp2_with fail
  clear rS0 rS1 zS
  go_at_call 48
  refine (JT.out w3 B3).mono ?_
  rintro e w4 ⟨⟨q, rfl⟩, hb⟩
  replace kC := hide (kC.out.grow hb)
  replace kS := hide (kS.out.grow hb)
  replace kX := hide (kX.out.grow hb)
  have B4 := bup B3 hb
  clear hb B3
  cases q
  case false => (go_wp2_with fail; go_ret; exact ⟨rfl, B4⟩)
  rcases ilt b a with g1 | g1
  case inl => (go_wp2_with fail; go_ret; exact ⟨rfl, B4⟩)
  rcases ilt d b with g2 | g2
  case inl => (go_wp2_with fail; go_ret; exact ⟨rfl, B4⟩)
  obtain ⟨rC0, rC1, rC2, rC3, rC4, rC5, rC6, rC7⟩ := kC.out.cells8
  have zC : bC < w4.heap.size := kC.out.lt
  obtain ⟨rS0, rS1⟩ := kS.out.cells2
  have zS : bS < w4.heap.size := kS.out.lt
  obtain ⟨rX0, rX1, rX2, rX3, rX4, rX5, rX6, rX7⟩ := kX.out.cells8
  have zX : bX < w4.heap.size := kX.out.lt
  go_wp2_with fail
  clear rC0 rC1 rC2 rC3 rC4 rC5 rC6 rC7 zC rS0 rS1 zS rX0 rX1 rX2 rX3 rX4 rX5 rX6 rX7 zX
  go_at_call 54
  refine (J1.out w4 B4).mono ?_
  rintro e w5 ⟨rfl, hb⟩
  replace kC := hide (kC.out.grow hb)
  replace kS := hide (kS.out.grow hb)
  replace kX := hide (kX.out.grow hb)
  have B5 := bup B4 hb
  clear hb B4
  obtain ⟨rC0, rC1, rC2, rC3, rC4, rC5, rC6, rC7⟩ := kC.out.cells8
  have zC : bC < w5.heap.size := kC.out.lt
  have zC_1 : bC < w5.heap.size + 1 := by omega
  obtain ⟨rS0, rS1⟩ := kS.out.cells2
  have zS : bS < w5.heap.size := kS.out.lt
  have zS_1 : bS < w5.heap.size + 1 := by omega
  obtain ⟨rX0, rX1, rX2, rX3, rX4, rX5, rX6, rX7⟩ := kX.out.cells8
  have zX : bX < w5.heap.size := kX.out.lt
  have zX_1 : bX < w5.heap.size + 1 := by omega
  go_wp2_with fail
  clear rC0 rC1 rC2 rC3 rC4 rC5 rC6 rC7 zC zC_1 rS0 rS1 zS zS_1 rX0 rX1 rX2 rX3 rX4 rX5 rX6 rX7 zX zX_1
  obtain ⟨w6, hw6⟩ : ∃ w6, w6 = (w5.alloc (.cells #[I p1, I p2] 23)) := ⟨_, rfl⟩
  have kP : Blk w6 (w5.heap.size) 23 #[I p1, I p2] := by
    rw [hw6]
    have h := Blk.new w5 23 #[I p1, I p2]
    first | exact h | simpa only [World.size_alloc] using h
  replace kC : Hid (Blk w6 bC 25 #[I c.base, I c.lapse, I c.swing, I c.wettest, I c.coldest, I c.warmest, I c.flo, I c.fhi]) := hide (by rw [hw6]; exact (kC.out).alloc _)
  replace kS : Hid (Blk w6 bS 28 #[I no, .slice Aw p.length nw]) := hide (by rw [hw6]; exact (kS.out).alloc _)
  replace kX : Hid (Blk w6 bX 63 #[.slice Ac s.basin.cells.length nc, .slice Ap s.basin.pairs.length np, I s.basin.gain, I s.basin.slack, I s.basin.deep, .slice Ad s.days.length nd, .slice As s.sights.length ns, .slice Ah s.changes.length nh]) := hide (by rw [hw6]; exact (kX.out).alloc _)
  have B6 : Below w.heap.size w w6 := by rw [hw6]; exact bup B5 (below1 _ _)
  rw [← hw6]
  clear hw6 B5
  obtain ⟨bP, hbP⟩ : ∃ b, w5.heap.size = b := ⟨_, rfl⟩
  rw [hbP] at kP ⊢
  replace kP := hide kP
  clear hbP
  go_at_call 54
  refine (J2.out w6 B6).mono ?_
  rintro e w7 ⟨rfl, hb⟩
  replace kC := hide (kC.out.grow hb)
  replace kS := hide (kS.out.grow hb)
  replace kX := hide (kX.out.grow hb)
  replace kP := hide (kP.out.grow hb)
  have B7 := bup B6 hb
  clear hb B6
  obtain ⟨rC0, rC1, rC2, rC3, rC4, rC5, rC6, rC7⟩ := kC.out.cells8
  have zC : bC < w7.heap.size := kC.out.lt
  have zC_1 : bC < w7.heap.size + 1 := by omega
  obtain ⟨rS0, rS1⟩ := kS.out.cells2
  have zS : bS < w7.heap.size := kS.out.lt
  have zS_1 : bS < w7.heap.size + 1 := by omega
  obtain ⟨rX0, rX1, rX2, rX3, rX4, rX5, rX6, rX7⟩ := kX.out.cells8
  have zX : bX < w7.heap.size := kX.out.lt
  have zX_1 : bX < w7.heap.size + 1 := by omega
  go_wp2_with fail
  clear rC0 rC1 rC2 rC3 rC4 rC5 rC6 rC7 zC zC_1 rS0 rS1 zS zS_1 rX0 rX1 rX2 rX3 rX4 rX5 rX6 rX7 zX zX_1
  obtain ⟨w8, hw8⟩ : ∃ w8, w8 = (w7.alloc (.cells #[I q1, I q2] 23)) := ⟨_, rfl⟩
  have kQ : Blk w8 (w7.heap.size) 23 #[I q1, I q2] := by
    rw [hw8]
    have h := Blk.new w7 23 #[I q1, I q2]
    first | exact h | simpa only [World.size_alloc] using h
  replace kC : Hid (Blk w8 bC 25 #[I c.base, I c.lapse, I c.swing, I c.wettest, I c.coldest, I c.warmest, I c.flo, I c.fhi]) := hide (by rw [hw8]; exact (kC.out).alloc _)
  replace kS : Hid (Blk w8 bS 28 #[I no, .slice Aw p.length nw]) := hide (by rw [hw8]; exact (kS.out).alloc _)
  replace kX : Hid (Blk w8 bX 63 #[.slice Ac s.basin.cells.length nc, .slice Ap s.basin.pairs.length np, I s.basin.gain, I s.basin.slack, I s.basin.deep, .slice Ad s.days.length nd, .slice As s.sights.length ns, .slice Ah s.changes.length nh]) := hide (by rw [hw8]; exact (kX.out).alloc _)
  replace kP : Hid (Blk w8 bP 23 #[I p1, I p2]) := hide (by rw [hw8]; exact (kP.out).alloc _)
  have B8 : Below w.heap.size w w8 := by rw [hw8]; exact bup B7 (below1 _ _)
  rw [← hw8]
  clear hw8 B7
  obtain ⟨bQ, hbQ⟩ : ∃ b, w7.heap.size = b := ⟨_, rfl⟩
  rw [hbQ] at kQ ⊢
  replace kQ := hide kQ
  clear hbQ
  go_at_call 54
  refine (J3.out w8 B8).mono ?_
  rintro e w9 ⟨rfl, hb⟩
  replace kC := hide (kC.out.grow hb)
  replace kS := hide (kS.out.grow hb)
  replace kX := hide (kX.out.grow hb)
  replace kP := hide (kP.out.grow hb)
  replace kQ := hide (kQ.out.grow hb)
  have B9 := bup B8 hb
  clear hb B8
  clear J1 J2 J3 JS JT
  obtain ⟨rP0, rP1⟩ := kP.out.cells2
  have zP : bP < w9.heap.size := kP.out.lt
  have zP_1 : bP < w9.heap.size + 1 := by omega
  obtain ⟨rQ0, rQ1⟩ := kQ.out.cells2
  have zQ : bQ < w9.heap.size := kQ.out.lt
  have zQ_1 : bQ < w9.heap.size + 1 := by omega
  by_cases e1n : e1 = 0
  case neg =>
    (have e1a : (e1 == 0) = false := (by simpa using e1n)); (have e1b : (e1 != 0) = true := (by simpa using e1n))
    have hz := Z1.out e1n
    injection hz with hz1 hz2
    subst hz1 hz2
    (go_wp2_with fail; go_ret; exact ⟨rfl, bup B9 (below1 _ _)⟩)
  subst e1n
  by_cases e2n : e2 = 0
  case neg =>
    (have e2a : (e2 == 0) = false := (by simpa using e2n)); (have e2b : (e2 != 0) = true := (by simpa using e2n))
    have hz := Z2.out e2n
    injection hz with hz1 hz2
    subst hz1 hz2
    by_cases p1n : p1 = 0
    · subst p1n
      by_cases p2n : p2 = 0
      · subst p2n
        (go_wp2_with fail; go_ret; exact ⟨rfl, bup B9 (below1 _ _)⟩)
      · (have p2a : (p2 == 0) = false := (by simpa using p2n)); (have p2b : (p2 != 0) = true := (by simpa using p2n))
        (go_wp2_with fail; go_ret; exact ⟨rfl, bup B9 (below1 _ _)⟩)
    · (have p1a : (p1 == 0) = false := (by simpa using p1n)); (have p1b : (p1 != 0) = true := (by simpa using p1n))
      (go_wp2_with fail; go_ret; exact ⟨rfl, bup B9 (below1 _ _)⟩)
  subst e2n
  by_cases e3n : e3 = 0
  case neg =>
    (have e3a : (e3 == 0) = false := (by simpa using e3n)); (have e3b : (e3 != 0) = true := (by simpa using e3n))
    have hz := Z3.out e3n
    injection hz with hz1 hz2
    subst hz1 hz2
    by_cases p1n : p1 = 0
    · subst p1n
      by_cases p2n : p2 = 0
      · subst p2n
        (go_wp2_with fail; go_ret; exact ⟨rfl, bup B9 (below1 _ _)⟩)
      · (have p2a : (p2 == 0) = false := (by simpa using p2n)); (have p2b : (p2 != 0) = true := (by simpa using p2n))
        by_cases q1n : q1 = 0
        · subst q1n
          by_cases q2n : q2 = 0
          · subst q2n
            (go_wp2_with fail; go_ret; exact ⟨rfl, bup B9 (below1 _ _)⟩)
          · (have q2a : (q2 == 0) = false := (by simpa using q2n)); (have q2b : (q2 != 0) = true := (by simpa using q2n))
            (go_wp2_with fail; go_ret; exact ⟨rfl, bup B9 (below1 _ _)⟩)
        · (have q1a : (q1 == 0) = false := (by simpa using q1n)); (have q1b : (q1 != 0) = true := (by simpa using q1n))
          (go_wp2_with fail; go_ret; exact ⟨rfl, bup B9 (below1 _ _)⟩)
    · (have p1a : (p1 == 0) = false := (by simpa using p1n)); (have p1b : (p1 != 0) = true := (by simpa using p1n))
      by_cases q1n : q1 = 0
      · subst q1n
        by_cases q2n : q2 = 0
        · subst q2n
          (go_wp2_with fail; go_ret; exact ⟨rfl, bup B9 (below1 _ _)⟩)
        · (have q2a : (q2 == 0) = false := (by simpa using q2n)); (have q2b : (q2 != 0) = true := (by simpa using q2n))
          (go_wp2_with fail; go_ret; exact ⟨rfl, bup B9 (below1 _ _)⟩)
      · (have q1a : (q1 == 0) = false := (by simpa using q1n)); (have q1b : (q1 != 0) = true := (by simpa using q1n))
        (go_wp2_with fail; go_ret; exact ⟨rfl, bup B9 (below1 _ _)⟩)
  subst e3n
  obtain ⟨⟨m1, m2, m3⟩, m4, m5, m6, ⟨m7, m8⟩, ⟨m9, m10⟩, m11, m12⟩ := HM.out rfl rfl rfl g1 g2
  have k1 : IntKind.i64.wrap (p1 + q1) = p1 + q1 := IntWalk.i64_in _ (by omega)
  have k2 : IntKind.i64.wrap (p2 + q2) = p2 + q2 := IntWalk.i64_in _ (by omega)
  (go_wp2_with fail; go_ret; exact ⟨rfl, bup B9 (below1 _ _)⟩)
end Go.Proofs.YtmjfdobjnnfafaaGreatDoor
