/- The law SpringGaps: what Allowed accepts lies in the gaps, and what Fill returns is accepted and attains the ends. Conditions stand in the theorems. -/
import Derived.Test.YtmjfdobjnnfafaaGreatDoorSpring28
import Derived.Deep.DeepCutAuto
import Derived.Test.YtmjfdobjnnfafaaGreatDoorOneLog
import Derived.Test.YtmjfdobjnnfafaaGreatDoorOneIn
import Derived.Test.YtmjfdobjnnfafaaGreatDoorLight
set_option linter.all false
namespace Go.Proofs.YtmjfdobjnnfafaaGreatDoor
open Go.RowKit

theorem gaps_math (c : Climate) (l : List Weather) (a b : Int) :
    (∀ days, allowV c l days = true → allowE c l days = 0 ∧ ∀ x ∈ days, (0 ≤ x.day ∧ x.day ≤ 1048576) ∧ gapE c l x.day = 0 ∧ inB x.temp (gapV c l x.day).tlo (gapV c l x.day).thi = true ∧ inB x.rain (gapV c l x.day).rlo (gapV c l x.day).rhi = true) ∧
    (fillE c l a b ≠ 0 → ∀ t, fillV c l a b t = []) ∧
    (fillE c l a b = 0 → (0 ≤ a ∧ a < b ∧ b ≤ 1048576) ∧ (∀ t, (fillV c l a b t).length = (b - a).toNat) ∧ (∀ i : Nat, i < (b - a).toNat → gapE c l (a + i) = 0 ∧
        (fillV c l a b true)[i]? = some ⟨a + i, (gapV c l (a + i)).thi, (gapV c l (a + i)).rlo⟩ ∧ (fillV c l a b false)[i]? = some ⟨a + i, (gapV c l (a + i)).tlo, (gapV c l (a + i)).rhi⟩) ∧
      ∀ t, allowV c l (fillV c l a b t) = true ∧ allowE c l (fillV c l a b t) = 0) := by
  refine ⟨fun days h => ?_, fun h t => ?_, fun h => ?_⟩
  · obtain ⟨g1, g2, g3, g4, g5⟩ := allow_is h
    refine ⟨g3, fun x hx => ?_⟩
    have hd := agree_day g5 hx
    have hE := gapE_zero g1 g2 hd
    have hV : gapV c l x.day = gapF c l x.day := by simp [gapV, hE]
    rw [hV]
    obtain ⟨k1, k2⟩ := agree_in g5 hx
    exact ⟨hd, hE, inB_true.2 k1, inB_true.2 k2⟩
  · rw [fillV, if_neg h]
  · obtain ⟨g1, g2, g3, s1, s2, s3, s4, hf⟩ := fill_is h
    refine ⟨⟨s1, s2, s3⟩, fun t => by rw [hf, fillF_length], fun i hi => ?_, fun t => fill_allowed h t⟩
    have hE : gapE c l (a + i) = 0 := gapE_zero g1 g2 (by omega)
    have hV : gapV c l (a + i) = gapF c l (a + i) := by simp [gapV, hE]
    rw [hV, hf, hf, fillF_at hi, fillF_at hi]
    exact ⟨hE, rfl, rfl⟩

set_option maxRecDepth 100000 in
set_option maxHeartbeats 8000000 in
theorem law_Gaps (c : Climate) (va : Value) (l : List Weather) (vd : Value) (days : List Weather) (a b : Int) (w : World) (hp : Pow10 w) (ha : Sl w 3 Weather.cells va l) (hd : Sl w 3 Weather.cells vd days) :
    Calls Tryz.prog 8 #[c.v, va, vd, I a, I b] w fun e w' => e = .returned (.bool true) ∧ Below w.heap.size w w' := by
  have J1 := fun (d : Int) w' (hb : Below w.heap.size w w') => spring_Gap c va l d w' (ha.mono hb)
  have J2 := fun (vx : Value) (xs : List Weather) w' (hb : Below w.heap.size w w') hx => spring_Allowed c va vx l xs w' (ha.mono hb) hx
  have J3 := fun (t : Bool) w' (hb : Below w.heap.size w w') => spring_Fill c va l a b t w' (ha.mono hb)
  obtain ⟨M1, M2, M3⟩ := gaps_math c l a b
  obtain ⟨gv, hgv⟩ : ∃ z, gapV c l = z := ⟨_, rfl⟩
  obtain ⟨ge, hge⟩ : ∃ z, gapE c l = z := ⟨_, rfl⟩
  obtain ⟨av, hav⟩ : ∃ z, allowV c l = z := ⟨_, rfl⟩
  obtain ⟨ae, hae⟩ : ∃ z, allowE c l = z := ⟨_, rfl⟩
  obtain ⟨fv, hfv⟩ : ∃ z, fillV c l a b = z := ⟨_, rfl⟩
  obtain ⟨fe, hfe⟩ : ∃ z, fillE c l a b = z := ⟨_, rfl⟩
  simp only [hgv, hge, hav, hae, hfv, hfe] at J1 J2 J3 M1 M2 M3
  clear hgv hge hav hae hfv hfe
  obtain ⟨Ad, nd, rfl, _, _, hlen, hA⟩ := hd.open_
  (try unfold Climate.v at *)
  replace J1 := hide J1
  replace J2 := hide J2
  replace J3 := hide J3
  replace M1 := hide M1
  replace M2 := hide M2
  replace M3 := hide M3
  replace hd := hide hd
  replace ha := hide ha
  replace hA := hide hA
  replace hp := hide hp
  (try unfold Climate.v at *)
  (try unfold Weather.v at *)
  go_enter Tryz.func8, Tryz.ntmps8
  have B0 : Below w.heap.size w w := Below.refl _ _
  go_wp2_with fail
  obtain ⟨w1, hw1⟩ : ∃ w1, w1 = (w.alloc (.cells #[I c.base, I c.lapse, I c.swing, I c.wettest, I c.coldest, I c.warmest, I c.flo, I c.fhi] 25)) := ⟨_, rfl⟩
  have kC : Blk w1 (w.heap.size) 25 #[I c.base, I c.lapse, I c.swing, I c.wettest, I c.coldest, I c.warmest, I c.flo, I c.fhi] := by
    rw [hw1]
    have h := Blk.new w 25 #[I c.base, I c.lapse, I c.swing, I c.wettest, I c.coldest, I c.warmest, I c.flo, I c.fhi]
    first | exact h | simpa only [World.size_alloc] using h
  have B1 : Below w.heap.size w w1 := by rw [hw1]; exact bup B0 (below1 _ _)
  rw [← hw1]
  clear hw1 B0
  obtain ⟨bC, hbC⟩ : ∃ b, w.heap.size = b := ⟨_, rfl⟩
  rw [hbC] at kC ⊢
  replace kC := hide kC
  clear hbC
  go_at_call 22
  refine (law_sane w1 (hp.out.mono B1)).mono ?_
  rintro e w2 ⟨rfl, hb⟩
  replace kC := hide (kC.out.grow hb)
  have B2 := bup B1 hb
  clear hb B1
  obtain ⟨rC0, rC1, rC2, rC3, rC4, rC5, rC6, rC7⟩ := kC.out.cells8
  have zC : bC < w2.heap.size := kC.out.lt
  go_wp2_with fail
  clear rC0 rC1 rC2 rC3 rC4 rC5 rC6 rC7 zC
  go_at_call 37
  refine (law_light va l a b w2 (ha.out.mono B2)).mono ?_
  rintro e w_ ⟨⟨q, rfl⟩, rfl⟩
  cases q
  case false => (go_wp2_with fail; go_ret; exact ⟨rfl, B2⟩)
  cases g : decide ((120 : Int) < days.length)
  case true => (go_wp2_with fail; go_ret; exact ⟨rfl, B2⟩)
  obtain ⟨rC0, rC1, rC2, rC3, rC4, rC5, rC6, rC7⟩ := kC.out.cells8
  have zC : bC < w2.heap.size := kC.out.lt
  go_wp2_with fail
  clear rC0 rC1 rC2 rC3 rC4 rC5 rC6 rC7 zC
  go_at_call 40
  refine (J2.out _ days w2 B2 (hd.out.mono B2)).mono ?_
  rintro e w3 ⟨rfl, hb⟩
  replace kC := hide (kC.out.grow hb)
  have B3 := bup B2 hb
  clear hb B2
  go_upto_if 47 with fail
  go_cut [11, 12] from 28 (fun _ _ w_ => Hid (Blk w_ bC 25 #[I c.base, I c.lapse, I c.swing, I c.wettest, I c.coldest, I c.warmest, I c.flo, I c.fhi]) ∧ Hid (Below w.heap.size w w_))
  case first =>
    cases hB : av days
    case false => (go_wp2_with fail; go_meet; exact ⟨kC, hide B3⟩)
    obtain ⟨h0, hm⟩ := M1.out days hB
    rw [h0]
    replace hm := hide hm
    clear h0
    go_wp2_with fail
    go_loopw [14, 15, 16, 17, 52] (fun _ _ _ _ i wr => ∃ k : Nat, k ≤ days.length ∧ i = I k ∧ Hid (Blk wr bC 25 #[I c.base, I c.lapse, I c.swing, I c.wettest, I c.coldest, I c.warmest, I c.flo, I c.fhi]) ∧ Hid (Below w.heap.size w wr)) (fun _ _ _ _ i _ => days.length - (intOf i).toNat)
    case atStart => exact ⟨0, Nat.zero_le _, rfl, kC, hide B3⟩
    case round =>
    obtain ⟨k, hk, rfl, hC9, hbw⟩ := hrel
    clear kC B3
    have kC := hC9
    have BM := hbw.out
    clear hC9 hbw
    by_cases hlt : k < days.length
    case neg =>
      go_wp2_with fail
      go_meet
      exact ⟨kC, hide BM⟩
    case pos =>
    obtain ⟨bx, ox, rfl, hbx⟩ := hA.out k hlt
    obtain ⟨x, hx⟩ := getElem?_of_lt hlt
    obtain ⟨⟨d1, d2⟩, hE, hT, hR⟩ := hm.out x (List.mem_of_getElem? hx)
    obtain ⟨hzx, e0, e1, e2⟩ := (hd.out.mono BM).weather_at hx
    have JX := J1.out x.day
    rw [hE] at JX
    obtain ⟨G, hG⟩ : ∃ G, gv x.day = G := ⟨_, rfl⟩
    rw [hG] at JX hT hR
    have JT := fun w => law_in x.temp G.tlo G.thi w
    have JR := fun w => law_in x.rain G.rlo G.rhi w
    rw [hT] at JT
    rw [hR] at JR
    clear hE hG hT hR M1 M2 M3 J2 J3 hm hA
    replace JX := hide JX
    replace JT := hide JT
    replace JR := hide JR
    replace hx := hide hx
    obtain ⟨rC0, rC1, rC2, rC3, rC4, rC5, rC6, rC7⟩ := kC.out.cells8
    have zC : bC < wr.heap.size := kC.out.lt
    have zC_1 : bC < wr.heap.size + 1 := by omega
    go_wp2_with fail
    clear rC0 rC1 rC2 rC3 rC4 rC5 rC6 rC7 zC zC_1
    obtain ⟨w4, hw4⟩ : ∃ w4, w4 = (wr.alloc (.cells #[I x.day, I x.temp, I x.rain] 36)) := ⟨_, rfl⟩
    have kX : Blk w4 (wr.heap.size) 36 #[I x.day, I x.temp, I x.rain] := by
      rw [hw4]
      have h := Blk.new wr 36 #[I x.day, I x.temp, I x.rain]
      first | exact h | simpa only [World.size_alloc] using h
    replace kC : Hid (Blk w4 bC 25 #[I c.base, I c.lapse, I c.swing, I c.wettest, I c.coldest, I c.warmest, I c.flo, I c.fhi]) := hide (by rw [hw4]; exact (kC.out).alloc _)
    have B4 : Below w.heap.size w w4 := by rw [hw4]; exact bup BM (below1 _ _)
    rw [← hw4]
    clear hw4 BM
    obtain ⟨bX, hbX⟩ : ∃ b, wr.heap.size = b := ⟨_, rfl⟩
    rw [hbX] at kX ⊢
    replace kX := hide kX
    clear hbX
    go_at_call 38
    refine (JX.out w4 B4).mono ?_
    rintro e w5 ⟨rfl, hb⟩
    replace kC := hide (kC.out.grow hb)
    replace kX := hide (kX.out.grow hb)
    have B5 := bup B4 hb
    clear hb B4
    obtain ⟨rX0, rX1, rX2⟩ := kX.out.cells3
    have zX : bX < w5.heap.size := kX.out.lt
    have zX_1 : bX < w5.heap.size + 1 := by omega
    have zX_2 : bX < w5.heap.size + 1 + 1 := by omega
    go_wp2_with fail
    clear rX0 rX1 rX2 zX zX_1 zX_2
    obtain ⟨w6, hw6⟩ : ∃ w6, w6 = ((w5.alloc (.cells #[I G.tlo, I G.thi] 23)).alloc (.cells #[I G.rlo, I G.rhi] 23)) := ⟨_, rfl⟩
    have kT : Blk w6 (w5.heap.size) 23 #[I G.tlo, I G.thi] := by
      rw [hw6]
      refine Blk.alloc ?_ _
      have h := Blk.new w5 23 #[I G.tlo, I G.thi]
      first | exact h | simpa only [World.size_alloc] using h
    have kR : Blk w6 (w5.heap.size + 1) 23 #[I G.rlo, I G.rhi] := by
      rw [hw6]
      have h := Blk.new (w5.alloc (.cells #[I G.tlo, I G.thi] 23)) 23 #[I G.rlo, I G.rhi]
      first | exact h | simpa only [World.size_alloc] using h
    replace kC : Hid (Blk w6 bC 25 #[I c.base, I c.lapse, I c.swing, I c.wettest, I c.coldest, I c.warmest, I c.flo, I c.fhi]) := hide (by rw [hw6]; exact ((kC.out).alloc _).alloc _)
    replace kX : Hid (Blk w6 bX 36 #[I x.day, I x.temp, I x.rain]) := hide (by rw [hw6]; exact ((kX.out).alloc _).alloc _)
    have B6 : Below w.heap.size w w6 := by rw [hw6]; exact bup B5 (below2 _ _ _)
    rw [← hw6]
    clear hw6 B5
    obtain ⟨bR, hbR⟩ : ∃ b, w5.heap.size + 1 = b := ⟨_, rfl⟩
    rw [hbR] at kR ⊢
    obtain ⟨bT, hbT⟩ : ∃ b, w5.heap.size = b := ⟨_, rfl⟩
    rw [hbT] at kT ⊢
    replace kT := hide kT
    replace kR := hide kR
    clear hbT
    clear hbR
    go_at_call 51
    refine (JT.out w6).mono ?_
    rintro e w7 ⟨rfl, hb⟩
    replace kC := hide (kC.out.grow hb)
    replace kX := hide (kX.out.grow hb)
    replace kT := hide (kT.out.grow hb)
    replace kR := hide (kR.out.grow hb)
    have B7 := bup B6 hb
    clear hb B6
    obtain ⟨rX0, rX1, rX2⟩ := kX.out.cells3
    have zX : bX < w7.heap.size := kX.out.lt
    obtain ⟨rT0, rT1⟩ := kT.out.cells2
    have zT : bT < w7.heap.size := kT.out.lt
    obtain ⟨rR0, rR1⟩ := kR.out.cells2
    have zR : bR < w7.heap.size := kR.out.lt
    go_wp2_with fail
    clear rX0 rX1 rX2 zX rT0 rT1 zT rR0 rR1 zR
    go_at_call 51
    refine (JR.out w7).mono ?_
    rintro e w8 ⟨rfl, hb⟩
    replace kC := hide (kC.out.grow hb)
    replace kX := hide (kX.out.grow hb)
    replace kT := hide (kT.out.grow hb)
    replace kR := hide (kR.out.grow hb)
    have B8 := bup B7 hb
    clear hb B7
    go_wp2_with fail
    go_roundw
    case rel => exact ⟨k + 1, by omega, by go_num, kC, hide B8⟩
    case measure => simp [intOf]; omega
  case rest =>
  obtain ⟨hC9, hbw⟩ := hcut
  clear kC B3
  have kC := hC9
  have BN := hbw.out
  clear hC9 hbw
  obtain ⟨rC0, rC1, rC2, rC3, rC4, rC5, rC6, rC7⟩ := kC.out.cells8
  have zC : bC < wc.heap.size := kC.out.lt
  go_wp2_with fail
  clear rC0 rC1 rC2 rC3 rC4 rC5 rC6 rC7 zC
  go_at_call 42
  refine (J3.out true wc BN).mono ?_
  rintro e w9 ⟨v1, rfl, ho, hb⟩
  replace kC := hide (kC.out.grow hb)
  have B9 := bup BN hb
  clear hb BN
  have hL : ∀ t, (fv t).length ≤ 140737488355328 := fun t => by
    by_cases hz : fe = 0
    · rw [(M3.out hz).2.1 t]; have := (M3.out hz).1; omega
    · rw [M2.out hz t]; simp
  have s1 := hide (ho.sl Weather.cells_len (hL true))
  obtain ⟨A1, c1, rfl, _, _, _, hA1⟩ := s1.out.open_
  clear ho
  replace hA1 := hide hA1
  obtain ⟨rC0, rC1, rC2, rC3, rC4, rC5, rC6, rC7⟩ := kC.out.cells8
  have zC : bC < w9.heap.size := kC.out.lt
  go_wp2_with fail
  clear rC0 rC1 rC2 rC3 rC4 rC5 rC6 rC7 zC
  go_at_call 42
  refine (J3.out false w9 B9).mono ?_
  rintro e w10 ⟨v2, rfl, ho, hb⟩
  replace kC := hide (kC.out.grow hb)
  have B10 := bup B9 hb
  replace s1 := hide (s1.out.mono hb)
  clear hb B9
  have s2 := hide (ho.sl Weather.cells_len (hL false))
  obtain ⟨A2, c2, rfl, _, _, _, hA2⟩ := s2.out.open_
  clear ho
  replace hA2 := hide hA2
  by_cases hz : fe = 0
  case neg =>
    have z1 := M2.out hz
    have l1 : (fv true).length = 0 := by rw [z1]; rfl
    have l2 : (fv false).length = 0 := by rw [z1]; rfl
    have hne : (fe != 0) = true := by simpa using hz
    rw [l1, l2]
    clear z1
    go_wp2_with fail
    go_ret
    exact ⟨rfl, B10⟩
  case pos =>
  subst hz
  obtain ⟨⟨a0, ab, b1⟩, hlen2, hget, hall⟩ := M3.out rfl
  obtain ⟨n, hn⟩ : ∃ n, (b - a).toNat = n := ⟨_, rfl⟩
  have hbn : b - a = (n : Int) := by omega
  have l1 := hlen2 true
  have l2 := hlen2 false
  rw [hn] at l1 l2 hget
  have k1 : IntKind.i64.wrap (b - a) = (n : Int) := by rw [IntWalk.i64_in _ (by omega)]; exact hbn
  have hn5 : n ≤ 1048576 := by omega
  rw [l1, l2]
  replace hget := hide hget
  replace hall := hide hall
  replace hA1 := hide (fun i (hi : i < n) => hA1.out i (by rw [l1]; exact hi))
  replace hA2 := hide (fun i (hi : i < n) => hA2.out i (by rw [l2]; exact hi))
  replace l1 := hide l1
  replace l2 := hide l2
  replace hbn := hide hbn
  clear hlen2 M1 M2 M3 hL hn
  obtain ⟨rC0, rC1, rC2, rC3, rC4, rC5, rC6, rC7⟩ := kC.out.cells8
  have zC : bC < w10.heap.size := kC.out.lt
  go_wp2_with fail
  clear rC0 rC1 rC2 rC3 rC4 rC5 rC6 rC7 zC
  replace s1 := hide (show Sl w10 3 Weather.cells (.slice A1 n c1) (fv true) by have h := s1.out; rw [l1.out] at h; exact h)
  replace s2 := hide (show Sl w10 3 Weather.cells (.slice A2 n c2) (fv false) by have h := s2.out; rw [l2.out] at h; exact h)
  go_loopw [22, 23, 24, 25, 133] (fun _ _ _ _ i wr => ∃ k : Nat, k ≤ n ∧ i = I k ∧ Hid (Blk wr bC 25 #[I c.base, I c.lapse, I c.swing, I c.wettest, I c.coldest, I c.warmest, I c.flo, I c.fhi]) ∧ Hid (Sl wr 3 Weather.cells (.slice A1 n c1) (fv true)) ∧ Hid (Sl wr 3 Weather.cells (.slice A2 n c2) (fv false)) ∧ Hid (Below w.heap.size w wr)) (fun _ _ _ _ i _ => n - (intOf i).toNat)
  case atStart => exact ⟨0, Nat.zero_le _, rfl, kC, s1, s2, hide B10⟩
  case round =>
  obtain ⟨k, hk, rfl, hC9, hs1, hs2, hbw⟩ := hrel
  clear kC s1 s2 B10
  have kC := hC9
  have s1 := hs1
  have s2 := hs2
  have BR := hbw.out
  clear hC9 hs1 hs2 hbw
  by_cases hlt : k < n
  case neg =>
    obtain ⟨p1, p2⟩ := hall.out true
    obtain ⟨p3, p4⟩ := hall.out false
    have JA := J2.out (.slice A1 n c1) (fv true)
    have JB := J2.out (.slice A2 n c2) (fv false)
    rw [p1, p2] at JA
    rw [p3, p4] at JB
    replace JA := hide JA
    replace JB := hide JB
    clear p1 p2 p3 p4 hall hget J1 J2 J3
    obtain ⟨rC0, rC1, rC2, rC3, rC4, rC5, rC6, rC7⟩ := kC.out.cells8
    have zC := kC.out.lt
    go_wp2_with (go_at_call 40; first | (refine (JA.out wr BR s1.out).mono ?_; clear JA; rintro e wx ⟨rfl, hbx⟩; obtain ⟨tC0, tC1, tC2, tC3, tC4, tC5, tC6, tC7⟩ := (kC.out.grow hbx).cells8; have tC := (kC.out.grow hbx).lt) | (refine (JB.out wx (bup BR hbx) (s2.out.mono hbx)).mono ?_; rintro e wy ⟨rfl, hby⟩))
    go_ret
    exact ⟨rfl, bup (bup BR hbx) hby⟩
  case pos =>
  obtain ⟨hE, g1, g2⟩ := hget.out k hlt
  obtain ⟨b1, o1, rfl, hb1⟩ := hA1.out k hlt
  obtain ⟨b2, o2, rfl, hb2⟩ := hA2.out k hlt
  obtain ⟨X, hJX⟩ : ∃ X, X = gv (a + k) := ⟨_, rfl⟩
  have JX := J1.out (a + k)
  rw [hE, ← hJX] at JX
  rw [← hJX] at g1 g2
  clear hE hJX
  replace JX := hide JX
  have hak : 0 ≤ a + (k : Int) ∧ a + (k : Int) ≤ 1048576 := by have := hbn.out; omega
  obtain ⟨ha1, ha2⟩ := hak
  have k2 : IntKind.i64.wrap (a + (k : Int)) = a + (k : Int) := IntWalk.i64_in _ (by omega)
  have q1 : (0 : Int) ≤ (k : Int) := by omega
  have q2 : (k : Int) < (n : Int) := by omega
  replace g1 := hide g1
  replace g2 := hide g2
  clear hget hall hA1 hA2
  obtain ⟨rC0, rC1, rC2, rC3, rC4, rC5, rC6, rC7⟩ := kC.out.cells8
  have zC : bC < wr.heap.size := kC.out.lt
  go_wp2_with fail
  clear rC0 rC1 rC2 rC3 rC4 rC5 rC6 rC7 zC
  go_at_call 38
  refine (JX.out wr BR).mono ?_
  rintro e w11 ⟨rfl, hb⟩
  replace kC := hide (kC.out.grow hb)
  have B11 := bup BR hb
  replace s1 := hide (s1.out.mono hb)
  replace s2 := hide (s2.out.mono hb)
  clear hb BR
  go_upto_region 26 with fail
  obtain ⟨w12, hw12⟩ : ∃ w12, w12 = ((w11.alloc (.cells #[I X.tlo, I X.thi] 23)).alloc (.cells #[I X.rlo, I X.rhi] 23)) := ⟨_, rfl⟩
  have kT : Blk w12 (w11.heap.size) 23 #[I X.tlo, I X.thi] := by
    rw [hw12]
    refine Blk.alloc ?_ _
    have h := Blk.new w11 23 #[I X.tlo, I X.thi]
    first | exact h | simpa only [World.size_alloc] using h
  have kR : Blk w12 (w11.heap.size + 1) 23 #[I X.rlo, I X.rhi] := by
    rw [hw12]
    have h := Blk.new (w11.alloc (.cells #[I X.tlo, I X.thi] 23)) 23 #[I X.rlo, I X.rhi]
    first | exact h | simpa only [World.size_alloc] using h
  replace kC : Hid (Blk w12 bC 25 #[I c.base, I c.lapse, I c.swing, I c.wettest, I c.coldest, I c.warmest, I c.flo, I c.fhi]) := hide (by rw [hw12]; exact ((kC.out).alloc _).alloc _)
  have B12 : Below w.heap.size w w12 := by rw [hw12]; exact bup B11 (below2 _ _ _)
  replace s1 := hide (s1.out.mono (show Below w11.heap.size w11 w12 by rw [hw12]; exact below2 _ _ _))
  replace s2 := hide (s2.out.mono (show Below w11.heap.size w11 w12 by rw [hw12]; exact below2 _ _ _))
  rw [← hw12]
  clear hw12 B11
  obtain ⟨bR, hbR⟩ : ∃ b, w11.heap.size + 1 = b := ⟨_, rfl⟩
  rw [hbR] at kR ⊢
  obtain ⟨bT, hbT⟩ : ∃ b, w11.heap.size = b := ⟨_, rfl⟩
  rw [hbT] at kT ⊢
  replace kT := hide kT
  replace kR := hide kR
  clear hbT
  clear hbR
  obtain ⟨z1, e0, e1, e2⟩ := (show Sl w12 3 Weather.cells (.slice (some ⟨b1, o1, none⟩) (fv true).length c1) (fv true) by rw [l1.out]; exact s1.out).weather_at g1.out
  obtain ⟨z2, f0, f1, f2⟩ := (show Sl w12 3 Weather.cells (.slice (some ⟨b2, o2, none⟩) (fv false).length c2) (fv false) by rw [l2.out]; exact s2.out).weather_at g2.out
  simp only at e0 e1 e2 f0 f1 f2
  obtain ⟨rT0, rT1⟩ := kT.out.cells2
  have zT : bT < w12.heap.size := kT.out.lt
  obtain ⟨rR0, rR1⟩ := kR.out.cells2
  have zR : bR < w12.heap.size := kR.out.lt
  (refine wp_region_grow (by kernel_rfl) (by kernel_rfl) ?_; (repeat (first | go_big_quiet_skip | (go_big_quiet_want; go_big_quiet_op; first | go_big_quiet_on | (apply Exists.intro; refine ⟨fun _ => ?_, ?_⟩; (focus (fail)); go_big_quiet_on)))); refine wpQuiet_nil ?_; rintro W1 ⟨⟨_, hW1⟩, rfl⟩)
  go_wp2_with fail
  go_roundw
  case rel => exact ⟨k + 1, by omega, by go_num, hide (kC.out.grow hW1), hide (s1.out.mono hW1), hide (s2.out.mono hW1), hide (bup B12 hW1)⟩
  case measure => simp [intOf]; omega
end Go.Proofs.YtmjfdobjnnfafaaGreatDoor
