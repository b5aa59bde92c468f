/- The water of a cell on a morning, as the law reckons it. Conditions stand in the theorem. -/
import Derived.Test.YtmjfdobjnnfafaaGreatDoorOneCarry
import Derived.Test.YtmjfdobjnnfafaaGreatDoorGrow
import Derived.Test.YtmjfdobjnnfafaaGreatDoorRound
set_option linter.all false
namespace Go.Proofs.YtmjfdobjnnfafaaGreatDoor
open Go.RowKit

set_option maxRecDepth 100000 in
set_option maxHeartbeats 8000000 in
theorem law_water (c : Climate) (days : List Weather) (b : Basin) (vs vd vc vp : Value) (start : List Int) (f a d X : Int) (x : Cell) (j : Nat) (bS bF bD bC bB bT : Nat) (w : World)
    (hco : climateOk c = true) (hwe : ∀ y ∈ days, weatherOk c y = true) (hf : inB f 0 2000 = true) (hda : ∀ (i : Nat) y, days[i]? = some y → y.day = a + i) (ha : 0 ≤ a ∧ a ≤ 1048576) (hn : days.length ≤ 120) (hx : b.cells[j]? = some x) (hX : start[j]? = some X) (hh : heightB x.height = true)
    (hS : Sl w 1 intC vs start) (hD : Sl w 3 Weather.cells vd days) (hB : Sl w 4 Cell.cells vc b.cells)
    (kS : Blk w bS 59 #[vs]) (kF : Blk w bF 3 #[I a]) (kD : Blk w bD 26 #[vd]) (kC : Blk w bC 25 #[I c.base, I c.lapse, I c.swing, I c.wettest, I c.coldest, I c.warmest, I c.flo, I c.fhi]) (kB : Blk w bB 58 #[vc, vp, I b.gain, I b.slack, I b.deep]) (kT : Blk w bT 3 #[I f]) :
    Calls Tryz.prog 62 #[I j, I d, .pointer (some ⟨bS, 0, none⟩), .pointer (some ⟨bF, 0, none⟩), .pointer (some ⟨bD, 0, none⟩), .pointer (some ⟨bC, 0, none⟩), .pointer (some ⟨bB, 0, none⟩), .pointer (some ⟨bT, 0, none⟩)] w fun e w' => e = .returned (.tuple #[I (wV c x.height f X d a days), .bool (wOk X d a days.length)]) ∧ Below w.heap.size w w' := by
  obtain ⟨As, ns, rfl, _, _, hlenS, hAS⟩ := hS.open_
  have hjS := (List.getElem?_eq_some_iff.1 hX).1
  obtain ⟨gs, os, rfl, hgs⟩ := hAS j hjS
  obtain ⟨zs, es⟩ := hS.int_at hX
  obtain ⟨Ac, nc, rfl, _, _, hlenC, hAC⟩ := hB.open_
  have hjC := (List.getElem?_eq_some_iff.1 hx).1
  obtain ⟨gc, oc, rfl, hgc⟩ := hAC j hjC
  obtain ⟨zc, _, eh, _, _⟩ := hB.cell_at hx
  obtain ⟨Ad, nd, rfl, _, _, hlenD, hAD⟩ := hD.open_
  have u1 : (0 : Int) ≤ (j : Int) := by omega
  have u2 : (j : Int) < (start.length : Int) := by omega
  have u3 : (j : Int) < (b.cells.length : Int) := by omega
  have u4 : IntKind.i64.wrap (a + (days.length : Int)) = a + (days.length : Int) := IntWalk.i64_in _ (by omega)
  have JN := fun (y : Weather) (Z : Int) (h2 : weatherOk c y = true) (h5 : 0 ≤ Z) (h6 : Z ≤ 1000000000000) w => law_next c y x.height f Z w hco h2 hh hf h5 h6
  have HS := fun (y : Weather) (Z : Int) (h2 : weatherOk c y = true) (h5 : 0 ≤ Z) => (show 0 ≤ stepF c x.height f Z y ∧ stepF c x.height f Z y ≤ Z + 1000 from by
    have hco := ClimOk.of hco
    have hxo := WeaOk.of h2
    have m2 := (meltF_bd hco (hxo.t600 hco) (heightB_bd hh) (inB_true.1 hf)).2.1
    have f4 : 0 ≤ (fallF c y x.height).1 ∧ (fallF c y x.height).1 ≤ 1000 := by
      have hr := hxo.rain
      have hw := hco.wettest
      unfold fallF
      split <;> simp <;> omega
    unfold stepF
    omega)
  have HQ := fun (h : wOk X d a days.length = true) => wOk_parts h
  have HR : wV c x.height f X d a days = if wOk X d a days.length then (days.take (d - a).toNat).foldl (stepF c x.height f) X else X := rfl
  have H1 := fun (k : Nat) (y : Weather) (hy : days[k]? = some y) => stepc_snoc (c := c) (h := x.height) (f := f) (X := X) hy
  obtain ⟨R, hR⟩ : ∃ R, wV c x.height f X d a days = R := ⟨_, rfl⟩
  rw [hR] at HR ⊢
  have hQ2 : wOk X d a days.length = (decide (0 ≤ X) && decide (X ≤ 65536) && (decide (a ≤ d) && decide (d ≤ a + days.length))) := by
    unfold wOk inB
    simp only [Bool.decide_and]
  obtain ⟨q, hq⟩ : ∃ q, wOk X d a days.length = q := ⟨_, rfl⟩
  rw [hq] at HR HQ hQ2 ⊢
  obtain ⟨c0, c1, c2, c3, c4, c5, c6, c7⟩ := kC.cells8
  have s0 := kS.cell 0
  have f0 := kF.cell 0
  have d0 := kD.cell 0
  have b0 := kB.cell 0
  have t0 := kT.cell 0
  have zS := kS.lt
  have zF := kF.lt
  have zD := kD.lt
  have zC := kC.lt
  have zB := kB.lt
  have zT := kT.lt
  (try unfold Climate.v at *)
  (try unfold Weather.v at *)
  clear hR hq hAS hAC hlenS hlenC hgs hgc hjC hjS
  replace kS := hide kS
  replace kF := hide kF
  replace kD := hide kD
  replace kC := hide kC
  replace kB := hide kB
  replace kT := hide kT
  replace JN := hide JN
  replace HS := hide HS
  replace HQ := hide HQ
  replace HR := hide HR
  replace H1 := hide H1
  replace hQ2 := hide hQ2
  replace hS := hide hS
  replace hD := hide hD
  replace hB := hide hB
  replace hAD := hide hAD
  replace hwe := hide hwe
  replace hda := hide hda
  replace hx := hide hx
  replace hX := hide hX
  replace hco := hide hco
  replace hf := hide hf
  replace hh := hide hh
  simp at s0 f0 d0 b0 t0
  go_enter Tryz.func62, Tryz.ntmps62
  go_upto_region 1 with fail
  go_cut [12, 13] (fun x_ o_ w_ => x_ = I X ∧ o_ = .bool q ∧ Hid (Below w.heap.size w w_))
  case first =>
    rcases ilt X 0 with g1 | g1
    · have q1 : decide (0 ≤ X) = false := decide_eq_false (by omega)
      have hqf : q = false := by rw [hQ2.out]; simp; omega
      subst hqf
      (refine wp_region_grow (by kernel_rfl) (by kernel_rfl) ?_; (repeat (first | go_big_quiet_skip | (go_big_quiet_want; go_big_quiet_op; first | go_big_quiet_on | (apply Exists.intro; refine ⟨fun _ => ?_, ?_⟩; (focus (fail)); go_big_quiet_on)))); refine wpQuiet_nil ?_; rintro W1 ⟨⟨_, hW1⟩, rfl⟩)
      go_wp2_with fail
      go_meet
      exact ⟨rfl, rfl, hide hW1⟩
    have q1 : decide (0 ≤ X) = true := decide_eq_true g1
    rcases ilt 65536 X with g2 | g2
    · have q2 : decide (X ≤ 65536) = false := decide_eq_false (by omega)
      have hqf : q = false := by rw [hQ2.out]; simp; omega
      subst hqf
      (refine wp_region_grow (by kernel_rfl) (by kernel_rfl) ?_; (repeat (first | go_big_quiet_skip | (go_big_quiet_want; go_big_quiet_op; first | go_big_quiet_on | (apply Exists.intro; refine ⟨fun _ => ?_, ?_⟩; (focus (fail)); go_big_quiet_on)))); refine wpQuiet_nil ?_; rintro W1 ⟨⟨_, hW1⟩, rfl⟩)
      go_wp2_with fail
      go_meet
      exact ⟨rfl, rfl, hide hW1⟩
    have q2 : decide (X ≤ 65536) = true := decide_eq_true g2
    rcases ilt d a with g3 | g3
    · have q3 : decide (a ≤ d) = false := decide_eq_false (by omega)
      have hqf : q = false := by rw [hQ2.out]; simp; omega
      subst hqf
      (refine wp_region_grow (by kernel_rfl) (by kernel_rfl) ?_; (repeat (first | go_big_quiet_skip | (go_big_quiet_want; go_big_quiet_op; first | go_big_quiet_on | (apply Exists.intro; refine ⟨fun _ => ?_, ?_⟩; (focus (fail)); go_big_quiet_on)))); refine wpQuiet_nil ?_; rintro W1 ⟨⟨_, hW1⟩, rfl⟩)
      go_wp2_with fail
      go_meet
      exact ⟨rfl, rfl, hide hW1⟩
    have q3 : decide (a ≤ d) = true := decide_eq_true g3
    rcases ilt (a + days.length) d with g4 | g4
    · have q4 : decide (d ≤ a + days.length) = false := decide_eq_false (by omega)
      have hqf : q = false := by rw [hQ2.out]; simp; omega
      subst hqf
      (refine wp_region_grow (by kernel_rfl) (by kernel_rfl) ?_; (repeat (first | go_big_quiet_skip | (go_big_quiet_want; go_big_quiet_op; first | go_big_quiet_on | (apply Exists.intro; refine ⟨fun _ => ?_, ?_⟩; (focus (fail)); go_big_quiet_on)))); refine wpQuiet_nil ?_; rintro W1 ⟨⟨_, hW1⟩, rfl⟩)
      go_wp2_with fail
      go_meet
      exact ⟨rfl, rfl, hide hW1⟩
    · have q4 : decide (d ≤ a + days.length) = true := decide_eq_true g4
      have hqf : q = true := by rw [hQ2.out]; simp; omega
      subst hqf
      (refine wp_region_grow (by kernel_rfl) (by kernel_rfl) ?_; (repeat (first | go_big_quiet_skip | (go_big_quiet_want; go_big_quiet_op; first | go_big_quiet_on | (apply Exists.intro; refine ⟨fun _ => ?_, ?_⟩; (focus (fail)); go_big_quiet_on)))); refine wpQuiet_nil ?_; rintro W1 ⟨⟨_, hW1⟩, rfl⟩)
      go_wp2_with fail
      go_meet
      exact ⟨rfl, rfl, hide hW1⟩
  case rest =>
  obtain ⟨rfl, rfl, hbw⟩ := hcut
  clear c0 c1 c2 c3 c4 c5 c6 c7 s0 f0 d0 b0 t0
  have d0 : wc.cell? ⟨bD, 0, none⟩ = some (.slice Ad days.length nd) := (kD.out.grow hbw.out).cell 0
  have zD2 := (kD.out.grow hbw.out).lt
  go_wp2_with fail
  clear d0
  go_loopw [12, 13, 15, 47] (fun x_ o_ _ i wr => ∃ (k : Nat) (Z : Int), k ≤ days.length ∧ i = I k ∧ x_ = I Z ∧ o_ = .bool q ∧ Hid (Z = if q then (days.take (min k (d - a).toNat)).foldl (stepF c x.height f) X else X) ∧ Hid (q = true → 0 ≤ Z ∧ Z ≤ 65536 + 1000 * k) ∧ Hid (Below w.heap.size w wr)) (fun _ _ _ i _ => days.length - (intOf i).toNat)
  case atStart => exact ⟨0, X, Nat.zero_le _, rfl, rfl, rfl, hide (by cases q <;> simp), hide (fun h => by have := (HQ.out h).1; omega), hbw⟩
  case round =>
    clear hbw
    obtain ⟨k, Z, hk, rfl, rfl, rfl, hZ, hbd, hbw⟩ := hrel
    by_cases hlt : k < days.length
    · obtain ⟨y, hy⟩ := getElem?_of_lt hlt
      obtain ⟨gd, od, rfl, hgd⟩ := hAD.out k hlt
      obtain ⟨zy, e0, e1, e2⟩ := (hD.out.mono hbw.out).weather_at hy
      have hyd := hide (hda.out k y hy)
      have hsn := hide (H1.out k y hy)
      have hwy := hide (hwe.out y (List.mem_of_getElem? hy))
      replace hy := hide hy
      rcases ilt y.day d with g | g
      · cases q with
        | false =>
          go_wp2_with fail
          go_roundw
          case rel => exact ⟨k + 1, Z, by omega, by go_num, rfl, rfl, hide (by have := hZ.out; simpa using this), hide (fun h => by cases h), hide (bup hbw.out (below1 _ _))⟩
          case measure => simp [intOf]; omega
        | true =>
          have hz := hbd.out rfl
          have hs := HS.out y Z hwy.out hz.1
          have JX := JN.out y Z hwy.out hz.1 (by omega)
          obtain ⟨Z2, hZ2⟩ : ∃ Z2, stepF c x.height f Z y = Z2 := ⟨_, rfl⟩
          rw [hZ2] at JX hs
          replace hZ2 := hide hZ2
          replace JX := hide JX
          go_upto_region 6 with fail
          obtain ⟨w5, hw5⟩ : ∃ w5, w5 = wr.alloc (.cells #[I y.day, I y.temp, I y.rain] 36) := ⟨_, rfl⟩
          have hb5 : Below w.heap.size w w5 := by rw [hw5]; exact bup hbw.out (below1 _ _)
          have kY : Blk w5 wr.heap.size 36 #[I y.day, I y.temp, I y.rain] := by rw [hw5]; exact Blk.new _ _ _
          rw [← hw5]
          clear hw5
          obtain ⟨bY, hbY⟩ : ∃ b, wr.heap.size = b := ⟨_, rfl⟩
          rw [hbY] at kY ⊢
          clear hbY e0 e1 e2 zy
          obtain ⟨c0, c1, c2, c3, c4, c5, c6, c7⟩ := (kC.out.grow hb5).cells8
          obtain ⟨y0, y1, y2⟩ := kY.cells3
          have zY := kY.lt
          have b0 := (kB.out.grow hb5).cell 0
          have t0 := (kT.out.grow hb5).cell 0
          obtain ⟨zc5, _, eh5, _, _⟩ := (hB.out.mono hb5).cell_at hx.out
          have zC5 := (kC.out.grow hb5).lt
          have zB5 := (kB.out.grow hb5).lt
          have zT5 := (kT.out.grow hb5).lt
          simp at b0 t0
          replace kY := hide kY
          replace hb5 := hide hb5
          (refine wp_region_grow (by kernel_rfl) (by kernel_rfl) ?_; (repeat (first | go_big_quiet_skip | (go_big_quiet_want; go_big_quiet_op; first | go_big_quiet_on | (apply Exists.intro; refine ⟨fun _ => ?_, ?_⟩; (focus ((go_at_call 53; exact calls_grew (JX.out _)))); go_big_quiet_on)))); refine wpQuiet_nil ?_; rintro W1 ⟨⟨_, hW1⟩, rfl⟩)
          go_wp2_with fail
          go_roundw
          case rel =>
            refine ⟨k + 1, Z2, by omega, by go_num, rfl, rfl, hide ?_, hide (fun _ => ⟨hs.1, by push_cast; omega⟩), hide (bup hb5.out hW1)⟩
            have h1 := hyd.out
            have h2 := hsn.out
            have h3 := hZ.out
            have h4 : min k (d - a).toNat = k := by omega
            have h5 : min (k + 1) (d - a).toNat = k + 1 := by omega
            rw [if_pos rfl, h4] at h3
            rw [h5, h2, ← h3]
            exact hZ2.out.symm
          case measure => simp [intOf]; omega
      · have hr : Hid (Z = if q then (days.take (min (k + 1) (d - a).toNat)).foldl (stepF c x.height f) X else X) := hide (by
          have h3 := hZ.out
          have h1 := hyd.out
          rw [h3]
          rw [show min (k + 1) (d - a).toNat = min k (d - a).toNat by omega])
        go_wp2_with fail
        go_roundw
        case rel => exact ⟨k + 1, Z, by omega, by go_num, rfl, rfl, hr, hide (fun h => by have := hbd.out h; push_cast; omega), hide (bup hbw.out (below1 _ _))⟩
        case measure => simp [intOf]; omega
    · have he : k = days.length := by omega
      subst he
      have hZR : Z = R := by
        have h3 := hZ.out
        rw [h3, HR.out]
        cases q with
        | false => rfl
        | true =>
          have h5 := HQ.out rfl
          rw [if_pos rfl, if_pos rfl, show min days.length (d - a).toNat = (d - a).toNat by omega]
      subst hZR
      go_wp2_with fail
      go_ret2
      exact ⟨rfl, hbw.out⟩
end Go.Proofs.YtmjfdobjnnfafaaGreatDoor
