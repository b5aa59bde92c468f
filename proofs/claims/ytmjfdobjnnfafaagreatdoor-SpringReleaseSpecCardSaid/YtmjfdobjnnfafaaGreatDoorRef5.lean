/- The reference's Start, End and Release. Conditions stand in the theorems. -/
import Derived.Test.YtmjfdobjnnfafaaGreatDoorSpring9Pack
import Derived.Test.YtmjfdobjnnfafaaGreatDoorRef4
set_option linter.all false
namespace Go.Proofs.YtmjfdobjnnfafaaGreatDoor
open Go.RowKit

theorem within_is {n lo hi : Int} {b : Bool} (h : inB n lo hi = b) (w : World) : Calls Tryz.prog 89 #[I n, I lo, I hi] w fun e w' => e = .returned (.bool b) ∧ w = w' := h ▸ ref_within n lo hi w
theorem ref_Start (no : Int) (v : Value) (l : List Weather) (w : World) (h0 : 0 < l.length) (hv : Sl w 3 Weather.cells v l) : Calls Tryz.prog 119 #[.agg #[I no, v]] w fun e w' => e = .returned (I (beginF ⟨no, l⟩)) ∧ Below w.heap.size w w' := by
  obtain ⟨x, hx⟩ := getElem?_of_lt h0
  have hd : beginF ⟨no, l⟩ = x.day := by simp only [beginF]; rw [getD_of hx]
  rw [hd]
  obtain ⟨A, n, rfl, _, _, hlen, hA⟩ := hv.open_
  obtain ⟨b, off, rfl, hbw⟩ := hA 0 h0
  obtain ⟨_, e0, _, _⟩ := hv.weather_at hx
  rw [Nat.zero_mul, Nat.add_zero] at e0
  clear hA hv hx hd
  go_enter Tryz.func119, Tryz.ntmps119
  go_wp2_with fail
  go_ret
  exact ⟨rfl, below1 _ _⟩
set_option maxRecDepth 100000 in
theorem ref_End (no : Int) (v : Value) (l : List Weather) (w : World) (h0 : 0 < l.length) (hb : 0 ≤ beginF ⟨no, l⟩ ∧ beginF ⟨no, l⟩ ≤ 1048576) (hn : l.length ≤ 512) (hv : Sl w 3 Weather.cells v l) : Calls Tryz.prog 120 #[.agg #[I no, v]] w fun e w' => e = .returned (I (endF ⟨no, l⟩)) ∧ Below w.heap.size w w' := by
  obtain ⟨x, hx⟩ := getElem?_of_lt h0
  have hd : beginF ⟨no, l⟩ = x.day := by simp only [beginF]; rw [getD_of hx]
  have hE : endF ⟨no, l⟩ = x.day + l.length := by rw [← hd]; rfl
  rw [hd] at hb
  rw [hE]
  obtain ⟨b1, b2⟩ := hb
  have k1 : IntKind.i64.wrap (x.day + (l.length : Int)) = x.day + (l.length : Int) := IntWalk.i64_in _ (by omega)
  obtain ⟨A, n, rfl, _, _, hlen, hA⟩ := hv.open_
  obtain ⟨b, off, rfl, hbw⟩ := hA 0 h0
  obtain ⟨_, e0, _, _⟩ := hv.weather_at hx
  rw [Nat.zero_mul, Nat.add_zero] at e0
  clear hA hv hx hd hE
  go_enter Tryz.func120, Tryz.ntmps120
  go_wp2_with fail
  (refine wp_region_grow (by kernel_rfl) (by kernel_rfl) ?_; (repeat (first | go_big_quiet_skip | (go_big_quiet_want; go_big_quiet_op; first | go_big_quiet_on | (apply Exists.intro; refine ⟨fun _ => ?_, ?_⟩; (focus (fail)); go_big_quiet_on)))); refine wpQuiet_nil ?_; rintro W1 ⟨⟨_, hW1⟩, rfl⟩)
  go_wp2_with fail
  go_ret
  exact ⟨rfl, bup (below1 _ _) hW1⟩

set_option maxRecDepth 100000 in
set_option maxHeartbeats 4000000 in
theorem ref_release (c : Climate) (no : Int) (v : Value) (l : List Weather) (h W f e : Int) (w : World) (hc : ClimOk c) (hl : ∀ x ∈ l, WeaOk c x) (hn : l.length ≤ 512) (hh : 0 ≤ h ∧ h ≤ 9000) (hf : 0 ≤ f ∧ f ≤ 2000) (hW : 0 ≤ W ∧ W ≤ 1000000000) (hv : Sl w 3 Weather.cells v l) :
    Calls Tryz.prog 121 #[c.v, .agg #[I no, v], I h, I W, I f, I e] w fun en w' => en = .returned (.tuple #[I (relF c h f e l (0, W)).1, I (relF c h f e l (0, W)).2]) ∧ Below w.heap.size w w' := by
  obtain ⟨A, n, rfl, _, _, hlen, hA⟩ := hv.open_
  replace hv := hide hv
  replace hA := hide hA
  replace hl := hide hl
  have HF := hide (fun x (hx : WeaOk c x) w => ref_falls c x h w hc (hx.t600 hc) hh)
  have HM := hide (fun x (hx : WeaOk c x) w => ref_melts c x h f w hc (hx.t600 hc) hh hf)
  have HB := hide (fun x (hx : WeaOk c x) => (meltF_bd (f := f) hc (hx.t600 hc) hh hf).2)
  have hwet := hc.wettest
  obtain ⟨R, hR⟩ : ∃ R, relF c h f e l (0, W) = R := ⟨_, rfl⟩
  rw [hR]
  replace hR := hide hR
  unfold Climate.v Weather.v at *
  go_enter Tryz.func121, Tryz.ntmps121
  go_wp2_with fail
  obtain ⟨W0, hW0⟩ : ∃ W0, W0 = (w.alloc (.cells #[I c.base, I c.lapse, I c.swing, I c.wettest, I c.coldest, I c.warmest, I c.flo, I c.fhi] 25)).alloc (.cells #[I no, .slice A l.length n] 28) := ⟨_, rfl⟩
  have hK : ClimAt c w.heap.size W0 := by rw [hW0]; exact (ClimAt.new _ _ _).grow (below1 _ _)
  have hS := hide (show Blk W0 (w.heap.size + 1) 28 #[I no, .slice A l.length n] by rw [hW0]; exact blk21 w 28 #[I no, .slice A l.length n] (.cells #[I c.base, I c.lapse, I c.swing, I c.wettest, I c.coldest, I c.warmest, I c.flo, I c.fhi] 25))
  have hbl : Below w.heap.size w W0 := by rw [hW0]; exact below2 _ _ _
  rw [← hW0]
  clear hW0
  go_loopw [14, 15, 16] (fun wa ca i wr => ∃ (k : Nat) (a b : Int), k ≤ l.length ∧ i = I k ∧ ca = I a ∧ wa = I b ∧ 0 ≤ a ∧ 0 ≤ b ∧ a + b ≤ W + 1000 * k ∧ Hid (relF c h f e (l.drop k) (a, b) = R) ∧ Below W0.heap.size W0 wr) (fun _ _ i _ => l.length - (intOf i).toNat)
  case atStart => exact ⟨0, 0, W, Nat.zero_le _, rfl, rfl, rfl, by omega, by omega, by omega, by simpa using hR, Below.refl _ _⟩
  case round =>
    obtain ⟨k, a, b, hk, rfl, rfl, rfl, ha, hb, hab, hr, hbw⟩ := hrel
    clear hR
    obtain ⟨zS, s0, s1, _, _⟩ := blk_box (hS.out.grow hbw)
    by_cases hlt : k < l.length
    · obtain ⟨g, off, rfl, hgw⟩ := hA.out k hlt
      obtain ⟨x, hx⟩ := getElem?_of_lt hlt
      have hxo := hl.out x (List.mem_of_getElem? hx)
      have hdr := drop_at hx
      obtain ⟨hgx, e0, e1, e2⟩ := ((unhide hv).mono (bup hbl hbw)).weather_at hx
      obtain ⟨hgc, q0, q1, q2, q3, q4, q5, q6, q7⟩ := hK.grow hbw
      have H1 := HF.out x hxo
      have H2 := HM.out x hxo
      obtain ⟨m1, m2⟩ := HB.out x hxo
      obtain ⟨⟨f1, f2⟩, f3⟩ := fall_sum (c := c) (h := h) hxo.rain.1
      have hra := hxo.rain.2
      rcases ilt x.day e with hd | hd
      · have hs := hr.out
        rw [hdr, relF_go hd] at hs
        replace hs := hide hs
        obtain ⟨sn, hsn⟩ : ∃ sn, (fallF c x h).1 = sn := ⟨_, rfl⟩
        obtain ⟨ra, hra2⟩ : ∃ ra, (fallF c x h).2 = ra := ⟨_, rfl⟩
        obtain ⟨me, hme⟩ : ∃ me, meltF c x h f = me := ⟨_, rfl⟩
        simp only [hsn, hra2, hme] at H1 H2 hs m1 m2 f1 f2 f3
        replace H1 := hide H1
        replace H2 := hide H2
        replace hxo := hide hxo
        have f4 : sn + ra ≤ 1000 := by omega
        clear hsn hra2 hme f3 hA hl hv hdr hx hr HF HM HB hra
        obtain ⟨y, hy⟩ : ∃ y, max 0 (b + sn - me) = y := ⟨_, rfl⟩
        rw [hy] at hs
        have hy1 : 0 ≤ y ∧ y ≤ b + sn := by omega
        obtain ⟨y1, y2⟩ := hy1
        rcases ilt 0 (b + sn - me) with hp | hp
        · have hy2 : b + sn - me = y := by omega
          replace hy := hide hy
          replace hy2 := hide hy2
          go_wp2_with (first | (go_at_call 103; refine (H1.out _).mono ?_; clear H1; rintro e w1 ⟨rfl, hb1⟩; have hc1 := fun o => (bcell hb1).1 w.heap.size o (by simp <;> omega); have hc2 := fun o => (bcell hb1).1 wr.heap.size o (by simp <;> omega); have hz1 := hb1.size; simp at hz1) | (go_at_call 105; refine (H2.out _).mono ?_; clear H2; rintro e w2 ⟨rfl, hb2⟩))
          rw [hy2.out]
          go_wp2_with fail
          go_roundw
          case rel => exact ⟨k + 1, a + (ra + b + sn - y), y, by omega, by go_num, by go_num, rfl, by omega, by omega, by push_cast; omega, hs, bup (bup (bup hbw (below1 _ _)) hb1) hb2⟩
          case measure => simp [intOf]; omega
        · have hy2 : y = 0 := by omega
          subst hy2
          replace hy := hide hy
          go_wp2_with (first | (go_at_call 103; refine (H1.out _).mono ?_; clear H1; rintro e w1 ⟨rfl, hb1⟩; have hc1 := fun o => (bcell hb1).1 w.heap.size o (by simp <;> omega); have hc2 := fun o => (bcell hb1).1 wr.heap.size o (by simp <;> omega); have hz1 := hb1.size; simp at hz1) | (go_at_call 105; refine (H2.out _).mono ?_; clear H2; rintro e w2 ⟨rfl, hb2⟩))
          go_wp2_with fail
          go_roundw
          case rel => exact ⟨k + 1, a + (ra + b + sn - 0), 0, by omega, by go_num, by simp, rfl, by omega, by omega, by push_cast; omega, hs, bup (bup (bup hbw (below1 _ _)) hb1) hb2⟩
          case measure => simp [intOf]; omega
      · have hs := hr.out
        rw [hdr, relF_stop hd] at hs
        subst hs
        clear hA hl hv hdr hx hr HF HM HB H1 H2
        go_wp2_with fail
        go_ret2
        exact ⟨rfl, bup hbl (bup hbw (below1 _ _))⟩
    · have he : k = l.length := by omega
      subst he
      have hs := hr.out
      rw [List.drop_length] at hs
      simp only [relF] at hs
      subst hs
      clear hA hl hv hr HF HM HB
      go_wp2_with fail
      go_ret2
      exact ⟨rfl, bup hbl hbw⟩

set_option maxRecDepth 100000 in
set_option maxHeartbeats 4000000 in
theorem ref_Release (c : Climate) (no : Int) (v : Value) (l : List Weather) (h W f d : Int) (w : World) (hv : Sl w 3 Weather.cells v l) :
    Calls Tryz.prog 46 #[c.v, .agg #[I no, v], I h, I W, I f, I d] w fun en w' => en = .returned (.tuple #[I (relV c ⟨no, l⟩ h W f d).1, I (relV c ⟨no, l⟩ h W f d).2, I (relE c ⟨no, l⟩ h W f d)]) ∧ Below w.heap.size w w' := by
  obtain ⟨A, nl, rfl, _⟩ := hv.open_
  have H1 := fun w => ref_CheckClimate c w
  have H2 := fun w hv => ref_CheckSpring c no (.slice A l.length nl) l w hv
  rcases bcase (climateOk c) with h1 | h1
  · have hR : relE c ⟨no, l⟩ h W f d = 61 := by simp [relE, springE, h1]
    have hV : relV c ⟨no, l⟩ h W f d = (0, 0) := by simp [relV, hR]
    rw [hR, hV]
    rw [show climateE c = 61 by simp [climateE, h1]] at H1
    clear hR hV h1 H2 hv
    unfold Climate.v at *
    replace H1 := hide H1
    go_enter Tryz.func46, Tryz.ntmps46
    go_wp2_with (first | (go_at_call 24; refine (H1.out _).mono ?_; clear H1; rintro e w1 ⟨rfl, hb1⟩; have hc1 := fun o => (bcell hb1).1 w.heap.size o (by simp <;> omega); have hc2 := fun o => (bcell hb1).1 (w.heap.size + 1) o (by simp <;> omega)))
    go_ret3
    exact ⟨rfl, bup (below2 _ _ _) hb1⟩
  · rw [show climateE c = 0 by simp [climateE, h1]] at H1
    by_cases hE : springE c ⟨no, l⟩ = 0
    · have hs := SprOk.of hE
      rw [hE] at H2
      have hR : relE c ⟨no, l⟩ h W f d = askedE c [heightB h, inB W 0 65536, inB f 0 2000, inB d (beginF ⟨no, l⟩) (endF ⟨no, l⟩)] := by simp [relE, hE]
      have HB := fun w hv => ref_Start no (.slice A l.length nl) l w hs.n1 hv
      have HN := fun w hv => ref_End no (.slice A l.length nl) l w hs.n1 hs.beg hs.n2 hv
      obtain ⟨bg, hbg⟩ : ∃ bg, beginF ⟨no, l⟩ = bg := ⟨_, rfl⟩
      obtain ⟨en, hen⟩ : ∃ en, endF ⟨no, l⟩ = en := ⟨_, rfl⟩
      rw [hbg] at HB
      rw [hen] at HN
      rw [hbg, hen] at hR
      have hbad : (heightB h && inB W 0 65536 && inB f 0 2000 && inB d bg en) = false → relE c ⟨no, l⟩ h W f d = 1 ∧ relV c ⟨no, l⟩ h W f d = (0, 0) := fun hb => by
        have h8 : relE c ⟨no, l⟩ h W f d = 1 := by
          rw [hR]
          unfold askedE
          rw [if_neg (by simp [h1]), if_pos]
          cases hq1 : heightB h <;> cases hq2 : inB W 0 65536 <;> cases hq3 : inB f 0 2000 <;> cases hq4 : inB d bg en <;> simp [hq1, hq2, hq3, hq4] at hb ⊢
        exact ⟨h8, by simp [relV, h8]⟩
      rcases bcase (heightB h) with g1 | g1
      · obtain ⟨hR8, hV8⟩ := hbad (by rw [g1]; simp)
        rw [hR8, hV8]
        clear hR8 hV8 hbad hE hR hbg hen hs h1
        replace g1 : inB h 0 9000 = _ := g1
        unfold Climate.v at *
        replace hv := hide hv
        replace H1 := hide H1
        replace H2 := hide H2
        replace HB := hide HB
        replace HN := hide HN
        go_enter Tryz.func46, Tryz.ntmps46
        go_wp2_with (first | (go_at_call 24; refine (H1.out _).mono ?_; clear H1; rintro e w1 ⟨rfl, hb1⟩; have hc1 := fun o => (bcell hb1).1 w.heap.size o (by simp <;> omega); have hc2 := fun o => (bcell hb1).1 (w.heap.size + 1) o (by simp <;> omega)) | (go_at_call 28; refine (H2.out _ (hv.out.mono (bup (below2 _ _ _) hb1))).mono ?_; clear H2; rintro e w2 ⟨rfl, hb2⟩))
        have B2 := bup (bup (below2 _ _ _) hb1) hb2
        have kS := ((blk21 w 28 #[I no, .slice A l.length nl] (.cells #[I c.base, I c.lapse, I c.swing, I c.wettest, I c.coldest, I c.warmest, I c.flo, I c.fhi] 25)).grow hb1).grow hb2
        have kC := ((ClimAt.new c w 25).grow (below1 _ (.cells #[I no, .slice A l.length nl] 28))).grow (bup (Below.refl _ _) hb1)
        have kC2 := kC.grow hb2
        clear kC hb1 hb2 hc1 hc2
        obtain ⟨z1, q0, q1, q2, q3, q4, q5, q6, q7⟩ := kC2
        obtain ⟨z2, s0, s1, _, _⟩ := blk_box kS
        clear kS
        (refine wp_region_grow (by kernel_rfl) (by kernel_rfl) ?_; (repeat (first | go_big_quiet_skip | (go_big_quiet_want; go_big_quiet_op; first | go_big_quiet_on | (apply Exists.intro; refine ⟨fun _ => ?_, ?_⟩; (focus ((first | (go_at_call 89; exact calls_grew_same (within_is (by assumption) _)) | (go_at_call 119; exact calls_grew (HB.out _ (hv.out.mono (bup B2 (Grew.below _))))) | (go_at_call 120; exact calls_grew (HN.out _ (hv.out.mono (bup B2 (Grew.below _)))))))); go_big_quiet_on)))); refine wpQuiet_nil ?_; rintro W1 ⟨⟨_, hW1⟩, rfl⟩)
        go_wp2_with fail
        go_ret3
        exact ⟨rfl, bup B2 hW1⟩
      · skip
        rcases bcase (inB W 0 65536) with g2 | g2
        · obtain ⟨hR8, hV8⟩ := hbad (by rw [g1, g2]; simp)
          rw [hR8, hV8]
          clear hR8 hV8 hbad hE hR hbg hen hs h1
          replace g1 : inB h 0 9000 = _ := g1
          unfold Climate.v at *
          replace hv := hide hv
          replace H1 := hide H1
          replace H2 := hide H2
          replace HB := hide HB
          replace HN := hide HN
          go_enter Tryz.func46, Tryz.ntmps46
          go_wp2_with (first | (go_at_call 24; refine (H1.out _).mono ?_; clear H1; rintro e w1 ⟨rfl, hb1⟩; have hc1 := fun o => (bcell hb1).1 w.heap.size o (by simp <;> omega); have hc2 := fun o => (bcell hb1).1 (w.heap.size + 1) o (by simp <;> omega)) | (go_at_call 28; refine (H2.out _ (hv.out.mono (bup (below2 _ _ _) hb1))).mono ?_; clear H2; rintro e w2 ⟨rfl, hb2⟩))
          have B2 := bup (bup (below2 _ _ _) hb1) hb2
          have kS := ((blk21 w 28 #[I no, .slice A l.length nl] (.cells #[I c.base, I c.lapse, I c.swing, I c.wettest, I c.coldest, I c.warmest, I c.flo, I c.fhi] 25)).grow hb1).grow hb2
          have kC := ((ClimAt.new c w 25).grow (below1 _ (.cells #[I no, .slice A l.length nl] 28))).grow (bup (Below.refl _ _) hb1)
          have kC2 := kC.grow hb2
          clear kC hb1 hb2 hc1 hc2
          obtain ⟨z1, q0, q1, q2, q3, q4, q5, q6, q7⟩ := kC2
          obtain ⟨z2, s0, s1, _, _⟩ := blk_box kS
          clear kS
          (refine wp_region_grow (by kernel_rfl) (by kernel_rfl) ?_; (repeat (first | go_big_quiet_skip | (go_big_quiet_want; go_big_quiet_op; first | go_big_quiet_on | (apply Exists.intro; refine ⟨fun _ => ?_, ?_⟩; (focus ((first | (go_at_call 89; exact calls_grew_same (within_is (by assumption) _)) | (go_at_call 119; exact calls_grew (HB.out _ (hv.out.mono (bup B2 (Grew.below _))))) | (go_at_call 120; exact calls_grew (HN.out _ (hv.out.mono (bup B2 (Grew.below _)))))))); go_big_quiet_on)))); refine wpQuiet_nil ?_; rintro W1 ⟨⟨_, hW1⟩, rfl⟩)
          go_wp2_with fail
          go_ret3
          exact ⟨rfl, bup B2 hW1⟩
        · skip
          rcases bcase (inB f 0 2000) with g3 | g3
          · obtain ⟨hR8, hV8⟩ := hbad (by rw [g1, g2, g3]; simp)
            rw [hR8, hV8]
            clear hR8 hV8 hbad hE hR hbg hen hs h1
            replace g1 : inB h 0 9000 = _ := g1
            unfold Climate.v at *
            replace hv := hide hv
            replace H1 := hide H1
            replace H2 := hide H2
            replace HB := hide HB
            replace HN := hide HN
            go_enter Tryz.func46, Tryz.ntmps46
            go_wp2_with (first | (go_at_call 24; refine (H1.out _).mono ?_; clear H1; rintro e w1 ⟨rfl, hb1⟩; have hc1 := fun o => (bcell hb1).1 w.heap.size o (by simp <;> omega); have hc2 := fun o => (bcell hb1).1 (w.heap.size + 1) o (by simp <;> omega)) | (go_at_call 28; refine (H2.out _ (hv.out.mono (bup (below2 _ _ _) hb1))).mono ?_; clear H2; rintro e w2 ⟨rfl, hb2⟩))
            have B2 := bup (bup (below2 _ _ _) hb1) hb2
            have kS := ((blk21 w 28 #[I no, .slice A l.length nl] (.cells #[I c.base, I c.lapse, I c.swing, I c.wettest, I c.coldest, I c.warmest, I c.flo, I c.fhi] 25)).grow hb1).grow hb2
            have kC := ((ClimAt.new c w 25).grow (below1 _ (.cells #[I no, .slice A l.length nl] 28))).grow (bup (Below.refl _ _) hb1)
            have kC2 := kC.grow hb2
            clear kC hb1 hb2 hc1 hc2
            obtain ⟨z1, q0, q1, q2, q3, q4, q5, q6, q7⟩ := kC2
            obtain ⟨z2, s0, s1, _, _⟩ := blk_box kS
            clear kS
            (refine wp_region_grow (by kernel_rfl) (by kernel_rfl) ?_; (repeat (first | go_big_quiet_skip | (go_big_quiet_want; go_big_quiet_op; first | go_big_quiet_on | (apply Exists.intro; refine ⟨fun _ => ?_, ?_⟩; (focus ((first | (go_at_call 89; exact calls_grew_same (within_is (by assumption) _)) | (go_at_call 119; exact calls_grew (HB.out _ (hv.out.mono (bup B2 (Grew.below _))))) | (go_at_call 120; exact calls_grew (HN.out _ (hv.out.mono (bup B2 (Grew.below _)))))))); go_big_quiet_on)))); refine wpQuiet_nil ?_; rintro W1 ⟨⟨_, hW1⟩, rfl⟩)
            go_wp2_with fail
            go_ret3
            exact ⟨rfl, bup B2 hW1⟩
          · skip
            rcases bcase (inB d bg en) with g4 | g4
            · obtain ⟨hR8, hV8⟩ := hbad (by rw [g1, g2, g3, g4]; simp)
              rw [hR8, hV8]
              clear hR8 hV8 hbad hE hR hbg hen hs h1
              replace g1 : inB h 0 9000 = _ := g1
              unfold Climate.v at *
              replace hv := hide hv
              replace H1 := hide H1
              replace H2 := hide H2
              replace HB := hide HB
              replace HN := hide HN
              go_enter Tryz.func46, Tryz.ntmps46
              go_wp2_with (first | (go_at_call 24; refine (H1.out _).mono ?_; clear H1; rintro e w1 ⟨rfl, hb1⟩; have hc1 := fun o => (bcell hb1).1 w.heap.size o (by simp <;> omega); have hc2 := fun o => (bcell hb1).1 (w.heap.size + 1) o (by simp <;> omega)) | (go_at_call 28; refine (H2.out _ (hv.out.mono (bup (below2 _ _ _) hb1))).mono ?_; clear H2; rintro e w2 ⟨rfl, hb2⟩))
              have B2 := bup (bup (below2 _ _ _) hb1) hb2
              have kS := ((blk21 w 28 #[I no, .slice A l.length nl] (.cells #[I c.base, I c.lapse, I c.swing, I c.wettest, I c.coldest, I c.warmest, I c.flo, I c.fhi] 25)).grow hb1).grow hb2
              have kC := ((ClimAt.new c w 25).grow (below1 _ (.cells #[I no, .slice A l.length nl] 28))).grow (bup (Below.refl _ _) hb1)
              have kC2 := kC.grow hb2
              clear kC hb1 hb2 hc1 hc2
              obtain ⟨z1, q0, q1, q2, q3, q4, q5, q6, q7⟩ := kC2
              obtain ⟨z2, s0, s1, _, _⟩ := blk_box kS
              clear kS
              (refine wp_region_grow (by kernel_rfl) (by kernel_rfl) ?_; (repeat (first | go_big_quiet_skip | (go_big_quiet_want; go_big_quiet_op; first | go_big_quiet_on | (apply Exists.intro; refine ⟨fun _ => ?_, ?_⟩; (focus ((first | (go_at_call 89; exact calls_grew_same (within_is (by assumption) _)) | (go_at_call 119; exact calls_grew (HB.out _ (hv.out.mono (bup B2 (Grew.below _))))) | (go_at_call 120; exact calls_grew (HN.out _ (hv.out.mono (bup B2 (Grew.below _)))))))); go_big_quiet_on)))); refine wpQuiet_nil ?_; rintro W1 ⟨⟨_, hW1⟩, rfl⟩)
              go_wp2_with fail
              go_ret3
              exact ⟨rfl, bup B2 hW1⟩
            · skip
              have hR8 : relE c ⟨no, l⟩ h W f d = 0 := by rw [hR]; simp [askedE, h1, g1, g2, g3, g4]
              have hV8 : relV c ⟨no, l⟩ h W f d = relF c h f d l (0, W) := by simp [relV, hR8]
              rw [hR8, hV8]
              have i2 := inB_true.1 g2
              have H5 := fun w hv => ref_release c no (.slice A l.length nl) l h W f d w hs.clim hs.mem hs.n2 (heightB_bd g1) (inB_true.1 g3) (by omega) hv
              obtain ⟨R, hRR⟩ : ∃ R, relF c h f d l (0, W) = R := ⟨_, rfl⟩
              simp only [hRR] at H5 ⊢
              clear hR8 hV8 hbad hE hR hbg hen hs h1 hRR i2
              replace g1 : inB h 0 9000 = _ := g1
              (try unfold Climate.v at H5)
              replace H5 := hide H5
              unfold Climate.v at *
              replace hv := hide hv
              replace H1 := hide H1
              replace H2 := hide H2
              replace HB := hide HB
              replace HN := hide HN
              go_enter Tryz.func46, Tryz.ntmps46
              go_wp2_with (first | (go_at_call 24; refine (H1.out _).mono ?_; clear H1; rintro e w1 ⟨rfl, hb1⟩; have hc1 := fun o => (bcell hb1).1 w.heap.size o (by simp <;> omega); have hc2 := fun o => (bcell hb1).1 (w.heap.size + 1) o (by simp <;> omega)) | (go_at_call 28; refine (H2.out _ (hv.out.mono (bup (below2 _ _ _) hb1))).mono ?_; clear H2; rintro e w2 ⟨rfl, hb2⟩))
              have B2 := bup (bup (below2 _ _ _) hb1) hb2
              have kS := ((blk21 w 28 #[I no, .slice A l.length nl] (.cells #[I c.base, I c.lapse, I c.swing, I c.wettest, I c.coldest, I c.warmest, I c.flo, I c.fhi] 25)).grow hb1).grow hb2
              have kC := ((ClimAt.new c w 25).grow (below1 _ (.cells #[I no, .slice A l.length nl] 28))).grow (bup (Below.refl _ _) hb1)
              have kC2 := kC.grow hb2
              have kC9 := kC2
              clear kC hb1 hb2 hc1 hc2
              obtain ⟨z1, q0, q1, q2, q3, q4, q5, q6, q7⟩ := kC2
              obtain ⟨z2, s0, s1, _, _⟩ := blk_box kS
              have kS9 := kS
              clear kS
              replace kS9 := hide kS9
              replace kC9 := hide kC9
              (refine wp_region_grow (by kernel_rfl) (by kernel_rfl) ?_; (repeat (first | go_big_quiet_skip | (go_big_quiet_want; go_big_quiet_op; first | go_big_quiet_on | (apply Exists.intro; refine ⟨fun _ => ?_, ?_⟩; (focus ((first | (go_at_call 89; exact calls_grew_same (within_is (by assumption) _)) | (go_at_call 119; exact calls_grew (HB.out _ (hv.out.mono (bup B2 (Grew.below _))))) | (go_at_call 120; exact calls_grew (HN.out _ (hv.out.mono (bup B2 (Grew.below _)))))))); go_big_quiet_on)))); refine wpQuiet_nil ?_; rintro W1 ⟨⟨_, hW1⟩, rfl⟩)
              clear z1 q0 q1 q2 q3 q4 q5 q6 q7 z2 s0 s1
              have kS := kS9.out.grow hW1
              have kC3 := kC9.out.grow hW1
              obtain ⟨z1, q0, q1, q2, q3, q4, q5, q6, q7⟩ := kC3
              obtain ⟨z2, s0, s1, _, _⟩ := blk_box kS
              go_wp2_with (go_at_call 121; refine (H5.out _ (hv.out.mono (bup B2 hW1))).mono ?_; rintro e w5 ⟨rfl, hb5⟩)
              go_ret3
              exact ⟨rfl, bup (bup B2 hW1) hb5⟩
    · have hR : relE c ⟨no, l⟩ h W f d = springE c ⟨no, l⟩ := by simp [relE, hE]
      have hV : relV c ⟨no, l⟩ h W f d = (0, 0) := by simp [relV, hR, hE]
      have h62 : springE c ⟨no, l⟩ = 62 := by
        unfold springE at hE ⊢
        rw [if_neg (by simp [h1])] at hE ⊢
        split <;> simp_all
      rw [hR, hV, h62]
      rw [h62] at H2
      clear hR hV h62 hE h1
      unfold Climate.v at *
      replace hv := hide hv
      replace H1 := hide H1
      replace H2 := hide H2
      go_enter Tryz.func46, Tryz.ntmps46
      go_wp2_with (first | (go_at_call 24; refine (H1.out _).mono ?_; clear H1; rintro e w1 ⟨rfl, hb1⟩; have hc1 := fun o => (bcell hb1).1 w.heap.size o (by simp <;> omega); have hc2 := fun o => (bcell hb1).1 (w.heap.size + 1) o (by simp <;> omega)) | (go_at_call 28; refine (H2.out _ (hv.out.mono (bup (below2 _ _ _) hb1))).mono ?_; clear H2; rintro e w2 ⟨rfl, hb2⟩))
      go_ret3
      exact ⟨rfl, bup (bup (below2 _ _ _) hb1) hb2⟩
end Go.Proofs.YtmjfdobjnnfafaaGreatDoor
