/- The reference of chapter 6: springs, and what comes of them. Conditions stand in the theorems. -/
import Derived.Test.YtoojedjmlcdomaaGreatDoorRef1Pack
import Derived.Test.YtoojedjmlcdomaaGreatDoorSpring9Pack
set_option linter.all false
set_option maxHeartbeats 4000000
set_option maxRecDepth 100000
namespace Go.Proofs.YtoojedjmlcdomaaGreatDoor
open Go.RowKit

theorem ref_successive (v : Value) (l : List Weather) (w : World) (hv : Sl w 3 Weather.cells v l) : Calls Tryz.prog 115 #[v] w fun e w' => e = .returned (.bool (succB l && inB l.length 1 512)) ∧ Below w.heap.size w w' := by
 obtain ⟨A, n, rfl, _, _, hlen, hA⟩ := hv.open_
 replace hv := hide hv
 replace hA := hide hA
 have hbad : ∀ k, k < l.length → succRAt l k = false → (succB l && inB l.length 1 512) = false := fun k hk h => by
  have : (List.range l.length).all (succRAt l) = false := all_of_not hk h
  rw [succB_R, this]
  rfl
 replace hbad := hide hbad
 go_enter Tryz.func115, Tryz.ntmps115
 go_wp2_with fail
 go_loopw [3] (fun i wr => ∃ k : Nat, k ≤ l.length ∧ i = I k ∧ Hid (AllTo (succRAt l) k) ∧ Below w.heap.size w wr) (fun i _ => l.length - (intOf i).toNat)
 case atStart => exact ⟨0, Nat.zero_le _, rfl, hide (AllTo.zero _), Below.refl _ _⟩
 case round =>
  obtain ⟨k, hk, rfl, hn, hb⟩ := hrel
  by_cases hlt : k < l.length
  ·obtain ⟨b, off, rfl, hbw⟩ := hA.out k hlt
   obtain ⟨x, hx⟩ := getElem?_of_lt hlt
   obtain ⟨hbx, e0, _, _⟩ := ((unhide hv).mono hb).weather_at hx
   clear hA
   have H1 := fun w => ref_within x.day 0 1048576 w
   rcases Nat.lt_or_ge 0 k with hk0 | hk0
   ·obtain ⟨y, hy⟩ := getElem?_of_lt (xs := l) (k := k - 1) (by omega)
    obtain ⟨_, p0, _, _⟩ := ((unhide hv).mono hb).weather_at hy
    have hpos := succRAt_pos hk0 hx hy
    have hyd : 0 ≤ y.day ∧ y.day ≤ 1048576 := by
     have h := hn.out (k - 1) (by omega)
     simp only [succRAt, getD_of hy, Bool.and_eq_true] at h
     exact inB_true.1 h.1
    obtain ⟨y1, y2⟩ := hyd
    have hwr : IntKind.i64.wrap (y.day + 1) = y.day + 1 := IntWalk.i64_in _ (by omega)
    rcases bcase (inB x.day 0 1048576) with hok | hok
    ·rw [hok] at H1
     replace H1 := hide H1
     have hfin := hide (hbad.out k hlt (by rw [hpos, hok]; rfl))
     clear hbad hx hn hpos hy
     go_wp2_with fail
     (refine wp_grow ?_; (repeat go_big_quiet_step ((go_at_call 77; exact calls_grew_same (H1.out _)))); refine wp_grow0 ?_; intro W1 hW1)
     go_wp2_with fail
     go_ret
     exact ⟨ret_bool hfin.out.symm, bup hb hW1⟩
    ·rw [hok] at H1
     replace H1 := hide H1
     by_cases hd : y.day + 1 = x.day
     ·have hg := hide (hn.out.succ (show succRAt l k = true by rw [hpos, hok]; simpa using hd))
      have hdn : (y.day + 1 != x.day) = false := by simpa using hd
      clear hbad hx hn hpos hy
      replace hd := hide hd
      go_wp2_with fail
      (refine wp_grow ?_; (repeat go_big_quiet_step ((go_at_call 77; exact calls_grew_same (H1.out _)))); refine wp_grow0 ?_; intro W1 hW1)
      go_wp2_with fail
      go_roundw
      case rel => exact ⟨k + 1, by omega, by go_num, hg, bup hb hW1⟩
      case measure => simp [intOf]; omega
     ·have hfin := hide (hbad.out k hlt (by rw [hpos, hok]; simpa using hd))
      have hdn : (y.day + 1 != x.day) = true := by simpa using hd
      clear hbad hx hn hpos hy
      go_wp2_with fail
      (refine wp_grow ?_; (repeat go_big_quiet_step ((go_at_call 77; exact calls_grew_same (H1.out _)))); refine wp_grow0 ?_; intro W1 hW1)
      go_wp2_with fail
      go_ret
      exact ⟨ret_bool hfin.out.symm, bup hb hW1⟩
   ·have hk00 : k = 0 := by omega
    have hz : succRAt l k = inB x.day 0 1048576 := by subst hk00; exact succRAt_zero hx
    have hkd : decide (0 < k) = false := by simp; omega
    clear hk00
    rcases bcase (inB x.day 0 1048576) with hok | hok
    ·rw [hok] at H1 hz
     replace H1 := hide H1
     have hfin := hide (hbad.out k hlt hz)
     clear hbad hx hn hz
     go_wp2_with fail
     (refine wp_grow ?_; (repeat go_big_quiet_step ((go_at_call 77; exact calls_grew_same (H1.out _)))); refine wp_grow0 ?_; intro W1 hW1)
     go_wp2_with fail
     go_ret
     exact ⟨ret_bool hfin.out.symm, bup hb hW1⟩
    ·rw [hok] at H1 hz
     replace H1 := hide H1
     have hg := hide (hn.out.succ hz)
     clear hbad hx hn hz
     go_wp2_with fail
     (refine wp_grow ?_; (repeat go_big_quiet_step ((go_at_call 77; exact calls_grew_same (H1.out _)))); refine wp_grow0 ?_; intro W1 hW1)
     go_wp2_with fail
     go_roundw
     case rel => exact ⟨k + 1, by omega, by go_num, hg, bup hb hW1⟩
     case measure => simp [intOf]; omega
  ·have he : k = l.length := by omega
   subst he
   have hs : succB l = true := by rw [succB_R]; exact AllTo.all hn.out
   have hfin : (succB l && inB l.length 1 512) = (decide ((1 : Int) ≤ l.length) && decide ((l.length : Int) ≤ 512)) := by rw [hs]; simp [inB]
   replace hfin := hide hfin
   clear hbad hn hA hs
   rcases Nat.lt_or_ge l.length 1 with g | g
   ·have g1 : decide ((1 : Int) ≤ (l.length : Int)) = false := decide_eq_false (by omega)
    have g2 : decide (1 ≤ l.length) = false := decide_eq_false (by omega)
    go_wp2_with fail
    go_ret
    exact ⟨ret_bool (by rw [hfin.out, g1]; simp), hb⟩
   ·have g1 : decide ((1 : Int) ≤ (l.length : Int)) = true := decide_eq_true (by omega)
    have g2 : decide (1 ≤ l.length) = true := decide_eq_true (by omega)
    go_wp2_with fail
    go_ret
    exact ⟨ret_bool (by rw [hfin.out, g1]; simp), hb⟩

theorem ref_CheckSpring (c : Climate) (no : Int) (v : Value) (l : List Weather) (w : World) (hv : Sl w 3 Weather.cells v l) : Calls Tryz.prog 56 #[c.v, .agg #[I no, v]] w fun e w' => e = .returned (I (springE c ⟨no, l⟩)) ∧ Below w.heap.size w w' := by
 obtain ⟨A, n, rfl, _, _, hlen, hA⟩ := hv.open_
 clear hA
 have H1 := fun w => ref_CheckClimate c w
 rcases bcase (climateOk c) with h1 | h1
 ·have hfin := hide (show springE c ⟨no, l⟩ = 61 by simp [springE, h1])
  rw [show climateE c = 61 by simp [climateE, h1]] at H1
  unfold Climate.v at *
  replace H1 := hide H1
  go_enter Tryz.func56, Tryz.ntmps56
  go_wp2_with (first | (go_at_call 55; refine (H1.out _).mono ?_; clear H1; rintro e w1 ⟨rfl, hb1⟩; have hc1 := fun o => (bcell hb1).1 w.heap.size o (by simp <;> omega); have hc2 := fun o => (bcell hb1).1 (w.heap.size + 1) o (by simp <;> omega)))
  go_ret
  exact ⟨ret_int hfin.out.symm, bup (below2 _ _ _) hb1⟩
 ·rw [show climateE c = 0 by simp [climateE, h1]] at H1
  have H3 := fun w => ref_within no 0 4095 w
  have H5 := fun w hv => ref_successive (.slice A l.length n) l w hv
  have H6 := fun w hv => ref_sequence c (.slice A l.length n) l w (.of h1) hv
  replace hv := hide hv
  have hgen : springE c ⟨no, l⟩ = if (inB no 0 4095 && (succB l && inB l.length 1 512) && seqB c l) then 0 else 62 := by
   have hq : springOk c ⟨no, l⟩ = (inB no 0 4095 && (succB l && inB l.length 1 512) && seqB c l) := by
    cases hs : succB l with
    | true =>
     rw [seq_linked hs]
     simp [springOk, hs, Bool.and_assoc]
    | false => simp [springOk, hs]
   rw [← hq]
   cases h : springOk c ⟨no, l⟩ <;> simp [springE, h1, h]
  rcases bcase (inB no 0 4095) with h2 | h2
  ·have hfin := hide (show springE c ⟨no, l⟩ = 62 by rw [hgen, h2]; simp)
   rw [h2] at H3
   clear hgen
   unfold Climate.v at *
   replace H1 := hide H1
   replace H3 := hide H3
   go_enter Tryz.func56, Tryz.ntmps56
   go_wp2_with (first | (go_at_call 55; refine (H1.out _).mono ?_; clear H1; rintro e w1 ⟨rfl, hb1⟩; have hc1 := fun o => (bcell hb1).1 w.heap.size o (by simp <;> omega); have hc2 := fun o => (bcell hb1).1 (w.heap.size + 1) o (by simp <;> omega)) | (go_at_call 77; refine (H3.out _).mono ?_; rintro e w' ⟨rfl, rfl⟩))
   go_ret
   exact ⟨ret_int hfin.out.symm, bup (below2 _ _ _) hb1⟩
  ·rw [h2] at H3
   rcases bcase (succB l && inB l.length 1 512) with h3 | h3
   ·have hfin := hide (show springE c ⟨no, l⟩ = 62 by rw [hgen, h3]; simp)
    rw [h3] at H5
    clear hgen
    unfold Climate.v at *
    replace H1 := hide H1
    replace H3 := hide H3
    replace H5 := hide H5
    go_enter Tryz.func56, Tryz.ntmps56
    go_wp2_with (first | (go_at_call 55; refine (H1.out _).mono ?_; clear H1; rintro e w1 ⟨rfl, hb1⟩; have hc1 := fun o => (bcell hb1).1 w.heap.size o (by simp <;> omega); have hc2 := fun o => (bcell hb1).1 (w.heap.size + 1) o (by simp <;> omega)) | (go_at_call 77; refine (H3.out _).mono ?_; rintro e w' ⟨rfl, rfl⟩) | (go_at_call 115; refine (H5.out _ (hv.out.mono (bup (below2 _ _ _) hb1))).mono ?_; rintro e w2 ⟨rfl, hb2⟩; have hd1 := fun o => (bcell hb2).1 w.heap.size o (by have := hb1.size; simp at this ⊢; omega); have hd2 := fun o => (bcell hb2).1 (w.heap.size + 1) o (by have := hb1.size; simp at this ⊢; omega)))
    go_ret
    exact ⟨ret_int hfin.out.symm, bup (bup (below2 _ _ _) hb1) hb2⟩
   ·rw [h3] at H5
    rcases bcase (seqB c l) with h4 | h4
    ·have hfin := hide (show springE c ⟨no, l⟩ = 62 by rw [hgen, h4]; simp)
     rw [h4] at H6
     clear hgen
     unfold Climate.v at *
     replace H1 := hide H1
     replace H3 := hide H3
     replace H5 := hide H5
     replace H6 := hide H6
     go_enter Tryz.func56, Tryz.ntmps56
     go_wp2_with (first | (go_at_call 55; refine (H1.out _).mono ?_; clear H1; rintro e w1 ⟨rfl, hb1⟩; have hc1 := fun o => (bcell hb1).1 w.heap.size o (by simp <;> omega); have hc2 := fun o => (bcell hb1).1 (w.heap.size + 1) o (by simp <;> omega)) | (go_at_call 77; refine (H3.out _).mono ?_; rintro e w' ⟨rfl, rfl⟩) | (go_at_call 115; refine (H5.out _ (hv.out.mono (bup (below2 _ _ _) hb1))).mono ?_; rintro e w2 ⟨rfl, hb2⟩; have hd1 := fun o => (bcell hb2).1 w.heap.size o (by have := hb1.size; simp at this ⊢; omega); have hd2 := fun o => (bcell hb2).1 (w.heap.size + 1) o (by have := hb1.size; simp at this ⊢; omega)) | (go_at_call 116; refine (H6.out _ (hv.out.mono (bup (bup (below2 _ _ _) hb1) hb2))).mono ?_; rintro e w3 ⟨rfl, hb3⟩))
     go_ret
     exact ⟨ret_int hfin.out.symm, bup (bup (bup (below2 _ _ _) hb1) hb2) hb3⟩
    ·have hfin := hide (show springE c ⟨no, l⟩ = 0 by rw [hgen, h2, h3, h4]; rfl)
     rw [h4] at H6
     clear hgen
     unfold Climate.v at *
     replace H1 := hide H1
     replace H3 := hide H3
     replace H5 := hide H5
     replace H6 := hide H6
     go_enter Tryz.func56, Tryz.ntmps56
     go_wp2_with (first | (go_at_call 55; refine (H1.out _).mono ?_; clear H1; rintro e w1 ⟨rfl, hb1⟩; have hc1 := fun o => (bcell hb1).1 w.heap.size o (by simp <;> omega); have hc2 := fun o => (bcell hb1).1 (w.heap.size + 1) o (by simp <;> omega)) | (go_at_call 77; refine (H3.out _).mono ?_; rintro e w' ⟨rfl, rfl⟩) | (go_at_call 115; refine (H5.out _ (hv.out.mono (bup (below2 _ _ _) hb1))).mono ?_; rintro e w2 ⟨rfl, hb2⟩; have hd1 := fun o => (bcell hb2).1 w.heap.size o (by have := hb1.size; simp at this ⊢; omega); have hd2 := fun o => (bcell hb2).1 (w.heap.size + 1) o (by have := hb1.size; simp at this ⊢; omega)) | (go_at_call 116; refine (H6.out _ (hv.out.mono (bup (bup (below2 _ _ _) hb1) hb2))).mono ?_; rintro e w3 ⟨rfl, hb3⟩))
     go_ret
     exact ⟨ret_int hfin.out.symm, bup (bup (bup (below2 _ _ _) hb1) hb2) hb3⟩

theorem ref_Start (no : Int) (v : Value) (l : List Weather) (w : World) (h0 : 0 < l.length) (hv : Sl w 3 Weather.cells v l) : Calls Tryz.prog 121 #[.agg #[I no, v]] w fun e w' => e = .returned (I (beginF ⟨no, l⟩)) ∧ Below w.heap.size w w' := by
 obtain ⟨x, hx⟩ := getElem?_of_lt h0
 have hd : beginF ⟨no, l⟩ = x.day := by simp only [beginF]; rw [getD_of hx]
 rw [hd]
 obtain ⟨A, n, rfl, _, _, hlen, hA⟩ := hv.open_
 obtain ⟨b, off, rfl, hbw⟩ := hA 0 h0
 obtain ⟨_, e0, _, _⟩ := hv.weather_at hx
 rw [Nat.zero_mul, Nat.add_zero] at e0
 clear hA hv hx hd
 go_enter Tryz.func121, Tryz.ntmps121
 go_wp2_with fail
 go_ret
 exact ⟨rfl, below1 _ _⟩
theorem ref_End (no : Int) (v : Value) (l : List Weather) (w : World) (h0 : 0 < l.length) (hb : 0 ≤ beginF ⟨no, l⟩ ∧ beginF ⟨no, l⟩ ≤ 1048576) (hn : l.length ≤ 512) (hv : Sl w 3 Weather.cells v l) : Calls Tryz.prog 123 #[.agg #[I no, v]] w fun e w' => e = .returned (I (endF ⟨no, l⟩)) ∧ Below w.heap.size w w' := by
 obtain ⟨x, hx⟩ := getElem?_of_lt h0
 have hd : beginF ⟨no, l⟩ = x.day := by simp only [beginF]; rw [getD_of hx]
 have hE : endF ⟨no, l⟩ = x.day + l.length := by rw [← hd]; rfl
 rw [hd] at hb
 rw [hE]
 obtain ⟨b1, b2⟩ := hb
 have k1 : IntKind.i64.wrap (x.day + (l.length : Int)) = x.day + (l.length : Int) := IntWalk.i64_in _ (by omega)
 obtain ⟨A, n, rfl, _, _, hlen, hA⟩ := hv.open_
 obtain ⟨b, off, rfl, hbw⟩ := hA 0 h0
 obtain ⟨_, e0, _, _⟩ := hv.weather_at hx
 rw [Nat.zero_mul, Nat.add_zero] at e0
 clear hA hv hx hd hE
 go_enter Tryz.func123, Tryz.ntmps123
 go_wp2_with fail
 (refine wp_grow ?_; (repeat go_big_quiet_step (fail)); refine wp_grow0 ?_; intro W1 hW1)
 go_wp2_with fail
 go_ret
 exact ⟨rfl, bup (below1 _ _) hW1⟩

theorem ref_release (c : Climate) (no : Int) (v : Value) (l : List Weather) (h W f e : Int) (w : World) (hc : ClimOk c) (hl : ∀ x ∈ l, WeaOk c x) (hn : l.length ≤ 512) (hh : 0 ≤ h ∧ h ≤ 9000) (hf : 0 ≤ f ∧ f ≤ 2000) (hW : 0 ≤ W ∧ W ≤ 1000000000) (hv : Sl w 3 Weather.cells v l) :
  Calls Tryz.prog 176 #[c.v, .agg #[I no, v], I h, I W, I f, I e] w fun en w' => en = .returned (.tuple #[I (relF c h f e l (0, W)).1, I (relF c h f e l (0, W)).2]) ∧ Below w.heap.size w w' := by
 obtain ⟨A, n, rfl, _, _, hlen, hA⟩ := hv.open_
 replace hv := hide hv
 replace hA := hide hA
 replace hl := hide hl
 have HF := hide (fun x (hx : WeaOk c x) w => ref_falls c x h w hc (hx.t600 hc) hh)
 have HM := hide (fun x (hx : WeaOk c x) w => ref_melts c x h f w hc (hx.t600 hc) hh hf)
 have HB := hide (fun x (hx : WeaOk c x) => (meltF_bd (f := f) hc (hx.t600 hc) hh hf).2)
 have hwet := hc.wettest
 obtain ⟨R, hR⟩ : ∃ R, relF c h f e l (0, W) = R := ⟨_, rfl⟩
 rw [hR]
 replace hR := hide hR
 unfold Climate.v Weather.v at *
 go_enter Tryz.func176, Tryz.ntmps176
 go_wp2_with fail
 obtain ⟨W0, hW0⟩ : ∃ W0, W0 = (w.alloc (.cells (c8 c) 25)).alloc (.cells #[I no, .slice A l.length n] 28) := ⟨_, rfl⟩
 have hK : ClimAt c w.heap.size W0 := by rw [hW0]; exact (ClimAt.new _ _ _).grow (below1 _ _)
 have hS := hide (show Blk W0 (w.heap.size + 1) 28 #[I no, .slice A l.length n] by rw [hW0]; exact blk21 w 28 #[I no, .slice A l.length n] (.cells (c8 c) 25))
 have hbl : Below w.heap.size w W0 := by rw [hW0]; exact below2 _ _ _
 rw [← hW0]
 clear hW0
 go_loopw [14, 15, 16] (fun wa ca i wr => ∃ (k : Nat) (a b : Int), k ≤ l.length ∧ i = I k ∧ ca = I a ∧ wa = I b ∧ 0 ≤ a ∧ 0 ≤ b ∧ a + b ≤ W + 1000 * k ∧ Hid (relF c h f e (l.drop k) (a, b) = R) ∧ Below W0.heap.size W0 wr) (fun _ _ i _ => l.length - (intOf i).toNat)
 case atStart => exact ⟨0, 0, W, Nat.zero_le _, rfl, rfl, rfl, by omega, by omega, by omega, by simpa using hR, Below.refl _ _⟩
 case round =>
  obtain ⟨k, a, b, hk, rfl, rfl, rfl, ha, hb, hab, hr, hbw⟩ := hrel
  clear hR
  obtain ⟨zS, s0, s1, _, _⟩ := blk_box (hS.out.grow hbw)
  by_cases hlt : k < l.length
  ·obtain ⟨g, off, rfl, hgw⟩ := hA.out k hlt
   obtain ⟨x, hx⟩ := getElem?_of_lt hlt
   have hxo := hl.out x (List.mem_of_getElem? hx)
   have hdr := drop_at hx
   obtain ⟨hgx, e0, e1, e2⟩ := ((unhide hv).mono (bup hbl hbw)).weather_at hx
   obtain ⟨hgc, q0, q1, q2, q3, q4, q5, q6, q7⟩ := hK.grow hbw
   have H1 := HF.out x hxo
   have H2 := HM.out x hxo
   obtain ⟨m1, m2⟩ := HB.out x hxo
   obtain ⟨⟨f1, f2⟩, f3⟩ := fall_sum (c := c) (h := h) hxo.rain.1
   have hra := hxo.rain.2
   rcases ilt x.day e with hd | hd
   ·have hs := hr.out
    rw [hdr, relF_go hd] at hs
    replace hs := hide hs
    obtain ⟨sn, hsn⟩ : ∃ sn, (fallF c x h).1 = sn := ⟨_, rfl⟩
    obtain ⟨ra, hra2⟩ : ∃ ra, (fallF c x h).2 = ra := ⟨_, rfl⟩
    obtain ⟨me, hme⟩ : ∃ me, meltF c x h f = me := ⟨_, rfl⟩
    simp only [hsn, hra2, hme] at H1 H2 hs m1 m2 f1 f2 f3
    replace H1 := hide H1
    replace H2 := hide H2
    replace hxo := hide hxo
    have f4 : sn + ra ≤ 1000 := by omega
    clear hsn hra2 hme f3 hA hl hv hdr hx hr HF HM HB hra
    obtain ⟨y, hy⟩ : ∃ y, max 0 (b + sn - me) = y := ⟨_, rfl⟩
    rw [hy] at hs
    have hy1 : 0 ≤ y ∧ y ≤ b + sn := by omega
    obtain ⟨y1, y2⟩ := hy1
    rcases ilt 0 (b + sn - me) with hp | hp
    ·have hy2 : b + sn - me = y := by omega
     replace hy := hide hy
     replace hy2 := hide hy2
     go_wp2_with (first | (go_at_call 208; refine (H1.out _).mono ?_; clear H1; rintro e w1 ⟨rfl, hb1⟩; have hc1 := fun o => (bcell hb1).1 w.heap.size o (by simp <;> omega); have hc2 := fun o => (bcell hb1).1 wr.heap.size o (by simp <;> omega); have hz1 := hb1.size; simp at hz1) | (go_at_call 209; refine (H2.out _).mono ?_; clear H2; rintro e w2 ⟨rfl, hb2⟩))
     rw [hy2.out]
     go_wp2_with fail
     go_roundw
     case rel => exact ⟨k + 1, a + (ra + b + sn - y), y, by omega, by go_num, by go_num, rfl, by omega, by omega, by push_cast; omega, hs, bup (bup (bup hbw (below1 _ _)) hb1) hb2⟩
     case measure => simp [intOf]; omega
    ·have hy2 : y = 0 := by omega
     subst hy2
     replace hy := hide hy
     go_wp2_with (first | (go_at_call 208; refine (H1.out _).mono ?_; clear H1; rintro e w1 ⟨rfl, hb1⟩; have hc1 := fun o => (bcell hb1).1 w.heap.size o (by simp <;> omega); have hc2 := fun o => (bcell hb1).1 wr.heap.size o (by simp <;> omega); have hz1 := hb1.size; simp at hz1) | (go_at_call 209; refine (H2.out _).mono ?_; clear H2; rintro e w2 ⟨rfl, hb2⟩))
     go_wp2_with fail
     go_roundw
     case rel => exact ⟨k + 1, a + (ra + b + sn - 0), 0, by omega, by go_num, by simp, rfl, by omega, by omega, by push_cast; omega, hs, bup (bup (bup hbw (below1 _ _)) hb1) hb2⟩
     case measure => simp [intOf]; omega
   ·have hs := hr.out
    rw [hdr, relF_stop hd] at hs
    subst hs
    clear hA hl hv hdr hx hr HF HM HB H1 H2
    go_wp2_with fail
    go_ret2
    exact ⟨rfl, bup hbl (bup hbw (below1 _ _))⟩
  ·have he : k = l.length := by omega
   subst he
   have hs := hr.out
   rw [List.drop_length] at hs
   simp only [relF] at hs
   subst hs
   clear hA hl hv hr HF HM HB
   go_wp2_with fail
   go_ret2
   exact ⟨rfl, bup hbl hbw⟩

end Go.Proofs.YtoojedjmlcdomaaGreatDoor
