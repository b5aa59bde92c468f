/- The reference of chapter 6: springs, and what comes of them. Conditions stand in the theorems. -/
import Derived.Test.YtmjfdobjnnfafaaGreatDoorRef3
import Derived.Test.YtmjfdobjnnfafaaGreatDoorSpring9Pack
set_option linter.all false
set_option maxRecDepth 100000
set_option maxHeartbeats 2000000
namespace Go.Proofs.YtmjfdobjnnfafaaGreatDoor
open Go.RowKit

theorem ret_two {a b c d : Bool} (h : (a && b) = (c && d)) : Ending.returned (.bool (a && b)) = .returned (.bool (c && d)) := by rw [h]
theorem ref_successive (v : Value) (l : List Weather) (w : World) (hv : Sl w 3 Weather.cells v l) : Calls Tryz.prog 94 #[v] w fun e w' => e = .returned (.bool (succB l && inB l.length 1 512)) ∧ Below w.heap.size w w' := by
 obtain ⟨A, n, rfl, _, _, hlen, hA⟩ := hv.open_
 replace hv := hide hv
 replace hA := hide hA
 have hbad : ∀ k, k < l.length → succRAt l k = false → (succB l && inB l.length 1 512) = false := fun k hk h => by
  have : (List.range l.length).all (succRAt l) = false := all_of_not hk h
  rw [succB_R, this]
  rfl
 replace hbad := hide hbad
 go_enter Tryz.func94, Tryz.ntmps94
 go_wp2_with fail
 go_loopw [3] (fun i wr => ∃ k : Nat, k ≤ l.length ∧ i = I k ∧ Hid (AllTo (succRAt l) k) ∧ Below w.heap.size w wr) (fun i _ => l.length - (intOf i).toNat)
 case atStart => exact ⟨0, Nat.zero_le _, rfl, hide (AllTo.zero _), Below.refl _ _⟩
 case round =>
  obtain ⟨k, hk, rfl, hn, hb⟩ := hrel
  by_cases hlt : k < l.length
  ·obtain ⟨b, off, rfl, hbw⟩ := hA.out k hlt
   obtain ⟨x, hx⟩ := getElem?_of_lt hlt
   obtain ⟨hbx, e0, _, _⟩ := ((unhide hv).mono hb).weather_at hx
   clear hA
   have H1 := fun w => ref_within x.day 0 1048576 w
   rcases Nat.lt_or_ge 0 k with hk0 | hk0
   ·obtain ⟨y, hy⟩ := getElem?_of_lt (xs := l) (k := k - 1) (by omega)
    obtain ⟨_, p0, _, _⟩ := ((unhide hv).mono hb).weather_at hy
    have hpos := succRAt_pos hk0 hx hy
    have hyd : 0 ≤ y.day ∧ y.day ≤ 1048576 := by
     have h := hn.out (k - 1) (by omega)
     simp only [succRAt, getD_of hy, Bool.and_eq_true] at h
     exact inB_true.1 h.1
    obtain ⟨y1, y2⟩ := hyd
    have hwr : IntKind.i64.wrap (y.day + 1) = y.day + 1 := IntWalk.i64_in _ (by omega)
    rcases bcase (inB x.day 0 1048576) with hok | hok
    ·rw [hok] at H1
     replace H1 := hide H1
     have hfin := hide (hbad.out k hlt (by rw [hpos, hok]; rfl))
     clear hbad hx hn hpos hy
     go_wp2_with fail
     (refine wp_region_grow (by kernel_rfl) (by kernel_rfl) ?_; (repeat (first | go_big_quiet_skip | (go_big_quiet_want; go_big_quiet_op; first | go_big_quiet_on | (apply Exists.intro; refine ⟨fun _ => ?_, ?_⟩; (focus ((go_at_call 89; exact calls_grew_same (H1.out _)))); go_big_quiet_on)))); refine wpQuiet_nil ?_; rintro W1 ⟨⟨_, hW1⟩, rfl⟩)
     go_wp2_with fail
     go_ret
     exact ⟨ret_bool hfin.out.symm, bup hb hW1⟩
    ·rw [hok] at H1
     replace H1 := hide H1
     by_cases hd : y.day + 1 = x.day
     ·have hg := hide (hn.out.succ (show succRAt l k = true by rw [hpos, hok]; simpa using hd))
      have hdn : (y.day + 1 != x.day) = false := by simpa using hd
      clear hbad hx hn hpos hy
      replace hd := hide hd
      go_wp2_with fail
      (refine wp_region_grow (by kernel_rfl) (by kernel_rfl) ?_; (repeat (first | go_big_quiet_skip | (go_big_quiet_want; go_big_quiet_op; first | go_big_quiet_on | (apply Exists.intro; refine ⟨fun _ => ?_, ?_⟩; (focus ((go_at_call 89; exact calls_grew_same (H1.out _)))); go_big_quiet_on)))); refine wpQuiet_nil ?_; rintro W1 ⟨⟨_, hW1⟩, rfl⟩)
      go_wp2_with fail
      go_roundw
      case rel => exact ⟨k + 1, by omega, by go_num, hg, bup hb hW1⟩
      case measure => simp [intOf]; omega
     ·have hfin := hide (hbad.out k hlt (by rw [hpos, hok]; simpa using hd))
      have hdn : (y.day + 1 != x.day) = true := by simpa using hd
      clear hbad hx hn hpos hy
      go_wp2_with fail
      (refine wp_region_grow (by kernel_rfl) (by kernel_rfl) ?_; (repeat (first | go_big_quiet_skip | (go_big_quiet_want; go_big_quiet_op; first | go_big_quiet_on | (apply Exists.intro; refine ⟨fun _ => ?_, ?_⟩; (focus ((go_at_call 89; exact calls_grew_same (H1.out _)))); go_big_quiet_on)))); refine wpQuiet_nil ?_; rintro W1 ⟨⟨_, hW1⟩, rfl⟩)
      go_wp2_with fail
      go_ret
      exact ⟨ret_bool hfin.out.symm, bup hb hW1⟩
   ·have hk00 : k = 0 := by omega
    have hz : succRAt l k = inB x.day 0 1048576 := by subst hk00; exact succRAt_zero hx
    have hkd : decide (0 < k) = false := by simp; omega
    clear hk00
    rcases bcase (inB x.day 0 1048576) with hok | hok
    ·rw [hok] at H1 hz
     replace H1 := hide H1
     have hfin := hide (hbad.out k hlt hz)
     clear hbad hx hn hz
     go_wp2_with fail
     (refine wp_region_grow (by kernel_rfl) (by kernel_rfl) ?_; (repeat (first | go_big_quiet_skip | (go_big_quiet_want; go_big_quiet_op; first | go_big_quiet_on | (apply Exists.intro; refine ⟨fun _ => ?_, ?_⟩; (focus ((go_at_call 89; exact calls_grew_same (H1.out _)))); go_big_quiet_on)))); refine wpQuiet_nil ?_; rintro W1 ⟨⟨_, hW1⟩, rfl⟩)
     go_wp2_with fail
     go_ret
     exact ⟨ret_bool hfin.out.symm, bup hb hW1⟩
    ·rw [hok] at H1 hz
     replace H1 := hide H1
     have hg := hide (hn.out.succ hz)
     clear hbad hx hn hz
     go_wp2_with fail
     (refine wp_region_grow (by kernel_rfl) (by kernel_rfl) ?_; (repeat (first | go_big_quiet_skip | (go_big_quiet_want; go_big_quiet_op; first | go_big_quiet_on | (apply Exists.intro; refine ⟨fun _ => ?_, ?_⟩; (focus ((go_at_call 89; exact calls_grew_same (H1.out _)))); go_big_quiet_on)))); refine wpQuiet_nil ?_; rintro W1 ⟨⟨_, hW1⟩, rfl⟩)
     go_wp2_with fail
     go_roundw
     case rel => exact ⟨k + 1, by omega, by go_num, hg, bup hb hW1⟩
     case measure => simp [intOf]; omega
  ·have he : k = l.length := by omega
   subst he
   have hs : succB l = true := by rw [succB_R]; exact AllTo.all hn.out
   have hfin : (succB l && inB l.length 1 512) = (decide ((1 : Int) ≤ l.length) && decide ((l.length : Int) ≤ 512)) := by rw [hs]; simp [inB]
   replace hfin := hide hfin
   clear hbad hn hA hs
   rcases Nat.lt_or_ge l.length 1 with g | g
   ·have g1 : decide ((1 : Int) ≤ (l.length : Int)) = false := decide_eq_false (by omega)
    have g2 : decide (1 ≤ l.length) = false := decide_eq_false (by omega)
    go_wp2_with fail
    go_ret
    exact ⟨ret_bool (by rw [hfin.out, g1]; simp), hb⟩
   ·have g1 : decide ((1 : Int) ≤ (l.length : Int)) = true := decide_eq_true (by omega)
    have g2 : decide (1 ≤ l.length) = true := decide_eq_true (by omega)
    go_wp2_with fail
    go_ret
    exact ⟨ret_bool (by rw [hfin.out, g1]; simp), hb⟩

theorem ref_CheckSpring (c : Climate) (no : Int) (v : Value) (l : List Weather) (w : World) (hv : Sl w 3 Weather.cells v l) : Calls Tryz.prog 28 #[c.v, .agg #[I no, v]] w fun e w' => e = .returned (I (springE c ⟨no, l⟩)) ∧ Below w.heap.size w w' := by
 obtain ⟨A, n, rfl, _, _, hlen, hA⟩ := hv.open_
 clear hA
 have H1 := fun w => ref_CheckClimate c w
 rcases bcase (climateOk c) with h1 | h1
 ·have hfin := hide (show springE c ⟨no, l⟩ = 61 by simp [springE, h1])
  rw [show climateE c = 61 by simp [climateE, h1]] at H1
  unfold Climate.v at *
  replace H1 := hide H1
  go_enter Tryz.func28, Tryz.ntmps28
  go_wp2_with (first | (go_at_call 24; refine (H1.out _).mono ?_; clear H1; rintro e w1 ⟨rfl, hb1⟩; have hc1 := fun o => (bcell hb1).1 w.heap.size o (by simp <;> omega); have hc2 := fun o => (bcell hb1).1 (w.heap.size + 1) o (by simp <;> omega)))
  go_ret
  exact ⟨ret_int hfin.out.symm, bup (below2 _ _ _) hb1⟩
 ·rw [show climateE c = 0 by simp [climateE, h1]] at H1
  have H3 := fun w => ref_within no 0 4095 w
  have H5 := fun w hv => ref_successive (.slice A l.length n) l w hv
  have H6 := fun w hv => ref_sequence c (.slice A l.length n) l w (.of h1) hv
  replace hv := hide hv
  have hgen : springE c ⟨no, l⟩ = if (inB no 0 4095 && (succB l && inB l.length 1 512) && seqB c l) then 0 else 62 := by
   have hq : springOk c ⟨no, l⟩ = (inB no 0 4095 && (succB l && inB l.length 1 512) && seqB c l) := by
    cases hs : succB l with
    | true =>
     rw [seq_linked hs]
     simp [springOk, hs, Bool.and_assoc]
    | false => simp [springOk, hs]
   rw [← hq]
   cases h : springOk c ⟨no, l⟩ <;> simp [springE, h1, h]
  rcases bcase (inB no 0 4095) with h2 | h2
  ·have hfin := hide (show springE c ⟨no, l⟩ = 62 by rw [hgen, h2]; simp)
   rw [h2] at H3
   clear hgen
   unfold Climate.v at *
   replace H1 := hide H1
   replace H3 := hide H3
   go_enter Tryz.func28, Tryz.ntmps28
   go_wp2_with (first | (go_at_call 24; refine (H1.out _).mono ?_; clear H1; rintro e w1 ⟨rfl, hb1⟩; have hc1 := fun o => (bcell hb1).1 w.heap.size o (by simp <;> omega); have hc2 := fun o => (bcell hb1).1 (w.heap.size + 1) o (by simp <;> omega)) | (go_at_call 89; refine (H3.out _).mono ?_; rintro e w' ⟨rfl, rfl⟩))
   go_ret
   exact ⟨ret_int hfin.out.symm, bup (below2 _ _ _) hb1⟩
  ·rw [h2] at H3
   rcases bcase (succB l && inB l.length 1 512) with h3 | h3
   ·have hfin := hide (show springE c ⟨no, l⟩ = 62 by rw [hgen, h3]; simp)
    rw [h3] at H5
    clear hgen
    unfold Climate.v at *
    replace H1 := hide H1
    replace H3 := hide H3
    replace H5 := hide H5
    go_enter Tryz.func28, Tryz.ntmps28
    go_wp2_with (first | (go_at_call 24; refine (H1.out _).mono ?_; clear H1; rintro e w1 ⟨rfl, hb1⟩; have hc1 := fun o => (bcell hb1).1 w.heap.size o (by simp <;> omega); have hc2 := fun o => (bcell hb1).1 (w.heap.size + 1) o (by simp <;> omega)) | (go_at_call 89; refine (H3.out _).mono ?_; rintro e w' ⟨rfl, rfl⟩) | (go_at_call 94; refine (H5.out _ (hv.out.mono (bup (below2 _ _ _) hb1))).mono ?_; rintro e w2 ⟨rfl, hb2⟩; have hd1 := fun o => (bcell hb2).1 w.heap.size o (by have := hb1.size; simp at this ⊢; omega); have hd2 := fun o => (bcell hb2).1 (w.heap.size + 1) o (by have := hb1.size; simp at this ⊢; omega)))
    go_ret
    exact ⟨ret_int hfin.out.symm, bup (bup (below2 _ _ _) hb1) hb2⟩
   ·rw [h3] at H5
    rcases bcase (seqB c l) with h4 | h4
    ·have hfin := hide (show springE c ⟨no, l⟩ = 62 by rw [hgen, h4]; simp)
     rw [h4] at H6
     clear hgen
     unfold Climate.v at *
     replace H1 := hide H1
     replace H3 := hide H3
     replace H5 := hide H5
     replace H6 := hide H6
     go_enter Tryz.func28, Tryz.ntmps28
     go_wp2_with (first | (go_at_call 24; refine (H1.out _).mono ?_; clear H1; rintro e w1 ⟨rfl, hb1⟩; have hc1 := fun o => (bcell hb1).1 w.heap.size o (by simp <;> omega); have hc2 := fun o => (bcell hb1).1 (w.heap.size + 1) o (by simp <;> omega)) | (go_at_call 89; refine (H3.out _).mono ?_; rintro e w' ⟨rfl, rfl⟩) | (go_at_call 94; refine (H5.out _ (hv.out.mono (bup (below2 _ _ _) hb1))).mono ?_; rintro e w2 ⟨rfl, hb2⟩; have hd1 := fun o => (bcell hb2).1 w.heap.size o (by have := hb1.size; simp at this ⊢; omega); have hd2 := fun o => (bcell hb2).1 (w.heap.size + 1) o (by have := hb1.size; simp at this ⊢; omega)) | (go_at_call 95; refine (H6.out _ (hv.out.mono (bup (bup (below2 _ _ _) hb1) hb2))).mono ?_; rintro e w3 ⟨rfl, hb3⟩))
     go_ret
     exact ⟨ret_int hfin.out.symm, bup (bup (bup (below2 _ _ _) hb1) hb2) hb3⟩
    ·have hfin := hide (show springE c ⟨no, l⟩ = 0 by rw [hgen, h2, h3, h4]; rfl)
     rw [h4] at H6
     clear hgen
     unfold Climate.v at *
     replace H1 := hide H1
     replace H3 := hide H3
     replace H5 := hide H5
     replace H6 := hide H6
     go_enter Tryz.func28, Tryz.ntmps28
     go_wp2_with (first | (go_at_call 24; refine (H1.out _).mono ?_; clear H1; rintro e w1 ⟨rfl, hb1⟩; have hc1 := fun o => (bcell hb1).1 w.heap.size o (by simp <;> omega); have hc2 := fun o => (bcell hb1).1 (w.heap.size + 1) o (by simp <;> omega)) | (go_at_call 89; refine (H3.out _).mono ?_; rintro e w' ⟨rfl, rfl⟩) | (go_at_call 94; refine (H5.out _ (hv.out.mono (bup (below2 _ _ _) hb1))).mono ?_; rintro e w2 ⟨rfl, hb2⟩; have hd1 := fun o => (bcell hb2).1 w.heap.size o (by have := hb1.size; simp at this ⊢; omega); have hd2 := fun o => (bcell hb2).1 (w.heap.size + 1) o (by have := hb1.size; simp at this ⊢; omega)) | (go_at_call 95; refine (H6.out _ (hv.out.mono (bup (bup (below2 _ _ _) hb1) hb2))).mono ?_; rintro e w3 ⟨rfl, hb3⟩))
     go_ret
     exact ⟨ret_int hfin.out.symm, bup (bup (bup (below2 _ _ _) hb1) hb2) hb3⟩
end Go.Proofs.YtmjfdobjnnfafaaGreatDoor
