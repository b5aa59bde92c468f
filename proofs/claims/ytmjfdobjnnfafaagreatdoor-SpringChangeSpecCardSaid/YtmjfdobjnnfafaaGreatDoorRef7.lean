/- The reference's agrees and Allowed. Conditions stand in the theorems. -/
import Derived.Test.YtmjfdobjnnfafaaGreatDoorSpring9Pack
import Derived.Test.YtmjfdobjnnfafaaGreatDoorRef6
import Derived.Test.YtmjfdobjnnfafaaGreatDoorPoolLibPack
import Derived.Test.YtmjfdobjnnfafaaGreatDoorAgainSpring9
set_option linter.all false
set_option maxRecDepth 100000
set_option maxHeartbeats 8000000
namespace Go.Proofs.YtmjfdobjnnfafaaGreatDoor
open Go.RowKit

theorem nearB_self {c : Climate} {x : Weather} (h : 0 ≤ c.swing) : nearB c x x = true := by
 simp only [nearB, Int.sub_self]
 rw [show sizeF 0 = 0 by rfl]
 simp
theorem nearB_day {c : Climate} {x y : Weather} (hs : 0 ≤ c.swing) (h : x = y) : nearB c x y = true := h ▸ nearB_self hs
/-- How the reference holds a weather against the days. -/
theorem agreesAt_low {c : Climate} {days : List Weather} {x y0 : Weather} (h0 : days[0]? = some y0) (h : x.day < y0.day) : agreesAt c days x = nearB c x y0 := by
 have hn : nextTo days x = 0 := by unfold nextTo; rw [getD_of h0]; omega
 rw [agreesAt_eq (by rw [hn]; exact h0), show decide (x.day ≠ y0.day) = true by simp; omega]
 simp
theorem agreesAt_high {c : Climate} {days : List Weather} {x y0 y1 : Weather} (hs : succB days = true) (h0 : days[0]? = some y0) (h1 : days[days.length - 1]? = some y1) (h : y1.day < x.day) : agreesAt c days x = nearB c x y1 := by
 have hd := (succB_ok hs _ _ _ h1 h0).2
 have hl := (List.getElem?_eq_some_iff.1 h0).1
 have hn : nextTo days x = days.length - 1 := by unfold nextTo; rw [getD_of h0]; omega
 rw [agreesAt_eq (by rw [hn]; exact h1), show decide (x.day ≠ y1.day) = true by simp; omega]
 simp
theorem agreesAt_mid {c : Climate} {days : List Weather} {x y0 y1 : Weather} (hc : 0 ≤ c.swing) (hs : succB days = true) (h0 : days[0]? = some y0) (h1 : days[days.length - 1]? = some y1) (hlo : y0.day ≤ x.day) (hhi : x.day ≤ y1.day) :
  ∃ (j : Nat) (y : Weather), days[j]? = some y ∧ x.day - y0.day = j ∧ y.day = x.day ∧ agreesAt c days x = decide (x = y) := by
 have hd := (succB_ok hs _ _ _ h1 h0).2
 have hl := (List.getElem?_eq_some_iff.1 h0).1
 have hn : nextTo days x = (x.day - y0.day).toNat := by unfold nextTo; rw [getD_of h0]; omega
 obtain ⟨y, hy⟩ := getElem?_of_lt (xs := days) (k := (x.day - y0.day).toNat) (by omega)
 have hyd := (succB_ok hs _ _ _ hy h0).2
 refine ⟨_, y, hy, by omega, by omega, ?_⟩
 rw [agreesAt_eq (by rw [hn]; exact hy), show decide (x.day ≠ y.day) = false by simp; omega]
 by_cases hxy : x = y
 ·rw [nearB_day hc hxy]; simp
 ·simp [hxy]

theorem ref_agrees (c : Climate) (v vd : Value) (l days : List Weather) (w : World) (hc : ClimOk c) (hl : ∀ x ∈ l, WeaOk c x) (h0 : 0 < days.length) (h1 : days.length ≤ 512) (hs : succB days = true) (hv : Sl w 3 Weather.cells v l) (hd : Sl w 3 Weather.cells vd days) :
  Calls Tryz.prog 111 #[c.v, v, vd] w fun e w' => e = .returned (.bool (agreesB c l days)) ∧ Below w.heap.size w w' := by
 obtain ⟨y0, hy0⟩ := getElem?_of_lt h0
 obtain ⟨y1, hy1⟩ := getElem?_of_lt (xs := days) (k := days.length - 1) (by omega)
 obtain ⟨A, n, rfl, _, _, hlen, hA⟩ := hd.open_
 obtain ⟨b, off, rfl, hbw⟩ := hA 0 h0
 have H1 := fun w hd => ref_sequence c (.slice (some ⟨b, off, none⟩) days.length n) days w hc hd
 rw [seq_linked hs] at H1
 cases hk : linkedB c days with
 | false =>
  have hfin := hide (show agreesB c l days = false by simp [agreesB, hk])
  rw [hk] at H1
  replace H1 := hide H1
  replace hd := hide hd
  clear hA hy0 hy1 hl
  unfold Climate.v at *
  go_enter Tryz.func111, Tryz.ntmps111
  go_wp2_with (first | (go_at_call 95; refine (H1.out _ (hd.out.mono (below1 _ _))).mono ?_; clear H1; rintro e w1 ⟨rfl, hb1⟩))
  go_ret
  exact ⟨ret_bool hfin.out.symm, bup (below1 _ _) hb1⟩
 | true =>
  have hdo := linkedB_ok hk
  have hfin := hide (show agreesB c l days = l.all (agreesAt c days) by simp [agreesB, hk])
  rw [hk] at H1
  have hlo := hide (fun (x : Weather) (h : x.day < y0.day) => agreesAt_low (c := c) (days := days) (x := x) hy0 h)
  have hhi := hide (fun (x : Weather) (h : y1.day < x.day) => agreesAt_high (c := c) (x := x) hs hy0 hy1 h)
  have hmi := hide (fun (x : Weather) (g : y0.day ≤ x.day) (h : x.day ≤ y1.day) => agreesAt_mid (c := c) (x := x) hc.swing.1 hs hy0 hy1 g h)
  have HN0 := hide (fun (x : Weather) (hx : WeaOk c x) w => ref_near c x y0 w hc hx (hdo y0 (List.mem_of_getElem? hy0)))
  have HN1 := hide (fun (x : Weather) (hx : WeaOk c x) w => ref_near c x y1 w hc hx (hdo y1 (List.mem_of_getElem? hy1)))
  obtain ⟨a1, a2⟩ := (hdo y0 (List.mem_of_getElem? hy0)).day
  obtain ⟨A2, n2, rfl, _, _, hlen2, hA2⟩ := hv.open_
  obtain ⟨q, hq1⟩ : ∃ q, days.length - 1 = q := ⟨_, rfl⟩
  have hyd := hide (succB_ok hs _ _ _ hy1 hy0).2
  have k4 : IntKind.i64.wrap ((days.length : Int) - 1) = (q : Int) := by rw [IntWalk.i64_in _ (by omega)]; omega
  have k5 : q < days.length := by omega
  have k6 : (0 : Int) ≤ (q : Int) := by omega
  have k7 : (q : Int) < (days.length : Int) := by omega
  replace H1 := hide H1
  replace hv := hide hv
  replace hd := hide hd
  replace hl := hide hl
  replace hA2 := hide hA2
  clear hA hs hdo
  unfold Climate.v Weather.v at *
  go_enter Tryz.func111, Tryz.ntmps111
  go_wp2_with (first | (go_at_call 95; refine (H1.out _ (hd.out.mono (below1 _ _))).mono ?_; clear H1; rintro e w1 ⟨rfl, hb1⟩))
  have kC := hide ((Blk.new w 25 (c8 c)).grow hb1)
  have kB := bup (below1 _ _) hb1
  clear hb1
  obtain ⟨hbx, e0, e1, e2⟩ := ((unhide hd).mono kB).weather_at hy0
  obtain ⟨_, f0, f1, f2⟩ := ((unhide hd).mono kB).weather_at hy1
  rw [Nat.zero_mul, Nat.add_zero] at e0 e1 e2
  rw [hq1] at f0 f1 f2
  obtain ⟨gq, hgq⟩ : ∃ g, w1.heap.size = g := ⟨_, rfl⟩
  replace hgq := hide hgq
  apply via
  case f =>
   intro key
   go_region_held3 (fun W => W.cell? ⟨b, off, none⟩ = some (I y0.day) ∧ W.cell? ⟨b, off + 1, none⟩ = some (I y0.temp) ∧ W.cell? ⟨b, off + 2, none⟩ = some (I y0.rain) ∧ W.cell? ⟨b, off + q * 3, none⟩ = some (I y1.day) ∧ W.cell? ⟨b, off + q * 3 + 1, none⟩ = some (I y1.temp) ∧ W.cell? ⟨b, off + q * 3 + 2, none⟩ = some (I y1.rain)) (go_keep) (fail)
   ·rename_i hS
    clear hS
    obtain ⟨W2, hW2⟩ : ∃ W2, W2 = ((w1.alloc (Obj.cells #[Value.int .i64 y0.day, Value.int .i64 y0.temp, Value.int .i64 y0.rain] 36)).alloc (Obj.cells #[Value.int .i64 y1.day, Value.int .i64 y1.temp, Value.int .i64 y1.rain] 36)).drew := ⟨_, rfl⟩
    rw [← hW2]
    have hF : Blk W2 w1.heap.size 36 #[I y0.day, I y0.temp, I y0.rain] := by rw [hW2]; exact (blk20 _ _ _ _).drew
    have hL : Blk W2 (w1.heap.size + 1) 36 #[I y1.day, I y1.temp, I y1.rain] := by rw [hW2]; exact (blk21 _ _ _ _).drew
    have hB2 : Below w1.heap.size w1 W2 := by rw [hW2]; exact (below2 _ _ _).drew
    clear hW2
    generalize w1.heap.size + 1 = gL at hL ⊢
    generalize w1.heap.size = gF at hF ⊢
    revert hB2
    revert hL
    revert hF
    revert gL
    revert gF
    revert W2
    exact key.out
   ·rename_i hS
    clear hS
    obtain ⟨W2, hW2⟩ : ∃ W2, W2 = ((w1.alloc (Obj.cells #[Value.int .i64 y1.day, Value.int .i64 y1.temp, Value.int .i64 y1.rain] 36)).alloc (Obj.cells #[Value.int .i64 y0.day, Value.int .i64 y0.temp, Value.int .i64 y0.rain] 36)).drew := ⟨_, rfl⟩
    rw [← hW2]
    have hF : Blk W2 (w1.heap.size + 1) 36 #[I y0.day, I y0.temp, I y0.rain] := by rw [hW2]; exact (blk21 _ _ _ _).drew
    have hL : Blk W2 w1.heap.size 36 #[I y1.day, I y1.temp, I y1.rain] := by rw [hW2]; exact (blk20 _ _ _ _).drew
    have hB2 : Below w1.heap.size w1 W2 := by rw [hW2]; exact (below2 _ _ _).drew
    clear hW2
    generalize w1.heap.size + 1 = gF at hF ⊢
    generalize w1.heap.size = gL at hL ⊢
    revert hB2
    revert hL
    revert hF
    revert gL
    revert gF
    revert W2
    exact key.out
  case g =>
   intro W2 gF gL hF hL hB2
   have kC2 := hide (kC.out.grow hB2)
   have kB2 := hide (bup kB hB2)
   replace hF := hide hF
   replace hL := hide hL
   clear kC kB hB2 e0 e1 e2 f0 f1 f2 hbx hgq
   go_wp2_with fail
   go_loopw [9, 45, 62] (fun i _ _ wr => ∃ k : Nat, k ≤ l.length ∧ i = I k ∧ Hid ((l.take k).all (agreesAt c days) = true) ∧ Hid (Below W2.heap.size W2 wr)) (fun i _ _ _ => l.length - (intOf i).toNat)
   case atStart => exact ⟨0, Nat.zero_le _, rfl, hide (by simp), hide (Below.refl _ _)⟩
   case round =>
    obtain ⟨k, hk2, rfl, hall, hbw2⟩ := hrel
    by_cases hlt : k < l.length
    ·obtain ⟨bx, offx, rfl, hbx⟩ := hA2.out k hlt
     obtain ⟨x, hx⟩ := getElem?_of_lt hlt
     have hxo := hl.out x (List.mem_of_getElem? hx)
     have hnext : agreesAt c days x = true → (l.take (k + 1)).all (agreesAt c days) = true := fun h => by rw [take_succ_of hx, List.all_append, hall.out]; simp [h]
     have hbad : agreesAt c days x = false → l.all (agreesAt c days) = false := fun h => by rw [List.all_eq_false]; exact ⟨x, List.mem_of_getElem? hx, by simp [h]⟩
     replace hnext := hide hnext
     replace hbad := hide hbad
     have HC : ∀ W, Below wr.heap.size wr W → (bx < W.heap.size ∧ W.cell? ⟨bx, offx + k * 3, none⟩ = some (I x.day) ∧ W.cell? ⟨bx, offx + k * 3 + 1, none⟩ = some (I x.temp) ∧ W.cell? ⟨bx, offx + k * 3 + 2, none⟩ = some (I x.rain)) ∧
       (gF < W.heap.size ∧ W.cell? ⟨gF, 0, none⟩ = some (I y0.day) ∧ W.cell? ⟨gF, 1, none⟩ = some (I y0.temp) ∧ W.cell? ⟨gF, 2, none⟩ = some (I y0.rain)) ∧
       (gL < W.heap.size ∧ W.cell? ⟨gL, 0, none⟩ = some (I y1.day) ∧ W.cell? ⟨gL, 1, none⟩ = some (I y1.temp) ∧ W.cell? ⟨gL, 2, none⟩ = some (I y1.rain)) ∧ ClimAt c w.heap.size W := fun W hW => by
      have hb := bup hbw2.out hW
      have h1 := hF.out.grow hb
      have h2 := hL.out.grow hb
      exact ⟨((unhide hv).mono (bup kB2.out hb)).weather_at hx, ⟨h1.lt, h1.cell 0, h1.cell 1, h1.cell 2⟩, ⟨h2.lt, h2.cell 0, h2.cell 1, h2.cell 2⟩, (kC2.out.grow hb).clim⟩
     replace HC := hide HC
     obtain ⟨d1, d2⟩ := hxo.day
     rcases ilt x.day y0.day with c1 | c1
     ·have hag := hlo.out x c1
      have HN := HN0.out x hxo
      cases hnr : nearB c x y0 with
      | false =>
       rw [hnr] at HN hag
       replace HN := hide HN
       replace hag := hide hag
       replace hx := hide hx
       replace hxo := hide hxo
       clear hnr hlo hhi hmi HN0 HN1 hl hv hd
       obtain ⟨⟨b1, g0, g1, g2⟩, ⟨b2, t0, t1, t2⟩, ⟨b3, u0, u1, u2⟩, ⟨b4, q0, q1, q2, q3, q4, q5, q6, q7⟩⟩ := HC.out wr (Below.refl _ _)
       go_wp2_with fail
       (refine wp_region_grow (by kernel_rfl) (by kernel_rfl) ?_; (repeat (first | go_big_quiet_skip | (go_big_quiet_want; go_big_quiet_op; first | go_big_quiet_on | (apply Exists.intro; refine ⟨fun _ => ?_, ?_⟩; (focus (fail)); go_big_quiet_on)))); refine wpQuiet_nil ?_; rintro W1 ⟨⟨_, hW1⟩, rfl⟩)
       have Z1 := hW1
       obtain ⟨Wa, hWa⟩ : ∃ Wa, Wa = W1 := ⟨_, rfl⟩
       rw [← hWa] at Z1 hW1 ⊢
       clear hWa
       clear b1 g0 g1 g2 b2 t0 t1 t2 b3 u0 u1 u2 b4 q0 q1 q2 q3 q4 q5 q6 q7
       obtain ⟨⟨b1, g0, g1, g2⟩, ⟨b2, t0, t1, t2⟩, ⟨b3, u0, u1, u2⟩, ⟨b4, q0, q1, q2, q3, q4, q5, q6, q7⟩⟩ := HC.out _ Z1
       clear hW1
       go_wp2_with fail
       (refine wp_region_grow (by kernel_rfl) (by kernel_rfl) ?_; (repeat (first | go_big_quiet_skip | (go_big_quiet_want; go_big_quiet_op; first | go_big_quiet_on | (apply Exists.intro; refine ⟨fun _ => ?_, ?_⟩; (focus ((go_at_call 92; exact calls_grew (HN.out _)))); go_big_quiet_on)))); refine wpQuiet_nil ?_; rintro W1 ⟨⟨_, hW1⟩, rfl⟩)
       replace Z1 := bup Z1 hW1
       clear hW1
       clear b1 g0 g1 g2 b2 t0 t1 t2 b3 u0 u1 u2 b4 q0 q1 q2 q3 q4 q5 q6 q7
       go_wp2_with fail
       go_ret
       exact ⟨ret_bool (hfin.out.trans (hbad.out hag.out)).symm, bup (bup kB2.out hbw2.out) Z1⟩
      | true =>
       rw [hnr] at HN hag
       replace HN := hide HN
       replace hag := hide hag
       replace hx := hide hx
       replace hxo := hide hxo
       clear hnr hlo hhi hmi HN0 HN1 hl hv hd
       obtain ⟨⟨b1, g0, g1, g2⟩, ⟨b2, t0, t1, t2⟩, ⟨b3, u0, u1, u2⟩, ⟨b4, q0, q1, q2, q3, q4, q5, q6, q7⟩⟩ := HC.out wr (Below.refl _ _)
       go_wp2_with fail
       (refine wp_region_grow (by kernel_rfl) (by kernel_rfl) ?_; (repeat (first | go_big_quiet_skip | (go_big_quiet_want; go_big_quiet_op; first | go_big_quiet_on | (apply Exists.intro; refine ⟨fun _ => ?_, ?_⟩; (focus (fail)); go_big_quiet_on)))); refine wpQuiet_nil ?_; rintro W1 ⟨⟨_, hW1⟩, rfl⟩)
       have Z1 := hW1
       obtain ⟨Wa, hWa⟩ : ∃ Wa, Wa = W1 := ⟨_, rfl⟩
       rw [← hWa] at Z1 hW1 ⊢
       clear hWa
       clear b1 g0 g1 g2 b2 t0 t1 t2 b3 u0 u1 u2 b4 q0 q1 q2 q3 q4 q5 q6 q7
       obtain ⟨⟨b1, g0, g1, g2⟩, ⟨b2, t0, t1, t2⟩, ⟨b3, u0, u1, u2⟩, ⟨b4, q0, q1, q2, q3, q4, q5, q6, q7⟩⟩ := HC.out _ Z1
       clear hW1
       go_wp2_with fail
       (refine wp_region_grow (by kernel_rfl) (by kernel_rfl) ?_; (repeat (first | go_big_quiet_skip | (go_big_quiet_want; go_big_quiet_op; first | go_big_quiet_on | (apply Exists.intro; refine ⟨fun _ => ?_, ?_⟩; (focus ((go_at_call 92; exact calls_grew (HN.out _)))); go_big_quiet_on)))); refine wpQuiet_nil ?_; rintro W1 ⟨⟨_, hW1⟩, rfl⟩)
       replace Z1 := bup Z1 hW1
       clear hW1
       clear b1 g0 g1 g2 b2 t0 t1 t2 b3 u0 u1 u2 b4 q0 q1 q2 q3 q4 q5 q6 q7
       go_wp2_with fail
       go_roundw
       case rel => exact ⟨k + 1, by omega, by go_num, hide (hnext.out hag.out), hide (bup hbw2.out Z1)⟩
       case measure => simp [intOf]; omega
     ·rcases ilt y1.day x.day with c2 | c2
      ·have hag := hhi.out x c2
       have HN := HN1.out x hxo
       cases hnr : nearB c x y1 with
       | false =>
        rw [hnr] at HN hag
        replace HN := hide HN
        replace hag := hide hag
        replace hx := hide hx
        replace hxo := hide hxo
        clear hnr hlo hhi hmi HN0 HN1 hl hv hd
        obtain ⟨⟨b1, g0, g1, g2⟩, ⟨b2, t0, t1, t2⟩, ⟨b3, u0, u1, u2⟩, ⟨b4, q0, q1, q2, q3, q4, q5, q6, q7⟩⟩ := HC.out wr (Below.refl _ _)
        go_wp2_with fail
        (refine wp_region_grow (by kernel_rfl) (by kernel_rfl) ?_; (repeat (first | go_big_quiet_skip | (go_big_quiet_want; go_big_quiet_op; first | go_big_quiet_on | (apply Exists.intro; refine ⟨fun _ => ?_, ?_⟩; (focus (fail)); go_big_quiet_on)))); refine wpQuiet_nil ?_; rintro W1 ⟨⟨_, hW1⟩, rfl⟩)
        have Z1 := hW1
        obtain ⟨Wa, hWa⟩ : ∃ Wa, Wa = W1 := ⟨_, rfl⟩
        rw [← hWa] at Z1 hW1 ⊢
        clear hWa
        clear b1 g0 g1 g2 b2 t0 t1 t2 b3 u0 u1 u2 b4 q0 q1 q2 q3 q4 q5 q6 q7
        obtain ⟨⟨b1, g0, g1, g2⟩, ⟨b2, t0, t1, t2⟩, ⟨b3, u0, u1, u2⟩, ⟨b4, q0, q1, q2, q3, q4, q5, q6, q7⟩⟩ := HC.out _ Z1
        clear hW1
        go_wp2_with fail
        (refine wp_region_grow (by kernel_rfl) (by kernel_rfl) ?_; (repeat (first | go_big_quiet_skip | (go_big_quiet_want; go_big_quiet_op; first | go_big_quiet_on | (apply Exists.intro; refine ⟨fun _ => ?_, ?_⟩; (focus (fail)); go_big_quiet_on)))); refine wpQuiet_nil ?_; rintro W1 ⟨⟨_, hW1⟩, rfl⟩)
        obtain ⟨Wb, hWb⟩ : ∃ Wb, Wb = W1 := ⟨_, rfl⟩
        rw [← hWb] at hW1 ⊢
        clear hWb
        replace Z1 := bup Z1 hW1
        clear b1 g0 g1 g2 b2 t0 t1 t2 b3 u0 u1 u2 b4 q0 q1 q2 q3 q4 q5 q6 q7
        obtain ⟨⟨b1, g0, g1, g2⟩, ⟨b2, t0, t1, t2⟩, ⟨b3, u0, u1, u2⟩, ⟨b4, q0, q1, q2, q3, q4, q5, q6, q7⟩⟩ := HC.out _ Z1
        clear hW1
        go_wp2_with fail
        (refine wp_region_grow (by kernel_rfl) (by kernel_rfl) ?_; (repeat (first | go_big_quiet_skip | (go_big_quiet_want; go_big_quiet_op; first | go_big_quiet_on | (apply Exists.intro; refine ⟨fun _ => ?_, ?_⟩; (focus ((go_at_call 92; exact calls_grew (HN.out _)))); go_big_quiet_on)))); refine wpQuiet_nil ?_; rintro W1 ⟨⟨_, hW1⟩, rfl⟩)
        replace Z1 := bup Z1 hW1
        clear hW1
        clear b1 g0 g1 g2 b2 t0 t1 t2 b3 u0 u1 u2 b4 q0 q1 q2 q3 q4 q5 q6 q7
        go_wp2_with fail
        go_ret
        exact ⟨ret_bool (hfin.out.trans (hbad.out hag.out)).symm, bup (bup kB2.out hbw2.out) Z1⟩
       | true =>
        rw [hnr] at HN hag
        replace HN := hide HN
        replace hag := hide hag
        replace hx := hide hx
        replace hxo := hide hxo
        clear hnr hlo hhi hmi HN0 HN1 hl hv hd
        obtain ⟨⟨b1, g0, g1, g2⟩, ⟨b2, t0, t1, t2⟩, ⟨b3, u0, u1, u2⟩, ⟨b4, q0, q1, q2, q3, q4, q5, q6, q7⟩⟩ := HC.out wr (Below.refl _ _)
        go_wp2_with fail
        (refine wp_region_grow (by kernel_rfl) (by kernel_rfl) ?_; (repeat (first | go_big_quiet_skip | (go_big_quiet_want; go_big_quiet_op; first | go_big_quiet_on | (apply Exists.intro; refine ⟨fun _ => ?_, ?_⟩; (focus (fail)); go_big_quiet_on)))); refine wpQuiet_nil ?_; rintro W1 ⟨⟨_, hW1⟩, rfl⟩)
        have Z1 := hW1
        obtain ⟨Wa, hWa⟩ : ∃ Wa, Wa = W1 := ⟨_, rfl⟩
        rw [← hWa] at Z1 hW1 ⊢
        clear hWa
        clear b1 g0 g1 g2 b2 t0 t1 t2 b3 u0 u1 u2 b4 q0 q1 q2 q3 q4 q5 q6 q7
        obtain ⟨⟨b1, g0, g1, g2⟩, ⟨b2, t0, t1, t2⟩, ⟨b3, u0, u1, u2⟩, ⟨b4, q0, q1, q2, q3, q4, q5, q6, q7⟩⟩ := HC.out _ Z1
        clear hW1
        go_wp2_with fail
        (refine wp_region_grow (by kernel_rfl) (by kernel_rfl) ?_; (repeat (first | go_big_quiet_skip | (go_big_quiet_want; go_big_quiet_op; first | go_big_quiet_on | (apply Exists.intro; refine ⟨fun _ => ?_, ?_⟩; (focus (fail)); go_big_quiet_on)))); refine wpQuiet_nil ?_; rintro W1 ⟨⟨_, hW1⟩, rfl⟩)
        obtain ⟨Wb, hWb⟩ : ∃ Wb, Wb = W1 := ⟨_, rfl⟩
        rw [← hWb] at hW1 ⊢
        clear hWb
        replace Z1 := bup Z1 hW1
        clear b1 g0 g1 g2 b2 t0 t1 t2 b3 u0 u1 u2 b4 q0 q1 q2 q3 q4 q5 q6 q7
        obtain ⟨⟨b1, g0, g1, g2⟩, ⟨b2, t0, t1, t2⟩, ⟨b3, u0, u1, u2⟩, ⟨b4, q0, q1, q2, q3, q4, q5, q6, q7⟩⟩ := HC.out _ Z1
        clear hW1
        go_wp2_with fail
        (refine wp_region_grow (by kernel_rfl) (by kernel_rfl) ?_; (repeat (first | go_big_quiet_skip | (go_big_quiet_want; go_big_quiet_op; first | go_big_quiet_on | (apply Exists.intro; refine ⟨fun _ => ?_, ?_⟩; (focus ((go_at_call 92; exact calls_grew (HN.out _)))); go_big_quiet_on)))); refine wpQuiet_nil ?_; rintro W1 ⟨⟨_, hW1⟩, rfl⟩)
        replace Z1 := bup Z1 hW1
        clear hW1
        clear b1 g0 g1 g2 b2 t0 t1 t2 b3 u0 u1 u2 b4 q0 q1 q2 q3 q4 q5 q6 q7
        go_wp2_with fail
        go_roundw
        case rel => exact ⟨k + 1, by omega, by go_num, hide (hnext.out hag.out), hide (bup hbw2.out Z1)⟩
        case measure => simp [intOf]; omega
      ·obtain ⟨j, y, hy, hj1, hj2, hag⟩ := hmi.out x c1 c2
       have hjl := (List.getElem?_eq_some_iff.1 hy).1
       have HD : ∀ W, Below wr.heap.size wr W → b < W.heap.size ∧ W.cell? ⟨b, off + j * 3, none⟩ = some (I y.day) ∧ W.cell? ⟨b, off + j * 3 + 1, none⟩ = some (I y.temp) ∧ W.cell? ⟨b, off + j * 3 + 2, none⟩ = some (I y.rain) := fun W hW => ((unhide hd).mono (bup kB2.out (bup hbw2.out hW))).weather_at hy
       replace HD := hide HD
       have k8 : IntKind.i64.wrap (x.day - y0.day) = (j : Int) := by rw [IntWalk.i64_in _ (by omega)]; exact hj1
       have k9 : (0 : Int) ≤ (j : Int) := by omega
       have k10 : (j : Int) < (days.length : Int) := by omega
       have hdd : (y.day == x.day) = true := by simpa using hj2
       clear hlo hhi hmi HN0 HN1 hl hv hd
       cases ht : (y.temp == x.temp) with
       | false =>
        rw [show decide (x = y) = false by rw [decide_eq_false_iff_not, Weather.eq_iff]; simp at ht; exact fun h => ht h.2.1.symm] at hag
        replace hag := hide hag
        replace hx := hide hx
        replace hxo := hide hxo
        replace hy := hide hy
        obtain ⟨⟨b1, g0, g1, g2⟩, ⟨b2, t0, t1, t2⟩, ⟨b3, u0, u1, u2⟩, ⟨b4, q0, q1, q2, q3, q4, q5, q6, q7⟩⟩ := HC.out wr (Below.refl _ _)
        clear hj1
        go_wp2_with fail
        (refine wp_region_grow (by kernel_rfl) (by kernel_rfl) ?_; (repeat (first | go_big_quiet_skip | (go_big_quiet_want; go_big_quiet_op; first | go_big_quiet_on | (apply Exists.intro; refine ⟨fun _ => ?_, ?_⟩; (focus (fail)); go_big_quiet_on)))); refine wpQuiet_nil ?_; rintro W1 ⟨⟨_, hW1⟩, rfl⟩)
        have Z1 := hW1
        obtain ⟨Wa, hWa⟩ : ∃ Wa, Wa = W1 := ⟨_, rfl⟩
        rw [← hWa] at Z1 hW1 ⊢
        clear hWa hW1
        clear b1 g0 g1 g2 b2 t0 t1 t2 b3 u0 u1 u2 b4 q0 q1 q2 q3 q4 q5 q6 q7
        obtain ⟨⟨b1, g0, g1, g2⟩, ⟨b2, t0, t1, t2⟩, ⟨b3, u0, u1, u2⟩, ⟨b4, q0, q1, q2, q3, q4, q5, q6, q7⟩⟩ := HC.out _ Z1
        go_wp2_with fail
        (refine wp_region_grow (by kernel_rfl) (by kernel_rfl) ?_; (repeat (first | go_big_quiet_skip | (go_big_quiet_want; go_big_quiet_op; first | go_big_quiet_on | (apply Exists.intro; refine ⟨fun _ => ?_, ?_⟩; (focus (fail)); go_big_quiet_on)))); refine wpQuiet_nil ?_; rintro W1 ⟨⟨_, hW1⟩, rfl⟩)
        obtain ⟨Wb, hWb⟩ : ∃ Wb, Wb = W1 := ⟨_, rfl⟩
        rw [← hWb] at hW1 ⊢
        clear hWb
        replace Z1 := bup Z1 hW1
        clear hW1
        clear b1 g0 g1 g2 b2 t0 t1 t2 b3 u0 u1 u2 b4 q0 q1 q2 q3 q4 q5 q6 q7
        obtain ⟨⟨b1, g0, g1, g2⟩, ⟨b2, t0, t1, t2⟩, ⟨b3, u0, u1, u2⟩, ⟨b4, q0, q1, q2, q3, q4, q5, q6, q7⟩⟩ := HC.out _ Z1
        obtain ⟨bY, y5, y6, y7⟩ := HD.out _ Z1
        go_wp2_with fail
        (refine wp_region_grow (by kernel_rfl) (by kernel_rfl) ?_; (repeat (first | go_big_quiet_skip | (go_big_quiet_want; go_big_quiet_op; first | go_big_quiet_on | (apply Exists.intro; refine ⟨fun _ => ?_, ?_⟩; (focus (fail)); go_big_quiet_on)))); refine wpQuiet_nil ?_; rintro W1 ⟨⟨_, hW1⟩, rfl⟩)
        replace Z1 := bup Z1 hW1
        clear hW1 bY y5 y6 y7
        clear b1 g0 g1 g2 b2 t0 t1 t2 b3 u0 u1 u2 b4 q0 q1 q2 q3 q4 q5 q6 q7
        go_wp2_with fail
        go_ret
        exact ⟨ret_bool (hfin.out.trans (hbad.out hag.out)).symm, bup (bup kB2.out hbw2.out) Z1⟩
       | true =>
        cases hr : (y.rain == x.rain) with
        | false =>
         rw [show decide (x = y) = false by rw [decide_eq_false_iff_not, Weather.eq_iff]; simp at hr; exact fun h => hr h.2.2.symm] at hag
         replace hag := hide hag
         replace hx := hide hx
         replace hxo := hide hxo
         replace hy := hide hy
         obtain ⟨⟨b1, g0, g1, g2⟩, ⟨b2, t0, t1, t2⟩, ⟨b3, u0, u1, u2⟩, ⟨b4, q0, q1, q2, q3, q4, q5, q6, q7⟩⟩ := HC.out wr (Below.refl _ _)
         clear hj1
         go_wp2_with fail
         (refine wp_region_grow (by kernel_rfl) (by kernel_rfl) ?_; (repeat (first | go_big_quiet_skip | (go_big_quiet_want; go_big_quiet_op; first | go_big_quiet_on | (apply Exists.intro; refine ⟨fun _ => ?_, ?_⟩; (focus (fail)); go_big_quiet_on)))); refine wpQuiet_nil ?_; rintro W1 ⟨⟨_, hW1⟩, rfl⟩)
         have Z1 := hW1
         obtain ⟨Wa, hWa⟩ : ∃ Wa, Wa = W1 := ⟨_, rfl⟩
         rw [← hWa] at Z1 hW1 ⊢
         clear hWa hW1
         clear b1 g0 g1 g2 b2 t0 t1 t2 b3 u0 u1 u2 b4 q0 q1 q2 q3 q4 q5 q6 q7
         obtain ⟨⟨b1, g0, g1, g2⟩, ⟨b2, t0, t1, t2⟩, ⟨b3, u0, u1, u2⟩, ⟨b4, q0, q1, q2, q3, q4, q5, q6, q7⟩⟩ := HC.out _ Z1
         go_wp2_with fail
         (refine wp_region_grow (by kernel_rfl) (by kernel_rfl) ?_; (repeat (first | go_big_quiet_skip | (go_big_quiet_want; go_big_quiet_op; first | go_big_quiet_on | (apply Exists.intro; refine ⟨fun _ => ?_, ?_⟩; (focus (fail)); go_big_quiet_on)))); refine wpQuiet_nil ?_; rintro W1 ⟨⟨_, hW1⟩, rfl⟩)
         obtain ⟨Wb, hWb⟩ : ∃ Wb, Wb = W1 := ⟨_, rfl⟩
         rw [← hWb] at hW1 ⊢
         clear hWb
         replace Z1 := bup Z1 hW1
         clear hW1
         clear b1 g0 g1 g2 b2 t0 t1 t2 b3 u0 u1 u2 b4 q0 q1 q2 q3 q4 q5 q6 q7
         obtain ⟨⟨b1, g0, g1, g2⟩, ⟨b2, t0, t1, t2⟩, ⟨b3, u0, u1, u2⟩, ⟨b4, q0, q1, q2, q3, q4, q5, q6, q7⟩⟩ := HC.out _ Z1
         obtain ⟨bY, y5, y6, y7⟩ := HD.out _ Z1
         go_wp2_with fail
         (refine wp_region_grow (by kernel_rfl) (by kernel_rfl) ?_; (repeat (first | go_big_quiet_skip | (go_big_quiet_want; go_big_quiet_op; first | go_big_quiet_on | (apply Exists.intro; refine ⟨fun _ => ?_, ?_⟩; (focus (fail)); go_big_quiet_on)))); refine wpQuiet_nil ?_; rintro W1 ⟨⟨_, hW1⟩, rfl⟩)
         replace Z1 := bup Z1 hW1
         clear hW1 bY y5 y6 y7
         clear b1 g0 g1 g2 b2 t0 t1 t2 b3 u0 u1 u2 b4 q0 q1 q2 q3 q4 q5 q6 q7
         go_wp2_with fail
         go_ret
         exact ⟨ret_bool (hfin.out.trans (hbad.out hag.out)).symm, bup (bup kB2.out hbw2.out) Z1⟩
        | true =>
         rw [show decide (x = y) = true by rw [decide_eq_true_iff, Weather.eq_iff]; exact ⟨hj2.symm, (by simpa using ht : y.temp = x.temp).symm, (by simpa using hr : y.rain = x.rain).symm⟩] at hag
         replace hag := hide hag
         replace hx := hide hx
         replace hxo := hide hxo
         replace hy := hide hy
         obtain ⟨⟨b1, g0, g1, g2⟩, ⟨b2, t0, t1, t2⟩, ⟨b3, u0, u1, u2⟩, ⟨b4, q0, q1, q2, q3, q4, q5, q6, q7⟩⟩ := HC.out wr (Below.refl _ _)
         clear hj1
         go_wp2_with fail
         (refine wp_region_grow (by kernel_rfl) (by kernel_rfl) ?_; (repeat (first | go_big_quiet_skip | (go_big_quiet_want; go_big_quiet_op; first | go_big_quiet_on | (apply Exists.intro; refine ⟨fun _ => ?_, ?_⟩; (focus (fail)); go_big_quiet_on)))); refine wpQuiet_nil ?_; rintro W1 ⟨⟨_, hW1⟩, rfl⟩)
         have Z1 := hW1
         obtain ⟨Wa, hWa⟩ : ∃ Wa, Wa = W1 := ⟨_, rfl⟩
         rw [← hWa] at Z1 hW1 ⊢
         clear hWa hW1
         clear b1 g0 g1 g2 b2 t0 t1 t2 b3 u0 u1 u2 b4 q0 q1 q2 q3 q4 q5 q6 q7
         obtain ⟨⟨b1, g0, g1, g2⟩, ⟨b2, t0, t1, t2⟩, ⟨b3, u0, u1, u2⟩, ⟨b4, q0, q1, q2, q3, q4, q5, q6, q7⟩⟩ := HC.out _ Z1
         go_wp2_with fail
         (refine wp_region_grow (by kernel_rfl) (by kernel_rfl) ?_; (repeat (first | go_big_quiet_skip | (go_big_quiet_want; go_big_quiet_op; first | go_big_quiet_on | (apply Exists.intro; refine ⟨fun _ => ?_, ?_⟩; (focus (fail)); go_big_quiet_on)))); refine wpQuiet_nil ?_; rintro W1 ⟨⟨_, hW1⟩, rfl⟩)
         obtain ⟨Wb, hWb⟩ : ∃ Wb, Wb = W1 := ⟨_, rfl⟩
         rw [← hWb] at hW1 ⊢
         clear hWb
         replace Z1 := bup Z1 hW1
         clear hW1
         clear b1 g0 g1 g2 b2 t0 t1 t2 b3 u0 u1 u2 b4 q0 q1 q2 q3 q4 q5 q6 q7
         obtain ⟨⟨b1, g0, g1, g2⟩, ⟨b2, t0, t1, t2⟩, ⟨b3, u0, u1, u2⟩, ⟨b4, q0, q1, q2, q3, q4, q5, q6, q7⟩⟩ := HC.out _ Z1
         obtain ⟨bY, y5, y6, y7⟩ := HD.out _ Z1
         go_wp2_with fail
         (refine wp_region_grow (by kernel_rfl) (by kernel_rfl) ?_; (repeat (first | go_big_quiet_skip | (go_big_quiet_want; go_big_quiet_op; first | go_big_quiet_on | (apply Exists.intro; refine ⟨fun _ => ?_, ?_⟩; (focus (fail)); go_big_quiet_on)))); refine wpQuiet_nil ?_; rintro W1 ⟨⟨_, hW1⟩, rfl⟩)
         replace Z1 := bup Z1 hW1
         clear hW1 bY y5 y6 y7
         clear b1 g0 g1 g2 b2 t0 t1 t2 b3 u0 u1 u2 b4 q0 q1 q2 q3 q4 q5 q6 q7
         go_wp2_with fail
         go_roundw
         case rel => exact ⟨k + 1, by omega, by go_num, hide (hnext.out hag.out), hide (bup hbw2.out Z1)⟩
         case measure => simp [intOf]; omega
    ·have he : k = l.length := by omega
     subst he
     have hs := hall.out
     rw [List.take_length] at hs
     have hfin2 := hide (hfin.out.trans hs)
     clear hs hall
     go_wp2_with fail
     go_ret
     exact ⟨ret_bool hfin2.out.symm, bup kB2.out hbw2.out⟩

theorem ref_Allowed (c : Climate) (v vd : Value) (l days : List Weather) (w : World) (hv : Sl w 3 Weather.cells v l) (hd : Sl w 3 Weather.cells vd days) :
  Calls Tryz.prog 41 #[c.v, v, vd] w fun e w' => e = .returned (.tuple #[.bool (allowV c l days), I (allowE c l days)]) ∧ Below w.heap.size w w' := by
 have H1 := fun w hv => ref_CheckLog c v l w hv
 by_cases hE : logE c l = 0
 ·have h2 := LogOk.of hE
  have hcl := log_clim hE
  rw [hE] at H1
  have H2 := fun w hv => ref_successive vd days w hv
  cases hb : (succB days && inB days.length 1 512) with
  | false =>
   have hE1 : allowE c l days = 1 := by simp [allowE, loggedE, hE, askedE, hcl, Bool.and_comm (inB (days.length : Int) 1 512), hb]
   have hV : allowV c l days = false := by simp [allowV, hE1]
   rw [hE1, hV]
   rw [hb] at H2
   clear hE1 hV hcl h2 hE hb
   unfold Climate.v at *
   replace hv := hide hv
   replace hd := hide hd
   replace H1 := hide H1
   replace H2 := hide H2
   go_enter Tryz.func41, Tryz.ntmps41
   go_wp2_with (first | (go_at_call 26; refine (H1.out _ (hv.out.mono (below1 _ _))).mono ?_; clear H1; rintro e w1 ⟨rfl, hb1⟩; obtain ⟨_, q0, q1, q2, q3, q4, q5, q6, q7⟩ := ((Blk.new w 25 (c8 c)).grow hb1).clim) | (go_at_call 94; refine (H2.out _ (hd.out.mono (bup (below1 _ _) hb1))).mono ?_; clear H2 q0 q1 q2 q3 q4 q5 q6 q7; rintro e w2 ⟨rfl, hb2⟩; obtain ⟨_, q0, q1, q2, q3, q4, q5, q6, q7⟩ := (((Blk.new w 25 (c8 c)).grow hb1).grow hb2).clim))
   go_ret2
   exact ⟨rfl, bup (bup (below1 _ _) hb1) hb2⟩
  | true =>
   have hE1 : allowE c l days = 0 := by simp [allowE, loggedE, hE, askedE, hcl, Bool.and_comm (inB (days.length : Int) 1 512), hb]
   have hV : allowV c l days = agreesB c l days := by simp [allowV, hE1]
   rw [hE1, hV]
   rw [hb] at H2
   simp only [Bool.and_eq_true] at hb
   obtain ⟨hb3, hb4⟩ := hb
   have hb5 := inB_true.1 hb4
   have H3 := fun w hv hd => ref_agrees c v vd l days w h2.clim h2.mem (by omega) (by omega) hb3 hv hd
   obtain ⟨G, hG⟩ : ∃ G, agreesB c l days = G := ⟨_, rfl⟩
   rw [hG] at H3 ⊢
   clear hE1 hV hcl h2 hE hb3 hb4 hb5 hG
   (try unfold Climate.v at H3)
   replace H3 := hide H3
   unfold Climate.v at *
   replace hv := hide hv
   replace hd := hide hd
   replace H1 := hide H1
   replace H2 := hide H2
   go_enter Tryz.func41, Tryz.ntmps41
   go_wp2_with (first | (go_at_call 26; refine (H1.out _ (hv.out.mono (below1 _ _))).mono ?_; clear H1; rintro e w1 ⟨rfl, hb1⟩; obtain ⟨_, q0, q1, q2, q3, q4, q5, q6, q7⟩ := ((Blk.new w 25 (c8 c)).grow hb1).clim) | (go_at_call 94; refine (H2.out _ (hd.out.mono (bup (below1 _ _) hb1))).mono ?_; clear H2 q0 q1 q2 q3 q4 q5 q6 q7; rintro e w2 ⟨rfl, hb2⟩; obtain ⟨_, q0, q1, q2, q3, q4, q5, q6, q7⟩ := (((Blk.new w 25 (c8 c)).grow hb1).grow hb2).clim) | (go_at_call 111; refine (H3.out _ (hv.out.mono (bup (bup (below1 _ _) hb1) hb2)) (hd.out.mono (bup (bup (below1 _ _) hb1) hb2))).mono ?_; clear H3; rintro e w3 ⟨rfl, hb3⟩))
   go_ret2
   exact ⟨rfl, bup (bup (bup (below1 _ _) hb1) hb2) hb3⟩
 ·have hE1 : allowE c l days = logE c l := by simp [allowE, loggedE, hE]
  have hV : allowV c l days = false := by simp [allowV, hE1, hE]
  rw [hE1, hV]
  obtain ⟨e0, he0⟩ : ∃ e, logE c l = e := ⟨_, rfl⟩
  rw [he0] at hE H1 ⊢
  have hne : (e0 != 0) = true := by simpa using hE
  clear hE1 hV hE he0
  replace hv := hide hv
  unfold Climate.v at *
  replace H1 := hide H1
  go_enter Tryz.func41, Tryz.ntmps41
  go_wp2_with (first | (go_at_call 26; refine (H1.out _ (hv.out.mono (below1 _ _))).mono ?_; clear H1; rintro e w1 ⟨rfl, hb1⟩; obtain ⟨_, q0, q1, q2, q3, q4, q5, q6, q7⟩ := ((Blk.new w 25 (c8 c)).grow hb1).clim))
  go_ret2
  exact ⟨rfl, bup (below1 _ _) hb1⟩
end Go.Proofs.YtmjfdobjnnfafaaGreatDoor
