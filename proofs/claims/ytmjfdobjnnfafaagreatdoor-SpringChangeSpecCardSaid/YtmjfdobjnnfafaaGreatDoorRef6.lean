/- The reference's gap and Gap. Conditions stand in the theorems. -/
import Derived.Test.YtmjfdobjnnfafaaGreatDoorSpring6Pack
import Derived.Test.YtmjfdobjnnfafaaGreatDoorRef4
import Derived.Test.YtmjfdobjnnfafaaGreatDoorRound
import Derived.Test.YtmjfdobjnnfafaaGreatDoorAgainSpring10
set_option linter.all false
set_option maxRecDepth 100000
set_option maxHeartbeats 4000000
namespace Go.Proofs.YtmjfdobjnnfafaaGreatDoor
open Go.RowKit

theorem ref_gap (c : Climate) (v : Value) (l : List Weather) (d : Int) (w : World) (hc : ClimOk c) (hd : 0 ≤ d ∧ d ≤ 1048576) (hl : ∀ x ∈ l, WeaOk c x) (hv : Sl w 3 Weather.cells v l) :
  Calls Tryz.prog 109 #[c.v, v, I d] w fun e w' => e = .returned (.tuple #[.agg #[I (gapF c l d).tlo, I (gapF c l d).thi], .agg #[I (gapF c l d).rlo, I (gapF c l d).rhi]]) ∧ Below w.heap.size w w' := by
 obtain ⟨A, n, rfl, _, _, hlen, hA⟩ := hv.open_
 replace hv := hide hv
 replace hA := hide hA
 have hgo := hide (gapF_ok hc hd hl)
 unfold Climate.v
 go_enter Tryz.func109, Tryz.ntmps109
 go_wp2_with fail
 obtain ⟨W1, hW1⟩ : ∃ W1, W1 = ((((w.alloc (.cells (c8 c) 25)).alloc (.cells #[I 0, I 0] 23)).alloc (.cells #[I 0, I 0] 23)).alloc (.cells #[I c.coldest, I c.warmest] 23)).alloc (.cells #[I 0, I c.wettest] 23) := ⟨_, rfl⟩
 have hK2 : Blk W1 w.heap.size 25 (c8 c) := by rw [hW1]; exact ((((Blk.new w _ _).alloc _).alloc _).alloc _).alloc _
 have hR' : Blk W1 (w.heap.size + 1) 23 #[I 0, I 0] := by rw [hW1]; exact (((blk21 w _ _ _).alloc _).alloc _).alloc _
 have hR2' : Blk W1 (w.heap.size + 1 + 1) 23 #[I 0, I 0] := by rw [hW1]; exact ((blk32 w _ _ _ _).alloc _).alloc _
 have hT : Blk W1 (w.heap.size + 1 + 1 + 1) 23 #[I c.coldest, I c.warmest] := by
  rw [hW1]
  have h := (Blk.new (((w.alloc (.cells (c8 c) 25)).alloc (.cells #[I 0, I 0] 23)).alloc (.cells #[I 0, I 0] 23)) 23 #[I c.coldest, I c.warmest]).alloc (.cells #[I 0, I c.wettest] 23)
  simpa only [World.size_alloc] using h
 have hU : Blk W1 (w.heap.size + 1 + 1 + 1 + 1) 23 #[I 0, I c.wettest] := by
  rw [hW1]
  have h := Blk.new ((((w.alloc (.cells (c8 c) 25)).alloc (.cells #[I 0, I 0] 23)).alloc (.cells #[I 0, I 0] 23)).alloc (.cells #[I c.coldest, I c.warmest] 23)) 23 #[I 0, I c.wettest]
  simpa only [World.size_alloc] using h
 have hBB : Below w.heap.size w W1 := by rw [hW1]; exact below5 _ _ _ _ _ _
 rw [← hW1]
 clear hW1
 obtain ⟨gr, hgr⟩ : ∃ g, w.heap.size + 1 + 1 + 1 + 1 = g := ⟨_, rfl⟩
 rw [hgr] at hU ⊢
 obtain ⟨gt, hgt⟩ : ∃ g, w.heap.size + 1 + 1 + 1 = g := ⟨_, rfl⟩
 rw [hgt] at hT ⊢
 have hg1 : gt ≠ gr := by omega
 have hg2 : w.heap.size + 3 ≤ gt ∧ w.heap.size + 3 ≤ gr := by omega
 clear hgr hgt
 replace hK2 := hide hK2
 replace hR' := hide hR'
 replace hR2' := hide hR2'
 replace hT := hide hT
 replace hU := hide hU
 replace hBB := hide hBB
 go_loopw [10, 11] (fun i _ wr => ∃ k : Nat, k ≤ l.length ∧ i = I k ∧ Hid (Blk wr gt 23 #[I (gapF c (l.take k) d).tlo, I (gapF c (l.take k) d).thi]) ∧ Hid (Blk wr gr 23 #[I (gapF c (l.take k) d).rlo, I (gapF c (l.take k) d).rhi]) ∧
   Hid (Blk wr w.heap.size 25 (c8 c)) ∧ Hid (Blk wr (w.heap.size + 1) 23 #[I 0, I 0]) ∧ Hid (Blk wr (w.heap.size + 1 + 1) 23 #[I 0, I 0]) ∧ Hid (Below w.heap.size w wr)) (fun i _ _ => l.length - (intOf i).toNat)
 case atStart => exact ⟨0, Nat.zero_le _, rfl, by simpa [gapF] using hT, by simpa [gapF] using hU, hK2, hR', hR2', hBB⟩
 case round =>
  obtain ⟨k, hk, rfl, hTk, hUk, hCk, hR1, hR2, hBk⟩ := hrel
  clear hT hU hK2 hR' hR2' hBB
  have hgk := hgo.out k hk
  by_cases hlt : k < l.length
  ·obtain ⟨b, off, rfl, hbw⟩ := hA.out k hlt
   obtain ⟨x, hx⟩ := getElem?_of_lt hlt
   have hxo := hl x (List.mem_of_getElem? hx)
   have hstep := hide (gapF_snoc (c := c) (d := d) hx)
   obtain ⟨G, hG⟩ : ∃ G, gapF c (l.take k) d = G := ⟨_, rfl⟩
   rw [hG] at hTk hUk hgk hstep
   obtain ⟨hbx, e0, e1, e2⟩ := ((unhide hv).mono hBk.out).weather_at hx
   have hgw := hCk.out.lt
   have q2 : wr.cell? ⟨w.heap.size, 2, none⟩ = some (I c.swing) := hCk.out.cell 2
   obtain ⟨s1, s2⟩ := swing_bd hc hd hxo
   obtain ⟨d1, d2⟩ := hxo.day
   obtain ⟨r1, r2⟩ := hxo.rain
   obtain ⟨p1, p2⟩ := hxo.t600 hc
   obtain ⟨d3, d4⟩ := hd
   obtain ⟨g1, g2⟩ := hgk.tlo
   obtain ⟨g3, g4⟩ := hgk.thi
   have k2 : IntKind.i64.wrap (c.swing * sizeF (x.day - d)) = c.swing * sizeF (x.day - d) := IntWalk.i64_in _ (by omega)
   have HS := hide (fun w => ref_apart x.day d w (by omega) (by omega))
   have hmx := hide (show (gapStep c d G x).tlo = max G.tlo (x.temp - c.swing * sizeF (x.day - d)) from rfl)
   have hmn := hide (show (gapStep c d G x).thi = min G.thi (x.temp + c.swing * sizeF (x.day - d)) from rfl)
   have hrl := hide (show (gapStep c d G x).rlo = if x.day = d then x.rain else G.rlo from rfl)
   have hrh := hide (show (gapStep c d G x).rhi = if x.day = d then x.rain else G.rhi from rfl)
   replace hG := hide hG
   replace hxo := hide hxo
   replace hgk := hide hgk
   replace hlx := hide hl
   replace hx := hide hx
   clear hA hl d1 d2 d3 d4
   go_wp2_with fail
   (refine wp_region_grow (by kernel_rfl) (by kernel_rfl) ?_; (repeat (first | go_big_quiet_skip | (go_big_quiet_want; go_big_quiet_op; first | go_big_quiet_on | (apply Exists.intro; refine ⟨fun _ => ?_, ?_⟩; (focus ((go_at_call 165; exact calls_grew_same (HS.out _)))); go_big_quiet_on)))); refine wpQuiet_nil ?_; rintro W1 ⟨⟨_, hW1⟩, rfl⟩)
   clear k2 HS e0 e1 e2 q2
   have hTq := hTk.out.grow hW1
   have hUq := hide (hUk.out.grow hW1)
   replace hCk := hide (hCk.out.grow hW1)
   replace hR1 := hide (hR1.out.grow hW1)
   replace hR2 := hide (hR2.out.grow hW1)
   replace hBk := hide (bup hBk.out hW1)
   obtain ⟨hbx, e0, e1, e2⟩ := ((unhide hv).mono hBk.out).weather_at hx.out
   generalize c.swing * sizeF (x.day - d) = S at *
   obtain ⟨t1, t2, t3, t4, t5⟩ := blk_box hTq
   replace hTq := hide hTq
   clear hTk hUk hW1
   go_wp2_with fail
   have j1 : IntKind.i64.wrap (x.temp - S) = x.temp - S := IntWalk.i64_in _ (by omega)
   have j2 : IntKind.i64.wrap (x.temp + S) = x.temp + S := IntWalk.i64_in _ (by omega)
   refine wp_region_zg (S := fun W => W.cell? ⟨gt, 0, none⟩ = some (I G.tlo) ∧ W.cell? ⟨gt, 1, none⟩ = some (I G.thi) ∧ W.cell? ⟨b, off + k * 3 + 1, none⟩ = some (I x.temp)) 21 (by kernel_rfl) (by kernel_rfl) ?_
   have hHeld : (fun W : World => W.cell? ⟨gt, 0, none⟩ = some (I G.tlo) ∧ W.cell? ⟨gt, 1, none⟩ = some (I G.thi) ∧ W.cell? ⟨b, off + k * 3 + 1, none⟩ = some (I x.temp)) W1.drew := ⟨t2, t3, e1⟩
   (refine zg_tk 0 ?_; refine zg_tk 1 ?_; refine zg_tk 2 ?_; refine zg_tk 3 ?_; refine zg_tk 4 ?_; refine zg_tk 5 ?_; refine zg_tk 6 ?_; refine zg_tk 7 ?_; refine zg_tk 8 ?_; refine zg_tk 9 ?_; refine zg_tk 10 ?_; refine zg_tk 11 ?_; refine zg_tk 12 ?_; refine zg_tk 13 ?_; refine zg_tk 14 ?_; refine zg_tk 15 ?_; refine zg_tk 16 ?_; refine zg_tk 17 ?_; refine zg_tk 18 ?_; refine zg_tk 19 ?_; refine zg_tk 20 ?_; (try simp only [Act.put, List.setIfInBounds_toArray, List.set_cons_zero, List.set_cons_succ]))
   (refine zg_ls 21 fun K_ hK_ => ?_; go_simp; skip; refine hK_.out _ _ ?_; clear hK_ K_; (try simp only [Act.put, List.setIfInBounds_toArray, List.set_cons_zero, List.set_cons_succ]))
   clear hHeld
   (try rw [j1])
   (try rw [j2])
   rw [ite_max, ite_min, ← hmx.out, ← hmn.out]
   clear j1 j2
   obtain ⟨wA, hwA⟩ : ∃ wA, wA = ((W1.setCell ⟨gt, 0, none⟩ (Value.int .i64 (gapStep c d G x).tlo)).setCell ⟨gt, 1, none⟩ (Value.int .i64 (gapStep c d G x).thi)).drew := ⟨_, rfl⟩
   rw [← hwA]
   have hTA := hide (show Blk wA gt 23 #[I (gapStep c d G x).tlo, I (gapStep c d G x).thi] by rw [hwA]; exact (gap_set2 hTq.out).drew)
   have hUA := hide (show Blk wA gr 23 #[I G.rlo, I G.rhi] by rw [hwA]; exact (gap_keep2 hUq.out hg1.symm).drew)
   replace hCk := hide (show Blk wA w.heap.size 25 (c8 c) by rw [hwA]; exact (gap_keep2 hCk.out (by omega)).drew)
   replace hR1 := hide (show Blk wA (w.heap.size + 1) 23 #[I 0, I 0] by rw [hwA]; exact (gap_keep2 hR1.out (by omega)).drew)
   replace hR2 := hide (show Blk wA (w.heap.size + 1 + 1) 23 #[I 0, I 0] by rw [hwA]; exact (gap_keep2 hR2.out (by omega)).drew)
   replace hBk := hide (show Below w.heap.size w wA by rw [hwA]; exact (gap_below2 hBk.out (by omega)).drew)
   clear hwA hTq hUq t1 t2 t3 t4 t5 e0 e1 e2 hbx
   obtain ⟨hbx, e0, e1, e2⟩ := ((unhide hv).mono hBk.out).weather_at hx.out
   obtain ⟨u1, u2, u3, u4, u5⟩ := blk_box hUA.out
   replace hmx := hide hmx
   by_cases hxd : x.day = d
   ·have hbq : (x.day == d) = true := by simpa using hxd
    have hrl2 := hide (hrl.out.trans (if_pos hxd))
    have hrh2 := hide (hrh.out.trans (if_pos hxd))
    replace hxd := hide hxd
    go_wp2_with fail
    refine wp_region_zg (S := fun W => W.cell? ⟨b, off + k * 3 + 2, none⟩ = some (I x.rain)) 11 (by kernel_rfl) (by kernel_rfl) ?_
    have hHeld : (fun W : World => W.cell? ⟨b, off + k * 3 + 2, none⟩ = some (I x.rain)) wA.drew := e2
    (refine zg_tk 0 ?_; refine zg_tk 1 ?_; refine zg_tk 2 ?_; refine zg_tk 3 ?_; refine zg_tk 4 ?_; refine zg_tk 5 ?_; refine zg_tk 6 ?_; refine zg_tk 7 ?_; refine zg_tk 8 ?_; refine zg_tk 9 ?_; refine zg_tk 10 ?_; (try simp only [Act.put, List.setIfInBounds_toArray, List.set_cons_zero, List.set_cons_succ]))
    (refine zg_ls 11 fun K_ hK_ => ?_; go_simp; skip; refine hK_.out _ _ ?_; clear hK_ K_; (try simp only [Act.put, List.setIfInBounds_toArray, List.set_cons_zero, List.set_cons_succ]))
    clear hHeld
    go_wp2_with fail
    go_roundw
    case rel =>
     refine ⟨k + 1, by omega, by go_num, ?_, ?_, ?_, ?_, ?_, ?_⟩
     ·rw [hstep.out]; exact hide (gap_keep2 hTA.out hg1).drew
     ·rw [hstep.out, hrl2.out, hrh2.out]; exact hide (gap_set2 hUA.out).drew
     ·exact hide (gap_keep2 hCk.out (by omega)).drew
     ·exact hide (gap_keep2 hR1.out (by omega)).drew
     ·exact hide (gap_keep2 hR2.out (by omega)).drew
     ·exact hide (gap_below2 hBk.out (by omega)).drew
    case measure => simp [intOf]; omega
   ·have hbq : (x.day == d) = false := by simpa using hxd
    have hrl2 := hide (hrl.out.trans (if_neg hxd))
    have hrh2 := hide (hrh.out.trans (if_neg hxd))
    replace hxd := hide hxd
    go_wp2_with fail
    go_roundw
    case rel =>
     refine ⟨k + 1, by omega, by go_num, ?_, ?_, hCk, hR1, hR2, hBk⟩
     ·rw [hstep.out]; exact hTA
     ·rw [hstep.out, hrl2.out, hrh2.out]; exact hUA
    case measure => simp [intOf]; omega
  ·have he : k = l.length := by omega
   subst he
   rw [List.take_length] at hTk hUk
   obtain ⟨t1, t2, t3, t4, t5⟩ := blk_box hTk.out
   obtain ⟨u1, u2, u3, u4, u5⟩ := blk_box hUk.out
   obtain ⟨v1, v2, v3, v4, v5⟩ := blk_box hR1.out
   obtain ⟨w1, w2, w3, w4, w5⟩ := blk_box hR2.out
   have e1 : gt ≠ w.heap.size + 1 := by omega
   have e2 : gt ≠ w.heap.size + 2 := by omega
   have e3 : gr ≠ w.heap.size + 1 := by omega
   have e4 : gr ≠ w.heap.size + 2 := by omega
   have e5 : w.heap.size + 1 ≠ gt := by omega
   have e6 : w.heap.size + 1 + 1 ≠ gt := by omega
   have e7 : w.heap.size + 1 ≠ gr := by omega
   have e8 : w.heap.size + 1 + 1 ≠ gr := by omega
   clear hA
   go_wp2_with fail
   go_region_held3 (fun W => W.cell? ⟨gt, 0, none⟩ = some (I (gapF c l d).tlo) ∧ W.cell? ⟨gt, 1, none⟩ = some (I (gapF c l d).thi) ∧ W.cell? ⟨gr, 0, none⟩ = some (I (gapF c l d).rlo) ∧ W.cell? ⟨gr, 1, none⟩ = some (I (gapF c l d).rhi)) (go_keep) (fail)
   go_wp2_with fail
   refine bodyPost_ret (v := .tuple #[.agg #[I (gapF c l d).tlo, I (gapF c l d).thi], .agg #[I (gapF c l d).rlo, I (gapF c l d).rhi]]) (by simp [results, Tryz.results109, go_sem, v2, v3, w2, w3]) rfl ⟨rfl, ?_⟩
   exact below_drewN (gap_below2 (gap_below2 hBk.out (by omega)) (by omega)) 1


theorem within_eq {n lo hi : Int} {b : Bool} (h : inB n lo hi = b) (w : World) : Calls Tryz.prog 89 #[I n, I lo, I hi] w fun e w' => e = .returned (.bool b) ∧ w = w' := h ▸ ref_within n lo hi w
theorem log_clim {c : Climate} {l : List Weather} (h : logE c l = 0) : climateOk c = true := by
 cases hc : climateOk c with
 | true => rfl
 | false => simp [logE, hc] at h
theorem ref_Gap (c : Climate) (v : Value) (l : List Weather) (d : Int) (w : World) (hv : Sl w 3 Weather.cells v l) :
  Calls Tryz.prog 39 #[c.v, v, I d] w fun e w' => e = .returned (.tuple #[.agg #[I (gapV c l d).tlo, I (gapV c l d).thi], .agg #[I (gapV c l d).rlo, I (gapV c l d).rhi], I (gapE c l d)]) ∧ Below w.heap.size w w' := by
 have H1 := fun w hv => ref_CheckLog c v l w hv
 by_cases hE : logE c l = 0
 ·have h2 := LogOk.of hE
  have hcl := log_clim hE
  rw [hE] at H1
  cases hb : inB d 0 1048576 with
  | false =>
   have hE1 : gapE c l d = 1 := by simp [gapE, loggedE, hE, askedE, hcl, hb]
   have hV : gapV c l d = ⟨0, 0, 0, 0⟩ := by simp [gapV, hE1]
   rw [hE1, hV]
   have H2 := within_eq hb
   clear hE1 hV hcl h2 hE hb
   replace hv := hide hv
   replace H1 := hide H1
   replace H2 := hide H2
   unfold Climate.v at *
   go_enter Tryz.func39, Tryz.ntmps39
   go_wp2_with (first | (go_at_call 26; refine (H1.out _ (hv.out.mono (below3 _ _ _ _))).mono ?_; clear H1; rintro e w1 ⟨rfl, hb1⟩; have kC : Blk w1 w.heap.size 25 (c8 c) := (((Blk.new w _ _).alloc _).alloc _).grow hb1; have k1 : Blk w1 (w.heap.size + 1) 23 #[I 0, I 0] := ((blk21 w _ _ _).alloc _).grow hb1; have k2 : Blk w1 (w.heap.size + 1 + 1) 23 #[I 0, I 0] := (blk32p w _ _ _ _).grow hb1; have kB := bup (below3 _ _ _ _) hb1; have kz := hb1.size; simp at kz; replace k1 := hide k1; replace k2 := hide k2; obtain ⟨_, q0, q1, q2, q3, q4, q5, q6, q7⟩ := kC.clim; clear kC hb1; obtain ⟨v1, v2, v3, v4, v5⟩ := blk_box k1.out; obtain ⟨w1', w2', w3', w4', w5'⟩ := blk_box k2.out) | (go_at_call 89; refine (H2.out _).mono ?_; rintro e w' ⟨rfl, rfl⟩))
   refine bodyPost_ret (v := .tuple #[.agg #[I 0, I 0], .agg #[I 0, I 0], I 1]) (by simp [results, Tryz.results39, go_sem, v2, v3, w2', w3']) rfl ⟨rfl, ?_⟩
   exact gap_below2 (gap_below2 kB (by omega)) (by omega)
  | true =>
   have hE1 : gapE c l d = 0 := by simp [gapE, loggedE, hE, askedE, hcl, hb]
   have hV : gapV c l d = gapF c l d := by simp [gapV, hE1]
   rw [hE1, hV]
   have H2 := within_eq hb
   have H3 := fun w hv => ref_gap c v l d w h2.clim (inB_true.1 hb) h2.mem hv
   obtain ⟨G, hG⟩ : ∃ G, gapF c l d = G := ⟨_, rfl⟩
   rw [hG] at H3 ⊢
   replace hv := hide hv
   replace H1 := hide H1
   replace H2 := hide H2
   replace H3 := hide H3
   clear hE1 hV hcl h2 hE hb hG
   unfold Climate.v at *
   go_enter Tryz.func39, Tryz.ntmps39
   go_wp2_with (first | (go_at_call 26; refine (H1.out _ (hv.out.mono (below3 _ _ _ _))).mono ?_; clear H1; rintro e w1 ⟨rfl, hb1⟩; have kC : Blk w1 w.heap.size 25 (c8 c) := (((Blk.new w _ _).alloc _).alloc _).grow hb1; have k1 : Blk w1 (w.heap.size + 1) 23 #[I 0, I 0] := ((blk21 w _ _ _).alloc _).grow hb1; have k2 : Blk w1 (w.heap.size + 1 + 1) 23 #[I 0, I 0] := (blk32p w _ _ _ _).grow hb1; have kB := bup (below3 _ _ _ _) hb1; have kz := hb1.size; simp at kz; replace k1 := hide k1; replace k2 := hide k2; obtain ⟨_, q0, q1, q2, q3, q4, q5, q6, q7⟩ := kC.clim; clear kC hb1) | (go_at_call 89; refine (H2.out _).mono ?_; rintro e w' ⟨rfl, rfl⟩) | (go_at_call 109; refine (H3.out _ (hv.out.mono kB)).mono ?_; clear H3; rintro e w2 ⟨rfl, hb2⟩; have j1 := hide (k1.out.grow hb2); have j2 := hide (k2.out.grow hb2); have jB := bup kB hb2; have jz := hb2.size; clear k1 k2 q0 q1 q2 q3 q4 q5 q6 q7))
   obtain ⟨W3, hW3⟩ : ∃ W3, W3 = (w2.alloc (Obj.cells #[Value.int .i64 G.tlo, Value.int .i64 G.thi] 23)).alloc (Obj.cells #[Value.int .i64 G.rlo, Value.int .i64 G.rhi] 23) := ⟨_, rfl⟩
   rw [← hW3]
   have hT : Blk W3 w2.heap.size 23 #[I G.tlo, I G.thi] := by rw [hW3]; exact blk20 _ _ _ _
   have hU : Blk W3 (w2.heap.size + 1) 23 #[I G.rlo, I G.rhi] := by rw [hW3]; exact blk21 _ _ _ _
   have hR1 : Blk W3 (w.heap.size + 1) 23 #[I 0, I 0] := by rw [hW3]; exact (j1.out.alloc _).alloc _
   have hR2 : Blk W3 (w.heap.size + 2) 23 #[I 0, I 0] := by rw [hW3]; exact (j2.out.alloc _).alloc _
   have hB3 : Below w.heap.size w W3 := by rw [hW3]; exact bup jB (below2 _ _ _)
   clear hW3 j1 j2 jB
   obtain ⟨t1, t2, t3, t4, t5⟩ := blk_box hT
   obtain ⟨u1, u2, u3, u4, u5⟩ := blk_box hU
   obtain ⟨v1, v2, v3, v4, v5⟩ := blk_box hR1
   obtain ⟨w1', w2', w3', w4', w5'⟩ := blk_box hR2
   have e1 : w2.heap.size ≠ w.heap.size + 1 := by omega
   have e2 : w2.heap.size ≠ w.heap.size + 2 := by omega
   have e3 : w2.heap.size + 1 ≠ w.heap.size + 1 := by omega
   have e4 : w2.heap.size + 1 ≠ w.heap.size + 2 := by omega
   have e5 : w.heap.size + 1 ≠ w2.heap.size := by omega
   have e6 : w.heap.size + 1 + 1 ≠ w2.heap.size := by omega
   have e7 : w.heap.size + 1 ≠ w2.heap.size + 1 := by omega
   have e8 : w.heap.size + 1 + 1 ≠ w2.heap.size + 1 := by omega
   generalize hgt : w2.heap.size = gt at *
   generalize hgr : gt + 1 = gr at *
   clear hgr hgt hT hU hR1 hR2
   go_region_held3 (fun W => W.cell? ⟨gt, 0, none⟩ = some (I G.tlo) ∧ W.cell? ⟨gt, 1, none⟩ = some (I G.thi) ∧ W.cell? ⟨gr, 0, none⟩ = some (I G.rlo) ∧ W.cell? ⟨gr, 1, none⟩ = some (I G.rhi)) (go_keep) (fail)
   go_wp2_with fail
   refine bodyPost_ret (v := .tuple #[.agg #[I G.tlo, I G.thi], .agg #[I G.rlo, I G.rhi], I 0]) (by simp [results, Tryz.results39, go_sem, v2, v3, w2', w3']) rfl ⟨rfl, ?_⟩
   exact below_drewN (gap_below2 (gap_below2 hB3 (by omega)) (by omega)) 1
 ·have hE1 : gapE c l d = logE c l := by simp [gapE, loggedE, hE]
  have hV : gapV c l d = ⟨0, 0, 0, 0⟩ := by simp [gapV, hE1, hE]
  rw [hE1, hV]
  obtain ⟨e0, he0⟩ : ∃ e, logE c l = e := ⟨_, rfl⟩
  rw [he0] at hE H1 ⊢
  have hne : (e0 != 0) = true := by simpa using hE
  clear hE1 hV hE he0
  replace hv := hide hv
  replace H1 := hide H1
  skip
  unfold Climate.v at *
  go_enter Tryz.func39, Tryz.ntmps39
  go_wp2_with (first | (go_at_call 26; refine (H1.out _ (hv.out.mono (below3 _ _ _ _))).mono ?_; clear H1; rintro e w1 ⟨rfl, hb1⟩; have kC : Blk w1 w.heap.size 25 (c8 c) := (((Blk.new w _ _).alloc _).alloc _).grow hb1; have k1 : Blk w1 (w.heap.size + 1) 23 #[I 0, I 0] := ((blk21 w _ _ _).alloc _).grow hb1; have k2 : Blk w1 (w.heap.size + 1 + 1) 23 #[I 0, I 0] := (blk32p w _ _ _ _).grow hb1; have kB := bup (below3 _ _ _ _) hb1; have kz := hb1.size; simp at kz; replace k1 := hide k1; replace k2 := hide k2; obtain ⟨_, q0, q1, q2, q3, q4, q5, q6, q7⟩ := kC.clim; clear kC hb1; obtain ⟨v1, v2, v3, v4, v5⟩ := blk_box k1.out; obtain ⟨w1', w2', w3', w4', w5'⟩ := blk_box k2.out))
  refine bodyPost_ret (v := .tuple #[.agg #[I 0, I 0], .agg #[I 0, I 0], I e0]) (by simp [results, Tryz.results39, go_sem, v2, v3, w2', w3']) rfl ⟨rfl, ?_⟩
  exact gap_below2 (gap_below2 kB (by omega)) (by omega)
end Go.Proofs.YtmjfdobjnnfafaaGreatDoor
