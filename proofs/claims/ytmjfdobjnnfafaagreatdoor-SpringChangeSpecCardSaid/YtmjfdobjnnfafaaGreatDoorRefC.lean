/- The reference's change and Change. Conditions stand in the theorems. -/
import Derived.Test.YtmjfdobjnnfafaaGreatDoorRef8
import Derived.Test.YtmjfdobjnnfafaaGreatDoorBasin10
import Derived.Test.YtmjfdobjnnfafaaGreatDoorOneLog
set_option linter.all false
set_option maxRecDepth 100000
set_option maxHeartbeats 8000000
namespace Go.Proofs.YtmjfdobjnnfafaaGreatDoor
open Go.RowKit

theorem lowS_snoc {c : Climate} {h : Int} {l : List Weather} {k : Nat} {x : Weather} (hx : l[k]? = some x) : (l.take (k + 1)).foldl (lowStep c h) 0 = lowStep c h ((l.take k).foldl (lowStep c h) 0) x := by
 rw [take_succ_of hx, List.foldl_append]; rfl
theorem highS_snoc {c : Climate} {h : Int} {l : List Weather} {k : Nat} {x : Weather} (hx : l[k]? = some x) : (l.take (k + 1)).foldl (highStep c h) 0 = highStep c h ((l.take k).foldl (highStep c h) 0) x := by
 rw [take_succ_of hx, List.foldl_append]; rfl
theorem fillF_mem {c : Climate} {l : List Weather} {a : Int} {n : Nat} {t : Bool} (h : LogOk c l) (ha : 0 ≤ a) (hb : a + n ≤ 1048576) : ∀ x ∈ fillF c l a n t, WeaOk c x := fun x hx => by
 obtain ⟨i, hi⟩ := List.getElem?_of_mem hx
 obtain ⟨h1, rfl⟩ := fillF_get hi
 exact WeaOk.of (warmW_ok h t (by omega))
theorem ref_change (c : Climate) (v : Value) (l : List Weather) (h a : Int) (n : Nat) (w : World) (hlo : LogOk c l) (hh : 0 ≤ h ∧ h ≤ 9000) (ha : 0 ≤ a) (hn : n ≤ 512) (hb : a + n ≤ 1048576) (hv : Sl w 3 Weather.cells v l) :
  Calls Tryz.prog 137 #[c.v, v, I h, I a, I (a + n)] w fun e w' => e = .returned (.agg #[I (changeF c l h a (a + n)).1, I (changeF c l h a (a + n)).2]) ∧ Below w.heap.size w w' := by
 have hc := hlo.clim
 have HT := hide (fun w' (hb2 : Below w.heap.size w w') => ref_fill c v l a n true w' hc hlo.mem ha hn hb (hv.mono hb2))
 have HC := hide (fun w' (hb2 : Below w.heap.size w w') => ref_fill c v l a n false w' hc hlo.mem ha hn hb (hv.mono hb2))
 obtain ⟨A, nl, rfl, _⟩ := hv.open_
 have HF := hide (fun x (hx : WeaOk c x) w => ref_falls c x h w hc (hx.t600 hc) hh)
 have HM := hide (fun x (hx : WeaOk c x) w => ref_melts c x h c.fhi w hc (hx.t600 hc) hh (by have := hc.flo; have := hc.fl; have := hc.fhi; omega))
 have HN := hide (fun x (hx : WeaOk c x) w => ref_melts c x h c.flo w hc (hx.t600 hc) hh (by have := hc.flo; have := hc.fl; have := hc.fhi; omega))
 have hm1 := hide (fillF_mem (t := true) hlo ha hb)
 have hm2 := hide (fillF_mem (t := false) hlo ha hb)
 have hCF : changeF c l h a (a + n) = (clipF ((fillF c l a n true).foldl (lowStep c h) 0), clipF ((fillF c l a n false).foldl (highStep c h) 0)) := by
  simp only [changeF]
  rw [show (a + (n : Int) - a).toNat = n by omega]
 rw [hCF]
 clear hCF
 have f1 := fillF_len c l a n true
 have f2 := fillF_len c l a n false
 replace hv := hide hv
 (try unfold Climate.v at *)
 go_enter Tryz.func137, Tryz.ntmps137
 go_wp2_with fail
 obtain ⟨W1, hW1⟩ : ∃ W1, W1 = (w.alloc (.cells (c8 c) 25)).alloc (.cells #[I 0, I 0] 23) := ⟨_, rfl⟩
 have kC := hide (show Blk W1 w.heap.size 25 (c8 c) by rw [hW1]; exact (Blk.new _ _ _).alloc _)
 have kR := hide (show Blk W1 (w.heap.size + 1) 23 #[I 0, I 0] by rw [hW1]; exact blk21 _ _ _ _)
 have kB := hide (show Below w.heap.size w W1 by rw [hW1]; exact below2 _ _ _)
 rw [← hW1]
 clear hW1
 have HSw : ∀ W : World, Below W1.heap.size W1 W → (fun W : World => W.cell? ⟨w.heap.size, 0, none⟩ = some (I c.base) ∧ W.cell? ⟨w.heap.size, 1, none⟩ = some (I c.lapse) ∧ W.cell? ⟨w.heap.size, 2, none⟩ = some (I c.swing) ∧ W.cell? ⟨w.heap.size, 3, none⟩ = some (I c.wettest) ∧ W.cell? ⟨w.heap.size, 4, none⟩ = some (I c.coldest) ∧ W.cell? ⟨w.heap.size, 5, none⟩ = some (I c.warmest) ∧ W.cell? ⟨w.heap.size, 6, none⟩ = some (I c.flo) ∧ W.cell? ⟨w.heap.size, 7, none⟩ = some (I c.fhi)) W := fun W hW => by
  have k := kC.out.grow hW
  exact ⟨k.cell 0, k.cell 1, k.cell 2, k.cell 3, k.cell 4, k.cell 5, k.cell 6, k.cell 7⟩
 replace HSw := hide HSw
 refine wp_region_zg (S := fun W => W.cell? ⟨w.heap.size, 0, none⟩ = some (I c.base) ∧ W.cell? ⟨w.heap.size, 1, none⟩ = some (I c.lapse) ∧ W.cell? ⟨w.heap.size, 2, none⟩ = some (I c.swing) ∧ W.cell? ⟨w.heap.size, 3, none⟩ = some (I c.wettest) ∧ W.cell? ⟨w.heap.size, 4, none⟩ = some (I c.coldest) ∧ W.cell? ⟨w.heap.size, 5, none⟩ = some (I c.warmest) ∧ W.cell? ⟨w.heap.size, 6, none⟩ = some (I c.flo) ∧ W.cell? ⟨w.heap.size, 7, none⟩ = some (I c.fhi)) 11 (by kernel_rfl) (by kernel_rfl) ?_
 have hHeld := HSw.out W1.drew (Below.refl _ _).drew
 (refine zg_tk 0 ?_; refine zg_tk 1 ?_; refine zg_tk 2 ?_; refine zg_tk 3 ?_; refine zg_tk 5 ?_; refine zg_tk 6 ?_; refine zg_tk 7 ?_; refine zg_tk 8 ?_; (try simp only [Act.put, List.setIfInBounds_toArray, List.set_cons_zero, List.set_cons_succ]))
 (refine zg_rd 4 fun K_ hK_ => ?_; go_simp; (refine (HT.out W1.drew (below_drewN kB.out 1)).mono ?_; rintro e wa ⟨va, rfl, hova, hba⟩); refine hK_.out _ _ ?_ (fun hHeld => ?_); rotate_left; clear hK_ K_; (try simp only [Act.put, List.setIfInBounds_toArray, List.set_cons_zero, List.set_cons_succ]); rotate_left)
 ·exact HSw.out _ (below_drew' hba)
 have hBa : Below W1.heap.size W1 wa := below_drew' hba
 (refine zg_rd 9 fun K_ hK_ => ?_; go_simp; (refine (HC.out wa (bup kB.out hBa)).mono ?_; rintro e wb ⟨vb, rfl, hovb, hbb⟩); refine hK_.out _ _ ?_ (fun hHeld => ?_); rotate_left; clear hK_ K_; (try simp only [Act.put, List.setIfInBounds_toArray, List.set_cons_zero, List.set_cons_succ]); rotate_left)
 ·exact HSw.out _ (bup hBa hbb)
 have s1 := (hova.sl Weather.cells_len (by rw [fillF_len]; omega)).mono hbb
 have s2 := hovb.sl Weather.cells_len (by rw [fillF_len]; omega)
 have hBb := bup hBa hbb
 obtain ⟨A1, c1, hA1, _, _, _, hA1'⟩ := s1.open_
 obtain ⟨A2, c2, hA2, _, _, _, hA2'⟩ := s2.open_
 rw [f1] at hA1
 rw [f2] at hA2
 subst hA1 hA2
 rw [f1] at hA1'
 rw [f2] at hA2'
 (refine zg_tk 10 ?_; (try simp only [Act.put, List.setIfInBounds_toArray, List.set_cons_zero, List.set_cons_succ]))
 (refine zg_ls 11 fun K_ hK_ => ?_; go_simp; skip; refine hK_.out _ _ ?_; clear hK_ K_; (try simp only [Act.put, List.setIfInBounds_toArray, List.set_cons_zero, List.set_cons_succ]))
 clear hHeld hova hovb hba hbb hBa HT HC HSw
 have kC3 := hide (kC.out.grow hBb)
 have kR3 := hide (kR.out.grow hBb)
 have kB3 := hide (bup kB.out hBb)
 clear kC kR kB hBb
 replace s1 := hide s1
 replace s2 := hide s2
 replace hA1' := hide hA1'
 replace hA2' := hide hA2'
 replace f1 := hide f1
 replace f2 := hide f2
 go_wp2_with fail
 go_loopw [13, 14, 15, 16, 17] (fun lo hi i _ _ wr => ∃ (k : Nat) (L H : Int), k ≤ n ∧ i = I k ∧ lo = I L ∧ hi = I H ∧ Hid (((fillF c l a n true).take k).foldl (lowStep c h) 0 = L) ∧ Hid (((fillF c l a n false).take k).foldl (highStep c h) 0 = H) ∧ -10000 * (k : Int) ≤ L ∧ L ≤ 10000 * (k : Int) ∧ 0 ≤ H ∧ H ≤ 1000 * (k : Int) ∧ Hid (Below wb.heap.size wb wr)) (fun _ _ i _ _ _ => n - (intOf i).toNat)
 case atStart => exact ⟨0, 0, 0, Nat.zero_le _, rfl, rfl, rfl, hide rfl, hide rfl, by omega, by omega, by omega, by omega, hide (Below.refl _ _)⟩
 case round =>
  obtain ⟨k, L, H, hk, rfl, rfl, rfl, hL, hH, l1, l2, h1, h2, hbw⟩ := hrel
  by_cases hlt : k < n
  ·obtain ⟨b1, o1, rfl, hb1⟩ := hA1'.out k hlt
   obtain ⟨b2, o2, rfl, hb2⟩ := hA2'.out k hlt
   obtain ⟨x, hx⟩ := getElem?_of_lt (xs := fillF c l a n true) (k := k) (by rw [f1.out]; exact hlt)
   obtain ⟨y, hy⟩ := getElem?_of_lt (xs := fillF c l a n false) (k := k) (by rw [f2.out]; exact hlt)
   have hxo := hm1.out x (List.mem_of_getElem? hx)
   have hyo := hm2.out y (List.mem_of_getElem? hy)
   have hs1 := lowS_snoc (c := c) (h := h) hx
   have hs2 := highS_snoc (c := c) (h := h) hy
   rw [hL.out] at hs1
   rw [hH.out] at hs2
   have HD : ∀ W, Below wr.heap.size wr W → (fun W : World => W.cell? ⟨w.heap.size, 0, none⟩ = some (I c.base) ∧ W.cell? ⟨w.heap.size, 1, none⟩ = some (I c.lapse) ∧ W.cell? ⟨w.heap.size, 2, none⟩ = some (I c.swing) ∧ W.cell? ⟨w.heap.size, 3, none⟩ = some (I c.wettest) ∧ W.cell? ⟨w.heap.size, 4, none⟩ = some (I c.coldest) ∧ W.cell? ⟨w.heap.size, 5, none⟩ = some (I c.warmest) ∧ W.cell? ⟨w.heap.size, 6, none⟩ = some (I c.flo) ∧ W.cell? ⟨w.heap.size, 7, none⟩ = some (I c.fhi)) W ∧ w.heap.size < W.heap.size ∧ (b1 < W.heap.size ∧ W.cell? ⟨b1, o1 + k * 3, none⟩ = some (I x.day) ∧ W.cell? ⟨b1, o1 + k * 3 + 1, none⟩ = some (I x.temp) ∧ W.cell? ⟨b1, o1 + k * 3 + 2, none⟩ = some (I x.rain)) ∧
     (b2 < W.heap.size ∧ W.cell? ⟨b2, o2 + k * 3, none⟩ = some (I y.day) ∧ W.cell? ⟨b2, o2 + k * 3 + 1, none⟩ = some (I y.temp) ∧ W.cell? ⟨b2, o2 + k * 3 + 2, none⟩ = some (I y.rain)) := fun W hW => by
    have hb := bup hbw.out hW
    have kk := kC3.out.grow hb
    have t1 : Sl W 3 Weather.cells (.slice (some ⟨b1, o1, none⟩) (fillF c l a n true).length c1) (fillF c l a n true) := by rw [f1.out]; exact (unhide s1).mono hb
    have t2 : Sl W 3 Weather.cells (.slice (some ⟨b2, o2, none⟩) (fillF c l a n false).length c2) (fillF c l a n false) := by rw [f2.out]; exact (unhide s2).mono hb
    exact ⟨⟨kk.cell 0, kk.cell 1, kk.cell 2, kk.cell 3, kk.cell 4, kk.cell 5, kk.cell 6, kk.cell 7⟩, kk.lt, t1.weather_at hx, t2.weather_at hy⟩
   replace HD := hide HD
   have J1 := HF.out x hxo
   have J2 := HM.out x hxo
   have J3 := HF.out y hyo
   have J4 := HN.out y hyo
   have hfl : ∀ z : Weather, WeaOk c z → 0 ≤ (fallF c z h).1 ∧ (fallF c z h).1 ≤ 1000 := fun z hz => by
    have hr := hz.rain
    have hw := hc.wettest
    unfold fallF
    split <;> simp <;> omega
   obtain ⟨g1, g2⟩ := hfl x hxo
   obtain ⟨g3, g4⟩ := hfl y hyo
   obtain ⟨g5, g6⟩ := (meltF_bd (f := c.fhi) hc (hxo.t600 hc) hh (by have := hc.flo; have := hc.fl; have := hc.fhi; omega)).2
   obtain ⟨g7, g8⟩ := (meltF_bd (f := c.flo) hc (hyo.t600 hc) hh (by have := hc.flo; have := hc.fl; have := hc.fhi; omega)).2
   have hs1' : lowStep c h L x = L + ((fallF c x h).1 - meltF c x h c.fhi) := rfl
   have hs2' : highStep c h H y = max 0 (H + (fallF c y h).1 - meltF c y h c.flo) := rfl
   rw [hs1'] at hs1
   rw [hs2'] at hs2
   clear hs1' hs2' hfl hL hH
   obtain ⟨p1, hp1⟩ : ∃ z, (fallF c x h).1 = z := ⟨_, rfl⟩
   obtain ⟨p2, hp2⟩ : ∃ z, meltF c x h c.fhi = z := ⟨_, rfl⟩
   obtain ⟨p3, hp3⟩ : ∃ z, (fallF c y h).1 = z := ⟨_, rfl⟩
   obtain ⟨p4, hp4⟩ : ∃ z, meltF c y h c.flo = z := ⟨_, rfl⟩
   rw [hp1, hp2] at hs1
   rw [hp3, hp4] at hs2
   simp only [hp1] at J1 g1 g2
   simp only [hp2] at J2 g5 g6
   simp only [hp3] at J3 g3 g4
   simp only [hp4] at J4 g7 g8
   clear hp1 hp2 hp3 hp4 HF HM HN hxo hyo hm1 hm2
   have n2 : n ≤ 512 := hn
   have u1 : IntKind.i64.wrap (p1 - p2) = p1 - p2 := IntWalk.i64_in _ (by omega)
   have u2 : IntKind.i64.wrap (L + (p1 - p2)) = L + (p1 - p2) := IntWalk.i64_in _ (by omega)
   have u3 : IntKind.i64.wrap (H + p3) = H + p3 := IntWalk.i64_in _ (by omega)
   have u4 : IntKind.i64.wrap (H + p3 - p4) = H + p3 - p4 := IntWalk.i64_in _ (by omega)
   (try unfold Weather.v at *)
   replace J1 := hide J1
   replace J2 := hide J2
   replace J3 := hide J3
   replace J4 := hide J4
   replace hs1 := hide hs1
   replace hs2 := hide hs2
   replace hx := hide hx
   replace hy := hide hy
   obtain ⟨⟨q0, q1, q2, q3, q4, q5, q6, q7⟩, zc, ⟨z1, e0, e1, e2⟩, z2, e3, e4, e5⟩ := HD.out wr (Below.refl _ _)
   go_wp2_with fail
   (refine wp_region_grow (by kernel_rfl) (by kernel_rfl) ?_; (repeat (first | go_big_quiet_skip | (go_big_quiet_want; go_big_quiet_op; first | go_big_quiet_on | (apply Exists.intro; refine ⟨fun _ => ?_, ?_⟩; (focus ((go_at_call 103; exact calls_grew (J1.out _)))); go_big_quiet_on)))); refine wpQuiet_nil ?_; rintro W1 ⟨⟨_, hW1⟩, rfl⟩)
   have Z1 := hW1
   obtain ⟨Wa, hWa⟩ : ∃ z, z = W1 := ⟨_, rfl⟩
   rw [← hWa] at hW1 ⊢
   rw [← hWa] at Z1
   clear hWa hW1
   clear q0 q1 q2 q3 q4 q5 q6 q7 zc z1 e0 e1 e2 z2 e3 e4 e5
   obtain ⟨⟨q0, q1, q2, q3, q4, q5, q6, q7⟩, zc, ⟨z1, e0, e1, e2⟩, z2, e3, e4, e5⟩ := HD.out _ Z1
   go_wp2_with fail
   (refine wp_region_grow (by kernel_rfl) (by kernel_rfl) ?_; (repeat (first | go_big_quiet_skip | (go_big_quiet_want; go_big_quiet_op; first | go_big_quiet_on | (apply Exists.intro; refine ⟨fun _ => ?_, ?_⟩; (focus ((go_at_call 105; exact calls_grew (J2.out _)))); go_big_quiet_on)))); refine wpQuiet_nil ?_; rintro W1 ⟨⟨_, hW1⟩, rfl⟩)
   obtain ⟨Wb, hWb⟩ : ∃ z, z = W1 := ⟨_, rfl⟩
   rw [← hWb] at hW1 ⊢
   replace Z1 := bup Z1 hW1
   clear hWb hW1
   clear q0 q1 q2 q3 q4 q5 q6 q7 zc z1 e0 e1 e2 z2 e3 e4 e5
   obtain ⟨⟨q0, q1, q2, q3, q4, q5, q6, q7⟩, zc, ⟨z1, e0, e1, e2⟩, z2, e3, e4, e5⟩ := HD.out _ Z1
   go_wp2_with fail
   (refine wp_region_grow (by kernel_rfl) (by kernel_rfl) ?_; (repeat (first | go_big_quiet_skip | (go_big_quiet_want; go_big_quiet_op; first | go_big_quiet_on | (apply Exists.intro; refine ⟨fun _ => ?_, ?_⟩; (focus ((go_at_call 103; exact calls_grew (J3.out _)))); go_big_quiet_on)))); refine wpQuiet_nil ?_; rintro W1 ⟨⟨_, hW1⟩, rfl⟩)
   obtain ⟨Wc, hWc⟩ : ∃ z, z = W1 := ⟨_, rfl⟩
   rw [← hWc] at hW1 ⊢
   replace Z1 := bup Z1 hW1
   clear hWc hW1
   clear q0 q1 q2 q3 q4 q5 q6 q7 zc z1 e0 e1 e2 z2 e3 e4 e5
   obtain ⟨⟨q0, q1, q2, q3, q4, q5, q6, q7⟩, zc, ⟨z1, e0, e1, e2⟩, z2, e3, e4, e5⟩ := HD.out _ Z1
   go_wp2_with fail
   have HSw : ∀ W : World, Below Wc.heap.size Wc W → (fun W : World => W.cell? ⟨w.heap.size, 0, none⟩ = some (I c.base) ∧ W.cell? ⟨w.heap.size, 1, none⟩ = some (I c.lapse) ∧ W.cell? ⟨w.heap.size, 2, none⟩ = some (I c.swing) ∧ W.cell? ⟨w.heap.size, 3, none⟩ = some (I c.wettest) ∧ W.cell? ⟨w.heap.size, 4, none⟩ = some (I c.coldest) ∧ W.cell? ⟨w.heap.size, 5, none⟩ = some (I c.warmest) ∧ W.cell? ⟨w.heap.size, 6, none⟩ = some (I c.flo) ∧ W.cell? ⟨w.heap.size, 7, none⟩ = some (I c.fhi) ∧ W.cell? ⟨b2, o2 + k * 3, none⟩ = some (I y.day) ∧ W.cell? ⟨b2, o2 + k * 3 + 1, none⟩ = some (I y.temp) ∧ W.cell? ⟨b2, o2 + k * 3 + 2, none⟩ = some (I y.rain)) W := fun W hW => by
    obtain ⟨⟨a0, a1, a2, a3, a4, a5, a6, a7⟩, _, _, _, a8, a9, a10⟩ := HD.out W (bup Z1 hW)
    exact ⟨a0, a1, a2, a3, a4, a5, a6, a7, a8, a9, a10⟩
   replace HSw := hide HSw
   refine wp_region_zg (S := fun W => W.cell? ⟨w.heap.size, 0, none⟩ = some (I c.base) ∧ W.cell? ⟨w.heap.size, 1, none⟩ = some (I c.lapse) ∧ W.cell? ⟨w.heap.size, 2, none⟩ = some (I c.swing) ∧ W.cell? ⟨w.heap.size, 3, none⟩ = some (I c.wettest) ∧ W.cell? ⟨w.heap.size, 4, none⟩ = some (I c.coldest) ∧ W.cell? ⟨w.heap.size, 5, none⟩ = some (I c.warmest) ∧ W.cell? ⟨w.heap.size, 6, none⟩ = some (I c.flo) ∧ W.cell? ⟨w.heap.size, 7, none⟩ = some (I c.fhi) ∧ W.cell? ⟨b2, o2 + k * 3, none⟩ = some (I y.day) ∧ W.cell? ⟨b2, o2 + k * 3 + 1, none⟩ = some (I y.temp) ∧ W.cell? ⟨b2, o2 + k * 3 + 2, none⟩ = some (I y.rain)) 15 (by kernel_rfl) (by kernel_rfl) ?_
   have hHeld := HSw.out Wc.drew (Below.refl _ _).drew
   (refine zg_tk 0 ?_; refine zg_tk 1 ?_; refine zg_tk 2 ?_; refine zg_tk 3 ?_; refine zg_tk 4 ?_; refine zg_tk 5 ?_; refine zg_tk 6 ?_; refine zg_tk 7 ?_; refine zg_tk 8 ?_; refine zg_tk 9 ?_; refine zg_tk 10 ?_; refine zg_tk 11 ?_; (try simp only [Act.put, List.setIfInBounds_toArray, List.set_cons_zero, List.set_cons_succ]))
   (refine zg_rd 12 fun K_ hK_ => ?_; go_simp; (refine (J4.out _).mono ?_; rintro e wz ⟨rfl, hbz⟩); refine hK_.out _ _ ?_ (fun hHeld => ?_); rotate_left; clear hK_ K_; (try simp only [Act.put, List.setIfInBounds_toArray, List.set_cons_zero, List.set_cons_succ]); rotate_left)
   ·exact HSw.out _ (below_drew' hbz)
   (refine zg_tk 13 ?_; refine zg_tk 14 ?_; (try simp only [Act.put, List.setIfInBounds_toArray, List.set_cons_zero, List.set_cons_succ]))
   (refine zg_ls 15 fun K_ hK_ => ?_; go_simp; skip; refine hK_.out _ _ ?_; clear hK_ K_; (try simp only [Act.put, List.setIfInBounds_toArray, List.set_cons_zero, List.set_cons_succ]))
   have hbF := hide (bup hbw.out (bup Z1 (below_drew' hbz)))
   clear hHeld HSw Z1 hbz
   have hmx : (if p4 < H + p3 then H + p3 - p4 else 0) = max 0 (H + p3 - p4) := by split <;> omega
   rw [hmx, ← hs2.out]
   clear hmx
   go_wp2_with fail
   go_roundw
   case rel => exact ⟨k + 1, _, _, by omega, by go_num, rfl, rfl, hs1, hide rfl, by push_cast; omega, by push_cast; omega, by rw [hs2.out]; omega, by rw [hs2.out]; push_cast; omega, hbF⟩
   case measure => simp [intOf]; omega
  ·have he : k = n := by omega
   subst he
   have q1 := hL.out
   have q2 := hH.out
   rw [List.take_of_length_le (by rw [f1.out]; exact Nat.le_refl _)] at q1
   rw [List.take_of_length_le (by rw [f2.out]; exact Nat.le_refl _)] at q2
   have kR4 := kR3.out.grow hbw.out
   obtain ⟨z1, r0, r1, r2, r3⟩ := blk_box kR4
   replace q1 := hide q1
   replace q2 := hide q2
   have hv2 : ∀ r s : Value, ((wr.setCell ⟨w.heap.size + 1, 0, none⟩ r).setCell ⟨w.heap.size + 1, 1, none⟩ s).cell? ⟨w.heap.size + 1, 0, none⟩ = some r ∧ ((wr.setCell ⟨w.heap.size + 1, 0, none⟩ r).setCell ⟨w.heap.size + 1, 1, none⟩ s).cell? ⟨w.heap.size + 1, 1, none⟩ = some s := fun r s => (gap_set2 (r := r) (s := s) kR4).cells2
   replace hv2 := hide hv2
   replace kR4 := hide kR4
   go_wp2_with fail
   all_goals
    rw [q1.out, q2.out]
    have hv3 := hv2.out
    refine bodyPost_ret (v := .agg #[I (clipF L), I (clipF H)]) ?_ rfl ⟨rfl, gap_below2 (bup kB3.out hbw.out) (by omega)⟩
    simp [results, Tryz.results137, go_sem, hv3]
    all_goals ((try constructor) <;> (unfold clipF; omega))

theorem ref_Change (c : Climate) (v : Value) (l : List Weather) (h a b : Int) (w : World) (hv : Sl w 3 Weather.cells v l) :
  Calls Tryz.prog 56 #[c.v, v, I h, I a, I b] w fun e w' => e = .returned (.tuple #[.agg #[I (changeV c l h a b).1, I (changeV c l h a b).2], I (changeE c l h a b)]) ∧ Below w.heap.size w w' := by
 have H1 := fun w hv => ref_CheckLog c v l w hv
 by_cases hE : logE c l = 0
 ·have hlo := LogOk.of hE
  have hcl := log_clim hE
  rw [hE] at H1
  cases hb : heightB h with
  | false =>
   have hE1 : changeE c l h a b = 1 := by simp [changeE, loggedE, hE, askedE, hcl, hb]
   have hV : changeV c l h a b = (0, 0) := by simp [changeV, hE1]
   rw [hE1, hV]
   have H2 := within_eq (show inB h 0 9000 = false from hb)
   clear hE1 hV hcl hlo hE hb
   (try unfold Climate.v at *)
   replace hv := hide hv
   replace H1 := hide H1
   replace H2 := hide H2
   go_enter Tryz.func56, Tryz.ntmps56
   go_wp2_with (first | (go_at_call 26; refine (H1.out _ (hv.out.mono (below2 _ _ _))).mono ?_; clear H1; rintro e w1 ⟨rfl, hb1⟩; have kC : Blk w1 w.heap.size 25 (c8 c) := ((Blk.new w _ _).alloc _).grow hb1; have kR : Blk w1 (w.heap.size + 1) 23 #[I 0, I 0] := (blk21 w _ _ _).grow hb1; have kB := bup (below2 _ _ _) hb1; obtain ⟨_, q0, q1, q2, q3, q4, q5, q6, q7⟩ := kC.clim; obtain ⟨zr, r0, r1, r2, r3⟩ := blk_box kR; replace kR := hide kR; replace kC := hide kC; clear hb1) | (go_at_call 89; refine (H2.out _).mono ?_; clear H2; rintro e w' ⟨rfl, rfl⟩))
   obtain ⟨v1, v2⟩ := (gap_set2 (r := I 0) (s := I 0) kR.out).cells2
   refine bodyPost_ret (v := .tuple #[.agg #[I 0, I 0], I 1]) (by simp [results, Tryz.results56, go_sem, v1, v2]) rfl ⟨rfl, gap_below2 kB (by omega)⟩
  | true =>
   have H2 := within_eq (show inB h 0 9000 = true from hb)
   have H3 := fun w => ref_stretch a b w
   have hE1 : changeE c l h a b = stretchE a b := by simp [changeE, loggedE, hE, askedE, hcl, hb]
   by_cases hs : stretchE a b = 0
   ·obtain ⟨s1, s2, s3, s4⟩ := stretch_ok hs
    obtain ⟨n, hn⟩ := Int.eq_ofNat_of_zero_le (show 0 ≤ b - a by omega)
    obtain rfl : b = a + (n : Int) := by omega
    have H4 := fun w hv => ref_change c v l h a n w hlo (heightB_bd hb) s1 (by omega) s3 hv
    have hV : changeV c l h a (a + n) = changeF c l h a (a + n) := by rw [changeV, if_pos (hE1.trans hs)]
    rw [hE1, hs, hV]
    rw [hs] at H3
    obtain ⟨P, hP⟩ : ∃ P, changeF c l h a (a + n) = P := ⟨_, rfl⟩
    rw [hP] at H4 ⊢
    obtain ⟨x, y⟩ := P
    simp only at H4
    clear hE1 hV hs s1 s2 s3 s4 hP hlo hcl hE hn hb
    (try unfold Climate.v at *)
    replace hv := hide hv
    replace H1 := hide H1
    replace H2 := hide H2
    replace H3 := hide H3
    replace H4 := hide H4
    go_enter Tryz.func56, Tryz.ntmps56
    go_wp2_with (first | (go_at_call 26; refine (H1.out _ (hv.out.mono (below2 _ _ _))).mono ?_; clear H1; rintro e w1 ⟨rfl, hb1⟩; have kC : Blk w1 w.heap.size 25 (c8 c) := ((Blk.new w _ _).alloc _).grow hb1; have kR : Blk w1 (w.heap.size + 1) 23 #[I 0, I 0] := (blk21 w _ _ _).grow hb1; have kB := bup (below2 _ _ _) hb1; obtain ⟨_, q0, q1, q2, q3, q4, q5, q6, q7⟩ := kC.clim; obtain ⟨zr, r0, r1, r2, r3⟩ := blk_box kR; replace kR := hide kR; replace kC := hide kC; clear hb1) | (go_at_call 89; refine (H2.out _).mono ?_; clear H2; rintro e w' ⟨rfl, rfl⟩) | (go_at_call 114; refine (H3.out _).mono ?_; clear H3; rintro e w' ⟨rfl, rfl⟩) | (go_at_call 137; refine (H4.out _ (hv.out.mono kB)).mono ?_; clear H4 zr r0 r1 r2 r3 q0 q1 q2 q3 q4 q5 q6 q7; rintro e w2 ⟨rfl, hb2⟩; have kR2 := hide (kR.out.grow hb2); have kB2 := bup kB hb2; obtain ⟨zr, r0, r1, r2, r3⟩ := blk_box kR2.out))
    obtain ⟨v1, v2⟩ := (gap_set2 (r := I x) (s := I y) kR2.out).cells2
    refine bodyPost_ret (v := .tuple #[.agg #[I x, I y], I 0]) (by simp [results, Tryz.results56, go_sem, v1, v2]) rfl ⟨rfl, gap_below2 kB2 (by omega)⟩
   ·have hV : changeV c l h a b = (0, 0) := by rw [changeV, if_neg (by rw [hE1]; exact hs)]
    rw [hE1, hV]
    obtain ⟨s, hs0⟩ : ∃ s, stretchE a b = s := ⟨_, rfl⟩
    rw [hs0] at hs H3 ⊢
    have hne : (s != 0) = true := by simpa using hs
    clear hE1 hV hs hs0 hlo hcl hE hb
    (try unfold Climate.v at *)
    replace hv := hide hv
    replace H1 := hide H1
    replace H2 := hide H2
    replace H3 := hide H3
    go_enter Tryz.func56, Tryz.ntmps56
    go_wp2_with (first | (go_at_call 26; refine (H1.out _ (hv.out.mono (below2 _ _ _))).mono ?_; clear H1; rintro e w1 ⟨rfl, hb1⟩; have kC : Blk w1 w.heap.size 25 (c8 c) := ((Blk.new w _ _).alloc _).grow hb1; have kR : Blk w1 (w.heap.size + 1) 23 #[I 0, I 0] := (blk21 w _ _ _).grow hb1; have kB := bup (below2 _ _ _) hb1; obtain ⟨_, q0, q1, q2, q3, q4, q5, q6, q7⟩ := kC.clim; obtain ⟨zr, r0, r1, r2, r3⟩ := blk_box kR; replace kR := hide kR; replace kC := hide kC; clear hb1) | (go_at_call 89; refine (H2.out _).mono ?_; clear H2; rintro e w' ⟨rfl, rfl⟩) | (go_at_call 114; refine (H3.out _).mono ?_; clear H3; rintro e w' ⟨rfl, rfl⟩))
    obtain ⟨v1, v2⟩ := (gap_set2 (r := I 0) (s := I 0) kR.out).cells2
    refine bodyPost_ret (v := .tuple #[.agg #[I 0, I 0], I s]) (by simp [results, Tryz.results56, go_sem, v1, v2]) rfl ⟨rfl, gap_below2 kB (by omega)⟩
 ·have hE1 : changeE c l h a b = logE c l := by simp [changeE, loggedE, hE]
  have hV : changeV c l h a b = (0, 0) := by rw [changeV, if_neg (by rw [hE1]; exact hE)]
  rw [hE1, hV]
  obtain ⟨e0, he0⟩ : ∃ e, logE c l = e := ⟨_, rfl⟩
  rw [he0] at hE H1 ⊢
  have hne : (e0 != 0) = true := by simpa using hE
  clear hE1 hV hE he0
  (try unfold Climate.v at *)
  replace hv := hide hv
  replace H1 := hide H1
  go_enter Tryz.func56, Tryz.ntmps56
  go_wp2_with (first | (go_at_call 26; refine (H1.out _ (hv.out.mono (below2 _ _ _))).mono ?_; clear H1; rintro e w1 ⟨rfl, hb1⟩; have kC : Blk w1 w.heap.size 25 (c8 c) := ((Blk.new w _ _).alloc _).grow hb1; have kR : Blk w1 (w.heap.size + 1) 23 #[I 0, I 0] := (blk21 w _ _ _).grow hb1; have kB := bup (below2 _ _ _) hb1; obtain ⟨_, q0, q1, q2, q3, q4, q5, q6, q7⟩ := kC.clim; obtain ⟨zr, r0, r1, r2, r3⟩ := blk_box kR; replace kR := hide kR; replace kC := hide kC; clear hb1))
  obtain ⟨v1, v2⟩ := (gap_set2 (r := I 0) (s := I 0) kR.out).cells2
  refine bodyPost_ret (v := .tuple #[.agg #[I 0, I 0], I e0]) (by simp [results, Tryz.results56, go_sem, v1, v2]) rfl ⟨rfl, gap_below2 kB (by omega)⟩
end Go.Proofs.YtmjfdobjnnfafaaGreatDoor
