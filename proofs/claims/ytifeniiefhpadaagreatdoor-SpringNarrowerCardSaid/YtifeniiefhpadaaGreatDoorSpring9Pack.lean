/- The package spring: agrees, Allowed. Conditions stand in the theorems. -/
import Derived.Test.YtifeniiefhpadaaGreatDoorSpring6Pack
import Derived.Test.YtifeniiefhpadaaGreatDoorRound
set_option linter.all false
set_option maxHeartbeats 4000000
set_option maxRecDepth 100000
namespace Go.Proofs.YtifeniiefhpadaaGreatDoor
open Go.RowKit

theorem spring_agrees (c : Climate) (v vd : Value) (l days : List Weather) (w : World) (hc : ClimOk c) (hl : ∀ x ∈ l, WeaOk c x) (h0 : 0 < days.length) (h1 : days.length ≤ 512) (hv : Sl w 3 Weather.cells v l) (hd : Sl w 3 Weather.cells vd days) :
  Calls Tryz.prog 41 #[c.v, v, vd] w fun e w' => e = .returned (.bool (agreesB c l days)) ∧ Below w.heap.size w w' := by
 obtain ⟨y0, hy0⟩ := getElem?_of_lt h0
 have hd0 := getD_of hy0
 obtain ⟨A, n, rfl, _, _, hlen, hA⟩ := hd.open_
 obtain ⟨b, off, rfl, hbw⟩ := hA 0 h0
 obtain ⟨_, e0, _, _⟩ := hd.weather_at hy0
 rw [Nat.zero_mul, Nat.add_zero] at e0
 have H1 := fun w hd => spring_linked c (.slice (some ⟨b, off, none⟩) days.length n) days w hc hd
 replace hv := hide hv
 replace hd := hide hd
 replace hd0 := hide hd0
 replace hl := hide hl
 replace hy0 := hide hy0
 clear hA
 unfold Climate.v at *
 cases hk : linkedB c days with
 | false =>
  have hfin := hide (show agreesB c l days = false by simp [agreesB, hk])
  rw [hk] at H1
  replace H1 := hide H1
  go_enter Tryz.func41, Tryz.ntmps41
  go_wp2_with (first | (go_at_call 33; refine (H1.out _ (hd.out.mono (below3 _ _ _ _))).mono ?_; clear H1; rintro e w1 ⟨rfl, hb1⟩))
  go_ret
  exact ⟨ret_bool hfin.out.symm, bup (below3 _ _ _ _) hb1⟩
 | true =>
  have hdo := hide (linkedB_ok hk)
  have hfin := hide (show agreesB c l days = l.all (agreesAt c days) by simp [agreesB, hk])
  rw [hk] at H1
  replace H1 := hide H1
  have HG : ∀ w3 : World, Below w.heap.size w w3 → (ClimAt c w.heap.size w3) → w3.cell? ⟨w.heap.size + 1, 0, none⟩ = some (.slice (some ⟨b, off, none⟩) days.length n) → w3.cell? ⟨w.heap.size + 2, 0, none⟩ = some (I y0.day) → w.heap.size + 2 < w3.heap.size →
    Gives Tryz.prog 81 #[.pointer (some ⟨w.heap.size + 2, 0, none⟩), .pointer (some ⟨w.heap.size + 1, 0, none⟩), .pointer (some ⟨w.heap.size, 0, none⟩)] (fun x : Weather => .agg #[I x.day, I x.temp, I x.rain]) (agreesAt c days) w3 l := by
   intro w3 hb3 k0 k1 k2 k3 W x hx hW
   exact agrees1 c days _ x y0.day _ _ _ W hc (hl.out x hx) h0 h1 hdo.out (by rw [hd0.out]) (hd.out.mono (bup hb3 hW)) ((hW.cell (p := ⟨w.heap.size + 2, 0, none⟩) k3).trans k2) ((hW.cell (p := ⟨w.heap.size + 1, 0, none⟩) (by show w.heap.size + 1 < _; omega)).trans k1) (k0.grow hW) (by have := hW.size; omega) (by have := hW.size; omega)
  replace HG := hide HG
  go_enter Tryz.func41, Tryz.ntmps41
  go_wp2_with (first | (go_at_call 33; refine (H1.out _ (hd.out.mono (below3 _ _ _ _))).mono ?_; clear H1; rintro e w1 ⟨rfl, hb1⟩; have kC := hide ((((ClimAt.new c w 25).grow (below1 _ _)).grow (below1 _ _)).grow hb1); have k1 := hide (((blk21 w _ _ _).alloc _).grow hb1); have k2 := hide ((blk32 w _ _ _ _).grow hb1)) | fail)
  go_at_call 80
  refine (all_Weather _ l _ _ (agreesAt c days) _ (hv.out.mono (bup (below3 _ _ _ _) hb1)) (enters_of Tryz.func81 (by kernel_rfl) rfl) (HG.out _ (bup (below3 _ _ _ _) hb1) kC.out (k1.out.cell 0) (k2.out.cell 0) k2.out.lt)).mono ?_
  generalize l.all (agreesAt c days) = q at hfin ⊢
  rintro e w2 ⟨rfl, hb2⟩
  go_wp2
  go_ret
  exact ⟨ret_bool hfin.out.symm, bup (bup (below3 _ _ _ _) hb1) hb2⟩

def allowE (c : Climate) (l days : List Weather) : Int := loggedE c l [inB days.length 1 512 && succB days]
def allowV (c : Climate) (l days : List Weather) : Bool := decide (allowE c l days = 0) && agreesB c l days
theorem zg_start {P : Program} {ops : Array Oper} {Q : Exit → Act → World → Prop} {md : Region.Mode} {S : World → Prop} {n fuel : Nat} {listed : Array Bool} {a : Act} {w : World} (hS : S w) (h : S w → ZG P md ops Q S n fuel listed a w) : ZG P md ops Q S n fuel listed a w := h hS
theorem spring_Allowed (c : Climate) (v vd : Value) (l days : List Weather) (w : World) (hv : Sl w 3 Weather.cells v l) (hd : Sl w 3 Weather.cells vd days) :
  Calls Tryz.prog 24 #[c.v, v, vd] w fun e w' => e = .returned (.tuple #[.bool (allowV c l days), I (allowE c l days)]) ∧ Below w.heap.size w w' := by
 obtain ⟨A, n, rfl, _, _, hlen, hA⟩ := hd.open_
 clear hA
 replace hv := hide hv
 replace hd := hide hd
 cases h1 : inB days.length 1 512 with
 | false =>
  have hE : allowE c l days = loggedE c l [false] := by simp [allowE, h1]
  have hne : loggedE c l [false] ≠ 0 := by
   rcases logged_cases c l [false] with ⟨_, _, h⟩ | h
   ·simp at h
   ·exact h
  have hV : allowV c l days = false := by simp only [allowV, hE]; simp [hne]
  rw [hE, hV]
  obtain ⟨b, hb⟩ : ∃ b, loggedE c l [false] = b := ⟨_, rfl⟩
  rw [hb] at hne ⊢
  have hb0 : (b != 0) = true := by simpa using hne
  replace hb := hide hb
  have H1 := fun w => spring_in days.length 1 512 w
  rw [h1] at H1
  replace H1 := hide H1
  clear hE hV
  unfold Climate.v at *
  go_enter Tryz.func24, Tryz.ntmps24
  go_wp2_with fail
  refine wp_region_zg (S := fun W => W.cell? ⟨w.heap.size, 0, none⟩ = some (I c.base) ∧ W.cell? ⟨w.heap.size, 1, none⟩ = some (I c.lapse) ∧ W.cell? ⟨w.heap.size, 2, none⟩ = some (I c.swing) ∧ W.cell? ⟨w.heap.size, 3, none⟩ = some (I c.wettest) ∧ W.cell? ⟨w.heap.size, 4, none⟩ = some (I c.coldest) ∧ W.cell? ⟨w.heap.size, 5, none⟩ = some (I c.warmest) ∧ W.cell? ⟨w.heap.size, 6, none⟩ = some (I c.flo) ∧ W.cell? ⟨w.heap.size, 7, none⟩ = some (I c.fhi)) 11 (by kernel_rfl) (by kernel_rfl) ?_
  refine zg_start ?_ (fun hHeld => ?_)
  ·(try dsimp only)
   go_keep
  (refine zg_tk 0 ?_; refine zg_tk 1 ?_; refine zg_tk 2 ?_; refine zg_tk 3 ?_; (try go_frame))
  (refine zg_rd 4 fun K_ hK_ => ?_; go_simp; (go_at_call 49; refine (H1.out _).mono ?_; rintro e w' ⟨rfl, rfl⟩); refine hK_.out _ _ ?_ (fun hHeld => ?_); rotate_left; clear hK_ K_; (try go_frame); rotate_left)
  ·assumption
  (refine zg_tk 5 ?_; (try go_frame))
  (refine zg_rd 6 fun K_ hK_ => ?_; go_simp; skip; refine hK_.out _ _ ?_ (fun hHeld => ?_); rotate_left; clear hK_ K_; (try go_frame); rotate_left)
  ·assumption
  (refine zg_rd 7 fun K_ hK_ => ?_; go_simp; skip; refine hK_.out _ _ ?_ (fun hHeld => ?_); rotate_left; clear hK_ K_; (try go_frame); rotate_left)
  ·assumption
  (refine zg_tk 8 ?_; (try go_frame))
  (refine zg_rd 9 fun K_ hK_ => ?_; go_simp; skip; refine hK_.out _ _ ?_ (fun hHeld => ?_); rotate_left; clear hK_ K_; (try go_frame); rotate_left)
  ·go_keep
  (refine zg_rd 10 fun K_ hK_ => ?_; go_simp; (go_at_call 34; refine (spring_logged_lit c _ l [false] _ _ (hv.out.mono (below_drewN (below2 _ _ _) 1)) (Blk.drew (blk21 _ _ _ _)) (by simp)).mono ?_; rw [hb.out]; rintro e w1 ⟨rfl, hb1⟩; have hc1 := fun o => (bcell hb1).1 w.heap.size o (by simp <;> omega)); refine hK_.out _ _ ?_ (fun hHeld => ?_); rotate_left; clear hK_ K_; (try go_frame); rotate_left)
  ·go_keep
  (refine zg_ls 11 fun K_ hK_ => ?_; go_simp; skip; refine hK_.out _ _ ?_; clear hK_ K_; (try go_frame))
  go_wp2_with fail
  go_ret2
  exact ⟨rfl, bup (below2 _ _ _) (below_drew' hb1)⟩
 | true =>
  have hln := inB_true.1 h1
  have H1 := fun w => spring_in days.length 1 512 w
  rw [h1] at H1
  replace H1 := hide H1
  have H2 := fun w hd => spring_successive (.slice A days.length n) days w (by omega) hd
  have hE : allowE c l days = loggedE c l [succB days] := by simp [allowE, h1]
  rcases logged_cases c l [succB days] with ⟨g1, g2, g3⟩ | g1
  ·have hV : allowV c l days = agreesB c l days := by simp [allowV, hE, g1]
   have H3 := hide (fun w hv hd => spring_agrees c v (.slice A days.length n) l days w g2.clim g2.mem (by omega) (by omega) hv hd)
   rw [hE, hV, g1]
   replace g1 := hide g1
   obtain ⟨q, hq⟩ : ∃ q, succB days = q := ⟨_, rfl⟩
   rw [hq] at H2 g1
   replace hq := hide hq
   replace H2 := hide H2
   clear hE hV hln g2 g3
   unfold Climate.v at *
   go_enter Tryz.func24, Tryz.ntmps24
   go_wp2_with fail
   first | (go_region_held3 (fun W => W.cell? ⟨w.heap.size, 0, none⟩ = some (I c.base) ∧ W.cell? ⟨w.heap.size, 1, none⟩ = some (I c.lapse) ∧ W.cell? ⟨w.heap.size, 2, none⟩ = some (I c.swing) ∧ W.cell? ⟨w.heap.size, 3, none⟩ = some (I c.wettest) ∧ W.cell? ⟨w.heap.size, 4, none⟩ = some (I c.coldest) ∧ W.cell? ⟨w.heap.size, 5, none⟩ = some (I c.warmest) ∧ W.cell? ⟨w.heap.size, 6, none⟩ = some (I c.flo) ∧ W.cell? ⟨w.heap.size, 7, none⟩ = some (I c.fhi)) (go_keep) (first | (go_at_call 49; refine (H1.out _).mono ?_; rintro e w' ⟨rfl, rfl⟩) | (go_at_call 54; refine (H2.out _ (hd.out.mono (below_drewN (below1 _ _) 1))).mono ?_; rintro e w1 ⟨rfl, hb1⟩; have hc1 := fun o => (bcell hb1).1 w.heap.size o (by simp <;> omega); have hz1 : w.heap.size < w1.heap.size := by have := hb1.size; simp at this; omega) | (go_at_call 34; refine (spring_logged_lit c _ l [q] _ _ (hv.out.mono (bup (bup (below1 _ _) (below_drew' hb1)) (below1 _ _))) (Blk.new _ _ _) (by simp)).mono ?_; rw [g1.out]; rintro e w2 ⟨rfl, hb2⟩; have hc2 := fun o => (bcell hb2).1 w.heap.size o (by have := hb1.size; simp at this ⊢; omega)))) | fail
   go_wp2_with (go_at_call 41; refine (H3.out _ (hv.out.mono (bup (bup (bup (below1 _ _) (below_drew' hb1)) (below1 _ _)) hb2)) (hd.out.mono (bup (bup (bup (below1 _ _) (below_drew' hb1)) (below1 _ _)) hb2))).mono ?_; rintro e w3 ⟨rfl, hb3⟩)
   go_ret2
   exact ⟨rfl, bup (bup (bup (bup (below1 _ _) (below_drew' hb1)) (below1 _ _)) hb2) hb3⟩
  ·have hV : allowV c l days = false := by simp only [allowV, hE]; simp [g1]
   rw [hE, hV]
   obtain ⟨b, hb⟩ : ∃ b, loggedE c l [succB days] = b := ⟨_, rfl⟩
   rw [hb] at g1 ⊢
   have hb0 : (b != 0) = true := by simpa using g1
   obtain ⟨q, hq⟩ : ∃ q, succB days = q := ⟨_, rfl⟩
   rw [hq] at H2 hb
   replace hq := hide hq
   replace H2 := hide H2
   replace hb := hide hb
   clear hE hV hln
   unfold Climate.v at *
   go_enter Tryz.func24, Tryz.ntmps24
   go_wp2_with fail
   first | (go_region_held3 (fun W => W.cell? ⟨w.heap.size, 0, none⟩ = some (I c.base) ∧ W.cell? ⟨w.heap.size, 1, none⟩ = some (I c.lapse) ∧ W.cell? ⟨w.heap.size, 2, none⟩ = some (I c.swing) ∧ W.cell? ⟨w.heap.size, 3, none⟩ = some (I c.wettest) ∧ W.cell? ⟨w.heap.size, 4, none⟩ = some (I c.coldest) ∧ W.cell? ⟨w.heap.size, 5, none⟩ = some (I c.warmest) ∧ W.cell? ⟨w.heap.size, 6, none⟩ = some (I c.flo) ∧ W.cell? ⟨w.heap.size, 7, none⟩ = some (I c.fhi)) (go_keep) (first | (go_at_call 49; refine (H1.out _).mono ?_; rintro e w' ⟨rfl, rfl⟩) | (go_at_call 54; refine (H2.out _ (hd.out.mono (below_drewN (below1 _ _) 1))).mono ?_; rintro e w1 ⟨rfl, hb1⟩; have hc1 := fun o => (bcell hb1).1 w.heap.size o (by simp <;> omega); have hz1 : w.heap.size < w1.heap.size := by have := hb1.size; simp at this; omega) | (go_at_call 34; refine (spring_logged_lit c _ l [q] _ _ (hv.out.mono (bup (bup (below1 _ _) (below_drew' hb1)) (below1 _ _))) (Blk.new _ _ _) (by simp)).mono ?_; rw [hb.out]; rintro e w2 ⟨rfl, hb2⟩; have hc2 := fun o => (bcell hb2).1 w.heap.size o (by have := hb1.size; simp at this ⊢; omega)))) | fail
   go_wp2_with fail
   go_ret2
   exact ⟨rfl, bup (bup (bup (below1 _ _) (below_drew' hb1)) (below1 _ _)) hb2⟩

theorem relF_stop {c : Climate} {h f e : Int} {x : Weather} {xs : List Weather} {p : Int × Int} (g : e ≤ x.day) : relF c h f e (x :: xs) p = p := by simp [relF, g]
theorem relF_go {c : Climate} {h f e : Int} {x : Weather} {xs : List Weather} {a b : Int} (g : x.day < e) :
  relF c h f e (x :: xs) (a, b) = relF c h f e xs (a + ((fallF c x h).2 + b + (fallF c x h).1 - max 0 (b + (fallF c x h).1 - meltF c x h f)), max 0 (b + (fallF c x h).1 - meltF c x h f)) := by
 have : ¬ e ≤ x.day := by omega
 simp only [relF, this, if_false]
 congr 1
 rw [Prod.mk.injEq]
 omega
theorem drop_at {α : Type} {l : List α} {k : Nat} {x : α} (h : l[k]? = some x) : l.drop k = x :: l.drop (k + 1) := by
 obtain ⟨hk, hx⟩ := List.getElem?_eq_some_iff.1 h
 rw [List.drop_eq_getElem_cons hk, hx]
theorem fall_sum {c : Climate} {x : Weather} {h : Int} (hx : 0 ≤ x.rain) : (0 ≤ (fallF c x h).1 ∧ 0 ≤ (fallF c x h).2) ∧ (fallF c x h).1 + (fallF c x h).2 = x.rain := by
 unfold fallF
 split <;> simp <;> omega

theorem spring_release (c : Climate) (no : Int) (v : Value) (l : List Weather) (h W f e : Int) (w : World) (hc : ClimOk c) (hl : ∀ x ∈ l, WeaOk c x) (hn : l.length ≤ 512) (hh : 0 ≤ h ∧ h ≤ 9000) (hf : 0 ≤ f ∧ f ≤ 2000) (hW : 0 ≤ W ∧ W ≤ 1000000000) (hv : Sl w 3 Weather.cells v l) :
  Calls Tryz.prog 53 #[c.v, .agg #[I no, v], I h, I W, I f, I e] w fun en w' => en = .returned (.tuple #[I (relF c h f e l (0, W)).1, I (relF c h f e l (0, W)).2]) ∧ Below w.heap.size w w' := by
 obtain ⟨A, n, rfl, _, _, hlen, hA⟩ := hv.open_
 replace hv := hide hv
 replace hA := hide hA
 replace hl := hide hl
 have HF := hide (fun x (hx : WeaOk c x) w => spring_fall c x h w hc (hx.t600 hc) hh)
 have HM := hide (fun x (hx : WeaOk c x) w => spring_melt c x h f w hc (hx.t600 hc) hh hf)
 have HB := hide (fun x (hx : WeaOk c x) => (meltF_bd (f := f) hc (hx.t600 hc) hh hf).2)
 have hwet := hc.wettest
 obtain ⟨R, hR⟩ : ∃ R, relF c h f e l (0, W) = R := ⟨_, rfl⟩
 rw [hR]
 replace hR := hide hR
 unfold Climate.v Weather.v at *
 go_enter Tryz.func53, Tryz.ntmps53
 go_wp2_with fail
 obtain ⟨W0, hW0⟩ : ∃ W0, W0 = (w.alloc (.cells (c8 c) 25)).alloc (.cells #[I no, .slice A l.length n] 58) := ⟨_, rfl⟩
 have hK : ClimAt c w.heap.size W0 := by rw [hW0]; exact (ClimAt.new _ _ _).grow (below1 _ _)
 have hbl : Below w.heap.size w W0 := by rw [hW0]; exact below2 _ _ _
 rw [← hW0]
 clear hW0
 go_loopw [3, 14, 23] (fun wa ca i wr => ∃ (k : Nat) (a b : Int), k ≤ l.length ∧ i = I k ∧ ca = I a ∧ wa = I b ∧ 0 ≤ a ∧ 0 ≤ b ∧ a + b ≤ W + 1000 * k ∧ Hid (relF c h f e (l.drop k) (a, b) = R) ∧ Below W0.heap.size W0 wr) (fun _ _ i _ => l.length - (intOf i).toNat)
 case atStart => exact ⟨0, 0, W, Nat.zero_le _, rfl, rfl, rfl, by omega, by omega, by omega, by simpa using hR, Below.refl _ _⟩
 case round =>
  obtain ⟨k, a, b, hk, rfl, rfl, rfl, ha, hb, hab, hr, hbw⟩ := hrel
  clear hR
  by_cases hlt : k < l.length
  ·obtain ⟨g, off, rfl, hgw⟩ := hA.out k hlt
   obtain ⟨x, hx⟩ := getElem?_of_lt hlt
   have hxo := hl.out x (List.mem_of_getElem? hx)
   have hdr := drop_at hx
   obtain ⟨hgx, e0, e1, e2⟩ := ((unhide hv).mono (bup hbl hbw)).weather_at hx
   obtain ⟨hgc, q0, q1, q2, q3, q4, q5, q6, q7⟩ := hK.grow hbw
   have H1 := HF.out x hxo
   have H2 := HM.out x hxo
   obtain ⟨m1, m2⟩ := HB.out x hxo
   obtain ⟨⟨f1, f2⟩, f3⟩ := fall_sum (c := c) (h := h) hxo.rain.1
   have hra := hxo.rain.2
   rcases ilt x.day e with hd | hd
   ·have hs := hr.out
    rw [hdr, relF_go hd] at hs
    replace hs := hide hs
    obtain ⟨sn, hsn⟩ : ∃ sn, (fallF c x h).1 = sn := ⟨_, rfl⟩
    obtain ⟨ra, hra2⟩ : ∃ ra, (fallF c x h).2 = ra := ⟨_, rfl⟩
    obtain ⟨me, hme⟩ : ∃ me, meltF c x h f = me := ⟨_, rfl⟩
    simp only [hsn, hra2, hme] at H1 H2 hs m1 m2 f1 f2 f3
    replace H1 := hide H1
    replace H2 := hide H2
    replace hxo := hide hxo
    have f4 : sn + ra ≤ 1000 := by omega
    clear hsn hra2 hme f3 hA hl hv hdr hx hr HF HM HB hra
    obtain ⟨y, hy⟩ : ∃ y, max 0 (b + sn - me) = y := ⟨_, rfl⟩
    rw [hy] at hs
    have hy1 : 0 ≤ y ∧ y ≤ b + sn := by omega
    obtain ⟨y1, y2⟩ := hy1
    rcases ilt 0 (b + sn - me) with hp | hp
    ·have hy2 : b + sn - me = y := by omega
     replace hy := hide hy
     replace hy2 := hide hy2
     go_wp2_with (first | (go_at_call 48; refine (H1.out _).mono ?_; clear H1; rintro e w1 ⟨rfl, hb1⟩; have hc1 := fun o => (bcell hb1).1 w.heap.size o (by simp <;> omega); have hc2 := fun o => (bcell hb1).1 wr.heap.size o (by simp <;> omega); have hz1 := hb1.size; simp at hz1) | (go_at_call 50; refine (H2.out _).mono ?_; clear H2; rintro e w2 ⟨rfl, hb2⟩))
     rw [hy2.out]
     go_wp2_with fail
     go_roundw
     case rel => exact ⟨k + 1, a + (ra + b + sn - y), y, by omega, by go_num, by go_num, rfl, by omega, by omega, by push_cast; omega, hs, bup (bup (bup hbw (below1 _ _)) hb1) hb2⟩
     case measure => simp [intOf]; omega
    ·have hy2 : y = 0 := by omega
     subst hy2
     replace hy := hide hy
     go_wp2_with (first | (go_at_call 48; refine (H1.out _).mono ?_; clear H1; rintro e w1 ⟨rfl, hb1⟩; have hc1 := fun o => (bcell hb1).1 w.heap.size o (by simp <;> omega); have hc2 := fun o => (bcell hb1).1 wr.heap.size o (by simp <;> omega); have hz1 := hb1.size; simp at hz1) | (go_at_call 50; refine (H2.out _).mono ?_; clear H2; rintro e w2 ⟨rfl, hb2⟩))
     go_wp2_with fail
     go_roundw
     case rel => exact ⟨k + 1, a + (ra + b + sn - 0), 0, by omega, by go_num, by simp, rfl, by omega, by omega, by push_cast; omega, hs, bup (bup (bup hbw (below1 _ _)) hb1) hb2⟩
     case measure => simp [intOf]; omega
   ·have hs := hr.out
    rw [hdr, relF_stop hd] at hs
    subst hs
    clear hA hl hv hdr hx hr HF HM HB H1 H2
    go_wp2_with fail
    go_ret2
    exact ⟨rfl, bup hbl (bup hbw (below1 _ _))⟩
  ·have he : k = l.length := by omega
   subst he
   have hs := hr.out
   rw [List.drop_length] at hs
   simp only [relF] at hs
   subst hs
   clear hA hl hv hr HF HM HB
   go_wp2_with fail
   go_ret2
   exact ⟨rfl, bup hbl hbw⟩

theorem spring_begin (no : Int) (v : Value) (l : List Weather) (w : World) (h0 : 0 < l.length) (hv : Sl w 3 Weather.cells v l) : Calls Tryz.prog 51 #[.agg #[I no, v]] w fun e w' => e = .returned (I (beginF ⟨no, l⟩)) ∧ Below w.heap.size w w' := by
 obtain ⟨x, hx⟩ := getElem?_of_lt h0
 have hd : beginF ⟨no, l⟩ = x.day := by simp only [beginF]; rw [getD_of hx]
 rw [hd]
 obtain ⟨A, n, rfl, _, _, hlen, hA⟩ := hv.open_
 obtain ⟨b, off, rfl, hbw⟩ := hA 0 h0
 obtain ⟨_, e0, _, _⟩ := hv.weather_at hx
 rw [Nat.zero_mul, Nat.add_zero] at e0
 clear hA hv hx hd
 go_enter Tryz.func51, Tryz.ntmps51
 go_wp2_with fail
 go_ret
 exact ⟨rfl, below1 _ _⟩
theorem spring_end (no : Int) (v : Value) (l : List Weather) (w : World) (h0 : 0 < l.length) (hb : 0 ≤ beginF ⟨no, l⟩ ∧ beginF ⟨no, l⟩ ≤ 1048576) (hn : l.length ≤ 512) (hv : Sl w 3 Weather.cells v l) : Calls Tryz.prog 52 #[.agg #[I no, v]] w fun e w' => e = .returned (I (endF ⟨no, l⟩)) ∧ Below w.heap.size w w' := by
 obtain ⟨A, n, rfl, _, _, hlen, hA⟩ := hv.open_
 have H := fun w hv => spring_begin no (.slice A l.length n) l w h0 hv
 have hE : endF ⟨no, l⟩ = beginF ⟨no, l⟩ + l.length := rfl
 rw [hE]
 obtain ⟨d, hd⟩ : ∃ d, beginF ⟨no, l⟩ = d := ⟨_, rfl⟩
 rw [hd] at hb ⊢
 rw [hd] at H
 obtain ⟨b1, b2⟩ := hb
 have k1 : IntKind.i64.wrap (d + (l.length : Int)) = d + (l.length : Int) := IntWalk.i64_in _ (by omega)
 replace H := hide H
 have hv1 := hide (hv.mono (below1 w (.cells #[I no, .slice A l.length n] 58)))
 clear hA hE hd hv
 go_enter Tryz.func52, Tryz.ntmps52
 go_wp2_with fail
 (refine wp_grow ?_; (repeat go_big_quiet_step ((go_at_call 51; exact calls_grew (H.out _ (hv1.out.mono (Grew.below _)))))); refine wp_grow0 ?_; intro W1 hW1)
 go_wp2_with fail
 go_ret
 exact ⟨rfl, bup (below1 _ _) hW1⟩

structure SprOk (c : Climate) (s : Spring) : Prop where
 clim : ClimOk c
 n1 : 1 ≤ s.days.length
 n2 : s.days.length ≤ 512
 mem : ∀ x ∈ s.days, WeaOk c x
 succ : succB s.days = true
 beg : 0 ≤ beginF s ∧ beginF s ≤ 1048576
theorem SprOk.of {c : Climate} {s : Spring} (h : springE c s = 0) : SprOk c s := by
 unfold springE at h
 cases h1 : climateOk c with
 | false => rw [h1] at h; simp at h
 | true =>
  rw [h1] at h
  cases h2 : springOk c s with
  | false => rw [h2] at h; simp at h
  | true =>
   simp only [springOk, Bool.and_eq_true, inB_true] at h2
   obtain ⟨⟨⟨_, h3, h4⟩, h5⟩, h6⟩ := h2
   have hm := linkedB_ok h6
   obtain ⟨x, hx⟩ := getElem?_of_lt (xs := s.days) (k := 0) (by omega)
   have hb : beginF s = x.day := by simp only [beginF]; rw [getD_of hx]
   exact ⟨.of h1, by omega, by omega, hm, h5, by rw [hb]; exact (hm x (List.mem_of_getElem? hx)).day⟩
def relE (c : Climate) (s : Spring) (h W f d : Int) : Int := if springE c s = 0 then askedE c [heightB h, inB W 0 65536, inB f 0 2000, inB d (beginF s) (endF s)] else springE c s
def relV (c : Climate) (s : Spring) (h W f d : Int) : Int × Int := if relE c s h W f d = 0 then relF c h f d s.days (0, W) else (0, 0)
theorem spring_Release (c : Climate) (no : Int) (v : Value) (l : List Weather) (h W f d : Int) (w : World) (hv : Sl w 3 Weather.cells v l) :
  Calls Tryz.prog 23 #[c.v, .agg #[I no, v], I h, I W, I f, I d] w fun en w' => en = .returned (.tuple #[I (relV c ⟨no, l⟩ h W f d).1, I (relV c ⟨no, l⟩ h W f d).2, I (relE c ⟨no, l⟩ h W f d)]) ∧ Below w.heap.size w w' := by
 have H1 := fun w hv => spring_CheckSpring c no v l w hv
 by_cases hE : springE c ⟨no, l⟩ = 0
 ·have hs := SprOk.of hE
  rw [hE] at H1
  have hR : relE c ⟨no, l⟩ h W f d = askedE c [heightB h, inB W 0 65536, inB f 0 2000, inB d (beginF ⟨no, l⟩) (endF ⟨no, l⟩)] := by simp [relE, hE]
  have HB := fun w hv => spring_begin no v l w hs.n1 hv
  have HN := fun w hv => spring_end no v l w hs.n1 hs.beg hs.n2 hv
  obtain ⟨bg, hbg⟩ : ∃ bg, beginF ⟨no, l⟩ = bg := ⟨_, rfl⟩
  obtain ⟨en, hen⟩ : ∃ en, endF ⟨no, l⟩ = en := ⟨_, rfl⟩
  rw [hbg] at HB
  rw [hen] at HN
  rw [hbg, hen] at hR
  have HD := fun w => spring_in d bg en w
  rcases asked_cases c [heightB h, inB W 0 65536, inB f 0 2000, inB d bg en] with ⟨g1, _, g3⟩ | ⟨g1, _⟩
  ·simp at g3
   obtain ⟨i1, i2, i3, i4⟩ := g3
   replace i1 := heightB_bd i1
   replace i2 := inB_true.1 i2
   replace i3 := inB_true.1 i3
   have H2 := fun w hv => spring_release c no v l h W f d w hs.clim hs.mem hs.n2 i1 i3 (by omega) hv
   have hV : relV c ⟨no, l⟩ h W f d = relF c h f d l (0, W) := by simp [relV, hR, g1]
   rw [hV, hR, g1]
   obtain ⟨R, hRR⟩ : ∃ R, relF c h f d l (0, W) = R := ⟨_, rfl⟩
   simp only [hRR] at H2 ⊢
   replace hv := hide hv
   replace H1 := hide H1
   replace H2 := hide H2
   replace HB := hide HB
   replace HN := hide HN
   replace HD := hide HD
   replace g1 := hide g1
   clear hE hR hbg hen hV hRR i1 i2 i3 i4 hs
   unfold Climate.v at *
   go_enter Tryz.func23, Tryz.ntmps23
   go_wp2_with (go_at_call 29; refine (H1.out _ (hv.out.mono (below2 _ _ _))).mono ?_; clear H1; rintro e w1 ⟨rfl, hb1⟩; have kC := hide ((((ClimAt.new c w 25).grow (below1 _ (.cells #[I no, v] 58)))).grow hb1); have kS := hide ((blk21 w 58 #[I no, v] (.cells (c8 c) 25)).grow hb1); have hB1 := bup (below2 _ _ _) hb1; clear hb1)
   obtain ⟨z1, q0, q1, q2, q3, q4, q5, q6, q7⟩ := kC.out
   obtain ⟨z2, s0, s1, _, _⟩ := blk_box kS.out
   first | (go_region_held3 (fun W => (W.cell? ⟨w.heap.size, 0, none⟩ = some (I c.base) ∧ W.cell? ⟨w.heap.size, 1, none⟩ = some (I c.lapse) ∧ W.cell? ⟨w.heap.size, 2, none⟩ = some (I c.swing) ∧ W.cell? ⟨w.heap.size, 3, none⟩ = some (I c.wettest) ∧ W.cell? ⟨w.heap.size, 4, none⟩ = some (I c.coldest) ∧ W.cell? ⟨w.heap.size, 5, none⟩ = some (I c.warmest) ∧ W.cell? ⟨w.heap.size, 6, none⟩ = some (I c.flo) ∧ W.cell? ⟨w.heap.size, 7, none⟩ = some (I c.fhi)) ∧ W.cell? ⟨w.heap.size + 1, 0, none⟩ = some (I no) ∧ W.cell? ⟨w.heap.size + 1, 1, none⟩ = some v) (go_keep) (first
    | (go_at_call 37; refine (spring_height _ _).mono ?_; rintro e w' ⟨rfl, rfl⟩)
    | (go_at_call 49; refine (spring_in _ _ _ _).mono ?_; rintro e w' ⟨rfl, rfl⟩)
    | (go_at_call 51; refine (HB.out _ (hv.out.mono (below_drewN hB1 1))).mono ?_; rintro e w2 ⟨rfl, hb2⟩; have hB2 := bup hB1 (below_drew' hb2); have hz2 : w.heap.size + 1 < w2.heap.size := Nat.lt_of_lt_of_le z2 hb2.size; have hc1 := fun o => (bcell hb2).1 w.heap.size o z1; have hc2 := fun o => (bcell hb2).1 (w.heap.size + 1) o z2)
    | (go_at_call 52; refine (HN.out _ (hv.out.mono hB2)).mono ?_; rintro e w3 ⟨rfl, hb3⟩; have hB3 := bup hB2 hb3; have hz3 : w.heap.size + 1 < w3.heap.size := Nat.lt_of_lt_of_le hz2 hb3.size; have hz3' : w.heap.size < w3.heap.size := Nat.lt_of_succ_lt hz3; have hd1 := fun o => (bcell hb3).1 w.heap.size o (Nat.lt_of_succ_lt hz2); have hd2 := fun o => (bcell hb3).1 (w.heap.size + 1) o hz2)
    | (go_at_call 44; refine (spring_asked_lit c [heightB h, inB W 0 65536, inB f 0 2000, inB d bg en] _ _ (Blk.new _ _ _) (by simp)).mono ?_; rw [g1.out]; rintro e w4 ⟨rfl, hb4⟩; have hB4 := bup (bup hB3 (below1 _ _)) hb4; have hz4 : w.heap.size + 1 < w4.heap.size := Nat.lt_of_lt_of_le (Nat.lt_of_lt_of_le hz3 (below1 _ _).size) hb4.size; have hz4' : w.heap.size < w4.heap.size := Nat.lt_of_succ_lt hz4; have he1 := fun o => (bcell hb4).1 w.heap.size o (Nat.lt_of_lt_of_le hz3' (below1 _ _).size); have he2 := fun o => (bcell hb4).1 (w.heap.size + 1) o (Nat.lt_of_lt_of_le hz3 (below1 _ _).size)))) | fail
   go_wp2_with (go_at_call 53; refine (H2.out _ (hv.out.mono hB4)).mono ?_; rintro e w5 ⟨rfl, hb5⟩)
   go_ret3
   exact ⟨rfl, bup hB4 hb5⟩
  ·have hV : relV c ⟨no, l⟩ h W f d = (0, 0) := by simp [relV, hR, g1]
   rw [hV, hR]
   obtain ⟨b, hb⟩ : ∃ b, askedE c [heightB h, inB W 0 65536, inB f 0 2000, inB d bg en] = b := ⟨_, rfl⟩
   rw [hb] at g1 ⊢
   have hb0 : (b != 0) = true := by simpa using g1
   replace hv := hide hv
   replace H1 := hide H1
   replace HB := hide HB
   replace HN := hide HN
   replace HD := hide HD
   replace hb := hide hb
   clear hE hR hbg hen hV hs
   unfold Climate.v at *
   go_enter Tryz.func23, Tryz.ntmps23
   go_wp2_with (go_at_call 29; refine (H1.out _ (hv.out.mono (below2 _ _ _))).mono ?_; clear H1; rintro e w1 ⟨rfl, hb1⟩; have kC := hide ((((ClimAt.new c w 25).grow (below1 _ (.cells #[I no, v] 58)))).grow hb1); have kS := hide ((blk21 w 58 #[I no, v] (.cells (c8 c) 25)).grow hb1); have hB1 := bup (below2 _ _ _) hb1; clear hb1)
   obtain ⟨z1, q0, q1, q2, q3, q4, q5, q6, q7⟩ := kC.out
   obtain ⟨z2, s0, s1, _, _⟩ := blk_box kS.out
   first | (go_region_held3 (fun W => (W.cell? ⟨w.heap.size, 0, none⟩ = some (I c.base) ∧ W.cell? ⟨w.heap.size, 1, none⟩ = some (I c.lapse) ∧ W.cell? ⟨w.heap.size, 2, none⟩ = some (I c.swing) ∧ W.cell? ⟨w.heap.size, 3, none⟩ = some (I c.wettest) ∧ W.cell? ⟨w.heap.size, 4, none⟩ = some (I c.coldest) ∧ W.cell? ⟨w.heap.size, 5, none⟩ = some (I c.warmest) ∧ W.cell? ⟨w.heap.size, 6, none⟩ = some (I c.flo) ∧ W.cell? ⟨w.heap.size, 7, none⟩ = some (I c.fhi)) ∧ W.cell? ⟨w.heap.size + 1, 0, none⟩ = some (I no) ∧ W.cell? ⟨w.heap.size + 1, 1, none⟩ = some v) (go_keep) (first
    | (go_at_call 37; refine (spring_height _ _).mono ?_; rintro e w' ⟨rfl, rfl⟩)
    | (go_at_call 49; refine (spring_in _ _ _ _).mono ?_; rintro e w' ⟨rfl, rfl⟩)
    | (go_at_call 51; refine (HB.out _ (hv.out.mono (below_drewN hB1 1))).mono ?_; rintro e w2 ⟨rfl, hb2⟩; have hB2 := bup hB1 (below_drew' hb2); have hz2 : w.heap.size + 1 < w2.heap.size := Nat.lt_of_lt_of_le z2 hb2.size; have hc1 := fun o => (bcell hb2).1 w.heap.size o z1; have hc2 := fun o => (bcell hb2).1 (w.heap.size + 1) o z2)
    | (go_at_call 52; refine (HN.out _ (hv.out.mono hB2)).mono ?_; rintro e w3 ⟨rfl, hb3⟩; have hB3 := bup hB2 hb3; have hz3 : w.heap.size + 1 < w3.heap.size := Nat.lt_of_lt_of_le hz2 hb3.size; have hz3' : w.heap.size < w3.heap.size := Nat.lt_of_succ_lt hz3; have hd1 := fun o => (bcell hb3).1 w.heap.size o (Nat.lt_of_succ_lt hz2); have hd2 := fun o => (bcell hb3).1 (w.heap.size + 1) o hz2)
    | (go_at_call 44; refine (spring_asked_lit c [heightB h, inB W 0 65536, inB f 0 2000, inB d bg en] _ _ (Blk.new _ _ _) (by simp)).mono ?_; rw [hb.out]; rintro e w4 ⟨rfl, hb4⟩; have hB4 := bup (bup hB3 (below1 _ _)) hb4; have hz4 : w.heap.size + 1 < w4.heap.size := Nat.lt_of_lt_of_le (Nat.lt_of_lt_of_le hz3 (below1 _ _).size) hb4.size; have hz4' : w.heap.size < w4.heap.size := Nat.lt_of_succ_lt hz4; have he1 := fun o => (bcell hb4).1 w.heap.size o (Nat.lt_of_lt_of_le hz3' (below1 _ _).size); have he2 := fun o => (bcell hb4).1 (w.heap.size + 1) o (Nat.lt_of_lt_of_le hz3 (below1 _ _).size)))) | fail
   go_wp2_with fail
   go_ret3
   exact ⟨rfl, hB4⟩
 ·have hR : relE c ⟨no, l⟩ h W f d = springE c ⟨no, l⟩ := by simp [relE, hE]
  have hV : relV c ⟨no, l⟩ h W f d = (0, 0) := by simp [relV, hR, hE]
  rw [hV, hR]
  obtain ⟨b, hb⟩ : ∃ b, springE c ⟨no, l⟩ = b := ⟨_, rfl⟩
  simp only [hb] at hE H1 ⊢
  have hb0 : (b != 0) = true := by simpa using hE
  replace hv := hide hv
  replace H1 := hide H1
  clear hR hV
  unfold Climate.v at *
  go_enter Tryz.func23, Tryz.ntmps23
  go_wp2_with (go_at_call 29; refine (H1.out _ (hv.out.mono (below2 _ _ _))).mono ?_; clear H1; rintro e w1 ⟨rfl, hb1⟩)
  go_ret3
  exact ⟨rfl, bup (below2 _ _ _) hb1⟩
end Go.Proofs.YtifeniiefhpadaaGreatDoor
