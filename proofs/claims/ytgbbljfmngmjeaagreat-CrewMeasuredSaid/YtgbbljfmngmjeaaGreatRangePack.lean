/- Ranges: sites and tracks by their numbers, and whether a range is valid. Conditions stand in the theorems. -/
import Derived.Test.YtgbbljfmngmjeaaGreatLeafPack
import Derived.Test.YtgbbljfmngmjeaaGreatIndexFuncPack
import Derived.Test.YtgbbljfmngmjeaaGreatGrow
import Derived.Test.YtgbbljfmngmjeaaGreatCrewDefsPack
import Derived.Test.YtgbbljfmngmjeaaGreatBasinDefsPack
import Derived.Test.YtgbbljfmngmjeaaGreatPlugPack
import Derived.BigQuiet
set_option linter.all false
set_option maxHeartbeats 2000000
set_option maxRecDepth 20000
namespace Go.Proofs.YtgbbljfmngmjeaaGreat
open Go.RowKit

theorem site1_gives (no : Int) (B : Nat) (w : World) (hc : w.cell? ⟨B, 0, none⟩ = some (I no)) (hB : B < w.heap.size) (xs : List Site) :
  Gives Tryz.prog 151 #[.pointer (some ⟨B, 0, none⟩)] (fun x => .agg #[I x.no, I x.kind, I x.cell]) (fun s => s.no == no) w xs := by
 intro W x _ hb
 have hc' := (hb.cell (p := ⟨B, 0, none⟩) hB).trans hc
 have hB' : B < W.heap.size := Nat.lt_of_lt_of_le hB hb.size
 clear hc hb hB
 go_enter Tryz.func151, Tryz.ntmps151
 go_wp2
 go_ret
 exact ⟨rfl, below1 _ _⟩
theorem crew_site (vs vt : Value) (ss : List Site) (no : Int) (w : World) (hs : Sl w 3 Site.cells vs ss) :
  Calls Tryz.prog 83 #[.agg #[vs, vt], I no] w fun e w' => e = .returned (I (placeS ss no)) ∧ Below w.heap.size w w' := by
 replace hs := hide hs
 go_enter Tryz.func83, Tryz.ntmps83
 go_wp2_with fail
 refine (indexFunc_Site _ ss _ _ _ _ ((unhide hs).mono (below2 _ _ _)) (enters_of Tryz.func151 (by kernel_rfl) rfl) (site1_gives no _ _ (by simp [go_sem]) (by simp) _)).mono ?_
 rintro e w' ⟨rfl, hb⟩
 go_wp2
 go_ret
 exact ⟨rfl, bup (below2 _ _ _) hb⟩
theorem track1_gives (no : Int) (B : Nat) (w : World) (hc : w.cell? ⟨B, 0, none⟩ = some (I no)) (hB : B < w.heap.size) (xs : List Track) :
  Gives Tryz.prog 160 #[.pointer (some ⟨B, 0, none⟩)] (fun x => .agg #[I x.no, I x.a, I x.b, I x.minutes, I x.cell, I x.steep]) (fun s => s.no == no) w xs := by
 intro W x _ hb
 have hc' := (hb.cell (p := ⟨B, 0, none⟩) hB).trans hc
 have hB' : B < W.heap.size := Nat.lt_of_lt_of_le hB hb.size
 clear hc hb hB
 go_enter Tryz.func160, Tryz.ntmps160
 go_wp2
 go_ret
 exact ⟨rfl, below1 _ _⟩
theorem crew_track (vs vt : Value) (ts : List Track) (no : Int) (w : World) (ht : Sl w 6 Track.cells vt ts) :
  Calls Tryz.prog 110 #[.agg #[vs, vt], I no] w fun e w' => e = .returned (I (placeT ts no)) ∧ Below w.heap.size w w' := by
 replace ht := hide ht
 go_enter Tryz.func110, Tryz.ntmps110
 go_wp2_with fail
 refine (indexFunc_Track _ ts _ _ _ _ ((unhide ht).mono (below2 _ _ _)) (enters_of Tryz.func160 (by kernel_rfl) rfl) (track1_gives no _ _ (by simp [go_sem]) (by simp) _)).mono ?_
 rintro e w' ⟨rfl, hb⟩
 go_wp2
 go_ret
 exact ⟨rfl, bup (below2 _ _ _) hb⟩
theorem crew_CheckRange (vs vt : Value) (ss : List Site) (ts : List Track) (w : World) (hs : Sl w 3 Site.cells vs ss) (ht : Sl w 6 Track.cells vt ts)  :
  Calls Tryz.prog 23 #[.agg #[vs, vt]] w fun e w' => e = .returned (I (rangeE ss ts)) ∧ Below w.heap.size w w' := by
 obtain ⟨A, c, rfl, _, _, hlen, hA⟩ := hs.open_
 obtain ⟨A', c', rfl, _, _, hlen', hA'⟩ := ht.open_
 replace hs := hide hs
 replace ht := hide ht
 replace hA := hide hA
 replace hA' := hide hA'
 by_cases h1 : ¬ ss.length ≤ 16
 ·have hfin : rangeE ss ts = 70 := by simp [rangeE, rangeOk, h1]
  have i1 : (16 < (ss.length : Int)) := by omega
  replace hfin := hide hfin
  go_enter Tryz.func23, Tryz.ntmps23
  go_wp2_with fail
  go_ret
  exact ⟨ret_int hfin.out.symm, below1 _ _⟩
 by_cases h2 : ¬ ts.length ≤ 48
 ·have hfin : rangeE ss ts = 70 := by simp [rangeE, rangeOk, h2]
  have i1 : ((ss.length : Int) ≤ 16) := by omega
  have i2 : (48 < (ts.length : Int)) := by omega
  replace hfin := hide hfin
  go_enter Tryz.func23, Tryz.ntmps23
  go_wp2_with fail
  go_ret
  exact ⟨ret_int hfin.out.symm, below1 _ _⟩
 have i1 : ((ss.length : Int) ≤ 16) := by omega
 have i2 : ((ts.length : Int) ≤ 48) := by omega
 have hbad1 : ∀ k, k < ss.length → siteGood ss k = false → rangeE ss ts = 70 := fun k hk hf => by simp [rangeE, rangeOk, all_of_not hk hf]
 have hbad2 : ∀ k, k < ts.length → trackGood ss ts k = false → rangeE ss ts = 70 := fun k hk hf => by simp [rangeE, rangeOk, all_of_not hk hf]
 have hfine : (List.range ss.length).all (siteGood ss) = true → (List.range ts.length).all (trackGood ss ts) = true → rangeE ss ts = 0 := fun a b => by
  simp only [rangeE, rangeOk, a, b, decide_eq_true (Decidable.not_not.1 h1), decide_eq_true (Decidable.not_not.1 h2)]; rfl
 replace hbad1 := hide hbad1
 replace hbad2 := hide hbad2
 replace hfine := hide hfine
 clear h1 h2
 go_enter Tryz.func23, Tryz.ntmps23
 go_wp2_with fail
 obtain ⟨W0, hW0⟩ : ∃ W0, W0 = w.alloc (Obj.cells #[Value.slice A ss.length c, Value.slice A' ts.length c'] 25) := ⟨_, rfl⟩
 have c0 : W0.cell? ⟨w.heap.size, 0, none⟩ = some (Value.slice A ss.length c) := by rw [hW0]; simp [go_sem]
 have c1 : W0.cell? ⟨w.heap.size, 1, none⟩ = some (Value.slice A' ts.length c') := by rw [hW0]; simp [go_sem]
 have hsz : w.heap.size < W0.heap.size := by rw [hW0]; simp
 have hbl : Below w.heap.size w W0 := by rw [hW0]; exact below1 _ _
 rw [← hW0]
 clear hW0
 go_loopw [20] (fun i wr => ∃ k : Nat, k ≤ ss.length ∧ i = I k ∧ Hid (AllTo (siteGood ss) k) ∧ Below W0.heap.size W0 wr) (fun i _ => ss.length - (intOf i).toNat)
 case atStart => exact ⟨0, Nat.zero_le _, rfl, hide (AllTo.zero _), Below.refl _ _⟩
 case round =>
  obtain ⟨k, hk, rfl, hn, hb⟩ := hrel
  have d0 := (hb.cell (p := ⟨w.heap.size, 0, none⟩) hsz).trans c0
  have d1 := (hb.cell (p := ⟨w.heap.size, 1, none⟩) hsz).trans c1
  have hwx : w.heap.size < wr.heap.size := by have := hb.size; omega
  by_cases hlt : k < ss.length
  ·obtain ⟨b, off, rfl, hbw⟩ := hA.out k hlt
   obtain ⟨x, hx⟩ := getElem?_of_lt hlt
   obtain ⟨_, e0, e1, e2⟩ := ((unhide hs).mono (bup hbl hb)).site_at hx
   have hbx : b < wr.heap.size := by have := hb.size; have := hbl.size; omega
   have hgd := hide (getD_of hx)
   clear c0 c1 hA
   cases hok : siteOk x with
   | false =>
    have hfin := hide (hbad1.out k hlt (by simp [siteGood, hx, hok]))
    clear hbad1 hbad2 hfine hx hgd
    go_wp2_with fail
    (refine wp_grow ?_; (repeat go_big_quiet_step ((go_at_call 81; exact calls_grew (crew_right x _)))); refine wp_grow0 ?_; intro W1 hW1)
    go_wp2_with fail
    go_ret
    exact ⟨ret_int hfin.out.symm, bup hbl (bup (bup hb (below1 _ _)) hW1)⟩
   | true =>
    rcases Nat.lt_or_ge 0 k with hk0 | hk0
    ·obtain ⟨y, hy⟩ := getElem?_of_lt (xs := ss) (k := k - 1) (by omega)
     obtain ⟨_, p0, _, _⟩ := ((unhide hs).mono (bup hbl hb)).site_at hy
     cases hyx : decide (y.no < x.no) with
     | false =>
      have hfin := hide (hbad1.out k hlt (by simp [siteGood, hx, hok, hy, hyx]; omega))
      have hyx : x.no ≤ y.no := by simpa using hyx
      clear hbad1 hbad2 hfine hx hgd hy
      go_wp2_with fail
      (refine wp_grow ?_; (repeat go_big_quiet_step ((go_at_call 81; exact calls_grew (crew_right x _)))); refine wp_grow0 ?_; intro W1 hW1)
      go_wp2_with fail
      go_ret
      exact ⟨ret_int hfin.out.symm, bup hbl (bup (bup hb (below1 _ _)) hW1)⟩
     | true =>
      have hg := hide (show siteGood ss k = true by simp [siteGood, hx, hok, hy, hyx])
      have hyx : y.no < x.no := by simpa using hyx
      clear hx hgd hy
      go_wp2_with fail
      (refine wp_grow ?_; (repeat go_big_quiet_step ((go_at_call 81; exact calls_grew (crew_right x _)))); refine wp_grow0 ?_; intro W1 hW1)
      go_wp2_with fail
      go_roundw
      case rel => exact ⟨k + 1, by omega, by go_num, hide (hn.out.succ hg.out), (bup (bup hb (below1 _ _)) hW1)⟩
      case measure => simp [intOf]; omega
    ·have hg := hide (show siteGood ss k = true by (obtain rfl : k = 0 := (by omega)); simp [siteGood, hx, hok])
     have hkd : decide (0 < k) = false := by simp; omega
     clear hx hgd
     go_wp2_with fail
     (refine wp_grow ?_; (repeat go_big_quiet_step ((go_at_call 81; exact calls_grew (crew_right x _)))); refine wp_grow0 ?_; intro W1 hW1)
     go_wp2_with fail
     go_roundw
     case rel => exact ⟨k + 1, by omega, by go_num, hide (hn.out.succ hg.out), (bup (bup hb (below1 _ _)) hW1)⟩
     case measure => simp [intOf]; omega
  ·have he : k = ss.length := by omega
   subst he
   have hn := hide (AllTo.all hn.out)
   clear hA c0 c1
   obtain ⟨wo, rfl⟩ : ∃ wo : World, wo = wr := ⟨_, rfl⟩
   go_wp2_with fail
   go_loopw [48] (fun i wr => ∃ k : Nat, k ≤ ts.length ∧ i = I k ∧ Hid (AllTo (trackGood ss ts) k) ∧ Below wo.heap.size wo wr) (fun i _ => ts.length - (intOf i).toNat)
   case atStart => exact ⟨0, Nat.zero_le _, rfl, hide (AllTo.zero _), Below.refl _ _⟩
   case round =>
    obtain ⟨k, hk, rfl, hm, hc⟩ := hrel
    have e0 := (hc.cell (p := ⟨w.heap.size, 0, none⟩) hwx).trans d0
    have e1 := (hc.cell (p := ⟨w.heap.size, 1, none⟩) hwx).trans d1
    have hwy : w.heap.size < wr.heap.size := by have := hc.size; omega
    by_cases hlt : k < ts.length
    ·obtain ⟨b, off, rfl, hbw⟩ := hA'.out k hlt
     obtain ⟨x, hx⟩ := getElem?_of_lt hlt
     have hbe := bup (bup hbl hb) hc
     obtain ⟨_, f0, f1, f2, f3, f4, f5⟩ := ((unhide ht).mono hbe).track_at hx
     have hbx : b < wr.heap.size := by have := hbe.size; omega
     have hS := hide ((unhide hs).mono hbe)
     clear d0 d1 hA'
     cases hok : trackOk x with
     | false =>
      have hfin := hide (hbad2.out k hlt (trackGood_ok hx hok))
      clear hbad1 hbad2 hfine hx hn hm
      go_wp2_with fail
      (refine wp_grow ?_; (repeat go_big_quiet_step ((first | (go_at_call 82; exact calls_grew (crew_passable x _)) | (go_at_call 83; exact calls_grew (crew_site _ _ ss _ _ (hS.out.mono (bup (below1 _ _) (Grew.below _)))))))); refine wp_grow0 ?_; intro W1 hW1)
      go_wp2_with fail
      go_ret
      exact ⟨ret_int hfin.out.symm, bup hbe (bup (below1 _ _) hW1)⟩
     | true =>
      rcases Nat.lt_or_ge 0 k with hk0 | hk0
      ·obtain ⟨y, hy⟩ := getElem?_of_lt (xs := ts) (k := k - 1) (by omega)
       obtain ⟨_, p0, _, _, _, _, _⟩ := ((unhide ht).mono hbe).track_at hy
       rcases ilt y.no x.no with hyx | hyx
       ·have hyd : decide (x.no ≤ y.no) = false := by simp; omega
        rcases ilt (placeS ss x.a) 0 with ha | ha
        ·have hda : decide (placeS ss x.a < 0) = true := by simpa using ha
         have hfin := hide (hbad2.out k hlt (trackGood_a hx ha))
         clear hbad1 hbad2 hfine hx hn hm hy
         go_wp2_with fail
         (refine wp_grow ?_; (repeat go_big_quiet_step ((first | (go_at_call 82; exact calls_grew (crew_passable x _)) | (go_at_call 83; exact calls_grew (crew_site _ _ ss _ _ (hS.out.mono (bup (below1 _ _) (Grew.below _)))))))); refine wp_grow0 ?_; intro W1 hW1)
         go_wp2_with fail
         go_ret
         exact ⟨ret_int hfin.out.symm, bup hbe (bup (below1 _ _) hW1)⟩
        ·have hda : decide (placeS ss x.a < 0) = false := by simp; omega
         rcases ilt (placeS ss x.b) 0 with hb' | hb'
         ·have hdb : decide (placeS ss x.b < 0) = true := by simpa using hb'
          have hfin := hide (hbad2.out k hlt (trackGood_b hx hb'))
          clear hbad1 hbad2 hfine hx hn hm hy
          go_wp2_with fail
          (refine wp_grow ?_; (repeat go_big_quiet_step ((first | (go_at_call 82; exact calls_grew (crew_passable x _)) | (go_at_call 83; exact calls_grew (crew_site _ _ ss _ _ (hS.out.mono (bup (below1 _ _) (Grew.below _)))))))); refine wp_grow0 ?_; intro W1 hW1)
          go_wp2_with fail
          go_ret
          exact ⟨ret_int hfin.out.symm, bup hbe (bup (below1 _ _) hW1)⟩
         ·have hdb : decide (placeS ss x.b < 0) = false := by simp; omega
          have hg := hide (show trackGood ss ts k = true from trackGood_true hx hok (.inr ⟨y, hy, hyx⟩) ha hb')
          clear hx hbad1 hbad2 hy
          go_wp2_with fail
          (refine wp_grow ?_; (repeat go_big_quiet_step ((first | (go_at_call 82; exact calls_grew (crew_passable x _)) | (go_at_call 83; exact calls_grew (crew_site _ _ ss _ _ (hS.out.mono (bup (below1 _ _) (Grew.below _)))))))); refine wp_grow0 ?_; intro W1 hW1)
          go_wp2_with fail
          go_roundw
          case rel => exact ⟨k + 1, by omega, by go_num, hide (hm.out.succ hg.out), (bup (bup hc (below1 _ _)) hW1)⟩
          case measure => simp [intOf]; omega
       ·have hyd : decide (x.no ≤ y.no) = true := by simp; omega
        have hfin := hide (hbad2.out k hlt (trackGood_ord hx hk0 hy hyx))
        clear hbad1 hbad2 hfine hx hn hm hy
        go_wp2_with fail
        (refine wp_grow ?_; (repeat go_big_quiet_step ((first | (go_at_call 82; exact calls_grew (crew_passable x _)) | (go_at_call 83; exact calls_grew (crew_site _ _ ss _ _ (hS.out.mono (bup (below1 _ _) (Grew.below _)))))))); refine wp_grow0 ?_; intro W1 hW1)
        go_wp2_with fail
        go_ret
        exact ⟨ret_int hfin.out.symm, bup hbe (bup (below1 _ _) hW1)⟩
      ·have hkd : decide (0 < k) = false := by simp; omega
       have hk1 : k = 0 := by omega
       replace hk1 := hide hk1
       rcases ilt (placeS ss x.a) 0 with ha | ha
       ·have hda : decide (placeS ss x.a < 0) = true := by simpa using ha
        have hfin := hide (hbad2.out k hlt (trackGood_a hx ha))
        clear hbad1 hbad2 hfine hx hn hm
        go_wp2_with fail
        (refine wp_grow ?_; (repeat go_big_quiet_step ((first | (go_at_call 82; exact calls_grew (crew_passable x _)) | (go_at_call 83; exact calls_grew (crew_site _ _ ss _ _ (hS.out.mono (bup (below1 _ _) (Grew.below _)))))))); refine wp_grow0 ?_; intro W1 hW1)
        go_wp2_with fail
        go_ret
        exact ⟨ret_int hfin.out.symm, bup hbe (bup (below1 _ _) hW1)⟩
       ·have hda : decide (placeS ss x.a < 0) = false := by simp; omega
        rcases ilt (placeS ss x.b) 0 with hb' | hb'
        ·have hdb : decide (placeS ss x.b < 0) = true := by simpa using hb'
         have hfin := hide (hbad2.out k hlt (trackGood_b hx hb'))
         clear hbad1 hbad2 hfine hx hn hm
         go_wp2_with fail
         (refine wp_grow ?_; (repeat go_big_quiet_step ((first | (go_at_call 82; exact calls_grew (crew_passable x _)) | (go_at_call 83; exact calls_grew (crew_site _ _ ss _ _ (hS.out.mono (bup (below1 _ _) (Grew.below _)))))))); refine wp_grow0 ?_; intro W1 hW1)
         go_wp2_with fail
         go_ret
         exact ⟨ret_int hfin.out.symm, bup hbe (bup (below1 _ _) hW1)⟩
        ·have hdb : decide (placeS ss x.b < 0) = false := by simp; omega
         have hg := hide (show trackGood ss ts k = true from trackGood_true hx hok (.inl hk1.out) ha hb')
         clear hx hbad1 hbad2
         go_wp2_with fail
         (refine wp_grow ?_; (repeat go_big_quiet_step ((first | (go_at_call 82; exact calls_grew (crew_passable x _)) | (go_at_call 83; exact calls_grew (crew_site _ _ ss _ _ (hS.out.mono (bup (below1 _ _) (Grew.below _)))))))); refine wp_grow0 ?_; intro W1 hW1)
         go_wp2_with fail
         go_roundw
         case rel => exact ⟨k + 1, by omega, by go_num, hide (hm.out.succ hg.out), (bup (bup hc (below1 _ _)) hW1)⟩
         case measure => simp [intOf]; omega
    ·have he : k = ts.length := by omega
     subst he
     go_wp2_with fail
     go_ret
     exact ⟨ret_int (hfine.out hn.out (AllTo.all hm.out)).symm, bup (bup hbl hb) hc⟩

structure HillAt (W : World) (base h : Nat) (vs vt : Value) (m : Int → Option Int) : Prop where
 hb : base ≤ h
 map : ∃ g L, base ≤ g ∧ Blk W h 200 #[vs, vt, .map (some g)] ∧ MapI W g L ∧ (∀ no, getI L no = (m no).map I) ∧ ∀ no u, m no = some u → 0 ≤ u ∧ u ≤ 65536
theorem HillAt.below {W W' : World} {base h : Nat} {vs vt : Value} {m : Int → Option Int} (H : HillAt W base h vs vt m) (hb : Below W.heap.size W W') : HillAt W' base h vs vt m := by
 obtain ⟨h1, g, L, h2, h3, h4, h5, h6⟩ := H
 exact ⟨h1, g, L, h2, h3.grow hb, h4.below hb h4.lt, h5, h6⟩
theorem HillAt.le {W : World} {base base' h : Nat} {vs vt : Value} {m : Int → Option Int} (H : HillAt W base h vs vt m) (hb : base' ≤ base) : HillAt W base' h vs vt m := by
 obtain ⟨h1, g, L, h2, h3⟩ := H
 exact ⟨by omega, g, L, by omega, h3⟩
theorem HillAt.lt {W : World} {base h : Nat} {vs vt : Value} {m : Int → Option Int} (H : HillAt W base h vs vt m) : h < W.heap.size := by
 obtain ⟨h1, g, L, h2, h3, h4⟩ := H
 exact h3.lt

def Track.v (t : Track) : Value := .agg #[I t.no, I t.a, I t.b, I t.minutes, I t.cell, I t.steep]
theorem crew_safe (h base : Nat) (vs vt : Value) (m : Int → Option Int) (t : Track) (w : World) (H : HillAt w base h vs vt m) (h60 : t.steep ≤ 60) :
  Calls Tryz.prog 109 #[.pointer (some ⟨h, 0, none⟩), .agg #[I t.no, I t.a, I t.b, I t.minutes, I t.cell, I t.steep]] w fun e w' => e = .returned (.bool (safeB m t)) ∧ Below w.heap.size w w' := by
 obtain ⟨_, g, L, _, kH, kL, hL, hm⟩ := H
 by_cases hs : t.steep ≤ 25
 ·have hfin : safeB m t = true := by simp [safeB, hs]
  replace hfin := hide hfin
  clear hL kL kH hm
  go_enter Tryz.func109, Tryz.ntmps109
  go_wp2_with fail
  go_ret
  exact ⟨ret_bool hfin.out.symm, below1 _ _⟩
 ·have hs' : 25 < t.steep := by omega
  obtain ⟨w1, hw1, hb, kT⟩ := al1 w #[I t.no, I t.a, I t.b, I t.minutes, I t.cell, I t.steep] 74
  have kH1 := kH.grow hb
  have kL1 := kL.below hb kL.lt
  have hlk := fun n => MapI.lookup (w := w1.drewN n) (P := Tryz.prog) (t := 198) kL1 Tryz.underlying198 Tryz.underlying3 (z := I 0) (by kernel_rfl) t.cell true
  rw [hL] at hlk
  have rH1 : w1.cell? ⟨h, 2, none⟩ = some (.map (some g)) := kH1.cell 2
  have zH := kH1.lt
  have rT4 : w1.cell? ⟨w.heap.size, 4, none⟩ = some (I t.cell) := kT.cell 4
  have rT5 : w1.cell? ⟨w.heap.size, 5, none⟩ = some (I t.steep) := kT.cell 5
  have zT := kT.lt
  cases hq : m t.cell with
  | none =>
   have hfin : safeB m t = false := by simp [safeB, hs, hq]
   rw [hq] at hlk
   simp at hlk
   replace hfin := hide hfin
   clear hL kL kH hq kH1 kL1 hm kT hs
   go_enter Tryz.func109, Tryz.ntmps109
   go_wp2_with fail
   rw [← hw1]
   clear hw1
   go_quiet (fail)
   go_wp2_with fail
   go_ret
   exact ⟨ret_bool hfin.out.symm, below_drewN hb _⟩
  | some u =>
   have hu := hm _ _ hq
   have hfin : safeB m t = !breaksB u t.steep := by simp [safeB, hs, hq]
   rw [hq] at hlk
   simp at hlk
   have JB := fun w => crew_breaks u t.steep w hu.1 (by omega) (by omega) h60
   replace hfin := hide hfin
   replace JB := hide JB
   clear hL kL kH hq kH1 kL1 hm kT hs hu
   go_enter Tryz.func109, Tryz.ntmps109
   go_wp2_with fail
   rw [← hw1]
   clear hw1
   go_quiet (fail)
   go_wp2_with (go_at_call 79; refine (JB.out _).mono ?_; rintro e w' ⟨rfl, rfl⟩)
   go_ret
   exact ⟨ret_bool hfin.out.symm, below_drewN hb _⟩

structure RangeOk (ss : List Site) (ts : List Track) : Prop where
 n1 : ss.length ≤ 16
 n2 : ts.length ≤ 48
 site : ∀ i, i < ss.length → siteGood ss i = true
 track : ∀ i, i < ts.length → trackGood ss ts i = true
theorem RangeOk.of {ss : List Site} {ts : List Track} (h : rangeE ss ts = 0) : RangeOk ss ts := by
 unfold rangeE at h
 split at h
 ·rename_i h1
  simp only [rangeOk, Bool.and_eq_true, decide_eq_true_eq, List.all_eq_true, List.mem_range] at h1
  exact ⟨h1.1.1.1, h1.1.1.2, h1.1.2, h1.2⟩
 ·cases h
structure TrackIn (ss : List Site) (t : Track) : Prop where
 ok : trackOk t = true
 a : 0 ≤ placeS ss t.a
 b : 0 ≤ placeS ss t.b
 steep : 0 ≤ t.steep ∧ t.steep ≤ 60
 minutes : 1 ≤ t.minutes ∧ t.minutes ≤ 1440
 ab : t.a ≠ t.b
theorem RangeOk.tr {ss : List Site} {ts : List Track} (h : RangeOk ss ts) {t : Track} (ht : t ∈ ts) : TrackIn ss t := by
 obtain ⟨i, hi⟩ := List.mem_iff_getElem?.1 ht
 have h1 := h.track i (List.getElem?_eq_some_iff.1 hi).1
 simp only [trackGood, getD_of hi, Bool.and_eq_true, decide_eq_true_eq] at h1
 have h2 := h1.1.1.1
 have h3 := h2
 simp only [trackOk, Bool.and_eq_true, inB_true, bne_iff_ne, ne_eq] at h3
 exact ⟨h2, h1.1.2, h1.2, h3.1.1.2, h3.1.1.1.2, h3.1.1.1.1.1.2⟩
theorem openF_snoc {m : Int → Option Int} {ts : List Track} {k : Nat} {t : Track} (h : ts[k]? = some t) : openF m (ts.take (k + 1)) = openF m (ts.take k) ++ (if safeB m t = true then [t] else []) := by
 unfold openF
 rw [List.take_succ_eq_append_getElem (List.getElem?_eq_some_iff.1 h).1, List.filter_append]
 congr 1
 have : ts[k]'(List.getElem?_eq_some_iff.1 h).1 = t := (List.getElem?_eq_some_iff.1 h).2
 rw [this]
 simp only [List.filter_cons, List.filter_nil]
theorem openF_len (m : Int → Option Int) (ts : List Track) : (openF m ts).length ≤ ts.length := List.length_filter_le ..

theorem eg_safe : ∀ args w, (callFunc 109 args).run Tryz.prog w = .ok (.enter 109 args) w := enters_of Tryz.func109 (by kernel_rfl) rfl
theorem crew_open (h base : Nat) (vs vt : Value) (m : Int → Option Int) (ts : List Track) (w : World) (H : HillAt w base h vs vt m) (ht : Sl w 6 Track.cells vt ts) (h60 : ∀ t ∈ ts, t.steep ≤ 60) (hn : ts.length ≤ 48) :
  Calls Tryz.prog 121 #[.pointer (some ⟨h, 0, none⟩), .func (.func 109) #[] #[]] w fun e w' => ∃ v, e = .returned v ∧ Own w' w.heap.size 74 6 Track.cells v (openF m ts) ∧ Below w.heap.size w w' := by
 obtain ⟨A, n, rfl, _, _, hlen, hA⟩ := ht.open_
 have HS := hide (fun (t : Track) (ht : t ∈ ts) w' (hb : Below w.heap.size w w') => crew_safe h base vs (.slice A ts.length n) m t w' (H.below hb) (h60 t ht))
 have zH := H.lt
 obtain ⟨_, g, L, _, kH, _⟩ := H
 have rH1 : w.cell? ⟨h, 1, none⟩ = some (.slice A ts.length n) := kH.cell 1
 have eg := eg_safe
 replace ht := hide ht
 replace hA := hide hA
 replace hn := hide hn
 clear kH h60
 go_enter Tryz.func121, Tryz.ntmps121
 go_wp2_with fail
 clear rH1 zH
 go_loopw [5, 14] (fun v i wr => ∃ k : Nat, k ≤ ts.length ∧ i = I k ∧ Hid (Own wr w.heap.size 74 6 Track.cells v (openF m (ts.take k))) ∧ Below w.heap.size w wr) (fun _ i _ => ts.length - (intOf i).toNat)
 case atStart => exact ⟨0, Nat.zero_le _, rfl, hide (Own.nil_ _ _ _ _ _), Below.refl _ _⟩
 case round =>
  obtain ⟨k, hk, rfl, ho, hb⟩ := hrel
  by_cases hlt : k < ts.length
  ·obtain ⟨b, off, rfl, hbw⟩ := hA.out k hlt
   obtain ⟨t, htk⟩ := getElem?_of_lt hlt
   obtain ⟨_, f0, f1, f2, f3, f4, f5⟩ := ((unhide ht).mono hb).track_at htk
   have hbx : b < wr.heap.size := by have := hb.size; omega
   have HX := HS.out t (List.mem_of_getElem? htk)
   have hsn := openF_snoc (m := m) htk
   have hll := openF_len m (ts.take k)
   rw [List.length_take] at hll
   have hl48 : (openF m (ts.take k)).length ≤ 48 := by have := hn.out; omega
   obtain ⟨q, hq⟩ : ∃ q, safeB m t = q := ⟨_, rfl⟩
   rw [hq] at HX hsn
   obtain ⟨w1, hw1, hb1, kT⟩ := al1 wr #[I t.no, I t.a, I t.b, I t.minutes, I t.cell, I t.steep] 74
   have hbw1 := bup hb hb1
   have rT0 : w1.cell? ⟨wr.heap.size, 0, none⟩ = some (I t.no) := kT.cell 0
   have rT1 : w1.cell? ⟨wr.heap.size, 1, none⟩ = some (I t.a) := kT.cell 1
   have rT2 : w1.cell? ⟨wr.heap.size, 2, none⟩ = some (I t.b) := kT.cell 2
   have rT3 : w1.cell? ⟨wr.heap.size, 3, none⟩ = some (I t.minutes) := kT.cell 3
   have rT4 : w1.cell? ⟨wr.heap.size, 4, none⟩ = some (I t.cell) := kT.cell 4
   have rT5 : w1.cell? ⟨wr.heap.size, 5, none⟩ = some (I t.steep) := kT.cell 5
   have zT := kT.lt
   replace HX := hide HX
   replace hsn := hide hsn
   replace hl48 := hide hl48
   replace htk := hide htk
   replace kT := hide kT
   clear hq hll HS hA
   cases q with
   | false =>
    replace hsn := hide (by have := hsn.out; rwa [if_neg (by simp), List.append_nil] at this)
    go_wp2_with fail
    rw [← hw1]
    clear hw1
    go_wp2_with (go_at_fn 109; refine (HX.out _ hbw1).mono ?_; rintro e w2 ⟨rfl, hb2⟩)
    go_roundw
    case rel => exact ⟨k + 1, by omega, by go_num, hide (by rw [hsn.out]; exact (ho.out.below hb1).below hb2), bup hbw1 hb2⟩
    case measure => simp [intOf]; omega
   | true =>
    replace hsn := hide (by have := hsn.out; rwa [if_pos rfl] at this)
    go_wp2_with fail
    rw [← hw1]
    clear hw1
    go_wp2_with (first | (go_at_fn 109; refine (HX.out _ hbw1).mono ?_; rintro e w2 ⟨rfl, hb2⟩; have kT2 := kT.out.grow hb2; have q0 := kT2.cell 0; have q1 := kT2.cell 1; have q2 := kT2.cell 2; have q3 := kT2.cell 3; have q4 := kT2.cell 4; have q5 := kT2.cell 5; have zT2 := kT2.lt) | (at_builtin; refine wp_push el_Track Track.cells_len Track.cells_one rfl (.tmp 22) (.tmp 24) rfl w.heap.size rfl (((ho.out.below hb1).below hb2).alloc _) t rfl ?c1 ?c2 ?c3 ?c4 ?_))
    case c1 => exact new_cells rfl _ t.cells
    case c2 => have := hl48.out; omega
    case c3 => have := hl48.out; omega
    case c4 => have := (bup hbw1 hb2).size; simp; omega
    intro v' w5 hown hbel _
    rw [← hsn.out] at hown
    obtain ⟨A1, n1, c1, rfl⟩ := hown.shape
    replace hown := hide hown
    have hbF := hide (((bup hbw1 hb2).alloc (by have := (bup hbw1 hb2).size; omega) (.cells #[I t.no, I t.a, I t.b, I t.minutes, I t.cell, I t.steep] 74)).trans hbel)
    clear hbel
    go_wp2_with fail
    go_roundw
    case rel => exact ⟨k + 1, by omega, by go_num, hown, hbF.out⟩
    case measure => simp [intOf]; omega
  ·have he : k = ts.length := by omega
   subst he
   have ho2 := ho.out
   rw [List.take_length] at ho2
   obtain ⟨A1, n1, c1, rfl⟩ := ho2.shape
   replace ho2 := hide ho2
   go_wp2_with fail
   go_ret
   exact ⟨_, rfl, ho2.out, hb⟩
end Go.Proofs.YtgbbljfmngmjeaaGreat
