/- The reference of chapter 7: its small functions. Conditions stand in the theorems. -/
import Derived.Test.YtgbbljfmngmjeaaGreatLeafPack
import Derived.Test.YtgbbljfmngmjeaaGreatBasinDefsPack
import Derived.Test.YtgbbljfmngmjeaaGreatGrow
set_option linter.all false
set_option maxHeartbeats 2000000
set_option maxRecDepth 20000
namespace Go.Proofs.YtgbbljfmngmjeaaGreat
open Go.RowKit

theorem ref7_within (n most : Int) (w : World) : Calls Tryz.prog 77 #[I n, I most] w fun e w' => e = .returned (.bool (inB n 0 most)) ∧ w = w' := by
 by_cases h : 0 ≤ n
 ·go_enter Tryz.func77, Tryz.ntmps77
  go_wp2
  go_ret
  exact ⟨by simp [inB, h], rfl⟩
 ·go_enter Tryz.func77, Tryz.ntmps77
  go_wp2
  go_ret
  exact ⟨ret_bool (by simp only [inB]; symm; simp; omega), rfl⟩
theorem ref7_Daylight (day : Int) (w : World) (h0 : 0 ≤ day) (h1 : day ≤ 1048576) : Calls Tryz.prog 78 #[I day] w fun e w' => e = .returned (I (lightF day)) ∧ w = w' := by
 by_cases h : day % 365 ≤ 182
 ·go_enter Tryz.func78, Tryz.ntmps78
  go_wp2
  go_ret
  exact ⟨ret_int (by rw [lightF, if_pos (by omega)]), rfl⟩
 ·go_enter Tryz.func78, Tryz.ntmps78
  go_wp2
  go_ret
  exact ⟨ret_int (by rw [lightF, if_neg (by omega)]), rfl⟩
theorem ref7_Light (day : Int) (w : World) : Calls Tryz.prog 18 #[I day] w fun e w' => e = .returned (.tuple #[I (lightV day), I (dayE day)]) ∧ w = w' := by
 by_cases h : inB day 0 1048576 = true
 ·have h2 := inB_true.1 h
  go_enter Tryz.func18, Tryz.ntmps18
  go_wp2_with (first | (go_at_call 77; refine (ref7_within _ _ _).mono ?_; rintro e w' ⟨rfl, rfl⟩) | (go_at_call 78; refine (ref7_Daylight _ _ h2.1 h2.2).mono ?_; rintro e w' ⟨rfl, rfl⟩))
  go_ret2
  exact ⟨retII (by simp [lightV, h]) (by simp [dayE, h]), rfl⟩
 ·have h : inB day 0 1048576 = false := by simpa using h
  go_enter Tryz.func18, Tryz.ntmps18
  go_wp2_with (first | (go_at_call 77; refine (ref7_within _ _ _).mono ?_; rintro e w' ⟨rfl, rfl⟩))
  go_ret2
  exact ⟨retII (by simp [lightV, h]) (by simp [dayE, h]), rfl⟩
theorem ref7_breaks (water steep : Int) (w : World) (h0 : 0 ≤ water) (h1 : water ≤ 1048576) (h2 : 0 ≤ steep) (h3 : steep ≤ 60) : Calls Tryz.prog 80 #[I water, I steep] w fun e w' => e = .returned (.bool (breaksB water steep)) ∧ w = w' := by
 by_cases h : 25 < steep
 ·have h4 : 0 ≤ water * (steep - 25) := Int.mul_nonneg h0 (by omega)
  have h5 : water * (steep - 25) ≤ 1048576 * 35 := Int.mul_le_mul h1 (by omega) (by omega) (by omega)
  go_enter Tryz.func80, Tryz.ntmps80
  go_wp2
  go_ret
  exact ⟨ret_bool (by simp [breaksB, h]), rfl⟩
 ·go_enter Tryz.func80, Tryz.ntmps80
  go_wp2
  go_ret
  exact ⟨ret_bool (by simp only [breaksB]; symm; simp only [decide_eq_false_iff_not]; omega), rfl⟩
theorem ref7_Breaks (water steep : Int) (w : World) : Calls Tryz.prog 20 #[I water, I steep] w fun e w' =>
  e = .returned (.tuple #[.bool (breaksV water steep), I (breaksE water steep)]) ∧ w = w' := by
 by_cases ha : inB water 0 65536 = true
 ·have h2 := inB_true.1 ha
  by_cases hb : inB steep 0 60 = true
  ·have h3 := inB_true.1 hb
   go_enter Tryz.func20, Tryz.ntmps20
   go_wp2_with (first | (go_at_call 77; refine (ref7_within _ _ _).mono ?_; rintro e w' ⟨rfl, rfl⟩) | (go_at_call 80; refine (ref7_breaks _ _ _ h2.1 (by omega) h3.1 h3.2).mono ?_; rintro e w' ⟨rfl, rfl⟩))
   go_ret2
   exact ⟨retBI (by simp [breaksV, ha, hb]) (by simp [breaksE, ha, hb]), rfl⟩
  ·have hb : inB steep 0 60 = false := by simpa using hb
   go_enter Tryz.func20, Tryz.ntmps20
   go_wp2_with (first | (go_at_call 77; refine (ref7_within _ _ _).mono ?_; rintro e w' ⟨rfl, rfl⟩))
   go_ret2
   exact ⟨retBI (by simp [breaksV, hb]) (by simp [breaksE, hb]), rfl⟩
 ·have ha : inB water 0 65536 = false := by simpa using ha
  go_enter Tryz.func20, Tryz.ntmps20
  go_wp2_with (first | (go_at_call 77; refine (ref7_within _ _ _).mono ?_; rintro e w' ⟨rfl, rfl⟩))
  go_ret2
  exact ⟨retBI (by simp [breaksV, ha]) (by simp [breaksE, ha]), rfl⟩
theorem bears_at {steep : Int} {k : Int} (h0 : 0 ≤ steep) (hk : 0 ≤ k) (hk2 : k ≤ 65536) (hn : breaksB k steep = false) (hu : k = 65536 ∨ breaksB (k + 1) steep = true) : bearsF steep = k := by
 unfold bearsF
 unfold breaksB at hn hu
 rw [decide_eq_false_iff_not] at hn
 rw [decide_eq_true_eq] at hu
 split
 ·omega
 ·rename_i h
  obtain ⟨d, hd⟩ : ∃ d, steep - 25 = d := ⟨_, rfl⟩
  rw [hd] at hn hu ⊢
  have hd0 : 0 < d := by omega
  have h1 : k * d < 10000 := by
   rcases ilt (k * d) 10000 with h2 | h2
   ·exact h2
   ·exact absurd ⟨by omega, h2⟩ hn
  rcases hu with rfl | ⟨-, h2⟩
  ·have h3 : 65536 * 1 ≤ 65536 * d := Int.mul_le_mul_of_nonneg_left (by omega) (by omega)
   omega
  ·refine Int.le_antisymm ?_ (Int.le_ediv_of_mul_le hd0 (by omega))
   have h3 : 9999 / d < k + 1 := Int.ediv_lt_of_lt_mul hd0 (by omega)
   omega
theorem ref7_Bears (steep : Int) (w : World) : Calls Tryz.prog 22 #[I steep] w fun e w' =>
  e = .returned (.tuple #[I (bearsV steep), I (bearsE steep)]) ∧ w = w' := by
 by_cases hb : inB steep 0 60 = true
 ·have h3 := inB_true.1 hb
  have hV : bearsV steep = bearsF steep := by simp [bearsV, hb]
  have hE : bearsE steep = 0 := by simp [bearsE, hb]
  rw [hV, hE]
  have JB := hide (fun (k : Int) (h0 : 0 ≤ k) (h1 : k ≤ 65536) w => ref7_breaks k steep w h0 (by omega) h3.1 h3.2)
  have hfin := hide (fun (k : Int) (h0 : 0 ≤ k) (h1 : k ≤ 65536) hn hu => bears_at (steep := steep) (k := k) h3.1 h0 h1 hn hu)
  replace hV := hide hV
  replace hE := hide hE
  go_enter Tryz.func22, Tryz.ntmps22
  go_wp2_with (first | (go_at_call 77; refine (ref7_within _ _ _).mono ?_; rintro e w' ⟨rfl, rfl⟩))
  go_loopw [4] (fun i wr => ∃ k : Nat, k ≤ 65536 ∧ i = I k ∧ Hid (((k : Nat) : Int) = 65536 ∨ breaksB ((k : Nat) + 1) steep = true) ∧ w = wr) (fun i _ => (intOf i).toNat)
  case atStart => exact ⟨65536, Nat.le_refl _, rfl, hide (.inl rfl), rfl⟩
  case round =>
   obtain ⟨k, hk, rfl, hu, rfl⟩ := hrel
   have k2 : (k : Int) ≤ 65536 := by omega
   by_cases h0 : k = 0
   ·subst h0
    have hf := hfin.out 0 (by omega) (by omega) (by simp [breaksB]) hu.out
    replace hu := hide hu
    go_wp2_with fail
    go_ret2
    exact ⟨retII hf.symm rfl, rfl⟩
   ·have k3 : (0 : Int) < (k : Int) := by omega
    have JX := JB.out k (by omega) k2
    cases hbr : breaksB k steep with
    | false =>
     have hf := hide (hfin.out k (by omega) k2 hbr hu.out)
     rw [hbr] at JX
     replace JX := hide JX
     replace hbr := hide hbr
     go_wp2_with (go_at_call 80; refine (JX.out _).mono ?_; rintro e w' ⟨rfl, rfl⟩)
     go_ret2
     exact ⟨retII hf.out.symm rfl, rfl⟩
    | true =>
     rw [hbr] at JX
     replace JX := hide JX
     obtain ⟨j, hj⟩ : ∃ j : Nat, k = j + 1 := ⟨k - 1, by omega⟩
     have hjj : (k : Int) - 1 = (j : Int) := by omega
     have hu2 : breaksB ((j : Nat) + 1) steep = true := by
      rw [show ((j : Nat) : Int) + 1 = (k : Int) by omega]
      exact hbr
     replace hu2 := hide hu2
     replace hbr := hide hbr
     replace hj := hide hj
     replace hjj := hide hjj
     go_wp2_with (go_at_call 80; refine (JX.out _).mono ?_; rintro e w' ⟨rfl, rfl⟩)
     go_roundw
     case rel => exact ⟨j, by have := hj.out; omega, congrArg I hjj.out, hide (.inr hu2.out), by trivial⟩
     case measure => simp [intOf]; omega
 ·have hb : inB steep 0 60 = false := by simpa using hb
  go_enter Tryz.func22, Tryz.ntmps22
  go_wp2_with (first | (go_at_call 77; refine (ref7_within _ _ _).mono ?_; rintro e w' ⟨rfl, rfl⟩))
  go_ret2
  exact ⟨retII (by simp [bearsV, hb]) (by simp [bearsE, hb]), rfl⟩

theorem ref7_Place (vs vt : Value) (ss : List Site) (no : Int) (w : World) (hs : Sl w 3 Site.cells vs ss) :
  Calls Tryz.prog 85 #[.agg #[vs, vt], I no] w fun e w' => e = .returned (I (placeS ss no)) ∧ Below w.heap.size w w' := by
 obtain ⟨A, c, rfl, h1, h2, h3, hA⟩ := hs.open_
 replace hs := hide hs
 replace hA := hide hA
 obtain ⟨w1, hw1, hb1, kR⟩ := al1 w #[.slice A ss.length c, vt] 25
 obtain ⟨r0, r1⟩ := kR.cells2
 have zR := kR.lt
 clear kR
 have hb1' := hide hb1
 clear hb1
 go_enter Tryz.func85, Tryz.ntmps85
 go_wp2_with fail
 rw [← hw1]
 clear hw1
 go_loopw [5] (fun i wr => ∃ k : Nat, k ≤ ss.length ∧ i = I k ∧ Hid (NoneTo (fun s : Site => s.no == no) ss k) ∧ w1 = wr) (fun i _ => ss.length - (intOf i).toNat)
 case atStart => exact ⟨0, Nat.zero_le _, rfl, hide (NoneTo.zero _ _), rfl⟩
 case round =>
  obtain ⟨k, hk, rfl, hn, rfl⟩ := hrel
  by_cases hlt : k < ss.length
  ·obtain ⟨b, off, rfl, hbw⟩ := hA.out k hlt
   obtain ⟨x, hx⟩ := getElem?_of_lt hlt
   obtain ⟨_, f0, f1, f2⟩ := (hs.out.mono hb1'.out).site_at hx
   have k2 : (0 : Int) ≤ (k : Int) := by omega
   have k3 : (k : Int) < (ss.length : Int) := by omega
   by_cases he : x.no = no
   ·have hd : (x.no == no) = true := by simpa using he
    have hfin := hide (hn.out.found hx hd)
    replace hx := hide hx
    replace he := hide he
    go_wp2_with fail
    go_ret
    exact ⟨ret_int hfin.out.symm, hb1'.out⟩
   ·have hd : (x.no == no) = false := by simpa using he
    have hn2 := hide (hn.out.succ hx hd)
    replace hx := hide hx
    replace he := hide he
    go_wp2_with fail
    go_roundw
    case rel => exact ⟨k + 1, by omega, by go_num, hn2, by trivial⟩
    case measure => simp [intOf]; omega
  ·obtain rfl : k = ss.length := by omega
   have hfin := hide hn.out.missed
   go_wp2_with fail
   go_ret
   exact ⟨ret_int hfin.out.symm, hb1'.out⟩
theorem ref7_validTrack (t : Track) (w : World) :
  Calls Tryz.prog 84 #[.agg #[I t.no, I t.a, I t.b, I t.minutes, I t.cell, I t.steep]] w fun e w' => e = .returned (.bool (trackOk t)) ∧ Below w.heap.size w w' := by
 go_enter Tryz.func84, Tryz.ntmps84
 go_wp2_with (first | (go_at_call 77; refine (ref7_within _ _ _).mono ?_; rintro e w' ⟨rfl, rfl⟩))
 all_goals (go_ret; refine ⟨ret_bool ?_, below1 _ _⟩)
 all_goals first | (simp_all [trackOk, inB]; done) | (simp_all [trackOk, inB] <;> omega)
theorem ref7_CheckRange (vs vt : Value) (ss : List Site) (ts : List Track) (w : World) (hs : Sl w 3 Site.cells vs ss) (ht : Sl w 6 Track.cells vt ts)  :
  Calls Tryz.prog 24 #[.agg #[vs, vt]] w fun e w' => e = .returned (I (rangeE ss ts)) ∧ Below w.heap.size w w' := by
 obtain ⟨A, c, rfl, _, _, hlen, hA⟩ := hs.open_
 obtain ⟨A', c', rfl, _, _, hlen', hA'⟩ := ht.open_
 replace hs := hide hs
 replace ht := hide ht
 replace hA := hide hA
 replace hA' := hide hA'
 by_cases h1 : ¬ ss.length ≤ 16
 ·have hfin : rangeE ss ts = 70 := by simp [rangeE, rangeOk, h1]
  have i1 : (16 < (ss.length : Int)) := by omega
  replace hfin := hide hfin
  go_enter Tryz.func24, Tryz.ntmps24
  go_wp2_with fail
  go_ret
  exact ⟨ret_int hfin.out.symm, below1 _ _⟩
 by_cases h2 : ¬ ts.length ≤ 48
 ·have hfin : rangeE ss ts = 70 := by simp [rangeE, rangeOk, h2]
  have i1 : ((ss.length : Int) ≤ 16) := by omega
  have i2 : (48 < (ts.length : Int)) := by omega
  replace hfin := hide hfin
  go_enter Tryz.func24, Tryz.ntmps24
  go_wp2_with fail
  go_ret
  exact ⟨ret_int hfin.out.symm, below1 _ _⟩
 have i1 : ((ss.length : Int) ≤ 16) := by omega
 have i2 : ((ts.length : Int) ≤ 48) := by omega
 have hbad1 : ∀ k, k < ss.length → siteGood ss k = false → rangeE ss ts = 70 := fun k hk hf => by simp [rangeE, rangeOk, all_of_not hk hf]
 have hbad2 : ∀ k, k < ts.length → trackGood ss ts k = false → rangeE ss ts = 70 := fun k hk hf => by simp [rangeE, rangeOk, all_of_not hk hf]
 have hfine : (List.range ss.length).all (siteGood ss) = true → (List.range ts.length).all (trackGood ss ts) = true → rangeE ss ts = 0 := fun a b => by
  simp only [rangeE, rangeOk, a, b, decide_eq_true (Decidable.not_not.1 h1), decide_eq_true (Decidable.not_not.1 h2)]; rfl
 replace hbad1 := hide hbad1
 replace hbad2 := hide hbad2
 replace hfine := hide hfine
 clear h1 h2
 go_enter Tryz.func24, Tryz.ntmps24
 go_wp2_with fail
 obtain ⟨W0, hW0⟩ : ∃ W0, W0 = w.alloc (Obj.cells #[Value.slice A ss.length c, Value.slice A' ts.length c'] 25) := ⟨_, rfl⟩
 have c0 : W0.cell? ⟨w.heap.size, 0, none⟩ = some (Value.slice A ss.length c) := by rw [hW0]; simp [go_sem]
 have c1 : W0.cell? ⟨w.heap.size, 1, none⟩ = some (Value.slice A' ts.length c') := by rw [hW0]; simp [go_sem]
 have hsz : w.heap.size < W0.heap.size := by rw [hW0]; simp
 have hbl : Below w.heap.size w W0 := by rw [hW0]; exact below1 _ _
 rw [← hW0]
 clear hW0
 go_loopw [3] (fun i wr => ∃ k : Nat, k ≤ ss.length ∧ i = I k ∧ Hid (AllTo (siteGood ss) k) ∧ Below W0.heap.size W0 wr) (fun i _ => ss.length - (intOf i).toNat)
 case atStart => exact ⟨0, Nat.zero_le _, rfl, hide (AllTo.zero _), Below.refl _ _⟩
 case round =>
  obtain ⟨k, hk, rfl, hn, hb⟩ := hrel
  have d0 := (hb.cell (p := ⟨w.heap.size, 0, none⟩) hsz).trans c0
  have d1 := (hb.cell (p := ⟨w.heap.size, 1, none⟩) hsz).trans c1
  have hwx : w.heap.size < wr.heap.size := by have := hb.size; omega
  by_cases hlt : k < ss.length
  ·obtain ⟨b, off, rfl, hbw⟩ := hA.out k hlt
   obtain ⟨x, hx⟩ := getElem?_of_lt hlt
   obtain ⟨_, e0, e1, e2⟩ := ((unhide hs).mono (bup hbl hb)).site_at hx
   have hbx : b < wr.heap.size := by have := hb.size; have := hbl.size; omega
   have hgd := hide (getD_of hx)
   clear c0 c1 hA
   cases h1 : inB x.no 0 4095 with
   | false =>
    have hfin := hide (hbad1.out k hlt (by simp [siteGood, hx, siteOk, h1]))
    clear hbad1 hbad2 hfine hx hgd
    go_wp2_with fail
    (refine wp_grow ?_; (repeat go_big_quiet_step ((go_at_call 77; exact calls_grew_same (ref7_within _ _ _)))); refine wp_grow0 ?_; intro W1 hW1)
    go_wp2_with fail
    go_ret
    exact ⟨ret_int hfin.out.symm, bup hbl (bup (bup hb (below1 _ _)) hW1)⟩
   | true =>
    rcases ilt x.kind 1 with h2 | h2
    ·have h2d : decide (x.kind < 1) = true := by simpa using h2
     have hfin := hide (hbad1.out k hlt (by simp [siteGood, hx, siteOk, inB]; omega))
     clear hbad1 hbad2 hfine hx hgd
     go_wp2_with fail
     (refine wp_grow ?_; (repeat go_big_quiet_step ((go_at_call 77; exact calls_grew_same (ref7_within _ _ _)))); refine wp_grow0 ?_; intro W1 hW1)
     go_wp2_with fail
     go_ret
     exact ⟨ret_int hfin.out.symm, bup hbl (bup (bup hb (below1 _ _)) hW1)⟩
    ·have h2d : decide (x.kind < 1) = false := by simp; omega
     rcases ilt 3 x.kind with h3 | h3
     ·have h3d : decide (3 < x.kind) = true := by simpa using h3
      have hfin := hide (hbad1.out k hlt (by simp [siteGood, hx, siteOk, inB]; omega))
      clear hbad1 hbad2 hfine hx hgd
      go_wp2_with fail
      (refine wp_grow ?_; (repeat go_big_quiet_step ((go_at_call 77; exact calls_grew_same (ref7_within _ _ _)))); refine wp_grow0 ?_; intro W1 hW1)
      go_wp2_with fail
      go_ret
      exact ⟨ret_int hfin.out.symm, bup hbl (bup (bup hb (below1 _ _)) hW1)⟩
     ·have h3d : decide (3 < x.kind) = false := by simp; omega
      cases h4 : inB x.cell 0 4095 with
      | false =>
       have hfin := hide (hbad1.out k hlt (by simp [siteGood, hx, siteOk, h4]))
       clear hbad1 hbad2 hfine hx hgd
       go_wp2_with fail
       (refine wp_grow ?_; (repeat go_big_quiet_step ((go_at_call 77; exact calls_grew_same (ref7_within _ _ _)))); refine wp_grow0 ?_; intro W1 hW1)
       go_wp2_with fail
       go_ret
       exact ⟨ret_int hfin.out.symm, bup hbl (bup (bup hb (below1 _ _)) hW1)⟩
      | true =>
       by_cases h5 : x.kind = 2
       ·have h5d : (x.kind == 2) = true := by simpa using h5
        have hok : siteOk x = true := by simp [siteOk, inB]; simp [inB] at h1 h4; omega
        rcases Nat.lt_or_ge 0 k with hk0 | hk0
        ·obtain ⟨y, hy⟩ := getElem?_of_lt (xs := ss) (k := k - 1) (by omega)
         obtain ⟨_, p0, _, _⟩ := ((unhide hs).mono (bup hbl hb)).site_at hy
         rcases ilt y.no x.no with hyx | hyx
         ·have hyd : decide (x.no ≤ y.no) = false := by simp; omega
          have hsg : siteGood ss k = true := by simp [siteGood, hx, hok, hy]; omega
          replace hyx := hide hyx
          replace hok := hide hok
          have hg := hide (hsg)
          clear hx hgd hy hsg
          go_wp2_with fail
          (refine wp_grow ?_; (repeat go_big_quiet_step ((go_at_call 77; exact calls_grew_same (ref7_within _ _ _)))); refine wp_grow0 ?_; intro W1 hW1)
          go_wp2_with fail
          go_roundw
          case rel => exact ⟨k + 1, by omega, by go_num, hide (hn.out.succ hg.out), (bup (bup hb (below1 _ _)) hW1)⟩
          case measure => simp [intOf]; omega
         ·have hyd : decide (x.no ≤ y.no) = true := by simp; omega
          have hsg : siteGood ss k = false := by simp [siteGood, hx, hok, hy]; omega
          replace hyx := hide hyx
          replace hok := hide hok
          have hfin := hide (hbad1.out k hlt (hsg))
          clear hbad1 hbad2 hfine hx hgd hy hsg
          go_wp2_with fail
          (refine wp_grow ?_; (repeat go_big_quiet_step ((go_at_call 77; exact calls_grew_same (ref7_within _ _ _)))); refine wp_grow0 ?_; intro W1 hW1)
          go_wp2_with fail
          go_ret
          exact ⟨ret_int hfin.out.symm, bup hbl (bup (bup hb (below1 _ _)) hW1)⟩
        ·have hkd : decide (0 < k) = false := by simp; omega
         have hsg : siteGood ss k = true := by (obtain rfl : k = 0 := (by omega)); simp [siteGood, hx, hok]
         replace hok := hide hok
         have hg := hide (hsg)
         clear hx hgd hsg
         go_wp2_with fail
         (refine wp_grow ?_; (repeat go_big_quiet_step ((go_at_call 77; exact calls_grew_same (ref7_within _ _ _)))); refine wp_grow0 ?_; intro W1 hW1)
         go_wp2_with fail
         go_roundw
         case rel => exact ⟨k + 1, by omega, by go_num, hide (hn.out.succ hg.out), (bup (bup hb (below1 _ _)) hW1)⟩
         case measure => simp [intOf]; omega
       ·have h5d : (x.kind == 2) = false := by simpa using h5
        have h5n : (x.kind != 2) = true := by simpa using h5
        by_cases h6 : x.cell = 0
        ·have h6d : (x.cell == 0) = true := by simpa using h6
         have h6n : (x.cell != 0) = false := by simpa using h6
         have hok : siteOk x = true := by simp [siteOk, inB]; simp [inB] at h1 h4; omega
         replace h5 := hide h5
         replace h6 := hide h6
         rcases Nat.lt_or_ge 0 k with hk0 | hk0
         ·obtain ⟨y, hy⟩ := getElem?_of_lt (xs := ss) (k := k - 1) (by omega)
          obtain ⟨_, p0, _, _⟩ := ((unhide hs).mono (bup hbl hb)).site_at hy
          rcases ilt y.no x.no with hyx | hyx
          ·have hyd : decide (x.no ≤ y.no) = false := by simp; omega
           have hsg : siteGood ss k = true := by simp [siteGood, hx, hok, hy]; omega
           replace hyx := hide hyx
           replace hok := hide hok
           have hg := hide (hsg)
           clear hx hgd hy hsg
           go_wp2_with fail
           (refine wp_grow ?_; (repeat go_big_quiet_step ((go_at_call 77; exact calls_grew_same (ref7_within _ _ _)))); refine wp_grow0 ?_; intro W1 hW1)
           go_wp2_with fail
           go_roundw
           case rel => exact ⟨k + 1, by omega, by go_num, hide (hn.out.succ hg.out), (bup (bup hb (below1 _ _)) hW1)⟩
           case measure => simp [intOf]; omega
          ·have hyd : decide (x.no ≤ y.no) = true := by simp; omega
           have hsg : siteGood ss k = false := by simp [siteGood, hx, hok, hy]; omega
           replace hyx := hide hyx
           replace hok := hide hok
           have hfin := hide (hbad1.out k hlt (hsg))
           clear hbad1 hbad2 hfine hx hgd hy hsg
           go_wp2_with fail
           (refine wp_grow ?_; (repeat go_big_quiet_step ((go_at_call 77; exact calls_grew_same (ref7_within _ _ _)))); refine wp_grow0 ?_; intro W1 hW1)
           go_wp2_with fail
           go_ret
           exact ⟨ret_int hfin.out.symm, bup hbl (bup (bup hb (below1 _ _)) hW1)⟩
         ·have hkd : decide (0 < k) = false := by simp; omega
          have hsg : siteGood ss k = true := by (obtain rfl : k = 0 := (by omega)); simp [siteGood, hx, hok]
          replace hok := hide hok
          have hg := hide (hsg)
          clear hx hgd hsg
          go_wp2_with fail
          (refine wp_grow ?_; (repeat go_big_quiet_step ((go_at_call 77; exact calls_grew_same (ref7_within _ _ _)))); refine wp_grow0 ?_; intro W1 hW1)
          go_wp2_with fail
          go_roundw
          case rel => exact ⟨k + 1, by omega, by go_num, hide (hn.out.succ hg.out), (bup (bup hb (below1 _ _)) hW1)⟩
          case measure => simp [intOf]; omega
        ·have h6d : (x.cell == 0) = false := by simpa using h6
         have h6n : (x.cell != 0) = true := by simpa using h6
         have hsg : siteGood ss k = false := by simp [siteGood, hx, siteOk, h5, h6]
         replace h5 := hide h5
         replace h6 := hide h6
         have hfin := hide (hbad1.out k hlt (hsg))
         clear hbad1 hbad2 hfine hx hgd hsg
         go_wp2_with fail
         (refine wp_grow ?_; (repeat go_big_quiet_step ((go_at_call 77; exact calls_grew_same (ref7_within _ _ _)))); refine wp_grow0 ?_; intro W1 hW1)
         go_wp2_with fail
         go_ret
         exact ⟨ret_int hfin.out.symm, bup hbl (bup (bup hb (below1 _ _)) hW1)⟩
  ·have he : k = ss.length := by omega
   subst he
   have hn := hide (AllTo.all hn.out)
   clear hA c0 c1
   obtain ⟨wo, rfl⟩ : ∃ wo : World, wo = wr := ⟨_, rfl⟩
   go_wp2_with fail
   go_loopw [5] (fun i wr => ∃ k : Nat, k ≤ ts.length ∧ i = I k ∧ Hid (AllTo (trackGood ss ts) k) ∧ Below wo.heap.size wo wr) (fun i _ => ts.length - (intOf i).toNat)
   case atStart => exact ⟨0, Nat.zero_le _, rfl, hide (AllTo.zero _), Below.refl _ _⟩
   case round =>
    obtain ⟨k, hk, rfl, hm, hc⟩ := hrel
    have e0 := (hc.cell (p := ⟨w.heap.size, 0, none⟩) hwx).trans d0
    have e1 := (hc.cell (p := ⟨w.heap.size, 1, none⟩) hwx).trans d1
    have hwy : w.heap.size < wr.heap.size := by have := hc.size; omega
    by_cases hlt : k < ts.length
    ·obtain ⟨b, off, rfl, hbw⟩ := hA'.out k hlt
     obtain ⟨x, hx⟩ := getElem?_of_lt hlt
     have hbe := bup (bup hbl hb) hc
     obtain ⟨_, f0, f1, f2, f3, f4, f5⟩ := ((unhide ht).mono hbe).track_at hx
     have hbx : b < wr.heap.size := by have := hbe.size; omega
     have hS := hide ((unhide hs).mono hbe)
     clear d0 d1 hA'
     cases hok : trackOk x with
     | false =>
      have hfin := hide (hbad2.out k hlt (trackGood_ok hx hok))
      clear hbad1 hbad2 hfine hx hn hm
      go_wp2_with fail
      (refine wp_grow ?_; (repeat go_big_quiet_step ((first | (go_at_call 84; exact calls_grew (ref7_validTrack x _)) | (go_at_call 85; exact calls_grew (ref7_Place _ _ ss _ _ (hS.out.mono (bup (below1 _ _) (Grew.below _)))))))); refine wp_grow0 ?_; intro W1 hW1)
      go_wp2_with fail
      go_ret
      exact ⟨ret_int hfin.out.symm, bup hbe (bup (below1 _ _) hW1)⟩
     | true =>
      rcases ilt (placeS ss x.a) 0 with ha | ha
      ·have hda : decide (placeS ss x.a < 0) = true := by simpa using ha
       have hfin := hide (hbad2.out k hlt (trackGood_a hx ha))
       clear hbad1 hbad2 hfine hx hn hm
       go_wp2_with fail
       (refine wp_grow ?_; (repeat go_big_quiet_step ((first | (go_at_call 84; exact calls_grew (ref7_validTrack x _)) | (go_at_call 85; exact calls_grew (ref7_Place _ _ ss _ _ (hS.out.mono (bup (below1 _ _) (Grew.below _)))))))); refine wp_grow0 ?_; intro W1 hW1)
       go_wp2_with fail
       go_ret
       exact ⟨ret_int hfin.out.symm, bup hbe (bup (below1 _ _) hW1)⟩
      ·have hda : decide (placeS ss x.a < 0) = false := by simp; omega
       rcases ilt (placeS ss x.b) 0 with hb' | hb'
       ·have hdb : decide (placeS ss x.b < 0) = true := by simpa using hb'
        have hfin := hide (hbad2.out k hlt (trackGood_b hx hb'))
        clear hbad1 hbad2 hfine hx hn hm
        go_wp2_with fail
        (refine wp_grow ?_; (repeat go_big_quiet_step ((first | (go_at_call 84; exact calls_grew (ref7_validTrack x _)) | (go_at_call 85; exact calls_grew (ref7_Place _ _ ss _ _ (hS.out.mono (bup (below1 _ _) (Grew.below _)))))))); refine wp_grow0 ?_; intro W1 hW1)
        go_wp2_with fail
        go_ret
        exact ⟨ret_int hfin.out.symm, bup hbe (bup (below1 _ _) hW1)⟩
       ·have hdb : decide (placeS ss x.b < 0) = false := by simp; omega
        rcases Nat.lt_or_ge 0 k with hk0 | hk0
        ·obtain ⟨y, hy⟩ := getElem?_of_lt (xs := ts) (k := k - 1) (by omega)
         obtain ⟨_, p0, _, _, _, _, _⟩ := ((unhide ht).mono hbe).track_at hy
         rcases ilt y.no x.no with hyx | hyx
         ·have hyd : decide (x.no ≤ y.no) = false := by simp; omega
          have hsg : trackGood ss ts k = true := trackGood_true hx hok (.inr ⟨y, hy, hyx⟩) ha hb'
          replace hyx := hide hyx
          have hg := hide (hsg)
          clear hx hbad1 hbad2 hy hsg
          go_wp2_with fail
          (refine wp_grow ?_; (repeat go_big_quiet_step ((first | (go_at_call 84; exact calls_grew (ref7_validTrack x _)) | (go_at_call 85; exact calls_grew (ref7_Place _ _ ss _ _ (hS.out.mono (bup (below1 _ _) (Grew.below _)))))))); refine wp_grow0 ?_; intro W1 hW1)
          go_wp2_with fail
          go_roundw
          case rel => exact ⟨k + 1, by omega, by go_num, hide (hm.out.succ hg.out), (bup (bup hc (below1 _ _)) hW1)⟩
          case measure => simp [intOf]; omega
         ·have hyd : decide (x.no ≤ y.no) = true := by simp; omega
          have hsg := trackGood_ord (ss := ss) hx hk0 hy hyx
          replace hyx := hide hyx
          have hfin := hide (hbad2.out k hlt (hsg))
          clear hbad1 hbad2 hfine hx hn hm hy hsg
          go_wp2_with fail
          (refine wp_grow ?_; (repeat go_big_quiet_step ((first | (go_at_call 84; exact calls_grew (ref7_validTrack x _)) | (go_at_call 85; exact calls_grew (ref7_Place _ _ ss _ _ (hS.out.mono (bup (below1 _ _) (Grew.below _)))))))); refine wp_grow0 ?_; intro W1 hW1)
          go_wp2_with fail
          go_ret
          exact ⟨ret_int hfin.out.symm, bup hbe (bup (below1 _ _) hW1)⟩
        ·have hkd : decide (0 < k) = false := by simp; omega
         have hsg : trackGood ss ts k = true := trackGood_true hx hok (.inl (by omega)) ha hb'
         have hg := hide (hsg)
         clear hx hbad1 hbad2 hsg
         go_wp2_with fail
         (refine wp_grow ?_; (repeat go_big_quiet_step ((first | (go_at_call 84; exact calls_grew (ref7_validTrack x _)) | (go_at_call 85; exact calls_grew (ref7_Place _ _ ss _ _ (hS.out.mono (bup (below1 _ _) (Grew.below _)))))))); refine wp_grow0 ?_; intro W1 hW1)
         go_wp2_with fail
         go_roundw
         case rel => exact ⟨k + 1, by omega, by go_num, hide (hm.out.succ hg.out), (bup (bup hc (below1 _ _)) hW1)⟩
         case measure => simp [intOf]; omega
    ·have he : k = ts.length := by omega
     subst he
     go_wp2_with fail
     go_ret
     exact ⟨ret_int (hfine.out hn.out (AllTo.all hm.out)).symm, bup (bup hbl hb) hc⟩
end Go.Proofs.YtgbbljfmngmjeaaGreat
