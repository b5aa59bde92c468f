/- The reference of layer 5: CheckBasin. Conditions stand in the theorems. -/
import Derived.Test.YtmjfdobjnnfafaaGreatDoorRefS
import Derived.Test.YtmjfdobjnnfafaaGreatDoorBasin3Pack
set_option linter.all false
set_option maxRecDepth 100000
set_option maxHeartbeats 4000000
namespace Go.Proofs.YtmjfdobjnnfafaaGreatDoor
open Go.RowKit

theorem bothP_eq {a c d e : Int} : bothP (d, e) = bothP (a, c) ↔ (d = a ∧ e = c) ∨ (d = c ∧ e = a) := by
 simp only [bothP, Prod.mk.injEq]; omega
theorem bothP_no {a c d e : Int} {l : List (Int × Int)} {j : Nat} (hx : l[j]? = some (d, e)) (h : ((l.take j).map bothP).any (fun r => r == bothP (a, c)) = false) (hn : ¬ ((d = a ∧ e = c) ∨ (d = c ∧ e = a))) :
  ((l.take (j + 1)).map bothP).any (fun r => r == bothP (a, c)) = false := by
 rw [take_map_succ bothP hx, List.any_append, h]
 have : bothP (d, e) ≠ bothP (a, c) := fun h => hn (bothP_eq.1 h)
 simpa using this
theorem bothP_hit {a c d e : Int} {l : List (Int × Int)} {j k : Nat} (hj : j < k) (hx : l[j]? = some (d, e)) (hn : (d = a ∧ e = c) ∨ (d = c ∧ e = a)) :
  ((l.take k).map bothP).any (fun r => r == bothP (a, c)) = true := by
 rw [List.any_eq_true]
 refine ⟨bothP (d, e), List.mem_map.2 ⟨(d, e), ?_, rfl⟩, by simpa using bothP_eq.2 hn⟩
 refine List.mem_of_getElem? (i := j) ?_
 rw [List.getElem?_take_of_lt hj, hx]
theorem head5 {b : Basin} (h : b.headOk = false) (h1 : 1 ≤ b.cells.length) (h2 : b.cells.length ≤ 12) (h3 : b.pairs.length ≤ 24) (h4 : inB b.gain 0 65536 = true) (h5 : inB b.slack 0 65536 = true) (h6 : inB b.deep 0 65536 = true) : False := by
 have e1 : inB b.cells.length 1 12 = true := inB_true.2 ⟨by omega, by omega⟩
 simp [Basin.headOk, e1, h3, h4, h5, h6] at h
theorem ref5_CheckBasin_head (b : Basin) (vc vp : Value) (w : World) (hc : Sl w 4 Cell.cells vc b.cells) (hp : Sl w 2 pairC vp b.pairs) (hh : b.headOk = false) :
  Calls Tryz.prog 61 #[b.v vc vp] w fun e w' => e = .returned (I (basinE b)) ∧ Below w.heap.size w w' := by
 obtain ⟨Ac, nc, rfl, _, _, hlc, hAc⟩ := hc.open_
 obtain ⟨Ap, np, rfl, _, _, hlp, hAp⟩ := hp.open_
 clear hc hp hAc hAp
 rw [basinOk_head hh]
 unfold Basin.v
 rcases ilt b.cells.length 1 with h1 | h1
 ·clear hh
  go_enter Tryz.func61, Tryz.ntmps61
  go_wp2_with (go_at_call 140; refine (within5_is (by assumption) _).mono ?_; rintro e w' ⟨rfl, rfl⟩)
  go_ret
  exact ⟨rfl, below1 _ _⟩
 ·rcases ilt 12 b.cells.length with h2 | h2
  ·clear hh
   go_enter Tryz.func61, Tryz.ntmps61
   go_wp2_with (go_at_call 140; refine (within5_is (by assumption) _).mono ?_; rintro e w' ⟨rfl, rfl⟩)
   go_ret
   exact ⟨rfl, below1 _ _⟩
  ·rcases ilt 24 b.pairs.length with h3 | h3
   ·clear hh
    go_enter Tryz.func61, Tryz.ntmps61
    go_wp2_with (go_at_call 140; refine (within5_is (by assumption) _).mono ?_; rintro e w' ⟨rfl, rfl⟩)
    go_ret
    exact ⟨rfl, below1 _ _⟩
   ·cases h4 : inB b.gain 0 65536 with
    | false =>
     clear hh
     go_enter Tryz.func61, Tryz.ntmps61
     go_wp2_with (go_at_call 140; refine (within5_is (by assumption) _).mono ?_; rintro e w' ⟨rfl, rfl⟩)
     go_ret
     exact ⟨rfl, below1 _ _⟩
    | true =>
     cases h5 : inB b.slack 0 65536 with
     | false =>
      clear hh
      go_enter Tryz.func61, Tryz.ntmps61
      go_wp2_with (go_at_call 140; refine (within5_is (by assumption) _).mono ?_; rintro e w' ⟨rfl, rfl⟩)
      go_ret
      exact ⟨rfl, below1 _ _⟩
     | true =>
      cases h6 : inB b.deep 0 65536 with
      | false =>
       clear hh
       go_enter Tryz.func61, Tryz.ntmps61
       go_wp2_with (go_at_call 140; refine (within5_is (by assumption) _).mono ?_; rintro e w' ⟨rfl, rfl⟩)
       go_ret
       exact ⟨rfl, below1 _ _⟩
      | true => exact (head5 hh (by omega) (by omega) (by omega) h4 h5 h6).elim
theorem ref5_CheckBasin_valid (b : Basin) (vc vp : Value) (w : World) (hc : Sl w 4 Cell.cells vc b.cells) (hp : Sl w 2 pairC vp b.pairs) (hh : b.headOk = true) :
  Calls Tryz.prog 61 #[b.v vc vp] w fun e w' => e = .returned (I (basinE b)) ∧ Below w.heap.size w w' := by
 obtain ⟨A, n, rfl, _, _, hlc, hA⟩ := hc.open_
 obtain ⟨D, m, rfl, _, _, hlp, hD⟩ := hp.open_
 replace hc := hide hc
 replace hp := hide hp
 replace hA := hide hA
 replace hD := hide hD
 have hbad1 := hide (fun k (hk : k < b.cells.length) (h : cellGood b.cells k = false) => basinOk_cell (b := b) (all_of_not hk h))
 have hbad2 := hide (fun k (hk : k < b.pairs.length) (h : pairGood b.cells b.pairs k = false) => basinOk_pair (b := b) (all_of_not hk h))
 have hgood := hide (fun h2 h3 => basinOk_all (b := b) hh h2 h3)
 obtain ⟨⟨hl1, hl2⟩, hp2, h3, h4, h5⟩ := Basin.headOk_of hh
 clear hh
 have g1 : (1 : Int) ≤ b.cells.length := by omega
 have g2 : (b.cells.length : Int) ≤ 12 := by omega
 have g3 : (b.pairs.length : Int) ≤ 24 := by omega
 obtain ⟨E, hE⟩ : ∃ E, basinE b = E := ⟨_, rfl⟩
 rw [hE] at hbad1 hbad2 hgood ⊢
 clear hE
 unfold Basin.v
 go_enter Tryz.func61, Tryz.ntmps61
 go_wp2_with (go_at_call 140; refine (within5_is (by assumption) _).mono ?_; rintro e w' ⟨rfl, rfl⟩)
 clear h3 h4 h5 g1 g2 g3
 obtain ⟨W0, hW0⟩ : ∃ W0, W0 = w.alloc (.cells #[.slice A b.cells.length n, .slice D b.pairs.length m, I b.gain, I b.slack, I b.deep] 58) := ⟨_, rfl⟩
 have hK : BasAt W0 w.heap.size b (.slice A b.cells.length n) (.slice D b.pairs.length m) := by rw [hW0]; exact BasAt.new _ _ _ _ _
 have hbl : Below w.heap.size w W0 := by rw [hW0]; exact below1 _ _
 rw [← hW0]
 clear hW0
 replace hK := hide hK
 go_loopw [3] (fun i wr => ∃ k : Nat, k ≤ b.cells.length ∧ i = I k ∧ Hid (AllTo (cellGood b.cells) k) ∧ Below W0.heap.size W0 wr) (fun i _ => b.cells.length - (intOf i).toNat)
 case atStart => exact ⟨0, Nat.zero_le _, rfl, hide (AllTo.zero _), Below.refl _ _⟩
 case round =>
  obtain ⟨k, hk, rfl, hn, hb⟩ := hrel
  obtain ⟨hg0, q0, q1, q2, q3, q4⟩ := hK.out.grow hb
  by_cases hlt : k < b.cells.length
  ·obtain ⟨g, off, rfl, hbw⟩ := hA.out k hlt
   obtain ⟨x, hx⟩ := getElem?_of_lt hlt
   obtain ⟨hbx, e0, e1, e2, e3⟩ := ((unhide hc).mono (bup hbl hb)).cell_at hx
   have HR := fun w => ref5_validCell x w
   cases hok : cellOk x with
   | false =>
    have hfin := hide (hbad1.out k hlt (cellGood_head hx hok))
    rw [hok] at HR
    replace HR := hide HR
    clear hbad1 hbad2 hgood hx hn hok q1 q2 q3 q4
    go_wp2_with fail
    (refine wp_region_grow (by kernel_rfl) (by kernel_rfl) ?_; (repeat (first | go_big_quiet_skip | (go_big_quiet_want; go_big_quiet_op; first | go_big_quiet_on | (apply Exists.intro; refine ⟨fun _ => ?_, ?_⟩; (focus ((go_at_call 141; exact calls_grew (HR.out _)))); go_big_quiet_on)))); refine wpQuiet_nil ?_; rintro W1 ⟨⟨_, hW1⟩, rfl⟩)
    go_wp2_with fail
    go_ret
    exact ⟨ret_int hfin.out.symm, bup (bup hbl hb) hW1⟩
   | true =>
    rw [hok] at HR
    replace HR := hide HR
    rcases Nat.lt_or_ge 0 k with hk0 | hk0
    ·obtain ⟨y, hy⟩ := getElem?_of_lt (xs := b.cells) (k := k - 1) (by omega)
     obtain ⟨_, p0, p1, p2, p3⟩ := ((unhide hc).mono (bup hbl hb)).cell_at hy
     have hpos := cellGood_pos hk0 hx hy hok
     clear hok
     rcases ilt y.no x.no with hd | hd
     ·have hyd : decide (x.no ≤ y.no) = false := by simp; omega
      have hg := hide (hn.out.succ (show cellGood b.cells k = true by rw [hpos]; simpa using hd))
      clear hbad1 hbad2 hgood hx hn hy hpos q1 q2 q3 q4
      go_wp2_with fail
      (refine wp_region_grow (by kernel_rfl) (by kernel_rfl) ?_; (repeat (first | go_big_quiet_skip | (go_big_quiet_want; go_big_quiet_op; first | go_big_quiet_on | (apply Exists.intro; refine ⟨fun _ => ?_, ?_⟩; (focus ((go_at_call 141; exact calls_grew (HR.out _)))); go_big_quiet_on)))); refine wpQuiet_nil ?_; rintro W1 ⟨⟨_, hW1⟩, rfl⟩)
      go_wp2_with fail
      go_roundw
      case rel => exact ⟨k + 1, by omega, by go_num, hg, bup hb hW1⟩
      case measure => simp [intOf]; omega
     ·have hfin := hide (hbad1.out k hlt (by rw [hpos]; simp; omega))
      have hyd : decide (x.no ≤ y.no) = true := by simp; omega
      clear hbad1 hbad2 hgood hx hn hy hpos q1 q2 q3 q4
      go_wp2_with fail
      (refine wp_region_grow (by kernel_rfl) (by kernel_rfl) ?_; (repeat (first | go_big_quiet_skip | (go_big_quiet_want; go_big_quiet_op; first | go_big_quiet_on | (apply Exists.intro; refine ⟨fun _ => ?_, ?_⟩; (focus ((go_at_call 141; exact calls_grew (HR.out _)))); go_big_quiet_on)))); refine wpQuiet_nil ?_; rintro W1 ⟨⟨_, hW1⟩, rfl⟩)
      go_wp2_with fail
      go_ret
      exact ⟨ret_int hfin.out.symm, bup (bup hbl hb) hW1⟩
    ·have hkd : decide (0 < k) = false := by simp; omega
     have hg := hide (hn.out.succ (show cellGood b.cells k = true by
      have hk00 : k = 0 := by omega
      subst hk00; exact cellGood_zero hx hok))
     clear hok
     clear hbad1 hbad2 hgood hx hn q1 q2 q3 q4
     go_wp2_with fail
     (refine wp_region_grow (by kernel_rfl) (by kernel_rfl) ?_; (repeat (first | go_big_quiet_skip | (go_big_quiet_want; go_big_quiet_op; first | go_big_quiet_on | (apply Exists.intro; refine ⟨fun _ => ?_, ?_⟩; (focus ((go_at_call 141; exact calls_grew (HR.out _)))); go_big_quiet_on)))); refine wpQuiet_nil ?_; rintro W1 ⟨⟨_, hW1⟩, rfl⟩)
     go_wp2_with fail
     go_roundw
     case rel => exact ⟨k + 1, by omega, by go_num, hg, bup hb hW1⟩
     case measure => simp [intOf]; omega
  ·have he : k = b.cells.length := by omega
   subst he
   have hgood1 := hide (hgood.out (AllTo.all hn.out))
   clear hbad1 hn hgood
   go_wp2_with fail
   have hb0 := hide hb
   clear hb hg0 q0 q1 q2 q3 q4
   go_loopw [4] (fun i wr => ∃ k : Nat, k ≤ b.pairs.length ∧ i = I k ∧ Hid (AllTo (pairGood b.cells b.pairs) k) ∧ Below W0.heap.size W0 wr) (fun i _ => b.pairs.length - (intOf i).toNat)
   case atStart => exact ⟨0, Nat.zero_le _, rfl, hide (AllTo.zero _), hb0.out⟩
   case round =>
    clear hb0
    obtain ⟨k, hk, rfl, hn, hb⟩ := hrel
    obtain ⟨hg0, q0, q1, q2, q3, q4⟩ := hK.out.grow hb
    by_cases hlt : k < b.pairs.length
    ·obtain ⟨g, off, rfl, hbw⟩ := hD.out k hlt
     obtain ⟨⟨a, c⟩, hx⟩ := getElem?_of_lt hlt
     obtain ⟨hbx, e0, e1⟩ := ((unhide hp).mono (bup hbl hb)).pair_at hx
     simp only at e0 e1
     have hwl : IntKind.i64.wrap ((b.cells.length : Int) - 1) = (b.cells.length : Int) - 1 := IntWalk.i64_in _ (by omega)
     cases f1 : inB a 0 (b.cells.length - 1) with
     | false =>
      have hfin := hide (hbad2.out k hlt (pairGood_bad hx (by simp [pairOk_eq, f1])))
      clear hbad2 hgood1 hx hn q2 q3 q4
      go_wp2_with fail
      (refine wp_region_grow (by kernel_rfl) (by kernel_rfl) ?_; (repeat (first | go_big_quiet_skip | (go_big_quiet_want; go_big_quiet_op; first | go_big_quiet_on | (apply Exists.intro; refine ⟨fun _ => ?_, ?_⟩; (focus ((go_at_call 140; exact calls_grew_same (within5_is (by assumption) _)))); go_big_quiet_on)))); refine wpQuiet_nil ?_; rintro W1 ⟨⟨_, hW1⟩, rfl⟩)
      go_wp2_with fail
      go_ret
      exact ⟨ret_int hfin.out.symm, bup (bup hbl hb) (bup (below1 _ _) hW1)⟩
     | true =>
      cases f2 : inB c 0 (b.cells.length - 1) with
      | false =>
       have hfin := hide (hbad2.out k hlt (pairGood_bad hx (by simp [pairOk_eq, f2])))
       clear hbad2 hgood1 hx hn q2 q3 q4
       go_wp2_with fail
       (refine wp_region_grow (by kernel_rfl) (by kernel_rfl) ?_; (repeat (first | go_big_quiet_skip | (go_big_quiet_want; go_big_quiet_op; first | go_big_quiet_on | (apply Exists.intro; refine ⟨fun _ => ?_, ?_⟩; (focus ((go_at_call 140; exact calls_grew_same (within5_is (by assumption) _)))); go_big_quiet_on)))); refine wpQuiet_nil ?_; rintro W1 ⟨⟨_, hW1⟩, rfl⟩)
       go_wp2_with fail
       go_ret
       exact ⟨ret_int hfin.out.symm, bup (bup hbl hb) (bup (below1 _ _) hW1)⟩
      | true =>
       cases f3 : a == c with
       | true =>
        have hfin := hide (hbad2.out k hlt (pairGood_bad hx (by simp only [pairOk_eq, f3]; simp)))
        clear hbad2 hgood1 hx hn q2 q3 q4
        go_wp2_with fail
        (refine wp_region_grow (by kernel_rfl) (by kernel_rfl) ?_; (repeat (first | go_big_quiet_skip | (go_big_quiet_want; go_big_quiet_op; first | go_big_quiet_on | (apply Exists.intro; refine ⟨fun _ => ?_, ?_⟩; (focus ((go_at_call 140; exact calls_grew_same (within5_is (by assumption) _)))); go_big_quiet_on)))); refine wpQuiet_nil ?_; rintro W1 ⟨⟨_, hW1⟩, rfl⟩)
        go_wp2_with fail
        go_ret
        exact ⟨ret_int hfin.out.symm, bup (bup hbl hb) (bup (below1 _ _) hW1)⟩
       | false =>
        obtain ⟨i, rfl⟩ : ∃ i : Nat, a = i := ⟨a.toNat, by have := inB_true.1 f1; omega⟩
        obtain ⟨j, rfl⟩ : ∃ j : Nat, c = j := ⟨c.toNat, by have := inB_true.1 f2; omega⟩
        have hil : i < b.cells.length := by have := inB_true.1 f1; omega
        have hjl : j < b.cells.length := by have := inB_true.1 f2; omega
        obtain ⟨x, hxi⟩ := getElem?_of_lt hil
        obtain ⟨y, hyj⟩ := getElem?_of_lt hjl
        obtain ⟨gc, oc, rfl, hcw⟩ := hA.out i hil
        obtain ⟨_, _, u1, _, _⟩ := ((unhide hc).mono (bup hbl hb)).cell_at hxi
        obtain ⟨_, _, v1, _, _⟩ := ((unhide hc).mono (bup hbl hb)).cell_at hyj
        have hgc := ((unhide hc).mono (bup hbl hb)).cell_at hxi |>.1
        have hok : pairOk b.cells ((i : Int), (j : Int)) = decide (x.height ≤ y.height) := by
         simp only [pairOk_eq, f1, f2, f3, Int.toNat_natCast, getD_of hxi, getD_of hyj]; rfl
        clear hxi hyj
        rcases ilt y.height x.height with hd | hd
        ·have hfin := hide (hbad2.out k hlt (pairGood_bad hx (by rw [hok]; simp; omega)))
         have hyd : decide (y.height < x.height) = true := by simpa using hd
         clear hok
         clear hbad2 hgood1 hx hn q2 q3 q4
         go_wp2_with fail
         (refine wp_region_grow (by kernel_rfl) (by kernel_rfl) ?_; (repeat (first | go_big_quiet_skip | (go_big_quiet_want; go_big_quiet_op; first | go_big_quiet_on | (apply Exists.intro; refine ⟨fun _ => ?_, ?_⟩; (focus ((go_at_call 140; exact calls_grew_same (within5_is (by assumption) _)))); go_big_quiet_on)))); refine wpQuiet_nil ?_; rintro W1 ⟨⟨_, hW1⟩, rfl⟩)
         go_wp2_with fail
         go_ret
         exact ⟨ret_int hfin.out.symm, bup (bup hbl hb) (bup (below1 _ _) hW1)⟩
        ·have hpos := hide (pairGood_at hx (hok.trans (by simpa using hd)))
         have hyd : decide (y.height < x.height) = false := by simp; omega
         clear hok
         replace hbad2 := hide (fun h => hbad2.out k hlt h)
         have hij : ¬ ((i : Int) = j) := by simpa using f3
         obtain ⟨p, hpp⟩ : ∃ p : Int, p = i := ⟨_, rfl⟩
         obtain ⟨q, hqq⟩ : ∃ q : Int, q = j := ⟨_, rfl⟩
         go_wp2_with fail
         (refine wp_region_grow (by kernel_rfl) (by kernel_rfl) ?_; (repeat (first | go_big_quiet_skip | (go_big_quiet_want; go_big_quiet_op; first | go_big_quiet_on | (apply Exists.intro; refine ⟨fun _ => ?_, ?_⟩; (focus ((go_at_call 140; exact calls_grew_same (within5_is (by assumption) _)))); go_big_quiet_on)))); refine wpQuiet_nil ?_; rintro W1 ⟨⟨_, hW1⟩, rfl⟩)
         clear hg0 q0 q1 q2 q3 q4 hbx e0 e1 u1 v1 hgc hyd hd hwl f1 f2
         have kP : Blk W1 wr.heap.size 77 #[I i, I j] := (Blk.new wr _ _).grow hW1
         have hbP := bup hb (bup (below1 _ _) hW1)
         clear hb hW1
         replace hbP := hide hbP
         obtain ⟨P, hP⟩ : ∃ P, P = wr.heap.size := ⟨_, rfl⟩
         simp only [← hP] at kP ⊢
         clear hP
         replace kP := hide kP
         replace hx := hide hx
         go_wp2_with fail
         go_loopw [6] (fun i' wr => ∃ k' : Nat, k' ≤ k ∧ i' = I k' ∧ Hid (((b.pairs.take k').map bothP).any (fun r => r == bothP ((i : Int), (j : Int))) = false) ∧ Below W1.heap.size W1 wr) (fun i' _ => k - (intOf i').toNat)
         case atStart => exact ⟨0, Nat.zero_le _, rfl, hide (by simp), Below.refl _ _⟩
         case round =>
          obtain ⟨k', hk', rfl, hany, hb2⟩ := hrel
          by_cases hlt' : k' < k
          ·have hbT := bup hbP.out hb2
           obtain ⟨hg0, q0, q1, q2, q3, q4⟩ := hK.out.grow hbT
           obtain ⟨g', off', hg', hbw'⟩ := hD.out k' (by omega)
           cases hg'
           obtain ⟨⟨d, e⟩, hy⟩ := getElem?_of_lt (show k' < b.pairs.length by omega)
           obtain ⟨hby, y0, y1⟩ := ((unhide hp).mono (bup hbl hbT)).pair_at hy
           simp only at y0 y1
           have kP2 := kP.out.grow hb2
           obtain ⟨p0, p1⟩ := kP2.cells2
           have hPlt := kP2.lt
           have hno := fun hn => bothP_no (a := (i : Int)) (c := (j : Int)) hy hany.out hn
           have hhit := fun hn => hbad2.out (by rw [hpos.out, bothP_hit hlt' hy hn]; rfl)
           clear hbad2 hgood1 hpos hx hany hn hy q2 q3 q4 kP2
           cases h1 : (d == (i : Int)) with
           | true =>
            have h1' : d = i := by simpa using h1
            cases h2 : (e == (j : Int)) with
            | true =>
             have h2' : e = j := by simpa using h2
             have hfin := hide (hhit (.inl ⟨h1', h2'⟩))
             clear h1' h2' hno hhit
             go_wp2_with fail
             go_ret
             exact ⟨ret_int hfin.out.symm, bup (bup hbl hbT) (below1 _ _)⟩
            | false =>
             have h2' : e ≠ j := by simpa using h2
             have h3 : (d == (j : Int)) = false := by simpa [h1'] using hij
             have hg := hide (hno (fun h => h.elim (fun h => h2' h.2) (fun h => hij (h1'.symm.trans h.1))))
             clear h1' h2' hno hhit
             go_wp2_with fail
             go_roundw
             case rel => exact ⟨k' + 1, by omega, by go_num, hg, bup hb2 (below1 _ _)⟩
             case measure => simp [intOf]; omega
           | false =>
            have h1' : d ≠ i := by simpa using h1
            cases h3 : (d == (j : Int)) with
            | false =>
             have h3' : d ≠ j := by simpa using h3
             have hg := hide (hno (fun h => h.elim (fun h => h1' h.1) (fun h => h3' h.1)))
             clear h1' h3' hno hhit
             go_wp2_with fail
             go_roundw
             case rel => exact ⟨k' + 1, by omega, by go_num, hg, bup hb2 (below1 _ _)⟩
             case measure => simp [intOf]; omega
            | true =>
             have h3' : d = j := by simpa using h3
             cases h4 : (e == (i : Int)) with
             | false =>
              have h4' : e ≠ i := by simpa using h4
              have hg := hide (hno (fun h => h.elim (fun h => h1' h.1) (fun h => h4' h.2)))
              clear h1' h3' h4' hno hhit
              go_wp2_with fail
              go_roundw
              case rel => exact ⟨k' + 1, by omega, by go_num, hg, bup hb2 (below1 _ _)⟩
              case measure => simp [intOf]; omega
             | true =>
              have h4' : e = i := by simpa using h4
              have hfin := hide (hhit (.inr ⟨h3', h4'⟩))
              clear h1' h3' h4' hno hhit
              go_wp2_with fail
              go_ret
              exact ⟨ret_int hfin.out.symm, bup (bup hbl hbT) (below1 _ _)⟩
          ·have he : k' = k := by omega
           subst he
           have hg := hide (hn.out.succ (show pairGood b.cells b.pairs k' = true by rw [hpos.out, hany.out]; rfl))
           clear hbad2 hgood1 hpos hx hany hn
           go_wp2_with fail
           go_roundw
           case rel => exact ⟨k' + 1, by omega, by go_num, hg, bup hbP.out hb2⟩
           case measure => simp [intOf]; omega
    ·have he : k = b.pairs.length := by omega
     subst he
     have hfin := hide (hgood1.out (AllTo.all hn.out))
     clear hbad2 hn hgood1
     go_wp2_with fail
     go_ret
     exact ⟨ret_int hfin.out.symm, bup hbl hb⟩
theorem ref5_CheckBasin (b : Basin) (vc vp : Value) (w : World) (hc : Sl w 4 Cell.cells vc b.cells) (hp : Sl w 2 pairC vp b.pairs) :
  Calls Tryz.prog 61 #[b.v vc vp] w fun e w' => e = .returned (I (basinE b)) ∧ Below w.heap.size w w' := by
 cases h : b.headOk with
 | false => exact ref5_CheckBasin_head b vc vp w hc hp h
 | true => exact ref5_CheckBasin_valid b vc vp w hc hp h
end Go.Proofs.YtmjfdobjnnfafaaGreatDoor
