/- The package basin: CheckBasin. Conditions stand in the theorems. -/
import Derived.Test.YtgbbljfmngmjeaaGreatReachPack
set_option linter.all false
set_option maxHeartbeats 8000000
set_option maxRecDepth 100000
namespace Go.Proofs.YtgbbljfmngmjeaaGreat
open Go.RowKit

def Basin.headOk (b : Basin) : Bool := inB b.cells.length 1 12 && decide (b.pairs.length ≤ 24) && inB b.gain 0 65536 && inB b.slack 0 65536 && inB b.deep 0 65536
theorem basinOk_head {b : Basin} (h : b.headOk = false) : basinE b = 50 := by
 have : basinOk b = false := by
  show (b.headOk && _ && _) = false
  simp [h]
 simp [basinE, this]
theorem basinOk_cell {b : Basin} (h : (List.range b.cells.length).all (cellGood b.cells) = false) : basinE b = 50 := by
 have : basinOk b = false := by
  show (b.headOk && _ && _) = false
  simp only [h, Bool.and_false, Bool.false_and]
 simp [basinE, this]
theorem basinOk_pair {b : Basin} (h : (List.range b.pairs.length).all (pairGood b.cells b.pairs) = false) : basinE b = 50 := by
 have : basinOk b = false := by
  show (b.headOk && _ && _) = false
  simp only [h, Bool.and_false]
 simp [basinE, this]
theorem basinOk_all {b : Basin} (h1 : b.headOk = true) (h2 : (List.range b.cells.length).all (cellGood b.cells) = true) (h3 : (List.range b.pairs.length).all (pairGood b.cells b.pairs) = true) : basinE b = 0 := by
 have : basinOk b = true := by
  show (b.headOk && _ && _) = true
  simp only [h1, h2, h3, Bool.and_self]
 simp [basinE, this]

structure BasAt (w : World) (B : Nat) (b : Basin) (vc vp : Value) : Prop where
 lt : B < w.heap.size
 c0 : w.cell? ⟨B, 0, none⟩ = some vc
 c1 : w.cell? ⟨B, 1, none⟩ = some vp
 c2 : w.cell? ⟨B, 2, none⟩ = some (I b.gain)
 c3 : w.cell? ⟨B, 3, none⟩ = some (I b.slack)
 c4 : w.cell? ⟨B, 4, none⟩ = some (I b.deep)
theorem BasAt.grow {w w' : World} {B : Nat} {b : Basin} {vc vp : Value} (h : BasAt w B b vc vp) (hb : Below w.heap.size w w') : BasAt w' B b vc vp := by
 have e := fun o => hb.cell (p := ⟨B, o, none⟩) h.lt
 exact ⟨Nat.lt_of_lt_of_le h.lt hb.size, (e 0).trans h.c0, (e 1).trans h.c1, (e 2).trans h.c2, (e 3).trans h.c3, (e 4).trans h.c4⟩
theorem BasAt.new (w : World) (b : Basin) (vc vp : Value) (t : Nat) : BasAt (w.alloc (.cells #[vc, vp, I b.gain, I b.slack, I b.deep] t)) w.heap.size b vc vp := by
 refine ⟨by simp, ?_, ?_, ?_, ?_, ?_⟩ <;> simp [go_sem]

theorem cellGood_head {cs : List Cell} {k : Nat} {x : Cell} (hx : cs[k]? = some x) (h : cellOk x = false) : cellGood cs k = false := by simp [cellGood, hx, h]
theorem cellGood_zero {cs : List Cell} {x : Cell} (hx : cs[0]? = some x) (h : cellOk x = true) : cellGood cs 0 = true := by simp [cellGood, hx, h]
theorem cellGood_pos {cs : List Cell} {k : Nat} {x y : Cell} (hk : 0 < k) (hx : cs[k]? = some x) (hy : cs[k - 1]? = some y) (h : cellOk x = true) : cellGood cs k = decide (y.no < x.no) := by
 have : (k == 0) = false := by simp; omega
 simp [cellGood, hx, hy, h, this]

def HeadFacts (b : Basin) : Prop := (1 ≤ b.cells.length ∧ b.cells.length ≤ 12) ∧ b.pairs.length ≤ 24 ∧ inB b.gain 0 65536 = true ∧ inB b.slack 0 65536 = true ∧ inB b.deep 0 65536 = true
theorem Basin.headOk_of {b : Basin} (h : b.headOk = true) : HeadFacts b := by
 simp only [Basin.headOk, Bool.and_eq_true, decide_eq_true_eq] at h
 obtain ⟨⟨⟨⟨h1, h2⟩, h3⟩, h4⟩, h5⟩ := h
 have := inB_true.1 h1
 exact ⟨⟨by omega, by omega⟩, h2, h3, h4, h5⟩

theorem basin_CheckBasin_head (b : Basin) (vc vp : Value) (w : World) (hc : Sl w 4 Cell.cells vc b.cells) (hp : Sl w 2 pairC vp b.pairs) (hh : b.headOk = false) :
  Calls Tryz.prog 128 #[b.v vc vp] w fun e w' => e = .returned (I (basinE b)) ∧ Below w.heap.size w w' := by
 obtain ⟨Ac, nc, rfl, _, _, hlc, hAc⟩ := hc.open_
 obtain ⟨Ap, np, rfl, _, _, hlp, hAp⟩ := hp.open_
 clear hc hp hAc hAp
 rw [basinOk_head hh]
 unfold Basin.v
 simp only [Basin.headOk] at hh
 have e1 : decide (b.pairs.length ≤ 24) = decide ((b.pairs.length : Int) ≤ 24) := by congr 1; simp; omega
 rw [e1] at hh
 clear e1
 cases h1 : inB b.cells.length 1 12 with
 | false =>
  clear hh
  go_enter Tryz.func128, Tryz.ntmps128
  go_wp2_with (first | (go_at_call 129; refine (basin_from _ _ _ _).mono ?_; rintro e w' ⟨rfl, rfl⟩))
  go_ret
  exact ⟨rfl, below1 _ _⟩
 | true =>
  cases h2 : decide ((b.pairs.length : Int) ≤ 24) with
  | false =>
   clear hh
   go_enter Tryz.func128, Tryz.ntmps128
   go_wp2_with (first | (go_at_call 129; refine (basin_from _ _ _ _).mono ?_; rintro e w' ⟨rfl, rfl⟩))
   go_ret
   exact ⟨rfl, below1 _ _⟩
  | true =>
   cases h3 : inB b.gain 0 65536 with
   | false =>
    clear hh
    go_enter Tryz.func128, Tryz.ntmps128
    go_wp2_with (first | (go_at_call 129; refine (basin_from _ _ _ _).mono ?_; rintro e w' ⟨rfl, rfl⟩))
    go_ret
    exact ⟨rfl, below1 _ _⟩
   | true =>
    cases h4 : inB b.slack 0 65536 with
    | false =>
     clear hh
     go_enter Tryz.func128, Tryz.ntmps128
     go_wp2_with (first | (go_at_call 129; refine (basin_from _ _ _ _).mono ?_; rintro e w' ⟨rfl, rfl⟩))
     go_ret
     exact ⟨rfl, below1 _ _⟩
    | true =>
     cases h5 : inB b.deep 0 65536 with
     | false =>
      clear hh
      go_enter Tryz.func128, Tryz.ntmps128
      go_wp2_with (first | (go_at_call 129; refine (basin_from _ _ _ _).mono ?_; rintro e w' ⟨rfl, rfl⟩))
      go_ret
      exact ⟨rfl, below1 _ _⟩
     | true => simp [h1, h2, h3, h4, h5] at hh

theorem pairGood_bad {cs : List Cell} {ps : List (Int × Int)} {k : Nat} {p : Int × Int} (hx : ps[k]? = some p) (h : pairOk cs p = false) : pairGood cs ps k = false := by simp [pairGood, hx, h]
theorem pairGood_at {cs : List Cell} {ps : List (Int × Int)} {k : Nat} {p : Int × Int} (hx : ps[k]? = some p) (h : pairOk cs p = true) : pairGood cs ps k = !(((ps.take k).map bothP).any fun q => q == bothP p) := by
 rw [List.any_map]
 simp only [pairGood, getD_of hx, h, Bool.true_and]
 rfl
theorem pairOk_eq (cs : List Cell) (a c : Int) : pairOk cs (a, c) = (inB a 0 (cs.length - 1) && inB c 0 (cs.length - 1) && !(a == c) && decide ((cs.getD a.toNat default).height ≤ (cs.getD c.toNat default).height)) := rfl
theorem bothP_lt {a c : Int} (h : c < a) : bothP (a, c) = (c, a) := by simp only [bothP]; rw [Int.min_eq_right (by omega), Int.max_eq_left (by omega)]
theorem bothP_ge {a c : Int} (h : a ≤ c) : bothP (a, c) = (a, c) := by simp only [bothP]; rw [Int.min_eq_left (by omega), Int.max_eq_right (by omega)]
theorem take_map_succ {α β : Type} (f : α → β) {l : List α} {k : Nat} {x : α} (h : l[k]? = some x) : (l.take (k + 1)).map f = (l.take k).map f ++ [f x] := by
 rw [List.take_add_one, h]; simp

theorem basin_CheckBasin_valid (b : Basin) (vc vp : Value) (w : World) (hc : Sl w 4 Cell.cells vc b.cells) (hp : Sl w 2 pairC vp b.pairs) (hh : b.headOk = true) :
  Calls Tryz.prog 128 #[b.v vc vp] w fun e w' => e = .returned (I (basinE b)) ∧ Below w.heap.size w w' := by
 obtain ⟨A, n, rfl, _, _, hlc, hA⟩ := hc.open_
 obtain ⟨D, m, rfl, _, _, hlp, hD⟩ := hp.open_
 replace hc := hide hc
 replace hp := hide hp
 replace hA := hide hA
 replace hD := hide hD
 have hbad1 := hide (fun k (hk : k < b.cells.length) (h : cellGood b.cells k = false) => basinOk_cell (b := b) (all_of_not hk h))
 have hbad2 := hide (fun k (hk : k < b.pairs.length) (h : pairGood b.cells b.pairs k = false) => basinOk_pair (b := b) (all_of_not hk h))
 have hgood := hide (fun h2 h3 => basinOk_all (b := b) hh h2 h3)
 obtain ⟨⟨hl1, hl2⟩, hp2, h3, h4, h5⟩ := Basin.headOk_of hh
 clear hh
 have h1 : inB b.cells.length 1 12 = true := inB_true.2 ⟨by omega, by omega⟩
 have h2 : decide ((b.pairs.length : Int) ≤ 24) = true := by simp; omega
 obtain ⟨E, hE⟩ : ∃ E, basinE b = E := ⟨_, rfl⟩
 rw [hE] at hbad1 hbad2 hgood ⊢
 clear hE
 have hmm := @run_makeMap Tryz.prog
 unfold Basin.v
 go_enter Tryz.func128, Tryz.ntmps128
 go_wp2_with (first | (go_at_call 129; refine (basin_from _ _ _ _).mono ?_; rintro e w' ⟨rfl, rfl⟩))
 clear h1 h2 h3 h4 h5
 obtain ⟨W0, hW0⟩ : ∃ W0, W0 = w.alloc (.cells #[.slice A b.cells.length n, .slice D b.pairs.length m, I b.gain, I b.slack, I b.deep] 37) := ⟨_, rfl⟩
 have hK : BasAt W0 w.heap.size b (.slice A b.cells.length n) (.slice D b.pairs.length m) := by rw [hW0]; exact BasAt.new _ _ _ _ _
 have hbl : Below w.heap.size w W0 := by rw [hW0]; exact below1 _ _
 rw [← hW0]
 clear hW0
 replace hK := hide hK
 go_loopw [41] (fun i wr => ∃ k : Nat, k ≤ b.cells.length ∧ i = I k ∧ Hid (AllTo (cellGood b.cells) k) ∧ Below W0.heap.size W0 wr) (fun i _ => b.cells.length - (intOf i).toNat)
 case atStart => exact ⟨0, Nat.zero_le _, rfl, hide (AllTo.zero _), Below.refl _ _⟩
 case round =>
  obtain ⟨k, hk, rfl, hn, hb⟩ := hrel
  obtain ⟨hg0, q0, q1, q2, q3, q4⟩ := hK.out.grow hb
  by_cases hlt : k < b.cells.length
  ·obtain ⟨g, off, rfl, hbw⟩ := hA.out k hlt
   obtain ⟨x, hx⟩ := getElem?_of_lt hlt
   obtain ⟨hbx, e0, e1, e2, e3⟩ := ((unhide hc).mono (bup hbl hb)).cell_at hx
   have HR := fun w => basin_right x w
   cases hok : cellOk x with
   | false =>
    have hfin := hide (hbad1.out k hlt (cellGood_head hx hok))
    rw [hok] at HR
    replace HR := hide HR
    clear hbad1 hbad2 hgood hx hn hok q1 q2 q3 q4
    go_wp2_with fail
    (refine wp_grow ?_; (repeat go_big_quiet_step ((go_at_call 172; exact calls_grew (HR.out _)))); refine wp_grow0 ?_; intro W1 hW1)
    go_wp2_with fail
    go_ret
    exact ⟨ret_int hfin.out.symm, bup (bup hbl hb) (bup (below1 _ _) hW1)⟩
   | true =>
    rw [hok] at HR
    replace HR := hide HR
    rcases Nat.lt_or_ge 0 k with hk0 | hk0
    ·obtain ⟨y, hy⟩ := getElem?_of_lt (xs := b.cells) (k := k - 1) (by omega)
     obtain ⟨_, p0, p1, p2, p3⟩ := ((unhide hc).mono (bup hbl hb)).cell_at hy
     have hpos := cellGood_pos hk0 hx hy hok
     clear hok
     rcases ilt y.no x.no with hd | hd
     ·have hyd : decide (x.no ≤ y.no) = false := by simp; omega
      have hg := hide (hn.out.succ (show cellGood b.cells k = true by rw [hpos]; simpa using hd))
      clear hbad1 hbad2 hgood hx hn hy hpos q1 q2 q3 q4
      go_wp2_with fail
      (refine wp_grow ?_; (repeat go_big_quiet_step ((go_at_call 172; exact calls_grew (HR.out _)))); refine wp_grow0 ?_; intro W1 hW1)
      go_wp2_with fail
      go_roundw
      case rel => exact ⟨k + 1, by omega, by go_num, hg, bup hb (bup (below1 _ _) hW1)⟩
      case measure => simp [intOf]; omega
     ·have hfin := hide (hbad1.out k hlt (by rw [hpos]; simp; omega))
      have hyd : decide (x.no ≤ y.no) = true := by simp; omega
      clear hbad1 hbad2 hgood hx hn hy hpos q1 q2 q3 q4
      go_wp2_with fail
      (refine wp_grow ?_; (repeat go_big_quiet_step ((go_at_call 172; exact calls_grew (HR.out _)))); refine wp_grow0 ?_; intro W1 hW1)
      go_wp2_with fail
      go_ret
      exact ⟨ret_int hfin.out.symm, bup (bup hbl hb) (bup (below1 _ _) hW1)⟩
    ·have hkd : decide (0 < k) = false := by simp; omega
     have hg := hide (hn.out.succ (show cellGood b.cells k = true by
      have hk00 : k = 0 := by omega
      subst hk00; exact cellGood_zero hx hok))
     clear hok
     clear hbad1 hbad2 hgood hx hn q1 q2 q3 q4
     go_wp2_with fail
     (refine wp_grow ?_; (repeat go_big_quiet_step ((go_at_call 172; exact calls_grew (HR.out _)))); refine wp_grow0 ?_; intro W1 hW1)
     go_wp2_with fail
     go_roundw
     case rel => exact ⟨k + 1, by omega, by go_num, hg, bup hb (bup (below1 _ _) hW1)⟩
     case measure => simp [intOf]; omega
  ·have he : k = b.cells.length := by omega
   subst he
   have hgood1 := hide (hgood.out (AllTo.all hn.out))
   clear hbad1 hn hgood
   go_wp2_with fail
   obtain ⟨W2, hW2⟩ : ∃ W2, W2 = wr.alloc (.map #[] 0) := ⟨_, rfl⟩
   obtain ⟨M, hM⟩ : ∃ M, M = wr.heap.size := ⟨_, rfl⟩
   have hS0 := hide (show SetP W2 M [] by rw [hW2, hM]; exact SetP.new wr)
   have hW02 : Below W0.heap.size W0 W2 := by rw [hW2]; exact hb.alloc hb.size _
   have hM0 : W0.heap.size ≤ M := by rw [hM]; exact hb.size
   rw [← hW2, ← hM]
   clear hW2 hM hg0 q0 q1 q2 q3 q4 hb
   go_loopw [70] (fun i wr => ∃ k : Nat, k ≤ b.pairs.length ∧ i = I k ∧ Hid (AllTo (pairGood b.cells b.pairs) k) ∧ Below W0.heap.size W0 wr ∧ Hid (SetP wr M ((b.pairs.take k).map bothP))) (fun i _ => b.pairs.length - (intOf i).toNat)
   case atStart => exact ⟨0, Nat.zero_le _, rfl, hide (AllTo.zero _), hW02, hS0⟩
   case round =>
    clear hW02 hS0
    obtain ⟨k, hk, rfl, hn, hb, hS⟩ := hrel
    obtain ⟨hg0, q0, q1, q2, q3, q4⟩ := hK.out.grow hb
    have hSlt := hS.out.lt
    by_cases hlt : k < b.pairs.length
    ·obtain ⟨g, off, rfl, hbw⟩ := hD.out k hlt
     obtain ⟨⟨a, c⟩, hx⟩ := getElem?_of_lt hlt
     obtain ⟨hbx, e0, e1⟩ := ((unhide hp).mono (bup hbl hb)).pair_at hx
     simp only at e0 e1
     have hwl : IntKind.i64.wrap ((b.cells.length : Int) - 1) = (b.cells.length : Int) - 1 := IntWalk.i64_in _ (by omega)
     cases f1 : inB a 0 (b.cells.length - 1) with
     | false =>
      have hfin := hide (hbad2.out k hlt (pairGood_bad hx (by simp [pairOk_eq, f1])))
      clear hbad2 hgood1 hx hn q1 q2 q3 q4 hS
      go_wp2_with fail
      (refine wp_grow ?_; (repeat go_big_quiet_step ((go_at_call 129; exact calls_grew_same (basin_from _ _ _ _)))); refine wp_grow0 ?_; intro W1 hW1)
      go_wp2_with fail
      go_ret
      exact ⟨ret_int hfin.out.symm, bup (bup hbl hb) (bup (below1 _ _) hW1)⟩
     | true =>
      cases f2 : inB c 0 (b.cells.length - 1) with
      | false =>
       have hfin := hide (hbad2.out k hlt (pairGood_bad hx (by simp [pairOk_eq, f2])))
       clear hbad2 hgood1 hx hn q1 q2 q3 q4 hS
       go_wp2_with fail
       (refine wp_grow ?_; (repeat go_big_quiet_step ((go_at_call 129; exact calls_grew_same (basin_from _ _ _ _)))); refine wp_grow0 ?_; intro W1 hW1)
       go_wp2_with fail
       go_ret
       exact ⟨ret_int hfin.out.symm, bup (bup hbl hb) (bup (below1 _ _) hW1)⟩
      | true =>
       cases f3 : a == c with
       | true =>
        have hfin := hide (hbad2.out k hlt (pairGood_bad hx (by simp only [pairOk_eq, f3]; simp)))
        clear hbad2 hgood1 hx hn q1 q2 q3 q4 hS
        go_wp2_with fail
        (refine wp_grow ?_; (repeat go_big_quiet_step ((go_at_call 129; exact calls_grew_same (basin_from _ _ _ _)))); refine wp_grow0 ?_; intro W1 hW1)
        go_wp2_with fail
        go_ret
        exact ⟨ret_int hfin.out.symm, bup (bup hbl hb) (bup (below1 _ _) hW1)⟩
       | false =>
        obtain ⟨i, rfl⟩ : ∃ i : Nat, a = i := ⟨a.toNat, by have := inB_true.1 f1; omega⟩
        obtain ⟨j, rfl⟩ : ∃ j : Nat, c = j := ⟨c.toNat, by have := inB_true.1 f2; omega⟩
        have hil : i < b.cells.length := by have := inB_true.1 f1; omega
        have hjl : j < b.cells.length := by have := inB_true.1 f2; omega
        obtain ⟨x, hxi⟩ := getElem?_of_lt hil
        obtain ⟨y, hyj⟩ := getElem?_of_lt hjl
        obtain ⟨gc, oc, rfl, hcw⟩ := hA.out i hil
        obtain ⟨_, _, u1, _, _⟩ := ((unhide hc).mono (bup hbl hb)).cell_at hxi
        obtain ⟨_, _, v1, _, _⟩ := ((unhide hc).mono (bup hbl hb)).cell_at hyj
        have hgc := ((unhide hc).mono (bup hbl hb)).cell_at hxi |>.1
        have hok : pairOk b.cells ((i : Int), (j : Int)) = decide (x.height ≤ y.height) := by
         simp only [pairOk_eq, f1, f2, f3, Int.toNat_natCast, getD_of hxi, getD_of hyj]; rfl
        clear hxi hyj
        rcases ilt y.height x.height with hd | hd
        ·have hfin := hide (hbad2.out k hlt (pairGood_bad hx (by rw [hok]; simp; omega)))
         have hyd : decide (y.height < x.height) = true := by simpa using hd
         clear hbad2 hgood1 hx hn q1 q2 q3 q4 hS hok
         go_wp2_with fail
         (refine wp_grow ?_; (repeat go_big_quiet_step ((go_at_call 129; exact calls_grew_same (basin_from _ _ _ _)))); refine wp_grow0 ?_; intro W1 hW1)
         go_wp2_with fail
         go_ret
         exact ⟨ret_int hfin.out.symm, bup (bup hbl hb) (bup (below1 _ _) hW1)⟩
        ·have hpos := pairGood_at hx (hok.trans (by simpa using hd))
         have hyd : decide (y.height < x.height) = false := by simp; omega
         have htk := take_map_succ bothP hx
         have hgo : ∀ lo hi : Int, bothP ((i : Int), (j : Int)) = (lo, hi) → True := fun _ _ _ => trivial
         rcases ilt (j : Int) (i : Int) with hm | hm
         ·rw [bothP_lt hm] at hpos htk
          have hm1 : decide (j < i) = true := by simp; omega
          have hm2 : decide (i < j) = false := by simp; omega
          clear hgo hok
          obtain ⟨q, hq⟩ : ∃ q, (((b.pairs.take k).map bothP).any fun r => r == ((j : Int), (i : Int))) = q := ⟨_, rfl⟩
          rw [hq] at hpos
          cases q with
          | true =>
           have hfin := hide (hbad2.out k hlt hpos)
           clear hbad2 hgood1 hx hn q1 q2 q3 q4 htk hpos
           go_wp2_with fail
           (refine wp_grow ?_; (repeat go_big_quiet_step ((go_at_call 129; exact calls_grew_same (basin_from _ _ _ _)))); refine wp_grow0 ?_; intro W1 hW1)
           have hS2 := ((hS.out.below (below1 wr _) hSlt).below hW1 (by simp; omega)).below (below1 W1 (.cells #[I j, I i] 203)) (Nat.lt_of_lt_of_le hSlt (Nat.le_trans (below1 wr _).size hW1.size))
           have hlk := hS2.lookup (t := 218) rfl (j, i)
           rw [hq] at hlk
           simp only [kP] at hlk
           have hcp := fun o => (bcell hW1).1 wr.heap.size o (by simp)
           go_wp2_with fail
           go_ret
           exact ⟨ret_int hfin.out.symm, (bup (bup hbl hb) (bup (below1 _ _) (bup hW1 (below1 _ _))))⟩
          | false =>
           have hg := hide (hn.out.succ (show pairGood b.cells b.pairs k = true from hpos))
           clear hbad2 hgood1 hx hn q1 q2 q3 q4 hpos
           go_wp2_with fail
           (refine wp_grow ?_; (repeat go_big_quiet_step ((go_at_call 129; exact calls_grew_same (basin_from _ _ _ _)))); refine wp_grow0 ?_; intro W1 hW1)
           have hS2 := ((hS.out.below (below1 wr _) hSlt).below hW1 (by simp; omega)).below (below1 W1 (.cells #[I j, I i] 203)) (Nat.lt_of_lt_of_le hSlt (Nat.le_trans (below1 wr _).size hW1.size))
           have hlk := hS2.lookup (t := 218) rfl (j, i)
           rw [hq] at hlk
           simp only [kP] at hlk
           have hcp := fun o => (bcell hW1).1 wr.heap.size o (by simp)
           obtain ⟨o, hput, hS3⟩ := hS2.put (t := 218) rfl (j, i) hq
           rw [← htk] at hS3
           simp only [kP] at hput
           replace hS3 := hide hS3
           go_wp2_with fail
           go_roundw
           case rel => exact ⟨k + 1, by omega, by go_num, hg, Below.mapped (bup hb (bup (below1 _ _) (bup hW1 (below1 _ _)))) hM0 o, hS3⟩
           case measure => simp [intOf]; omega
         ·rw [bothP_ge hm] at hpos htk
          have hm1 : decide (j < i) = false := by simp; omega
          have hm3 : i < j := by
           have : (i : Int) ≠ j := by simpa using f3
           omega
          clear hgo hok
          obtain ⟨q, hq⟩ : ∃ q, (((b.pairs.take k).map bothP).any fun r => r == ((i : Int), (j : Int))) = q := ⟨_, rfl⟩
          rw [hq] at hpos
          cases q with
          | true =>
           have hfin := hide (hbad2.out k hlt hpos)
           clear hbad2 hgood1 hx hn q1 q2 q3 q4 htk hpos
           go_wp2_with fail
           (refine wp_grow ?_; (repeat go_big_quiet_step ((go_at_call 129; exact calls_grew_same (basin_from _ _ _ _)))); refine wp_grow0 ?_; intro W1 hW1)
           have hS2 := ((hS.out.below (below1 wr _) hSlt).below hW1 (by simp; omega)).below (below1 W1 (.cells #[I i, I j] 203)) (Nat.lt_of_lt_of_le hSlt (Nat.le_trans (below1 wr _).size hW1.size))
           have hlk := hS2.lookup (t := 218) rfl (i, j)
           rw [hq] at hlk
           simp only [kP] at hlk
           have hcp := fun o => (bcell hW1).1 wr.heap.size o (by simp)
           go_wp2_with fail
           go_ret
           exact ⟨ret_int hfin.out.symm, (bup (bup hbl hb) (bup (below1 _ _) (bup hW1 (below1 _ _))))⟩
          | false =>
           have hg := hide (hn.out.succ (show pairGood b.cells b.pairs k = true from hpos))
           clear hbad2 hgood1 hx hn q1 q2 q3 q4 hpos
           go_wp2_with fail
           (refine wp_grow ?_; (repeat go_big_quiet_step ((go_at_call 129; exact calls_grew_same (basin_from _ _ _ _)))); refine wp_grow0 ?_; intro W1 hW1)
           have hS2 := ((hS.out.below (below1 wr _) hSlt).below hW1 (by simp; omega)).below (below1 W1 (.cells #[I i, I j] 203)) (Nat.lt_of_lt_of_le hSlt (Nat.le_trans (below1 wr _).size hW1.size))
           have hlk := hS2.lookup (t := 218) rfl (i, j)
           rw [hq] at hlk
           simp only [kP] at hlk
           have hcp := fun o => (bcell hW1).1 wr.heap.size o (by simp)
           obtain ⟨o, hput, hS3⟩ := hS2.put (t := 218) rfl (i, j) hq
           rw [← htk] at hS3
           simp only [kP] at hput
           replace hS3 := hide hS3
           go_wp2_with fail
           go_roundw
           case rel => exact ⟨k + 1, by omega, by go_num, hg, Below.mapped (bup hb (bup (below1 _ _) (bup hW1 (below1 _ _)))) hM0 o, hS3⟩
           case measure => simp [intOf]; omega
    ·have he : k = b.pairs.length := by omega
     subst he
     have hfin := hide (hgood1.out (AllTo.all hn.out))
     clear hbad2 hn hgood1 hS
     go_wp2_with fail
     go_ret
     exact ⟨ret_int hfin.out.symm, bup hbl hb⟩

theorem basin_CheckBasin (b : Basin) (vc vp : Value) (w : World) (hc : Sl w 4 Cell.cells vc b.cells) (hp : Sl w 2 pairC vp b.pairs) :
  Calls Tryz.prog 128 #[b.v vc vp] w fun e w' => e = .returned (I (basinE b)) ∧ Below w.heap.size w w' := by
 cases h : b.headOk with
 | false => exact basin_CheckBasin_head b vc vp w hc hp h
 | true => exact basin_CheckBasin_valid b vc vp w hc hp h

theorem sceneE_basin {s : Scene} (h : basinOk s.basin = false) : sceneE s = 50 := by simp [sceneE, h]
theorem sceneE_days {s : Scene} (h1 : basinOk s.basin = true) (h : daysOk s.days = false) : sceneE s = 1 := by simp [sceneE, h1, h]
theorem sceneE_many {s : Scene} (h1 : basinOk s.basin = true) (h2 : daysOk s.days = true) (h : 256 < s.sights.length ∨ 256 < s.changes.length) : sceneE s = 2 := by simp [sceneE, h1, h2, h]
theorem sceneE_sight {s : Scene} (h1 : basinOk s.basin = true) (h2 : daysOk s.days = true) (h3 : s.sights.length ≤ 256 ∧ s.changes.length ≤ 256) (h : s.sights.all (sightOk s) = false) : sceneE s = 51 := by
 have : ¬ (256 < s.sights.length ∨ 256 < s.changes.length) := by omega
 unfold sceneE
 rw [h1, h2, if_neg (by simp), if_neg (by simp), if_neg this, h, if_pos rfl]
theorem sceneE_change {s : Scene} (h1 : basinOk s.basin = true) (h2 : daysOk s.days = true) (h3 : s.sights.length ≤ 256 ∧ s.changes.length ≤ 256) (h4 : s.sights.all (sightOk s) = true) (h : s.changes.all (changeOk s) = false) : sceneE s = 52 := by
 have : ¬ (256 < s.sights.length ∨ 256 < s.changes.length) := by omega
 unfold sceneE
 rw [h1, h2, if_neg (by simp), if_neg (by simp), if_neg this, h4, if_neg (by simp), h, if_pos rfl]
theorem sceneE_all {s : Scene} (h1 : basinOk s.basin = true) (h2 : daysOk s.days = true) (h3 : s.sights.length ≤ 256 ∧ s.changes.length ≤ 256) (h4 : s.sights.all (sightOk s) = true) (h : s.changes.all (changeOk s) = true) : sceneE s = 0 := by
 have : ¬ (256 < s.sights.length ∨ 256 < s.changes.length) := by omega
 unfold sceneE
 rw [h1, h2, if_neg (by simp), if_neg (by simp), if_neg this, h4, if_neg (by simp), h, if_neg (by simp)]
def PassTo {α : Type} (p : α → Bool) (l : List α) (k : Nat) : Prop := ∀ i x, i < k → l[i]? = some x → p x = true
theorem PassTo.zero {α : Type} (p : α → Bool) (l : List α) : PassTo p l 0 := fun _ _ h => absurd h (Nat.not_lt_zero _)
theorem PassTo.succ {α : Type} {p : α → Bool} {l : List α} {k : Nat} {x : α} (h : PassTo p l k) (hx : l[k]? = some x) (hp : p x = true) : PassTo p l (k + 1) := fun i y hi hy => by
 by_cases he : i = k
 ·subst he; rw [hx] at hy; cases hy; exact hp
 ·exact h i y (by omega) hy
theorem PassTo.all {α : Type} {p : α → Bool} {l : List α} (h : PassTo p l l.length) : l.all p = true := by
 rw [List.all_eq_true]
 intro x hx
 obtain ⟨i, hi, rfl⟩ := List.mem_iff_getElem.1 hx
 exact h i _ hi (List.getElem?_eq_getElem hi)

def BadDays (l : List Int) : Prop := inB l.length 1 16 = false ∨ (inB l.length 1 16 = true ∧ risingB l = false) ∨
 (inB l.length 1 16 = true ∧ risingB l = true ∧ ∃ x y, l[0]? = some x ∧ l[l.length - 1]? = some y ∧ (x < 0 ∨ (0 ≤ x ∧ 1048576 < y)))
theorem daysOk_false {l : List Int} (h : daysOk l = false) : BadDays l := by
 cases h1 : inB l.length 1 16 with
 | false => exact .inl h1
 | true =>
  cases h2 : risingB l with
  | false => exact .inr (.inl ⟨h1, h2⟩)
  | true =>
   have hl := inB_true.1 h1
   obtain ⟨x, hx⟩ := getElem?_of_lt (xs := l) (k := 0) (by omega)
   obtain ⟨y, hy⟩ := getElem?_of_lt (xs := l) (k := l.length - 1) (by omega)
   refine .inr (.inr ⟨h1, h2, x, y, hx, hy, ?_⟩)
   have e1 : l.getD 0 0 = x := by simp [List.getD_eq_getElem?_getD, hx]
   have e2 : l.getD (l.length - 1) 0 = y := by simp [List.getD_eq_getElem?_getD, hy]
   simp only [daysOk, h1, h2, e1, e2, Bool.true_and] at h
   rw [Bool.and_eq_false_iff] at h
   simp only [decide_eq_false_iff_not] at h
   omega
theorem daysOk_true {l : List Int} (h : daysOk l = true) : inB l.length 1 16 = true ∧ risingB l = true ∧ ∃ x y, l[0]? = some x ∧ l[l.length - 1]? = some y ∧ 0 ≤ x ∧ y ≤ 1048576 := by
 simp only [daysOk, Bool.and_eq_true, decide_eq_true_eq] at h
 obtain ⟨⟨⟨h1, h2⟩, h3⟩, h4⟩ := h
 have hl := inB_true.1 h1
 obtain ⟨x, hx⟩ := getElem?_of_lt (xs := l) (k := 0) (by omega)
 obtain ⟨y, hy⟩ := getElem?_of_lt (xs := l) (k := l.length - 1) (by omega)
 have e1 : l.getD 0 0 = x := by simp [List.getD_eq_getElem?_getD, hx]
 have e2 : l.getD (l.length - 1) 0 = y := by simp [List.getD_eq_getElem?_getD, hy]
 rw [e1] at h3
 rw [e2] at h4
 exact ⟨h1, h2, x, y, hx, hy, h3, h4⟩
theorem basinE_of {b : Basin} {q : Bool} (h : basinOk b = q) : basinE b = if q then 0 else 50 := by simp [basinE, h]

theorem basin_Check_bad (s : Scene) (V : SceneV) (w : World) (hs : SceneAt w s V) (h : basinOk s.basin = false ∨ daysOk s.days = false) :
  Calls Tryz.prog 55 #[s.v V] w fun e w' => e = .returned (I (sceneE s)) ∧ Below w.heap.size w w' := by
 obtain ⟨vc, vp, vd, vs, vh⟩ := V
 have hs1 : Sl w 4 Cell.cells vc s.basin.cells := hs.cells
 have hs2 : Sl w 2 pairC vp s.basin.pairs := hs.pairs
 have hs3 : Sl w 1 intC vd s.days := hs.days
 have hs4 : Sl w 5 Sight.cells vs s.sights := hs.sights
 have hs5 : Sl w 5 Change.cells vh s.changes := hs.changes
 clear hs
 obtain ⟨Ac, nc, rfl, _, _, hlc, hAc⟩ := hs1.open_
 obtain ⟨Ap, np, rfl, _, _, hlp, hAp⟩ := hs2.open_
 obtain ⟨Ad, nd, rfl, _, _, hld, hAd⟩ := hs3.open_
 obtain ⟨As, ns, rfl, _, _, hls, hAs⟩ := hs4.open_
 obtain ⟨Ah, nh, rfl, _, _, hlh, hAh⟩ := hs5.open_
 clear hAc hAp hAs hAh hs4 hs5
 have HB := fun w hv1 hv2 => basin_CheckBasin s.basin (.slice Ac s.basin.cells.length nc) (.slice Ap s.basin.pairs.length np) w hv1 hv2
 have HR := hide (fun w hv => basin_rising (.slice Ad s.days.length nd) s.days w hv)
 unfold Scene.v
 simp only [Basin.v] at HB
 replace hs1 := hide hs1
 replace hs2 := hide hs2
 replace hs3 := hide hs3
 replace hAd := hide hAd
 cases hb : basinOk s.basin with
 | false =>
  rw [sceneE_basin hb]
  rw [basinE_of hb] at HB
  simp only [Bool.false_eq_true, if_false] at HB
  replace HB := hide HB
  clear hb h HR hs3
  go_enter Tryz.func55, Tryz.ntmps55
  go_wp2_with (first | (go_at_call 128; refine (HB.out _ (hs1.out.mono (below1 _ _)) (hs2.out.mono (below1 _ _))).mono ?_; clear HB; rintro e w1 ⟨rfl, hb1⟩; have hc1 := fun o => (bcell hb1).1 w.heap.size o (by simp <;> omega)))
  go_ret
  exact ⟨rfl, bup (below1 _ _) hb1⟩
 | true =>
  have hd : daysOk s.days = false := by rcases h with h | h; (rw [hb] at h; cases h); exact h
  rw [sceneE_days hb hd]
  rw [basinE_of hb] at HB
  simp only [if_true] at HB
  replace HB := hide HB
  have hB := daysOk_false hd
  clear hb h hd
  rcases hB with h1 | ⟨h1, h2⟩ | ⟨h1, h2, x, y, hx, hy, hxy⟩
  ·go_enter Tryz.func55, Tryz.ntmps55
   go_wp2_with (first | (go_at_call 128; refine (HB.out _ (hs1.out.mono (below1 _ _)) (hs2.out.mono (below1 _ _))).mono ?_; clear HB; rintro e w1 ⟨rfl, hb1⟩; have hc1 := fun o => (bcell hb1).1 w.heap.size o (by simp <;> omega)) | (go_at_call 129; refine (basin_from _ _ _ _).mono ?_; rintro e w' ⟨rfl, rfl⟩))
   go_ret
   exact ⟨rfl, bup (below1 _ _) hb1⟩
  ·rw [h2] at HR
   go_enter Tryz.func55, Tryz.ntmps55
   go_wp2_with (first | (go_at_call 128; refine (HB.out _ (hs1.out.mono (below1 _ _)) (hs2.out.mono (below1 _ _))).mono ?_; clear HB; rintro e w1 ⟨rfl, hb1⟩; have hc1 := fun o => (bcell hb1).1 w.heap.size o (by simp <;> omega)) | (go_at_call 129; refine (basin_from _ _ _ _).mono ?_; rintro e w' ⟨rfl, rfl⟩) | (go_at_call 130; refine (HR.out _ (hs3.out.mono (bup (below1 _ _) hb1))).mono ?_; clear HR; rintro e w2 ⟨rfl, hb2⟩; have hc2 := fun o => (bcell hb2).1 w.heap.size o (Nat.lt_of_lt_of_le (by simp) hb1.size)))
   go_ret
   exact ⟨rfl, bup (bup (below1 _ _) hb1) hb2⟩
  ·have hl := inB_true.1 h1
   obtain ⟨g, off, rfl, hbw⟩ := hAd.out 0 (by omega)
   obtain ⟨hg, e0⟩ := hs3.out.int_at hx
   obtain ⟨_, e1⟩ := hs3.out.int_at hy
   rw [Nat.add_zero] at e0
   have hl1 : 1 ≤ s.days.length := by omega
   have hl2 : s.days.length ≤ 16 := by omega
   rw [h2] at HR
   clear h2 hx hy
   rcases hxy with hx0 | ⟨hx0, hy0⟩
   ·have hx1 : decide (x < 0) = true := by simpa using hx0
    go_enter Tryz.func55, Tryz.ntmps55
    go_wp2_with (first | (go_at_call 128; refine (HB.out _ (hs1.out.mono (below1 _ _)) (hs2.out.mono (below1 _ _))).mono ?_; clear HB; rintro e w1 ⟨rfl, hb1⟩; have hc1 := fun o => (bcell hb1).1 w.heap.size o (by simp <;> omega)) | (go_at_call 129; refine (basin_from _ _ _ _).mono ?_; rintro e w' ⟨rfl, rfl⟩) | (go_at_call 130; refine (HR.out _ (hs3.out.mono (bup (below1 _ _) hb1))).mono ?_; clear HR; rintro e w2 ⟨rfl, hb2⟩; have hc2 := fun o => (bcell hb2).1 w.heap.size o (Nat.lt_of_lt_of_le (by simp) hb1.size); have hg2 := fun o => (bup (bup (below1 w _) hb1) hb2).cell (p := ⟨g, o, none⟩) hg))
    go_ret
    exact ⟨rfl, bup (bup (below1 _ _) hb1) hb2⟩
   ·have hx1 : decide (x < 0) = false := by simpa using hx0
    have hy1 : decide (1048576 < y) = true := by simpa using hy0
    go_enter Tryz.func55, Tryz.ntmps55
    go_wp2_with (first | (go_at_call 128; refine (HB.out _ (hs1.out.mono (below1 _ _)) (hs2.out.mono (below1 _ _))).mono ?_; clear HB; rintro e w1 ⟨rfl, hb1⟩; have hc1 := fun o => (bcell hb1).1 w.heap.size o (by simp <;> omega)) | (go_at_call 129; refine (basin_from _ _ _ _).mono ?_; rintro e w' ⟨rfl, rfl⟩) | (go_at_call 130; refine (HR.out _ (hs3.out.mono (bup (below1 _ _) hb1))).mono ?_; clear HR; rintro e w2 ⟨rfl, hb2⟩; have hc2 := fun o => (bcell hb2).1 w.heap.size o (Nat.lt_of_lt_of_le (by simp) hb1.size); have hg2 := fun o => (bup (bup (below1 w _) hb1) hb2).cell (p := ⟨g, o, none⟩) hg))
    go_ret
    exact ⟨rfl, bup (bup (below1 _ _) hb1) hb2⟩

structure ScnAt (w : World) (B : Nat) (s : Scene) (V : SceneV) : Prop where
 lt : B < w.heap.size
 c0 : w.cell? ⟨B, 0, none⟩ = some V.cells
 c1 : w.cell? ⟨B, 1, none⟩ = some V.pairs
 c2 : w.cell? ⟨B, 2, none⟩ = some (I s.basin.gain)
 c3 : w.cell? ⟨B, 3, none⟩ = some (I s.basin.slack)
 c4 : w.cell? ⟨B, 4, none⟩ = some (I s.basin.deep)
 c5 : w.cell? ⟨B, 5, none⟩ = some V.days
 c6 : w.cell? ⟨B, 6, none⟩ = some V.sights
 c7 : w.cell? ⟨B, 7, none⟩ = some V.changes
theorem ScnAt.below {w w' : World} {B B' : Nat} {s : Scene} {V : SceneV} (h : ScnAt w B s V) (hb : Below B' w w') (hB : B < B') : ScnAt w' B s V := by
 have e := fun o => hb.cell (p := ⟨B, o, none⟩) hB
 exact ⟨Nat.lt_of_lt_of_le h.lt hb.size, (e 0).trans h.c0, (e 1).trans h.c1, (e 2).trans h.c2, (e 3).trans h.c3, (e 4).trans h.c4, (e 5).trans h.c5, (e 6).trans h.c6, (e 7).trans h.c7⟩
theorem ScnAt.grow {w w' : World} {B : Nat} {s : Scene} {V : SceneV} (h : ScnAt w B s V) (hb : Below w.heap.size w w') : ScnAt w' B s V := h.below hb h.lt
theorem ScnAt.new (w : World) (s : Scene) (V : SceneV) (t : Nat) : ScnAt (w.alloc (.cells #[V.cells, V.pairs, I s.basin.gain, I s.basin.slack, I s.basin.deep, V.days, V.sights, V.changes] t)) w.heap.size s V := by
 refine ⟨by simp, ?_, ?_, ?_, ?_, ?_, ?_, ?_, ?_⟩ <;> simp [go_sem]

theorem basin_Check_many (s : Scene) (V : SceneV) (w : World) (hs : SceneAt w s V) (hb : basinOk s.basin = true) (hd : daysOk s.days = true) (hm : 256 < s.sights.length ∨ 256 < s.changes.length) :
  Calls Tryz.prog 55 #[s.v V] w fun e w' => e = .returned (I (sceneE s)) ∧ Below w.heap.size w w' := by
 obtain ⟨vc, vp, vd, vs, vh⟩ := V
 have hs1 : Sl w 4 Cell.cells vc s.basin.cells := hs.cells
 have hs2 : Sl w 2 pairC vp s.basin.pairs := hs.pairs
 have hs3 : Sl w 1 intC vd s.days := hs.days
 have hs4 : Sl w 5 Sight.cells vs s.sights := hs.sights
 have hs5 : Sl w 5 Change.cells vh s.changes := hs.changes
 obtain ⟨Ac, nc, rfl, _, _, hlc, hAc⟩ := hs1.open_
 obtain ⟨Ap, np, rfl, _, _, hlp, hAp⟩ := hs2.open_
 obtain ⟨Ad, nd, rfl, _, _, hld, hAd⟩ := hs3.open_
 obtain ⟨As, ns, rfl, _, _, hls, hAs⟩ := hs4.open_
 obtain ⟨Ah, nh, rfl, _, _, hlh, hAh⟩ := hs5.open_
 clear hAc hAp
 have HB := fun w hv1 hv2 => basin_CheckBasin s.basin (.slice Ac s.basin.cells.length nc) (.slice Ap s.basin.pairs.length np) w hv1 hv2
 have HR := hide (fun w hv => basin_rising (.slice Ad s.days.length nd) s.days w hv)
 have HS := fun x w h => basin_sighted s ⟨.slice Ac s.basin.cells.length nc, .slice Ap s.basin.pairs.length np, .slice Ad s.days.length nd, .slice As s.sights.length ns, .slice Ah s.changes.length nh⟩ x w h
 have HC := fun x w h => basin_changed s ⟨.slice Ac s.basin.cells.length nc, .slice Ap s.basin.pairs.length np, .slice Ad s.days.length nd, .slice As s.sights.length ns, .slice Ah s.changes.length nh⟩ x w h
 unfold Scene.v
 simp only [Basin.v] at HB
 simp only [Scene.v] at HS HC
 replace HS := hide HS
 replace HC := hide HC
 replace hs1 := hide hs1
 replace hs2 := hide hs2
 replace hs3 := hide hs3
 replace hs4 := hide hs4
 replace hs5 := hide hs5
 replace hs := hide hs
 replace hAd := hide hAd
 replace hAs := hide hAs
 replace hAh := hide hAh
 rw [basinE_of hb] at HB
 simp only [if_true] at HB
 replace HB := hide HB
 obtain ⟨h1, h2, x, y, hx, hy, hx0, hy0⟩ := daysOk_true hd
 have hl := inB_true.1 h1
 obtain ⟨g, off, rfl, hbw⟩ := hAd.out 0 (by omega)
 obtain ⟨hg, e0⟩ := hs3.out.int_at hx
 obtain ⟨_, e1⟩ := hs3.out.int_at hy
 rw [Nat.add_zero] at e0
 have hl1 : 1 ≤ s.days.length := by omega
 have hl2 : s.days.length ≤ 16 := by omega
 rw [h2] at HR
 clear h2 hx hy
 have hx1 : decide (x < 0) = false := by simpa using hx0
 have hy1 : decide (1048576 < y) = false := by simpa using hy0
 clear hs HS HC hs4 hs5 hAs hAh
 rw [sceneE_many hb hd hm]
 clear hb hd
 rcases Nat.lt_or_ge 256 s.sights.length with h3 | h3
 ·have i1 : decide ((256 : Int) < (s.sights.length : Int)) = true := by simp; omega
  have i2 : decide (256 < s.sights.length) = true := by simp; omega
  go_enter Tryz.func55, Tryz.ntmps55
  go_wp2_with (first | (go_at_call 128; refine (HB.out _ (hs1.out.mono (below1 _ _)) (hs2.out.mono (below1 _ _))).mono ?_; clear HB; rintro e w1 ⟨rfl, hb1⟩; have hc1 := fun o => (bcell hb1).1 w.heap.size o (by simp <;> omega)) | (go_at_call 129; refine (basin_from _ _ _ _).mono ?_; rintro e w' ⟨rfl, rfl⟩) | (go_at_call 130; refine (HR.out _ (hs3.out.mono (bup (below1 _ _) hb1))).mono ?_; clear HR; rintro e w2 ⟨rfl, hb2⟩; have hc2 := fun o => (bcell hb2).1 w.heap.size o (Nat.lt_of_lt_of_le (by simp) hb1.size); have hg2 := fun o => (bup (bup (below1 w _) hb1) hb2).cell (p := ⟨g, o, none⟩) hg))
  go_ret
  exact ⟨rfl, bup (bup (below1 _ _) hb1) hb2⟩
 ·have i1 : decide ((256 : Int) < (s.sights.length : Int)) = false := by simp; omega
  have i2 : decide (256 < s.sights.length) = false := by simp; omega
  have i3 : decide ((256 : Int) < (s.changes.length : Int)) = true := by simp; omega
  have i4 : decide (256 < s.changes.length) = true := by simp; omega
  go_enter Tryz.func55, Tryz.ntmps55
  go_wp2_with (first | (go_at_call 128; refine (HB.out _ (hs1.out.mono (below1 _ _)) (hs2.out.mono (below1 _ _))).mono ?_; clear HB; rintro e w1 ⟨rfl, hb1⟩; have hc1 := fun o => (bcell hb1).1 w.heap.size o (by simp <;> omega)) | (go_at_call 129; refine (basin_from _ _ _ _).mono ?_; rintro e w' ⟨rfl, rfl⟩) | (go_at_call 130; refine (HR.out _ (hs3.out.mono (bup (below1 _ _) hb1))).mono ?_; clear HR; rintro e w2 ⟨rfl, hb2⟩; have hc2 := fun o => (bcell hb2).1 w.heap.size o (Nat.lt_of_lt_of_le (by simp) hb1.size); have hg2 := fun o => (bup (bup (below1 w _) hb1) hb2).cell (p := ⟨g, o, none⟩) hg))
  go_ret
  exact ⟨rfl, bup (bup (below1 _ _) hb1) hb2⟩

theorem basin_Check_walk (s : Scene) (V : SceneV) (w : World) (hs : SceneAt w s V) (hb : basinOk s.basin = true) (hd : daysOk s.days = true) (hm : s.sights.length ≤ 256 ∧ s.changes.length ≤ 256) :
  Calls Tryz.prog 55 #[s.v V] w fun e w' => e = .returned (I (sceneE s)) ∧ Below w.heap.size w w' := by
 obtain ⟨vc, vp, vd, vs, vh⟩ := V
 have hs1 : Sl w 4 Cell.cells vc s.basin.cells := hs.cells
 have hs2 : Sl w 2 pairC vp s.basin.pairs := hs.pairs
 have hs3 : Sl w 1 intC vd s.days := hs.days
 have hs4 : Sl w 5 Sight.cells vs s.sights := hs.sights
 have hs5 : Sl w 5 Change.cells vh s.changes := hs.changes
 obtain ⟨Ac, nc, rfl, _, _, hlc, hAc⟩ := hs1.open_
 obtain ⟨Ap, np, rfl, _, _, hlp, hAp⟩ := hs2.open_
 obtain ⟨Ad, nd, rfl, _, _, hld, hAd⟩ := hs3.open_
 obtain ⟨As, ns, rfl, _, _, hls, hAs⟩ := hs4.open_
 obtain ⟨Ah, nh, rfl, _, _, hlh, hAh⟩ := hs5.open_
 clear hAc hAp
 have HB := fun w hv1 hv2 => basin_CheckBasin s.basin (.slice Ac s.basin.cells.length nc) (.slice Ap s.basin.pairs.length np) w hv1 hv2
 have HR := hide (fun w hv => basin_rising (.slice Ad s.days.length nd) s.days w hv)
 have HS := fun x w h => basin_sighted s ⟨.slice Ac s.basin.cells.length nc, .slice Ap s.basin.pairs.length np, .slice Ad s.days.length nd, .slice As s.sights.length ns, .slice Ah s.changes.length nh⟩ x w h
 have HC := fun x w h => basin_changed s ⟨.slice Ac s.basin.cells.length nc, .slice Ap s.basin.pairs.length np, .slice Ad s.days.length nd, .slice As s.sights.length ns, .slice Ah s.changes.length nh⟩ x w h
 unfold Scene.v
 simp only [Basin.v] at HB
 simp only [Scene.v] at HS HC
 replace HS := hide HS
 replace HC := hide HC
 replace hs1 := hide hs1
 replace hs2 := hide hs2
 replace hs3 := hide hs3
 replace hs4 := hide hs4
 replace hs5 := hide hs5
 replace hs := hide hs
 replace hAd := hide hAd
 replace hAs := hide hAs
 replace hAh := hide hAh
 rw [basinE_of hb] at HB
 simp only [if_true] at HB
 replace HB := hide HB
 obtain ⟨h1, h2, x, y, hx, hy, hx0, hy0⟩ := daysOk_true hd
 have hl := inB_true.1 h1
 obtain ⟨g, off, rfl, hbw⟩ := hAd.out 0 (by omega)
 obtain ⟨hg, e0⟩ := hs3.out.int_at hx
 obtain ⟨_, e1⟩ := hs3.out.int_at hy
 rw [Nat.add_zero] at e0
 have hl1 : 1 ≤ s.days.length := by omega
 have hl2 : s.days.length ≤ 16 := by omega
 rw [h2] at HR
 clear h2 hx hy
 have hx1 : decide (x < 0) = false := by simpa using hx0
 have hy1 : decide (1048576 < y) = false := by simpa using hy0
 have hbad1 := hide (fun k x (hx : s.sights[k]? = some x) (h : sightOk s x = false) => sceneE_sight hb hd hm (all_bad hx h))
 have hbad2 := hide (fun k x (ha : s.sights.all (sightOk s) = true) (hx : s.changes[k]? = some x) (h : changeOk s x = false) => sceneE_change hb hd hm ha (all_bad hx h))
 have hgood := hide (fun ha hc => sceneE_all hb hd hm ha hc)
 clear hb hd
 obtain ⟨E, hE⟩ : ∃ E, sceneE s = E := ⟨_, rfl⟩
 rw [hE] at hbad1 hbad2 hgood ⊢
 clear hE
 obtain ⟨hm1, hm2⟩ := hm
 have i1 : decide ((256 : Int) < (s.sights.length : Int)) = false := by simp; omega
 have i2 : decide (256 < s.sights.length) = false := by simp; omega
 have i3 : decide ((256 : Int) < (s.changes.length : Int)) = false := by simp; omega
 have i4 : decide (256 < s.changes.length) = false := by simp; omega
 go_enter Tryz.func55, Tryz.ntmps55
 go_wp2_with (first | (go_at_call 128; refine (HB.out _ (hs1.out.mono (below1 _ _)) (hs2.out.mono (below1 _ _))).mono ?_; clear HB; rintro e w1 ⟨rfl, hb1⟩; have hc1 := fun o => (bcell hb1).1 w.heap.size o (by simp <;> omega)) | (go_at_call 129; refine (basin_from _ _ _ _).mono ?_; rintro e w' ⟨rfl, rfl⟩) | (go_at_call 130; refine (HR.out _ (hs3.out.mono (bup (below1 _ _) hb1))).mono ?_; clear HR; rintro e w2 ⟨rfl, hb2⟩; have hc2 := fun o => (bcell hb2).1 w.heap.size o (Nat.lt_of_lt_of_le (by simp) hb1.size); have hg2 := fun o => (bup (bup (below1 w _) hb1) hb2).cell (p := ⟨g, o, none⟩) hg))
 clear hc1 hc2 hg2 e0 e1 hx1 hy1 i1 i2 i3 i4 h1
 obtain ⟨W0, hW0⟩ : ∃ W0, W0 = w.alloc (.cells #[.slice Ac s.basin.cells.length nc, .slice Ap s.basin.pairs.length np, I s.basin.gain, I s.basin.slack, I s.basin.deep, .slice (some ⟨g, off, none⟩) s.days.length nd, .slice As s.sights.length ns, .slice Ah s.changes.length nh] 42) := ⟨_, rfl⟩
 have hK : ScnAt W0 w.heap.size s ⟨.slice Ac s.basin.cells.length nc, .slice Ap s.basin.pairs.length np, .slice (some ⟨g, off, none⟩) s.days.length nd, .slice As s.sights.length ns, .slice Ah s.changes.length nh⟩ := by rw [hW0]; exact ScnAt.new w s ⟨.slice Ac s.basin.cells.length nc, .slice Ap s.basin.pairs.length np, .slice (some ⟨g, off, none⟩) s.days.length nd, .slice As s.sights.length ns, .slice Ah s.changes.length nh⟩ _
 have hbl : Below w.heap.size w w2 := bup (bup (below1 _ _) hb1) hb2
 rw [← hW0] at hb1
 replace hK := hide ((hK.grow hb1).grow hb2)
 clear hW0 hb1 hb2
 go_loopw [56] (fun i wr => ∃ k : Nat, k ≤ s.sights.length ∧ i = I k ∧ Hid (PassTo (sightOk s) s.sights k) ∧ Below w2.heap.size w2 wr) (fun i _ => s.sights.length - (intOf i).toNat)
 case atStart => exact ⟨0, Nat.zero_le _, rfl, hide (PassTo.zero _ _), Below.refl _ _⟩
 case round =>
  obtain ⟨k, hk, rfl, hn, hb⟩ := hrel
  obtain ⟨hg0, q0, q1, q2, q3, q4, q5, q6, q7⟩ := hK.out.grow hb
  by_cases hlt : k < s.sights.length
  ·obtain ⟨gs, os, rfl, hsw⟩ := hAs.out k hlt
   obtain ⟨x, hx⟩ := getElem?_of_lt hlt
   obtain ⟨hbx, e0, e1, e2, e3, e4⟩ := ((unhide hs4).mono (bup hbl hb)).sight_at hx
   have H1 := fun w h => HS.out x w h
   cases hok : sightOk s x with
   | false =>
    have hfin := hide (hbad1.out k x hx hok)
    rw [hok] at H1
    replace H1 := hide H1
    clear hbad1 hbad2 hgood hx hn hok HC HS
    go_wp2_with (first | (go_at_call 125; refine (H1.out _ (hs.out.mono (bup (bup hbl hb) (below1 _ _)))).mono ?_; rintro e w3 ⟨rfl, hb3⟩))
    go_ret
    exact ⟨ret_int hfin.out.symm, bup (bup (bup hbl hb) (below1 _ _)) hb3⟩
   | true =>
    have hg := hide (hn.out.succ hx hok)
    rw [hok] at H1
    replace H1 := hide H1
    clear hbad1 hbad2 hgood hx hn hok HC HS
    go_wp2_with (first | (go_at_call 125; refine (H1.out _ (hs.out.mono (bup (bup hbl hb) (below1 _ _)))).mono ?_; rintro e w3 ⟨rfl, hb3⟩))
    go_roundw
    case rel => exact ⟨k + 1, by omega, by go_num, hg, bup hb (bup (below1 _ _) hb3)⟩
    case measure => simp [intOf]; omega
  ·have he : k = s.sights.length := by omega
   subst he
   have ha := hide (PassTo.all hn.out)
   clear hbad1 hn
   go_wp2_with fail
   clear hg0 q0 q1 q2 q3 q4 q5 q6 q7
   replace hK := hide (hK.out.grow hb)
   have hbl' := bup hbl hb
   clear hbl hb
   go_loopw [68] (fun i wr' => ∃ k : Nat, k ≤ s.changes.length ∧ i = I k ∧ Hid (PassTo (changeOk s) s.changes k) ∧ Below wr.heap.size wr wr') (fun i _ => s.changes.length - (intOf i).toNat)
   case atStart => exact ⟨0, Nat.zero_le _, rfl, hide (PassTo.zero _ _), Below.refl _ _⟩
   case round =>
    obtain ⟨k, hk, rfl, hn, hb⟩ := hrel
    obtain ⟨hg0, q0, q1, q2, q3, q4, q5, q6, q7⟩ := hK.out.grow hb
    by_cases hlt : k < s.changes.length
    ·obtain ⟨gs, os, rfl, hsw⟩ := hAh.out k hlt
     obtain ⟨x, hx⟩ := getElem?_of_lt hlt
     obtain ⟨hbx, e0, e1, e2, e3, e4⟩ := ((unhide hs5).mono (bup hbl' hb)).change_at hx
     have H1 := fun w h => HC.out x w h
     cases hok : changeOk s x with
     | false =>
      have hfin := hide (hbad2.out k x ha.out hx hok)
      rw [hok] at H1
      replace H1 := hide H1
      clear hbad2 hgood hx hn hok HC HS
      go_wp2_with (first | (go_at_call 131; refine (H1.out _ (hs.out.mono (bup (bup hbl' hb) (below1 _ _)))).mono ?_; rintro e w3 ⟨rfl, hb3⟩))
      go_ret
      exact ⟨ret_int hfin.out.symm, bup (bup (bup hbl' hb) (below1 _ _)) hb3⟩
     | true =>
      have hg := hide (hn.out.succ hx hok)
      rw [hok] at H1
      replace H1 := hide H1
      clear hbad2 hgood hx hn hok HC HS
      go_wp2_with (first | (go_at_call 131; refine (H1.out _ (hs.out.mono (bup (bup hbl' hb) (below1 _ _)))).mono ?_; rintro e w3 ⟨rfl, hb3⟩))
      go_roundw
      case rel => exact ⟨k + 1, by omega, by go_num, hg, bup hb (bup (below1 _ _) hb3)⟩
      case measure => simp [intOf]; omega
    ·have he : k = s.changes.length := by omega
     subst he
     have hfin := hide (hgood.out ha.out (PassTo.all hn.out))
     clear hbad2 hn hgood
     go_wp2_with fail
     go_ret
     exact ⟨ret_int hfin.out.symm, bup hbl' hb⟩

theorem basin_Check (s : Scene) (V : SceneV) (w : World) (hs : SceneAt w s V) : Calls Tryz.prog 55 #[s.v V] w fun e w' => e = .returned (I (sceneE s)) ∧ Below w.heap.size w w' := by
 cases hb : basinOk s.basin with
 | false => exact basin_Check_bad s V w hs (.inl hb)
 | true =>
  cases hd : daysOk s.days with
  | false => exact basin_Check_bad s V w hs (.inr hd)
  | true =>
   by_cases hm : 256 < s.sights.length ∨ 256 < s.changes.length
   ·exact basin_Check_many s V w hs hb hd hm
   ·exact basin_Check_walk s V w hs hb hd (by omega)
end Go.Proofs.YtgbbljfmngmjeaaGreat
