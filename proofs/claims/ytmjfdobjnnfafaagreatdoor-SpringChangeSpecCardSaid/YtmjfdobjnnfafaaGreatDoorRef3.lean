/- The reference of chapter 6: logs and springs. Conditions stand in the theorems. -/
import Derived.Test.YtmjfdobjnnfafaaGreatDoorRef2
import Derived.Test.YtmjfdobjnnfafaaGreatDoorSpring2Pack
set_option linter.all false
set_option maxRecDepth 100000
set_option maxHeartbeats 2000000
namespace Go.Proofs.YtmjfdobjnnfafaaGreatDoor
open Go.RowKit

def seqAt (c : Climate) (l : List Weather) (i : Nat) : Bool := weatherOk c (l.getD i default) && (i == 0 || nearB c (l.getD (i - 1) default) (l.getD i default))
def seqB (c : Climate) (l : List Weather) : Bool := (List.range l.length).all (seqAt c l)
theorem seqAt_head {c : Climate} {l : List Weather} {k : Nat} {x : Weather} (hx : l[k]? = some x) (h : weatherOk c x = false) : seqAt c l k = false := by simp [seqAt, hx, h]
theorem seqAt_zero {c : Climate} {l : List Weather} {x : Weather} (hx : l[0]? = some x) (h : weatherOk c x = true) : seqAt c l 0 = true := by simp [seqAt, hx, h]
theorem seqAt_pos {c : Climate} {l : List Weather} {k : Nat} {x y : Weather} (hk : 0 < k) (hx : l[k]? = some x) (hy : l[k - 1]? = some y) (h : weatherOk c x = true) : seqAt c l k = nearB c y x := by
 have : (k == 0) = false := by simp; omega
 simp [seqAt, hx, hy, h, this]
theorem seqAt_ok {c : Climate} {l : List Weather} {k : Nat} {x : Weather} (hx : l[k]? = some x) (h : seqAt c l k = true) : weatherOk c x = true := by
 simp only [seqAt, getD_of hx, Bool.and_eq_true] at h; exact h.1
def succRAt (l : List Weather) (i : Nat) : Bool := inB (l.getD i default).day 0 1048576 && (i == 0 || decide ((l.getD (i - 1) default).day + 1 = (l.getD i default).day))
theorem succRAt_pos {l : List Weather} {k : Nat} {x y : Weather} (hk : 0 < k) (hx : l[k]? = some x) (hy : l[k - 1]? = some y) : succRAt l k = (inB x.day 0 1048576 && decide (y.day + 1 = x.day)) := by
 have : (k == 0) = false := by simp; omega
 simp [succRAt, hx, hy, this]
theorem succRAt_zero {l : List Weather} {x : Weather} (hx : l[0]? = some x) : succRAt l 0 = inB x.day 0 1048576 := by simp [succRAt, hx]
theorem succR_to {l : List Weather} {n : Nat} (hn : n ≤ l.length) : AllTo (succRAt l) n ↔ AllTo (succAt l) n := by
 induction n with
 | zero => exact ⟨fun _ => AllTo.zero _, fun _ => AllTo.zero _⟩
 | succ k ih =>
  obtain ⟨x, hx⟩ := getElem?_of_lt (xs := l) (k := k) (by omega)
  obtain ⟨z, hz⟩ := getElem?_of_lt (xs := l) (k := 0) (by omega)
  have h0 := succAt_of hx hz
  have key : AllTo (succAt l) k → (succRAt l k = succAt l k) := fun ha => by
   rcases Nat.lt_or_ge 0 k with hk | hk
   ·obtain ⟨y, hy⟩ := getElem?_of_lt (xs := l) (k := k - 1) (by omega)
    have h1 := ha (k - 1) (by omega)
    rw [succAt_of hy hz] at h1
    simp only [Bool.and_eq_true, decide_eq_true_eq] at h1
    rw [succRAt_pos hk hx hy, h0]
    congr 1
    apply decide_eq_decide.2
    omega
   ·have : k = 0 := by omega
    subst this
    have hxz : x = z := Option.some.inj (hx.symm.trans hz)
    subst hxz
    rw [succRAt_zero hx, h0]
    simp
  constructor
  ·intro ha i hi
   have ha' : AllTo (succAt l) k := (ih (by omega)).1 fun j hj => ha j (by omega)
   rcases Nat.lt_or_ge i k with h | h
   ·exact ha' i h
   ·have : i = k := by omega
    subst this
    rw [← key ha']
    exact ha i (by omega)
  ·intro ha i hi
   have ha' : AllTo (succAt l) k := fun j hj => ha j (by omega)
   rcases Nat.lt_or_ge i k with h | h
   ·exact (ih (by omega)).2 ha' i h
   ·have : i = k := by omega
    subst this
    rw [key ha']
    exact ha i (by omega)
theorem succB_R {l : List Weather} : succB l = (List.range l.length).all (succRAt l) := by
 have h := succR_to (l := l) (n := l.length) (Nat.le_refl _)
 cases h1 : succB l with
 | true =>
  symm
  exact AllTo.all (h.2 fun i hi => List.all_eq_true.1 h1 i (List.mem_range.2 hi))
 | false =>
  cases h2 : (List.range l.length).all (succRAt l) with
  | false => rfl
  | true =>
   have : succB l = true := AllTo.all (h.1 fun i hi => List.all_eq_true.1 h2 i (List.mem_range.2 hi))
   rw [h1] at this
   cases this
/-- With days that follow each other, a sequence is linked. -/
theorem seq_linked {c : Climate} {l : List Weather} (h : succB l = true) : seqB c l = linkedB c l := by
 unfold seqB linkedB
 have hs : ∀ i, i < l.length → succRAt l i = true := fun i hi => by
  rw [succB_R] at h
  exact List.all_eq_true.1 h i (List.mem_range.2 hi)
 have key : ∀ i ∈ List.range l.length, seqAt c l i = linkedAt c l i := fun k hk => by
  have hk := List.mem_range.1 hk
  obtain ⟨x, hx⟩ := getElem?_of_lt hk
  rcases Nat.lt_or_ge 0 k with hk0 | hk0
  ·obtain ⟨y, hy⟩ := getElem?_of_lt (xs := l) (k := k - 1) (by omega)
   cases hok : weatherOk c x with
   | false => rw [seqAt_head hx hok, linkedAt_head hx hok]
   | true =>
    have := hs k hk
    rw [succRAt_pos hk0 hx hy] at this
    simp only [Bool.and_eq_true, decide_eq_true_eq] at this
    have hd : decide (y.day < x.day) = true := by simp; omega
    rw [seqAt_pos hk0 hx hy hok, linkedAt_pos hk0 hx hy hok, hd]
    simp
  ·have : k = 0 := by omega
   subst this
   cases hok : weatherOk c x with
   | false => rw [seqAt_head hx hok, linkedAt_head hx hok]
   | true => rw [seqAt_zero hx hok, linkedAt_zero hx hok]
 rw [Bool.eq_iff_iff, List.all_eq_true, List.all_eq_true]
 exact ⟨fun h i hi => (key i hi) ▸ h i hi, fun h i hi => (key i hi).symm ▸ h i hi⟩
theorem ref_sequence (c : Climate) (v : Value) (l : List Weather) (w : World) (hc : ClimOk c) (hv : Sl w 3 Weather.cells v l) : Calls Tryz.prog 95 #[c.v, v] w fun e w' => e = .returned (.bool (seqB c l)) ∧ Below w.heap.size w w' := by
 obtain ⟨A, n, rfl, _, _, hlen, hA⟩ := hv.open_
 replace hv := hide hv
 replace hA := hide hA
 have hbad : ∀ k, k < l.length → seqAt c l k = false → seqB c l = false := fun k hk h => all_of_not hk h
 replace hbad := hide hbad
 have HW := fun x w => ref_valid c x w
 have HN := fun x y hx hy w => ref_near c x y w hc hx hy
 unfold Climate.v Weather.v at *
 replace HW := hide HW
 replace HN := hide HN
 go_enter Tryz.func95, Tryz.ntmps95
 go_wp2_with fail
 obtain ⟨W0, hW0⟩ : ∃ W0, W0 = w.alloc (.cells (c8 c) 25) := ⟨_, rfl⟩
 have hK : ClimAt c w.heap.size W0 := by rw [hW0]; exact ClimAt.new _ _ _
 have hbl : Below w.heap.size w W0 := by rw [hW0]; exact below1 _ _
 rw [← hW0]
 clear hW0
 go_loopw [5] (fun i wr => ∃ k : Nat, k ≤ l.length ∧ i = I k ∧ Hid (AllTo (seqAt c l) k) ∧ Below W0.heap.size W0 wr) (fun i _ => l.length - (intOf i).toNat)
 case atStart => exact ⟨0, Nat.zero_le _, rfl, hide (AllTo.zero _), Below.refl _ _⟩
 case round =>
  obtain ⟨k, hk, rfl, hn, hb⟩ := hrel
  by_cases hlt : k < l.length
  ·obtain ⟨b, off, rfl, hbw⟩ := hA.out k hlt
   obtain ⟨x, hx⟩ := getElem?_of_lt hlt
   obtain ⟨hbx, e0, e1, e2⟩ := ((unhide hv).mono (bup hbl hb)).weather_at hx
   obtain ⟨hgx, q0, q1, q2, q3, q4, q5, q6, q7⟩ := hK.grow hb
   clear hA hK
   rcases bcase (weatherOk c x) with hok | hok
   ·have hfin := hide (hbad.out k hlt (seqAt_head hx hok))
    have H1 := HW.out x
    rw [hok] at H1
    replace H1 := hide H1
    replace hok := hide hok
    clear hbad hx hn HN HW
    go_wp2_with fail
    (refine wp_region_grow (by kernel_rfl) (by kernel_rfl) ?_; (repeat (first | go_big_quiet_skip | (go_big_quiet_want; go_big_quiet_op; first | go_big_quiet_on | (apply Exists.intro; refine ⟨fun _ => ?_, ?_⟩; (focus ((first | (go_at_call 91; exact calls_grew (H1.out _))))); go_big_quiet_on)))); refine wpQuiet_nil ?_; rintro W1 ⟨⟨_, hW1⟩, rfl⟩)
    go_wp2_with fail
    go_ret
    exact ⟨ret_bool hfin.out.symm, bup (bup hbl hb) hW1⟩
   ·have H1 := HW.out x
    rw [hok] at H1
    replace H1 := hide H1
    rcases Nat.lt_or_ge 0 k with hk0 | hk0
    ·obtain ⟨y, hy⟩ := getElem?_of_lt (xs := l) (k := k - 1) (by omega)
     obtain ⟨_, p0, p1, p2⟩ := ((unhide hv).mono (bup hbl hb)).weather_at hy
     have hoky := seqAt_ok hy (hn.out (k - 1) (by omega))
     have hpos := seqAt_pos hk0 hx hy hok
     have H2 := hide (HN.out y x (.of hoky) (.of hok))
     replace hok := hide hok
     replace hoky := hide hoky
     rcases bcase (nearB c y x) with hnr | hnr
     ·have hfin := hide (hbad.out k hlt (by rw [hpos, hnr]))
      rw [hnr] at H2
      replace hnr := hide hnr
      clear hbad hx hn HN HW hy hpos
      go_wp2_with fail
      (refine wp_region_grow (by kernel_rfl) (by kernel_rfl) ?_; (repeat (first | go_big_quiet_skip | (go_big_quiet_want; go_big_quiet_op; first | go_big_quiet_on | (apply Exists.intro; refine ⟨fun _ => ?_, ?_⟩; (focus ((first | (go_at_call 91; exact calls_grew (H1.out _)) | (go_at_call 92; exact calls_grew (H2.out _))))); go_big_quiet_on)))); refine wpQuiet_nil ?_; rintro W1 ⟨⟨_, hW1⟩, rfl⟩)
      go_wp2_with fail
      go_ret
      exact ⟨ret_bool hfin.out.symm, bup (bup hbl hb) hW1⟩
     ·have hg := hide (hn.out.succ (show seqAt c l k = true by rw [hpos, hnr]))
      rw [hnr] at H2
      replace hnr := hide hnr
      clear hbad hx hn HN HW hy hpos
      go_wp2_with fail
      (refine wp_region_grow (by kernel_rfl) (by kernel_rfl) ?_; (repeat (first | go_big_quiet_skip | (go_big_quiet_want; go_big_quiet_op; first | go_big_quiet_on | (apply Exists.intro; refine ⟨fun _ => ?_, ?_⟩; (focus ((first | (go_at_call 91; exact calls_grew (H1.out _)) | (go_at_call 92; exact calls_grew (H2.out _))))); go_big_quiet_on)))); refine wpQuiet_nil ?_; rintro W1 ⟨⟨_, hW1⟩, rfl⟩)
      go_wp2_with fail
      go_roundw
      case rel => exact ⟨k + 1, by omega, by go_num, hg, bup hb hW1⟩
      case measure => simp [intOf]; omega
    ·have hkd : decide (0 < k) = false := by simp; omega
     have hg := hide (hn.out.succ (show seqAt c l k = true by
      have : k = 0 := by omega
      subst this; exact seqAt_zero hx hok))
     replace hok := hide hok
     clear hbad hx hn HN HW
     go_wp2_with fail
     (refine wp_region_grow (by kernel_rfl) (by kernel_rfl) ?_; (repeat (first | go_big_quiet_skip | (go_big_quiet_want; go_big_quiet_op; first | go_big_quiet_on | (apply Exists.intro; refine ⟨fun _ => ?_, ?_⟩; (focus ((first | (go_at_call 91; exact calls_grew (H1.out _))))); go_big_quiet_on)))); refine wpQuiet_nil ?_; rintro W1 ⟨⟨_, hW1⟩, rfl⟩)
     go_wp2_with fail
     go_roundw
     case rel => exact ⟨k + 1, by omega, by go_num, hg, bup hb hW1⟩
     case measure => simp [intOf]; omega
  ·have he : k = l.length := by omega
   subst he
   have hfin := hide (show seqB c l = true from AllTo.all hn.out)
   clear hbad hn HN HW hK hA
   go_wp2_with fail
   go_ret
   exact ⟨ret_bool hfin.out.symm, bup hbl hb⟩
theorem ref_CheckLog (c : Climate) (v : Value) (l : List Weather) (w : World) (hv : Sl w 3 Weather.cells v l) : Calls Tryz.prog 26 #[c.v, v] w fun e w' => e = .returned (I (logE c l)) ∧ Below w.heap.size w w' := by
 obtain ⟨A, n, rfl, _, _, hlen, hA⟩ := hv.open_
 have H1 := fun w => ref_CheckClimate c w
 rcases bcase (climateOk c) with h1 | h1
 ·have hfin := hide (show logE c l = 61 by simp [logE, h1])
  rw [show climateE c = 61 by simp [climateE, h1]] at H1
  clear hA
  unfold Climate.v at *
  replace H1 := hide H1
  go_enter Tryz.func26, Tryz.ntmps26
  go_wp2_with (first | (go_at_call 24; refine (H1.out _).mono ?_; clear H1; rintro e w1 ⟨rfl, hb1⟩; have hc1 := fun o => (bcell hb1).1 w.heap.size o (by simp <;> omega)))
  go_ret
  exact ⟨ret_int hfin.out.symm, bup (below1 _ _) hb1⟩
 ·rw [show climateE c = 0 by simp [climateE, h1]] at H1
  rcases Nat.lt_or_ge 512 l.length with h2 | h2
  ·have hfin := hide (show logE c l = 60 by simp [logE, h1, h2])
   have i1 : decide ((512 : Int) < (l.length : Int)) = true := by simp; omega
   have i2 : decide (512 < l.length) = true := by simp; omega
   clear hA
   unfold Climate.v at *
   replace H1 := hide H1
   go_enter Tryz.func26, Tryz.ntmps26
   go_wp2_with (first | (go_at_call 24; refine (H1.out _).mono ?_; clear H1; rintro e w1 ⟨rfl, hb1⟩; have hc1 := fun o => (bcell hb1).1 w.heap.size o (by simp <;> omega)))
   go_ret
   exact ⟨ret_int hfin.out.symm, bup (below1 _ _) hb1⟩
  ·have i1 : decide ((512 : Int) < (l.length : Int)) = false := by simp; omega
   have i2 : decide (512 < l.length) = false := by simp; omega
   have hc := ClimOk.of h1
   have hno : linkedB c l = false → logE c l = 60 := fun h => by simp [logE, h1, h]
   have hyes : linkedB c l = true → logE c l = 0 := fun h => by simp only [logE, h1, h]; simp; omega
   replace hno := hide hno
   replace hyes := hide hyes
   replace hv := hide hv
   replace hA := hide hA
   have hbad : ∀ k, k < l.length → linkedAt c l k = false → linkedB c l = false := fun k hk h => all_of_not hk h
   replace hbad := hide hbad
   have HW := fun x w => ref_valid c x w
   have HN := fun x y hx hy w => ref_near c x y w hc hx hy
   unfold Climate.v Weather.v at *
   replace HW := hide HW
   replace HN := hide HN
   replace H1 := hide H1
   replace h1 := hide h1
   go_enter Tryz.func26, Tryz.ntmps26
   go_wp2_with (first | (go_at_call 24; refine (H1.out _).mono ?_; clear H1; rintro e w1 ⟨rfl, hb1⟩; have hc1 := fun o => (bcell hb1).1 w.heap.size o (by simp <;> omega)))
   have hK : ClimAt c w.heap.size w1 := (ClimAt.new c w 25).grow hb1
   have hbl := bup (below1 w _) hb1
   clear hb1 hc1
   go_wp2_with fail
   go_loopw [5] (fun i wr => ∃ k : Nat, k ≤ l.length ∧ i = I k ∧ Hid (AllTo (linkedAt c l) k) ∧ Below w1.heap.size w1 wr) (fun i _ => l.length - (intOf i).toNat)
   case atStart => exact ⟨0, Nat.zero_le _, rfl, hide (AllTo.zero _), Below.refl _ _⟩
   case round =>
    obtain ⟨k, hk, rfl, hn, hb⟩ := hrel
    by_cases hlt : k < l.length
    ·obtain ⟨b, off, rfl, hbw⟩ := hA.out k hlt
     obtain ⟨x, hx⟩ := getElem?_of_lt hlt
     obtain ⟨hbx, e0, e1, e2⟩ := ((unhide hv).mono (bup hbl hb)).weather_at hx
     obtain ⟨hgx, q0, q1, q2, q3, q4, q5, q6, q7⟩ := hK.grow hb
     clear hA hK
     rcases bcase (weatherOk c x) with hok | hok
     ·have hfin := hide (hbad.out k hlt (linkedAt_head hx hok))
      have H1 := HW.out x
      rw [hok] at H1
      replace H1 := hide H1
      replace hok := hide hok
      clear hbad hx hn HN HW
      go_wp2_with fail
      (refine wp_region_grow (by kernel_rfl) (by kernel_rfl) ?_; (repeat (first | go_big_quiet_skip | (go_big_quiet_want; go_big_quiet_op; first | go_big_quiet_on | (apply Exists.intro; refine ⟨fun _ => ?_, ?_⟩; (focus ((first | (go_at_call 91; exact calls_grew (H1.out _))))); go_big_quiet_on)))); refine wpQuiet_nil ?_; rintro W1 ⟨⟨_, hW1⟩, rfl⟩)
      go_wp2_with fail
      go_ret
      exact ⟨ret_int (hno.out (hfin.out)).symm, bup (bup hbl hb) hW1⟩
     ·have H1 := HW.out x
      rw [hok] at H1
      replace H1 := hide H1
      rcases Nat.lt_or_ge 0 k with hk0 | hk0
      ·obtain ⟨y, hy⟩ := getElem?_of_lt (xs := l) (k := k - 1) (by omega)
       obtain ⟨_, p0, p1, p2⟩ := ((unhide hv).mono (bup hbl hb)).weather_at hy
       have hoky := linkedAt_ok hy (hn.out (k - 1) (by omega))
       have hpos := linkedAt_pos hk0 hx hy hok
       have H2 := hide (HN.out y x (.of hoky) (.of hok))
       replace hok := hide hok
       replace hoky := hide hoky
       rcases ilt y.day x.day with hd | hd
       ·skip
        rcases bcase (nearB c y x) with hnr | hnr
        ·have hfin := hide (hbad.out k hlt (by rw [hpos, hnr]; simp))
         have hyd : decide (x.day ≤ y.day) = false := by simp; omega
         rw [hnr] at H2
         replace hnr := hide hnr
         clear hbad hx hn HN HW hy hpos
         go_wp2_with fail
         (refine wp_region_grow (by kernel_rfl) (by kernel_rfl) ?_; (repeat (first | go_big_quiet_skip | (go_big_quiet_want; go_big_quiet_op; first | go_big_quiet_on | (apply Exists.intro; refine ⟨fun _ => ?_, ?_⟩; (focus ((first | (go_at_call 91; exact calls_grew (H1.out _)) | (go_at_call 92; exact calls_grew (H2.out _))))); go_big_quiet_on)))); refine wpQuiet_nil ?_; rintro W1 ⟨⟨_, hW1⟩, rfl⟩)
         go_wp2_with fail
         go_ret
         exact ⟨ret_int (hno.out (hfin.out)).symm, bup (bup hbl hb) hW1⟩
        ·have hg := hide (hn.out.succ (show linkedAt c l k = true by rw [hpos, hnr]; simpa using hd))
         have hyd : decide (x.day ≤ y.day) = false := by simp; omega
         rw [hnr] at H2
         replace hnr := hide hnr
         clear hbad hx hn HN HW hy hpos
         go_wp2_with fail
         (refine wp_region_grow (by kernel_rfl) (by kernel_rfl) ?_; (repeat (first | go_big_quiet_skip | (go_big_quiet_want; go_big_quiet_op; first | go_big_quiet_on | (apply Exists.intro; refine ⟨fun _ => ?_, ?_⟩; (focus ((first | (go_at_call 91; exact calls_grew (H1.out _)) | (go_at_call 92; exact calls_grew (H2.out _))))); go_big_quiet_on)))); refine wpQuiet_nil ?_; rintro W1 ⟨⟨_, hW1⟩, rfl⟩)
         go_wp2_with fail
         go_roundw
         case rel => exact ⟨k + 1, by omega, by go_num, hg, bup hb hW1⟩
         case measure => simp [intOf]; omega
       ·have hfin := hide (hbad.out k hlt (by rw [hpos]; simp; omega))
        have hyd : decide (x.day ≤ y.day) = true := by simp; omega
        clear hbad hx hn HN HW hy hpos H2
        go_wp2_with fail
        (refine wp_region_grow (by kernel_rfl) (by kernel_rfl) ?_; (repeat (first | go_big_quiet_skip | (go_big_quiet_want; go_big_quiet_op; first | go_big_quiet_on | (apply Exists.intro; refine ⟨fun _ => ?_, ?_⟩; (focus ((first | (go_at_call 91; exact calls_grew (H1.out _))))); go_big_quiet_on)))); refine wpQuiet_nil ?_; rintro W1 ⟨⟨_, hW1⟩, rfl⟩)
        go_wp2_with fail
        go_ret
        exact ⟨ret_int (hno.out (hfin.out)).symm, bup (bup hbl hb) hW1⟩
      ·have hkd : decide (0 < k) = false := by simp; omega
       have hg := hide (hn.out.succ (show linkedAt c l k = true by
        have : k = 0 := by omega
        subst this; exact linkedAt_zero hx hok))
       replace hok := hide hok
       clear hbad hx hn HN HW
       go_wp2_with fail
       (refine wp_region_grow (by kernel_rfl) (by kernel_rfl) ?_; (repeat (first | go_big_quiet_skip | (go_big_quiet_want; go_big_quiet_op; first | go_big_quiet_on | (apply Exists.intro; refine ⟨fun _ => ?_, ?_⟩; (focus ((first | (go_at_call 91; exact calls_grew (H1.out _))))); go_big_quiet_on)))); refine wpQuiet_nil ?_; rintro W1 ⟨⟨_, hW1⟩, rfl⟩)
       go_wp2_with fail
       go_roundw
       case rel => exact ⟨k + 1, by omega, by go_num, hg, bup hb hW1⟩
       case measure => simp [intOf]; omega
    ·have he : k = l.length := by omega
     subst he
     have hfin := hide (show linkedB c l = true from AllTo.all hn.out)
     clear hbad hn HN HW hK hA
     go_wp2_with fail
     go_ret
     exact ⟨ret_int (hyes.out hfin.out).symm, bup hbl hb⟩
end Go.Proofs.YtmjfdobjnnfafaaGreatDoor
