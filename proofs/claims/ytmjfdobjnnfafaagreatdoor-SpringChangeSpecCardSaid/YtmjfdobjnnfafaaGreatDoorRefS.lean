/- The reference of layer 5: within, validCell; and when two lists of changes are the same. Conditions stand in the theorems. -/
import Derived.Test.YtmjfdobjnnfafaaGreatDoorReachPack
import Derived.Test.YtmjfdobjnnfafaaGreatDoorGrow
set_option linter.all false
set_option maxRecDepth 100000
set_option maxHeartbeats 4000000
namespace Go.Proofs.YtmjfdobjnnfafaaGreatDoor
open Go.RowKit

theorem ref5_within (n m : Int) (w : World) : Calls Tryz.prog 140 #[I n, I m] w fun e w' => e = .returned (.bool (inB n 0 m)) ∧ w = w' := by
 rcases ilt n 0 with h1 | h1
 ·have h : inB n 0 m = false := by simp [inB]; omega
  rw [h]
  clear h
  have h2 : decide (0 ≤ n) = false := decide_eq_false (by omega)
  go_enter Tryz.func140, Tryz.ntmps140
  go_wp2
  go_ret
  exact ⟨(by first | rfl | (simp <;> omega)), rfl⟩
 ·rcases ilt m n with h2 | h2
  ·have h : inB n 0 m = false := by simp [inB]; omega
   rw [h]
   clear h
   go_enter Tryz.func140, Tryz.ntmps140
   go_wp2
   go_ret
   exact ⟨(by first | rfl | (simp <;> omega)), rfl⟩
  ·have h : inB n 0 m = true := inB_true.2 ⟨h1, h2⟩
   rw [h]
   clear h
   go_enter Tryz.func140, Tryz.ntmps140
   go_wp2
   go_ret
   exact ⟨(by first | rfl | (simp <;> omega)), rfl⟩
theorem within5_is {n m : Int} {b : Bool} (h : inB n 0 m = b) (w : World) : Calls Tryz.prog 140 #[I n, I m] w fun e w' => e = .returned (.bool b) ∧ w = w' := h ▸ ref5_within n m w
theorem ref5_validCell (x : Cell) (w : World) : Calls Tryz.prog 141 #[.agg #[I x.no, I x.height, I x.aspect, I x.area]] w fun e w' => e = .returned (.bool (cellOk x)) ∧ Below w.heap.size w w' := by
 cases g0 : inB x.no 0 4095 with
 | false =>
  rw [show cellOk x = false by simp [cellOk, g0]]
  go_enter Tryz.func141, Tryz.ntmps141
  go_wp2_with (go_at_call 140; refine (within5_is (by assumption) _).mono ?_; rintro e w' ⟨rfl, rfl⟩)
  go_ret
  exact ⟨(by first | rfl | (simp <;> omega)), below1 _ _⟩
 | true =>
  cases g1 : inB x.height 0 9000 with
  | false =>
   rw [show cellOk x = false by simp [cellOk, g0, g1]]
   go_enter Tryz.func141, Tryz.ntmps141
   go_wp2_with (go_at_call 140; refine (within5_is (by assumption) _).mono ?_; rintro e w' ⟨rfl, rfl⟩)
   go_ret
   exact ⟨(by first | rfl | (simp <;> omega)), below1 _ _⟩
  | true =>
   cases g2 : inB x.aspect 0 7 with
   | false =>
    rw [show cellOk x = false by simp [cellOk, g0, g1, g2]]
    go_enter Tryz.func141, Tryz.ntmps141
    go_wp2_with (go_at_call 140; refine (within5_is (by assumption) _).mono ?_; rintro e w' ⟨rfl, rfl⟩)
    go_ret
    exact ⟨(by first | rfl | (simp <;> omega)), below1 _ _⟩
   | true =>
    rcases ilt x.area 1 with g3 | g3
    ·rw [show cellOk x = false by simp [cellOk, g0, g1, g2, inB]; omega]
     go_enter Tryz.func141, Tryz.ntmps141
     go_wp2_with (go_at_call 140; refine (within5_is (by assumption) _).mono ?_; rintro e w' ⟨rfl, rfl⟩)
     go_ret
     exact ⟨(by first | rfl | (simp <;> omega)), below1 _ _⟩
    ·rcases ilt 4096 x.area with g4 | g4
     ·rw [show cellOk x = false by simp [cellOk, g0, g1, g2, inB]; omega]
      go_enter Tryz.func141, Tryz.ntmps141
      go_wp2_with (go_at_call 140; refine (within5_is (by assumption) _).mono ?_; rintro e w' ⟨rfl, rfl⟩)
      go_ret
      exact ⟨(by first | rfl | (simp <;> omega)), below1 _ _⟩
     ·rw [show cellOk x = true by simp [cellOk, g0, g1, g2, inB_true.2 ⟨g3, g4⟩]]
      go_enter Tryz.func141, Tryz.ntmps141
      go_wp2_with (go_at_call 140; refine (within5_is (by assumption) _).mono ?_; rintro e w' ⟨rfl, rfl⟩)
      go_ret
      exact ⟨(by first | rfl | (simp <;> omega)), below1 _ _⟩
theorem Change.eq_iff {x y : Change} : x = y ↔ x.cell = y.cell ∧ x.frm = y.frm ∧ x.to = y.to ∧ x.lo = y.lo ∧ x.hi = y.hi := by
 cases x; cases y; simp
theorem same_changes {l m : List Change} {k : Nat} {x y : Change} (hx : l[k]? = some x) (hy : m[k]? = some y) (h : l.take k = m.take k) (hxy : x = y) : l.take (k + 1) = m.take (k + 1) := by
 rw [take_succ_of hx, take_succ_of hy, h, hxy]
theorem ref_SameChanges (v u : Value) (l m : List Change) (w : World) (hv : Sl w 5 Change.cells v l) (hu : Sl w 5 Change.cells u m) :
  Calls Tryz.prog 59 #[v, u] w fun e w' => e = .returned (.bool (decide (l = m))) ∧ Below w.heap.size w w' := by
 obtain ⟨A, n, rfl, _, _, hlen, hA⟩ := hv.open_
 obtain ⟨A2, n2, rfl, _, _, hlen2, hA2⟩ := hu.open_
 replace hv := hide hv
 replace hu := hide hu
 replace hA := hide hA
 replace hA2 := hide hA2
 by_cases hq : l.length = m.length
 ·obtain ⟨N, hN⟩ : ∃ N, m.length = N := ⟨_, rfl⟩
  obtain ⟨D, hD⟩ : ∃ D, decide (l = m) = D := ⟨_, rfl⟩
  rw [hD]
  replace hq := hq.trans hN
  have hNb : N ≤ 140737488355328 := by omega
  rw [hq] at hv hA ⊢
  rw [hN] at hu hA2 ⊢
  replace hD := hide hD
  replace hN := hide hN
  replace hq := hide hq
  go_enter Tryz.func59, Tryz.ntmps59
  go_wp2_with fail
  go_loopw [5] (fun i wr => ∃ k : Nat, k ≤ N ∧ i = I k ∧ Hid (l.take k = m.take k) ∧ Hid (Below w.heap.size w wr)) (fun i _ => N - (intOf i).toNat)
  case atStart => exact ⟨0, Nat.zero_le _, rfl, hide (by simp), hide (Below.refl _ _)⟩
  case round =>
   obtain ⟨k, hk, rfl, hsame, hbr⟩ := hrel
   by_cases hlt : k < N
   ·obtain ⟨b, off, rfl, hbw⟩ := hA.out k hlt
    obtain ⟨b2, off2, rfl, hbw2⟩ := hA2.out k hlt
    obtain ⟨x, hx⟩ := getElem?_of_lt (xs := l) (k := k) (by rw [hq.out]; exact hlt)
    obtain ⟨y, hy⟩ := getElem?_of_lt (xs := m) (k := k) (by rw [hN.out]; exact hlt)
    have hv2 := (unhide hv).mono hbr.out
    have hu2 := (unhide hu).mono hbr.out
    rw [← hq.out] at hv2
    rw [← hN.out] at hu2
    obtain ⟨hz1, e0, e1, e2, e3, e4⟩ := hv2.change_at hx
    obtain ⟨hz2, f0, f1, f2, f3, f4⟩ := hu2.change_at hy
    clear hv2 hu2
    have hbad : x ≠ y → D = false := fun h => by
     rw [← hD.out, decide_eq_false_iff_not]
     intro he
     rw [he] at hx
     exact h (Option.some.inj (hx.symm.trans hy))
    have hgood := fun h => same_changes hx hy hsame.out h
    replace hx := hide hx
    replace hy := hide hy
    clear hv hu hA hA2
    cases h0 : (x.cell == y.cell) with
    | false =>
     have hd := hide (hbad (fun h => by rw [h] at h0; simp at h0))
     clear hbad hgood
     go_wp2_with fail
     (refine wp_region_grow (by kernel_rfl) (by kernel_rfl) ?_; (repeat (first | go_big_quiet_skip | (go_big_quiet_want; go_big_quiet_op; first | go_big_quiet_on | (apply Exists.intro; refine ⟨fun _ => ?_, ?_⟩; (focus (fail)); go_big_quiet_on)))); refine wpQuiet_nil ?_; rintro W1 ⟨⟨_, hW1⟩, rfl⟩)
     go_wp2_with fail
     go_ret
     exact ⟨ret_bool hd.out.symm, bup hbr.out hW1⟩
    | true =>
     cases h1 : (x.frm == y.frm) with
     | false =>
      have hd := hide (hbad (fun h => by rw [h] at h1; simp at h1))
      clear hbad hgood
      go_wp2_with fail
      (refine wp_region_grow (by kernel_rfl) (by kernel_rfl) ?_; (repeat (first | go_big_quiet_skip | (go_big_quiet_want; go_big_quiet_op; first | go_big_quiet_on | (apply Exists.intro; refine ⟨fun _ => ?_, ?_⟩; (focus (fail)); go_big_quiet_on)))); refine wpQuiet_nil ?_; rintro W1 ⟨⟨_, hW1⟩, rfl⟩)
      go_wp2_with fail
      go_ret
      exact ⟨ret_bool hd.out.symm, bup hbr.out hW1⟩
     | true =>
      cases h2 : (x.to == y.to) with
      | false =>
       have hd := hide (hbad (fun h => by rw [h] at h2; simp at h2))
       clear hbad hgood
       go_wp2_with fail
       (refine wp_region_grow (by kernel_rfl) (by kernel_rfl) ?_; (repeat (first | go_big_quiet_skip | (go_big_quiet_want; go_big_quiet_op; first | go_big_quiet_on | (apply Exists.intro; refine ⟨fun _ => ?_, ?_⟩; (focus (fail)); go_big_quiet_on)))); refine wpQuiet_nil ?_; rintro W1 ⟨⟨_, hW1⟩, rfl⟩)
       go_wp2_with fail
       go_ret
       exact ⟨ret_bool hd.out.symm, bup hbr.out hW1⟩
      | true =>
       cases h3 : (x.lo == y.lo) with
       | false =>
        have hd := hide (hbad (fun h => by rw [h] at h3; simp at h3))
        clear hbad hgood
        go_wp2_with fail
        (refine wp_region_grow (by kernel_rfl) (by kernel_rfl) ?_; (repeat (first | go_big_quiet_skip | (go_big_quiet_want; go_big_quiet_op; first | go_big_quiet_on | (apply Exists.intro; refine ⟨fun _ => ?_, ?_⟩; (focus (fail)); go_big_quiet_on)))); refine wpQuiet_nil ?_; rintro W1 ⟨⟨_, hW1⟩, rfl⟩)
        go_wp2_with fail
        go_ret
        exact ⟨ret_bool hd.out.symm, bup hbr.out hW1⟩
       | true =>
        cases h4 : (x.hi == y.hi) with
        | false =>
         have hd := hide (hbad (fun h => by rw [h] at h4; simp at h4))
         clear hbad hgood
         go_wp2_with fail
         (refine wp_region_grow (by kernel_rfl) (by kernel_rfl) ?_; (repeat (first | go_big_quiet_skip | (go_big_quiet_want; go_big_quiet_op; first | go_big_quiet_on | (apply Exists.intro; refine ⟨fun _ => ?_, ?_⟩; (focus (fail)); go_big_quiet_on)))); refine wpQuiet_nil ?_; rintro W1 ⟨⟨_, hW1⟩, rfl⟩)
         go_wp2_with fail
         go_ret
         exact ⟨ret_bool hd.out.symm, bup hbr.out hW1⟩
        | true =>
         have hg := hide (hgood (Change.eq_iff.2 ⟨by simpa using h0, by simpa using h1, by simpa using h2, by simpa using h3, by simpa using h4⟩))
         clear hbad hgood
         go_wp2_with fail
         (refine wp_region_grow (by kernel_rfl) (by kernel_rfl) ?_; (repeat (first | go_big_quiet_skip | (go_big_quiet_want; go_big_quiet_op; first | go_big_quiet_on | (apply Exists.intro; refine ⟨fun _ => ?_, ?_⟩; (focus (fail)); go_big_quiet_on)))); refine wpQuiet_nil ?_; rintro W1 ⟨⟨_, hW1⟩, rfl⟩)
         go_wp2_with fail
         go_roundw
         case rel => exact ⟨k + 1, by omega, by go_num, hg, hide (bup hbr.out hW1)⟩
         case measure => simp [intOf]; omega
   ·have he : k = N := by omega
    subst he
    have hd : D = true := by
     have h := hsame.out
     rw [← hD.out, decide_eq_true_iff]
     rwa [List.take_of_length_le (by rw [hq.out]; exact Nat.le_refl _), List.take_of_length_le (by rw [hN.out]; exact Nat.le_refl _)] at h
    replace hd := hide hd
    go_wp2_with fail
    go_ret
    exact ⟨ret_bool hd.out.symm, hbr.out⟩
 ·have hD : decide (l = m) = false := by rw [decide_eq_false_iff_not]; exact fun h => hq (by rw [h])
  rw [hD]
  have h0 : ¬ (l.length : Int) = (m.length : Int) := by omega
  have h1 : ((l.length : Int) == (m.length : Int)) = false := by simpa using h0
  have h2 : ((l.length : Int) != (m.length : Int)) = true := by simpa using h0
  clear hD hv hu hA hA2
  go_enter Tryz.func59, Tryz.ntmps59
  go_wp2_with fail
  go_ret
  exact ⟨rfl, Below.refl _ _⟩
end Go.Proofs.YtmjfdobjnnfafaaGreatDoor
