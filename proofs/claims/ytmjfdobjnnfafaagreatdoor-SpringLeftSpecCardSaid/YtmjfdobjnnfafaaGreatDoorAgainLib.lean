/- More of what Lib holds. Conditions stand in the theorems. -/
import Derived.Test.YtmjfdobjnnfafaaGreatDoorIndexFuncPack
set_option linter.all false
namespace Go.Proofs.YtmjfdobjnnfafaaGreatDoor
open Go.RowKit
set_option maxRecDepth 20000 in
theorem equal_int (v v' : Value) (xs ys : List Int) (w : World) (hv : Sl w 1 intC v xs) (hv' : Sl w 1 intC v' ys) :
    Calls Tryz.prog 70 #[v, v'] w fun e w' => e = .returned (.bool (decide (xs = ys))) ∧ Below w.heap.size w w' := by
  obtain ⟨A, c, rfl, _, _, hlen, hA⟩ := hv.open_
  obtain ⟨A', c', rfl, _, _, hlen', hA'⟩ := hv'.open_
  replace hv := hide hv
  replace hA := hide hA
  replace hv' := hide hv'
  replace hA' := hide hA'
  by_cases hl : xs.length = ys.length
  · have hlB : ((xs.length : Int) != (ys.length : Int)) = false := by simp [hl]
    have hl1 : xs.length ≤ ys.length := by omega
    have hl2 : ys.length ≤ xs.length := by omega
    replace hl := hide hl
    go_enter Tryz.func70, Tryz.ntmps70
    go_wp2_with fail
    go_loopw [13] (fun i wr => ∃ k : Nat, k ≤ xs.length ∧ i = I k ∧ Hid (∀ j, j < k → xs[j]? = ys[j]?) ∧ Below w.heap.size w wr) (fun i _ => xs.length - (intOf i).toNat)
    case atStart => exact ⟨0, Nat.zero_le _, rfl, hide (fun _ h => absurd h (by omega)), Below.refl _ _⟩
    case round =>
      obtain ⟨k, hk, rfl, hn, hb⟩ := hrel
      by_cases hlt : k < xs.length
      · have hlt' : k < ys.length := by omega
        obtain ⟨b, off, rfl, hbw⟩ := hA.out k hlt
        obtain ⟨b', off', rfl, hbw'⟩ := hA'.out k hlt'
        obtain ⟨x, hx⟩ := getElem?_of_lt hlt
        obtain ⟨y, hy⟩ := getElem?_of_lt hlt'
        obtain ⟨q1, h0⟩ := ((unhide hv).mono hb).int_at hx
        obtain ⟨q2, h1⟩ := ((unhide hv').mono hb).int_at hy
        replace hx := hide hx
        replace hy := hide hy
        clear hA hv hA' hv'
        cases hq : (x != y) with
        | true =>
          have hne : decide (xs = ys) = false := by
            rw [decide_eq_false_iff_not]; intro h; subst h
            have h1 := hx.out; rw [hy.out] at h1
            injection h1 with h1; subst h1; simp at hq
          replace hne := hide hne
          go_wp2_with fail
          (refine wp_region_grow (by kernel_rfl) (by kernel_rfl) ?_; (repeat (first | go_big_quiet_skip | (go_big_quiet_want; go_big_quiet_op; first | go_big_quiet_on | (apply Exists.intro; refine ⟨fun _ => ?_, ?_⟩; (focus (fail)); go_big_quiet_on)))); refine wpQuiet_nil ?_; rintro W1 ⟨⟨_, hW1⟩, rfl⟩)
          go_wp2_with fail
          go_ret
          exact ⟨ret_bool hne.out.symm, bup hb hW1⟩
        | false =>
          have hxy : x = y := by simpa using hq
          replace hxy := hide hxy
          go_wp2_with fail
          (refine wp_region_grow (by kernel_rfl) (by kernel_rfl) ?_; (repeat (first | go_big_quiet_skip | (go_big_quiet_want; go_big_quiet_op; first | go_big_quiet_on | (apply Exists.intro; refine ⟨fun _ => ?_, ?_⟩; (focus (fail)); go_big_quiet_on)))); refine wpQuiet_nil ?_; rintro W1 ⟨⟨_, hW1⟩, rfl⟩)
          go_wp2_with fail
          go_roundw
          case rel =>
            refine ⟨k + 1, by omega, by go_num, hide (fun j hj => ?_), bup hb hW1⟩
            rcases Nat.lt_or_ge j k with h | h
            · exact (unhide hn) j h
            · have : j = k := by omega
              subst this
              rw [hx.out, hy.out, hxy.out]
          case measure => simp [intOf]; omega
      · have he : k = xs.length := by omega
        subst he
        clear hA hA'
        go_wp2_with fail
        go_ret
        refine ⟨ret_bool ?_, hb⟩
        symm
        rw [decide_eq_true_iff]
        refine List.ext_getElem? fun j => ?_
        rcases Nat.lt_or_ge j xs.length with h | h
        · exact (unhide hn) j h
        · rw [List.getElem?_eq_none h, List.getElem?_eq_none (by rw [← hl.out]; exact h)]
  · have hlB : ((xs.length : Int) != (ys.length : Int)) = true := by simp; omega
    have hne : decide (xs = ys) = false := by rw [decide_eq_false_iff_not]; intro h; subst h; exact hl rfl
    replace hne := hide hne
    clear hl
    go_enter Tryz.func70, Tryz.ntmps70
    go_wp2_with fail
    go_ret
    exact ⟨ret_bool hne.out.symm, Below.refl _ _⟩
end Go.Proofs.YtmjfdobjnnfafaaGreatDoor
