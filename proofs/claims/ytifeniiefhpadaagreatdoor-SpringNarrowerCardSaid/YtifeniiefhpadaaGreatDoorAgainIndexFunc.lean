/- More of what IndexFunc holds. Conditions stand in the theorems. -/
import Derived.Test.YtifeniiefhpadaaGreatDoorIndexFuncPack
set_option linter.all false
namespace Go.Proofs.YtifeniiefhpadaaGreatDoor
open Go.RowKit
theorem indexFunc_int (v : Value) (xs : List Int) (g : Nat) (cap : Array Value) (p : Int → Bool) (w : World) (hv : Sl w 1 intC v xs) (eg : ∀ args w, (callFunc g args).run Tryz.prog w = .ok (.enter g args) w)
  (hp : Gives Tryz.prog g cap (I) p w xs) : Calls Tryz.prog 42 #[v, .func (.func g) #[] cap] w fun e w' => e = .returned (I (idxBy p xs)) ∧ Below w.heap.size w w' := by
 obtain ⟨A, c, rfl, _, _, hlen, hA⟩ := hv.open_
 replace hv := hide hv
 replace hp := hide hp
 replace hA := hide hA
 go_enter Tryz.func42, Tryz.ntmps42
 go_wp2_with fail
 go_loopw [5, 8] (fun v i wr => ∃ k : Nat, k ≤ xs.length ∧ i = I k ∧ Hid (NoneTo p xs k) ∧ Below w.heap.size w wr) (fun _ i _ => xs.length - (intOf i).toNat)
 case atStart => exact ⟨0, Nat.zero_le _, rfl, hide (NoneTo.zero _ _), Below.refl _ _⟩
 case round =>
  obtain ⟨k, hk, rfl, hn, hb⟩ := hrel
  by_cases hlt : k < xs.length
  ·obtain ⟨b, off, rfl, hbw⟩ := hA.out k hlt
   obtain ⟨x, hx⟩ := getElem?_of_lt hlt
   obtain ⟨_, h0⟩ := ((unhide hv).mono hb).int_at hx
   have hcall := (unhide hp) wr x (List.mem_of_getElem? hx) hb
   replace hx := hide hx
   clear hA hv hp
   cases hq : p x with
   | true =>
    rw [hq] at hcall
    have H := hide hcall
    replace hq := hide hq
    clear hcall
    go_wp2_with (go_at_fn g; refine (unhide H).mono ?_; rintro e w' ⟨rfl, hb1⟩)
    go_ret
    exact ⟨ret_int (((unhide hn).found hx.out hq.out).symm), hb.trans (hb1.mono hb.size)⟩
   | false =>
    rw [hq] at hcall
    have H := hide hcall
    replace hq := hide hq
    clear hcall
    go_wp2_with (go_at_fn g; refine (unhide H).mono ?_; rintro e w' ⟨rfl, hb1⟩)
    go_roundw
    case rel => exact ⟨k + 1, by omega, by go_num, hide ((unhide hn).succ hx.out hq.out), hb.trans (hb1.mono hb.size)⟩
    case measure => simp [intOf]; omega
  ·have he : k = xs.length := by omega
   subst he
   clear hA
   go_wp2_with fail
   go_ret
   exact ⟨ret_int ((unhide hn).missed.symm), hb⟩
end Go.Proofs.YtifeniiefhpadaaGreatDoor
