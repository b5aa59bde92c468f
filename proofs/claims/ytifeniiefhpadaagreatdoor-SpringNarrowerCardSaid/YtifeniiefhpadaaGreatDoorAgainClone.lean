/- More of what Clone holds. Conditions stand in the theorems. -/
import Derived.Test.YtifeniiefhpadaaGreatDoorIndexFuncPack
set_option linter.all false
namespace Go.Proofs.YtifeniiefhpadaaGreatDoor
open Go.RowKit
theorem clone_Weather (v : Value) (xs : List Weather) (w : World) (hv : Sl w 3 Weather.cells v xs) (hb : xs.length ≤ 1099511627776) :
  Calls Tryz.prog 6 #[v] w fun e w' => ∃ v', e = .returned v' ∧ Own w' w.heap.size 28 3 Weather.cells v' xs ∧ (0 < xs.length → v' ≠ .slice none 0 0) ∧ Below w.heap.size w w' := by
 obtain ⟨A, c, rfl, _, _, hlen, hA⟩ := hv.open_
 rcases A with _ | ad
 ·have he := Lib.run_eql_slice_nil (P := Tryz.prog) w 26 28 none 0 c 0 0 Tryz.underlying26
  have h0 : xs = [] := by
   rcases xs with _ | ⟨x, xs⟩
   ·rfl
   ·obtain ⟨b, off, h, _⟩ := hA 0 (by simp)
    cases h
  subst h0
  clear hv hA hlen
  go_enter Tryz.func6, Tryz.ntmps6
  go_wp2_with fail
  go_ret
  exact ⟨_, rfl, Own.nil_ _ _ _ _ _, fun h => absurd h (by simp), Below.refl _ _⟩
 ·have he := Lib.run_eql_slice_nil (P := Tryz.prog) w 26 28 (some ad) xs.length c 0 0 Tryz.underlying26
  have hv1 := hide (hv.mono (below1 w (.cells #[] 28)))
  clear hv hA
  go_enter Tryz.func6, Tryz.ntmps6
  go_wp2_with (at_builtin; refine wp_append_all el_Weather Weather.cells_len Weather.cells_one rfl (.tmp 5) (.tmp 6) rfl w.heap.size rfl (Own.empty w _ _ _ Weather.cells (Nat.le_refl _)) rfl hv1.out ?c1 ?c2 ?c3 ?c4 ?_)
  case c1 => simp; omega
  case c2 => simp
  case c3 => omega
  case c4 => simp
  intro v' w1 hown hbel hnil
  go_wp2_with fail
  go_ret
  refine ⟨_, rfl, by simpa using hown, fun h hn => ?_, (below1 _ _).trans hbel⟩
  exact hnil hn
end Go.Proofs.YtifeniiefhpadaaGreatDoor
