/- The law CrewLight: the minutes of daylight. Conditions stand in the theorems. -/
import Derived.Test.YtddaaljhkiahnaaGreatSane7
import Derived.Test.YtddaaljhkiahnaaGreatLeafPack
set_option linter.all false
set_option maxHeartbeats 4000000
set_option maxRecDepth 100000
namespace Go.Proofs.YtddaaljhkiahnaaGreat
open Go.RowKit

theorem light_bd {day : Int} : 480 ≤ lightF day ∧ lightF day ≤ 960 := by
 unfold lightF
 split <;> omega
theorem light_year {day : Int} : lightF (day + 365) = lightF day := by
 have h : (day + 365) % 365 = day % 365 := by omega
 simp only [lightF, h]
theorem light_up {day : Int} (h : day % 365 < 182) : lightF day ≤ lightF (day + 1) := by
 have h2 : (day + 1) % 365 = day % 365 + 1 := by omega
 simp only [lightF, h2]
 rw [if_pos (by omega), if_pos (by omega)]
 omega
theorem light_down {day : Int} (h : 182 ≤ day % 365) : lightF (day + 1) ≤ lightF day := by
 by_cases h3 : day % 365 = 364
 ·have h2 : (day + 1) % 365 = 0 := by omega
  have h4 := light_bd (day := day)
  have h5 : lightF (day + 1) = 480 := by simp [lightF, h2]
  omega
 ·have h2 : (day + 1) % 365 = day % 365 + 1 := by omega
  simp only [lightF, h2]
  rw [if_neg (by omega)]
  split <;> omega
theorem day_yes {day : Int} (h0 : 0 ≤ day) (h1 : day ≤ 1048576) : lightV day = lightF day ∧ dayE day = 0 := by
 have h : inB day 0 1048576 = true := inB_true.2 ⟨h0, h1⟩
 simp [lightV, dayE, h]
theorem day_no {day : Int} (h : day < 0 ∨ 1048576 < day) : lightV day = 0 ∧ dayE day = 1 := by
 have h : inB day 0 1048576 = false := inB_false.2 h
 simp [lightV, dayE, h]
theorem law_Light (day : Int) (w : World) : Calls Tryz.prog 5 #[I day] w fun e w' => e = .returned (.bool true) ∧ Below w.heap.size w w' := by
 have JS := hide law_sane7
 by_cases h : 0 ≤ day ∧ day ≤ 1048576
 case neg =>
  have JL := fun w => crew_Light day w
  rw [(day_no (by omega)).1, (day_no (by omega)).2] at JL
  replace JL := hide JL
  by_cases h2 : day < 0
  ·have hd : decide (day < 0) = true := by simpa using h2
   replace h := hide h
   go_enter Tryz.func5, Tryz.ntmps5
   go_wp2_with (first | (go_at_call 6; refine (JS.out _).mono ?_; rintro e w2 ⟨rfl, hb⟩) | (go_at_call 7; refine (JL.out _).mono ?_; rintro e w3 ⟨rfl, rfl⟩))
   go_ret
   exact ⟨rfl, hb⟩
  ·have hd : decide (day < 0) = false := by simpa using h2
   have hd2 : decide (1048576 < day) = true := by simp; omega
   replace h := hide h
   go_enter Tryz.func5, Tryz.ntmps5
   go_wp2_with (first | (go_at_call 6; refine (JS.out _).mono ?_; rintro e w2 ⟨rfl, hb⟩) | (go_at_call 7; refine (JL.out _).mono ?_; rintro e w3 ⟨rfl, rfl⟩))
   go_ret
   exact ⟨rfl, hb⟩
 obtain ⟨h0, h1⟩ := h
 have J0 := fun w => crew_Light day w
 rw [(day_yes h0 h1).1, (day_yes h0 h1).2] at J0
 have hbd := light_bd (day := day)
 have hyr := light_year (day := day)
 have hup := light_up (day := day)
 have hdn := light_down (day := day)
 obtain ⟨L, hL⟩ : ∃ q, lightF day = q := ⟨_, rfl⟩
 obtain ⟨L2, hL2⟩ : ∃ q, lightF (day + 1) = q := ⟨_, rfl⟩
 rw [hL] at J0 hbd hyr hup hdn
 rw [hL2] at hup hdn
 clear hL
 obtain ⟨h3, h4⟩ := hbd
 have J1 : ∀ w, Calls Tryz.prog 7 #[I (day + 365)] w fun e w' => (∃ a b, e = .returned (.tuple #[I a, I b]) ∧ ((b != 0) = true ∨ a = L ∧ b = 0)) ∧ w = w' := fun w => (crew_Light (day + 365) w).mono fun e w' ⟨he, hw⟩ => ⟨⟨_, _, he, by
  by_cases h5 : day + 365 ≤ 1048576
  ·rw [(day_yes (by omega) h5).1, (day_yes (by omega) h5).2]; exact .inr ⟨hyr, rfl⟩
  ·rw [(day_no (by omega)).2]; exact .inl rfl⟩, hw⟩
 clear hyr
 replace J0 := hide J0
 replace J1 := hide J1
 by_cases h6 : day = 1048576
 ·have J2 : ∀ w, Calls Tryz.prog 7 #[I (day + 1)] w fun e w' => e = .returned (.tuple #[I 0, I 1]) ∧ w = w' := fun w => (crew_Light (day + 1) w).mono fun e w' ⟨he, hw⟩ => ⟨by rw [he, (day_no (by omega)).1, (day_no (by omega)).2], hw⟩
  replace J2 := hide J2
  have hd6 : (day == 1048576) = true := by simpa using h6
  replace h6 := hide h6
  replace hup := hide hup
  replace hdn := hide hdn
  go_enter Tryz.func5, Tryz.ntmps5
  go_wp2_with (first | (go_at_call 6; refine (JS.out _).mono ?_; rintro e w2 ⟨rfl, hb⟩) | (go_at_call 7; refine (J0.out _).mono ?_; clear J0; rintro e w3 ⟨rfl, rfl⟩) | (go_at_call 7; refine (J1.out _).mono ?_; clear J1; rintro e w3 ⟨⟨a, b, rfl, h7⟩, rfl⟩; rcases h7 with h7 | ⟨rfl, rfl⟩) | (go_at_call 7; refine (J2.out _).mono ?_; rintro e w3 ⟨rfl, rfl⟩))
  all_goals (go_ret; exact ⟨rfl, hb⟩)
 have J2 : ∀ w, Calls Tryz.prog 7 #[I (day + 1)] w fun e w' => e = .returned (.tuple #[I L2, I 0]) ∧ w = w' := fun w => (crew_Light (day + 1) w).mono fun e w' ⟨he, hw⟩ => ⟨by rw [he, (day_yes (by omega) (by omega)).1, (day_yes (by omega) (by omega)).2, hL2], hw⟩
 replace J2 := hide J2
 clear hL2
 replace h6 := hide h6
 by_cases h8 : day % 365 < 182
 ·have h9 := hup h8
  have hd8 : decide (day % 365 < 182) = true := by simpa using h8
  have hd9 : decide (L ≤ L2) = true := by simpa using h9
  clear hup hdn
  go_enter Tryz.func5, Tryz.ntmps5
  go_wp2_with (first | (go_at_call 6; refine (JS.out _).mono ?_; rintro e w2 ⟨rfl, hb⟩) | (go_at_call 7; refine (J0.out _).mono ?_; clear J0; rintro e w3 ⟨rfl, rfl⟩) | (go_at_call 7; refine (J1.out _).mono ?_; clear J1; rintro e w3 ⟨⟨a, b, rfl, h7⟩, rfl⟩; rcases h7 with h7 | ⟨rfl, rfl⟩) | (go_at_call 7; refine (J2.out _).mono ?_; rintro e w3 ⟨rfl, rfl⟩))
  all_goals (go_ret; exact ⟨ret_bool (by first | rfl | exact hd9.symm), hb⟩)
 ·have h9 := hdn (by omega)
  have hd8 : decide (day % 365 < 182) = false := by simpa using h8
  have hd9 : decide (L2 ≤ L) = true := by simpa using h9
  clear hup hdn
  go_enter Tryz.func5, Tryz.ntmps5
  go_wp2_with (first | (go_at_call 6; refine (JS.out _).mono ?_; rintro e w2 ⟨rfl, hb⟩) | (go_at_call 7; refine (J0.out _).mono ?_; clear J0; rintro e w3 ⟨rfl, rfl⟩) | (go_at_call 7; refine (J1.out _).mono ?_; clear J1; rintro e w3 ⟨⟨a, b, rfl, h7⟩, rfl⟩; rcases h7 with h7 | ⟨rfl, rfl⟩) | (go_at_call 7; refine (J2.out _).mono ?_; rintro e w3 ⟨rfl, rfl⟩))
  all_goals (go_ret; exact ⟨ret_bool (by first | rfl | exact hd9.symm), hb⟩)
end Go.Proofs.YtddaaljhkiahnaaGreat
