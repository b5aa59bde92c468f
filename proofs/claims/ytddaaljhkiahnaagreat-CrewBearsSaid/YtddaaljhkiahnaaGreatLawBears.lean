/- The law CrewBears: the depth of water that a slope bears. Conditions stand in the theorems. -/
import Derived.Test.YtddaaljhkiahnaaGreatSane7
import Derived.Test.YtddaaljhkiahnaaGreatLeafPack
set_option linter.all false
set_option maxHeartbeats 4000000
set_option maxRecDepth 100000
namespace Go.Proofs.YtddaaljhkiahnaaGreat
open Go.RowKit

theorem bears_bd {steep : Int} : 0 ≤ bearsF steep ∧ bearsF steep ≤ 65536 := by
 unfold bearsF
 split
 ·omega
 ·rename_i h
  have h1 : (0 : Int) ≤ 9999 / (steep - 25) := Int.ediv_nonneg (by omega) (by omega)
  have h2 : (9999 : Int) / (steep - 25) ≤ 9999 := Int.ediv_le_self _ (by omega)
  omega
theorem breaks_iff {water steep : Int} (h : water ≤ 65536) : breaksB water steep = decide (bearsF steep < water) := by
 unfold breaksB bearsF
 by_cases h1 : steep ≤ 25
 ·rw [if_pos h1, decide_eq_false (by omega), decide_eq_false (by omega)]
 ·rw [if_neg h1]
  have h2 := Int.ediv_lt_iff_lt_mul (a := 9999) (b := water) (c := steep - 25) (by omega)
  apply decide_eq_decide.2
  rw [h2]
  constructor
  ·intro h3; omega
  ·intro h3; omega
theorem breaks_mono {water steep s2 : Int} (h : breaksB water steep = true) (h0 : 0 ≤ water) (h1 : steep ≤ s2) : breaksB water s2 = true := by
 simp only [breaksB, decide_eq_true_eq] at h ⊢
 have := Int.mul_le_mul_of_nonneg_left (a := steep - 25) (b := s2 - 25) (c := water) (by omega) h0
 omega
theorem bears_yes {steep : Int} (h0 : 0 ≤ steep) (h1 : steep ≤ 60) : bearsV steep = bearsF steep ∧ bearsE steep = 0 := by
 have h : inB steep 0 60 = true := inB_true.2 ⟨h0, h1⟩
 simp [bearsV, bearsE, h]
theorem bears_no {steep : Int} (h : steep < 0 ∨ 60 < steep) : bearsV steep = 0 ∧ bearsE steep = 1 := by
 have h : inB steep 0 60 = false := inB_false.2 h
 simp [bearsV, bearsE, h]
theorem brk_yes {water steep : Int} (h0 : 0 ≤ steep) (h1 : steep ≤ 60) (h2 : 0 ≤ water) (h3 : water ≤ 65536) : breaksV water steep = breaksB water steep ∧ breaksE water steep = 0 := by
 have h : inB steep 0 60 = true := inB_true.2 ⟨h0, h1⟩
 have h' : inB water 0 65536 = true := inB_true.2 ⟨h2, h3⟩
 simp [breaksV, breaksE, h, h']
theorem brk_no {water steep : Int} (h : water < 0 ∨ 65536 < water) : breaksV water steep = false ∧ breaksE water steep = 1 := by
 have h : inB water 0 65536 = false := inB_false.2 h
 simp [breaksV, breaksE, h]
theorem law_Bears (water steep : Int) (w : World) : Calls Tryz.prog 4 #[I water, I steep] w fun e w' => e = .returned (.bool true) ∧ Below w.heap.size w w' := by
 have JS := hide law_sane7
 by_cases h : 0 ≤ steep ∧ steep ≤ 60
 case neg =>
  have JB := fun w => crew_Bears steep w
  rw [(bears_no (by omega)).1, (bears_no (by omega)).2] at JB
  replace JB := hide JB
  by_cases h2 : steep < 0
  ·have hd : decide (steep < 0) = true := by simpa using h2
   replace h := hide h
   go_enter Tryz.func4, Tryz.ntmps4
   go_wp2_with (first | (go_at_call 6; refine (JS.out _).mono ?_; rintro e w2 ⟨rfl, hb⟩) | (go_at_call 11; refine (JB.out _).mono ?_; rintro e w3 ⟨rfl, rfl⟩))
   all_goals (go_ret; exact ⟨ret_bool (by first | rfl | simp_all), hb⟩)
  ·have hd : decide (steep < 0) = false := by simpa using h2
   have hd2 : decide (60 < steep) = true := by simp; omega
   replace h := hide h
   go_enter Tryz.func4, Tryz.ntmps4
   go_wp2_with (first | (go_at_call 6; refine (JS.out _).mono ?_; rintro e w2 ⟨rfl, hb⟩) | (go_at_call 11; refine (JB.out _).mono ?_; rintro e w3 ⟨rfl, rfl⟩))
   all_goals (go_ret; exact ⟨ret_bool (by first | rfl | simp_all), hb⟩)
 obtain ⟨h0, h1⟩ := h
 have JB := fun w => crew_Bears steep w
 rw [(bears_yes h0 h1).1, (bears_yes h0 h1).2] at JB
 have hbd := bears_bd (steep := steep)
 have hif := fun (x : Int) => breaks_iff (water := x) (steep := steep)
 obtain ⟨M, hM⟩ : ∃ q, bearsF steep = q := ⟨_, rfl⟩
 rw [hM] at JB hbd hif
 clear hM
 obtain ⟨h3, h4⟩ := hbd
 have JM : ∀ w, Calls Tryz.prog 9 #[I M, I steep] w fun e w' => e = .returned (.tuple #[.bool false, I 0]) ∧ w = w' := fun w => (crew_Breaks M steep w).mono fun e w' ⟨he, hw⟩ => ⟨by rw [he, (brk_yes h0 h1 h3 h4).1, (brk_yes h0 h1 h3 h4).2, hif M h4, decide_eq_false (by omega)], hw⟩
 have JN : M < 65536 → ∀ w, Calls Tryz.prog 9 #[I (M + 1), I steep] w fun e w' => e = .returned (.tuple #[.bool true, I 0]) ∧ w = w' := fun h5 w => (crew_Breaks (M + 1) steep w).mono fun e w' ⟨he, hw⟩ => ⟨by rw [he, (brk_yes h0 h1 (by omega) (by omega)).1, (brk_yes h0 h1 (by omega) (by omega)).2, hif (M + 1) (by omega), decide_eq_true (by omega)], hw⟩
 have JW := fun w => crew_Breaks water steep w
 replace JB := hide JB
 replace JM := hide JM
 replace JS := JS
 by_cases h5 : M < 65536
 case pos =>
  have hd5 : decide (M < 65536) = true := by simpa using h5
  replace JN := hide (JN h5)
  by_cases h6 : 0 ≤ water ∧ water ≤ 65536
  case neg =>
   rw [(brk_no (by omega)).1, (brk_no (by omega)).2] at JW
   replace JW := hide JW
   by_cases h7 : water < 0
   ·have hd : decide (water < 0) = true := by simpa using h7
    replace h6 := hide h6
    clear hif
    go_enter Tryz.func4, Tryz.ntmps4
    go_wp2_with (first | (go_at_call 6; refine (JS.out _).mono ?_; rintro e w2 ⟨rfl, hb⟩) | (go_at_call 11; refine (JB.out _).mono ?_; rintro e w3 ⟨rfl, rfl⟩) | (go_at_call 9; refine (JM.out _).mono ?_; clear JM; rintro e w3 ⟨rfl, rfl⟩) | (go_at_call 9; refine (JN.out _).mono ?_; clear JN; rintro e w3 ⟨rfl, rfl⟩) | (go_at_call 9; refine (JW.out _).mono ?_; clear JW; rintro e w3 ⟨rfl, rfl⟩))
    all_goals (go_ret; exact ⟨ret_bool (by first | rfl | simp_all), hb⟩)
   ·have hd : decide (water < 0) = false := by simpa using h7
    have hd2 : decide (65536 < water) = true := by simp; omega
    replace h6 := hide h6
    clear hif
    go_enter Tryz.func4, Tryz.ntmps4
    go_wp2_with (first | (go_at_call 6; refine (JS.out _).mono ?_; rintro e w2 ⟨rfl, hb⟩) | (go_at_call 11; refine (JB.out _).mono ?_; rintro e w3 ⟨rfl, rfl⟩) | (go_at_call 9; refine (JM.out _).mono ?_; clear JM; rintro e w3 ⟨rfl, rfl⟩) | (go_at_call 9; refine (JN.out _).mono ?_; clear JN; rintro e w3 ⟨rfl, rfl⟩) | (go_at_call 9; refine (JW.out _).mono ?_; clear JW; rintro e w3 ⟨rfl, rfl⟩))
    all_goals (go_ret; exact ⟨ret_bool (by first | rfl | simp_all), hb⟩)
  obtain ⟨h6, h7⟩ := h6
  rw [(brk_yes h0 h1 h6 h7).1, (brk_yes h0 h1 h6 h7).2, hif water h7] at JW
  have J4 : ∀ s2, steep ≤ s2 → s2 ≤ 60 → ∀ w, Calls Tryz.prog 9 #[I water, I s2] w fun e w' => e = .returned (.tuple #[.bool (breaksB water s2), I 0]) ∧ w = w' := fun s2 g1 g2 w => (crew_Breaks water s2 w).mono fun e w' ⟨he, hw⟩ => ⟨by rw [he, (brk_yes (by omega) (by omega) h6 h7).1, (brk_yes (by omega) (by omega) h6 h7).2], hw⟩
  by_cases h8 : M < water
  ·have hd8 : decide (M < water) = true := by simpa using h8
   rw [hd8] at JW
   replace J4 : ∀ s2, steep ≤ s2 → s2 ≤ 60 → ∀ w, Calls Tryz.prog 9 #[I water, I s2] w fun e w' => e = .returned (.tuple #[.bool true, I 0]) ∧ w = w' := fun s2 g1 g2 w => (J4 s2 g1 g2 w).mono fun e w' ⟨he, hw⟩ => ⟨by rw [he, breaks_mono (steep := steep) (by rw [hif water h7]; exact hd8) h6 g1], hw⟩
   replace J4 := hide J4
   replace JW := hide JW
   clear hif
   go_enter Tryz.func4, Tryz.ntmps4
   go_wp2_with (first | (go_at_call 6; refine (JS.out _).mono ?_; rintro e w2 ⟨rfl, hb⟩) | (go_at_call 11; refine (JB.out _).mono ?_; rintro e w3 ⟨rfl, rfl⟩) | (go_at_call 9; refine (JM.out _).mono ?_; clear JM; rintro e w3 ⟨rfl, rfl⟩) | (go_at_call 9; refine (JN.out _).mono ?_; clear JN; rintro e w3 ⟨rfl, rfl⟩) | (go_at_call 9; refine (JW.out _).mono ?_; clear JW; rintro e w3 ⟨rfl, rfl⟩) | (go_at_call 9; refine (J4.out _ (by omega) (by omega) _).mono ?_; clear J4; rintro e w3 ⟨rfl, rfl⟩))
   all_goals (go_ret; exact ⟨ret_bool (by first | rfl | simp_all), hb⟩)
  ·have hd8 : decide (M < water) = false := by simpa using h8
   rw [hd8] at JW
   replace J4 := hide J4
   replace JW := hide JW
   clear hif
   go_enter Tryz.func4, Tryz.ntmps4
   go_wp2_with (first | (go_at_call 6; refine (JS.out _).mono ?_; rintro e w2 ⟨rfl, hb⟩) | (go_at_call 11; refine (JB.out _).mono ?_; rintro e w3 ⟨rfl, rfl⟩) | (go_at_call 9; refine (JM.out _).mono ?_; clear JM; rintro e w3 ⟨rfl, rfl⟩) | (go_at_call 9; refine (JN.out _).mono ?_; clear JN; rintro e w3 ⟨rfl, rfl⟩) | (go_at_call 9; refine (JW.out _).mono ?_; clear JW; rintro e w3 ⟨rfl, rfl⟩) | (go_at_call 9; refine (J4.out _ (by omega) (by omega) _).mono ?_; clear J4; rintro e w3 ⟨rfl, rfl⟩))
   all_goals (go_ret; exact ⟨ret_bool (by first | rfl | simp_all), hb⟩)
 have hd5 : decide (M < 65536) = false := by simpa using h5
 clear JN
 by_cases h6 : 0 ≤ water ∧ water ≤ 65536
 case neg =>
  rw [(brk_no (by omega)).1, (brk_no (by omega)).2] at JW
  replace JW := hide JW
  by_cases h7 : water < 0
  ·have hd : decide (water < 0) = true := by simpa using h7
   replace h6 := hide h6
   clear hif
   go_enter Tryz.func4, Tryz.ntmps4
   go_wp2_with (first | (go_at_call 6; refine (JS.out _).mono ?_; rintro e w2 ⟨rfl, hb⟩) | (go_at_call 11; refine (JB.out _).mono ?_; rintro e w3 ⟨rfl, rfl⟩) | (go_at_call 9; refine (JM.out _).mono ?_; clear JM; rintro e w3 ⟨rfl, rfl⟩) | (go_at_call 9; refine (JW.out _).mono ?_; clear JW; rintro e w3 ⟨rfl, rfl⟩))
   all_goals (go_ret; exact ⟨ret_bool (by first | rfl | simp_all), hb⟩)
  ·have hd : decide (water < 0) = false := by simpa using h7
   have hd2 : decide (65536 < water) = true := by simp; omega
   replace h6 := hide h6
   clear hif
   go_enter Tryz.func4, Tryz.ntmps4
   go_wp2_with (first | (go_at_call 6; refine (JS.out _).mono ?_; rintro e w2 ⟨rfl, hb⟩) | (go_at_call 11; refine (JB.out _).mono ?_; rintro e w3 ⟨rfl, rfl⟩) | (go_at_call 9; refine (JM.out _).mono ?_; clear JM; rintro e w3 ⟨rfl, rfl⟩) | (go_at_call 9; refine (JW.out _).mono ?_; clear JW; rintro e w3 ⟨rfl, rfl⟩))
   all_goals (go_ret; exact ⟨ret_bool (by first | rfl | simp_all), hb⟩)
 obtain ⟨h6, h7⟩ := h6
 rw [(brk_yes h0 h1 h6 h7).1, (brk_yes h0 h1 h6 h7).2, hif water h7] at JW
 have J4 : ∀ s2, steep ≤ s2 → s2 ≤ 60 → ∀ w, Calls Tryz.prog 9 #[I water, I s2] w fun e w' => e = .returned (.tuple #[.bool (breaksB water s2), I 0]) ∧ w = w' := fun s2 g1 g2 w => (crew_Breaks water s2 w).mono fun e w' ⟨he, hw⟩ => ⟨by rw [he, (brk_yes (by omega) (by omega) h6 h7).1, (brk_yes (by omega) (by omega) h6 h7).2], hw⟩
 by_cases h8 : M < water
 ·have hd8 : decide (M < water) = true := by simpa using h8
  rw [hd8] at JW
  replace J4 : ∀ s2, steep ≤ s2 → s2 ≤ 60 → ∀ w, Calls Tryz.prog 9 #[I water, I s2] w fun e w' => e = .returned (.tuple #[.bool true, I 0]) ∧ w = w' := fun s2 g1 g2 w => (J4 s2 g1 g2 w).mono fun e w' ⟨he, hw⟩ => ⟨by rw [he, breaks_mono (steep := steep) (by rw [hif water h7]; exact hd8) h6 g1], hw⟩
  replace J4 := hide J4
  replace JW := hide JW
  clear hif
  go_enter Tryz.func4, Tryz.ntmps4
  go_wp2_with (first | (go_at_call 6; refine (JS.out _).mono ?_; rintro e w2 ⟨rfl, hb⟩) | (go_at_call 11; refine (JB.out _).mono ?_; rintro e w3 ⟨rfl, rfl⟩) | (go_at_call 9; refine (JM.out _).mono ?_; clear JM; rintro e w3 ⟨rfl, rfl⟩) | (go_at_call 9; refine (JW.out _).mono ?_; clear JW; rintro e w3 ⟨rfl, rfl⟩) | (go_at_call 9; refine (J4.out _ (by omega) (by omega) _).mono ?_; clear J4; rintro e w3 ⟨rfl, rfl⟩))
  all_goals (go_ret; exact ⟨ret_bool (by first | rfl | simp_all), hb⟩)
 ·have hd8 : decide (M < water) = false := by simpa using h8
  rw [hd8] at JW
  replace J4 := hide J4
  replace JW := hide JW
  clear hif
  go_enter Tryz.func4, Tryz.ntmps4
  go_wp2_with (first | (go_at_call 6; refine (JS.out _).mono ?_; rintro e w2 ⟨rfl, hb⟩) | (go_at_call 11; refine (JB.out _).mono ?_; rintro e w3 ⟨rfl, rfl⟩) | (go_at_call 9; refine (JM.out _).mono ?_; clear JM; rintro e w3 ⟨rfl, rfl⟩) | (go_at_call 9; refine (JW.out _).mono ?_; clear JW; rintro e w3 ⟨rfl, rfl⟩) | (go_at_call 9; refine (J4.out _ (by omega) (by omega) _).mono ?_; clear J4; rintro e w3 ⟨rfl, rfl⟩))
  all_goals (go_ret; exact ⟨ret_bool (by first | rfl | simp_all), hb⟩)
end Go.Proofs.YtddaaljhkiahnaaGreat
