/- pdqsort by whatever 'less': its parts keep the size, and their places lie where they should. No condition on 'less'. -/
import Derived.Sort.LotD1
import Derived.Sort.LotC
import Derived.Sort.LotB
set_option linter.all false
namespace Go.Proofs.YtifeniiefhpadaaGreatDoor
open Go.Sort
variable {α : Type} [Inhabited α]

theorem weak_part (lt : α → α → Bool) (d : Array α) (a b p : Nat) (hap : a ≤ p) (hpb : p < b) (hb : b ≤ d.size) :
  a ≤ (partition lt d a b p).1 ∧ (partition lt d a b p).1 < b ∧ (partition lt d a b p).2.2.size = d.size := by
 have hb0 : b ≤ (swp d a p).size := by rw [size_swp]; exact hb
 obtain ⟨r1, r2, r3, _⟩ := partLoop_spec lt a b _ (a + 1) (b - 1) (swp d a p) (Nat.le_refl _) (Nat.lt_succ_self a) (by omega) (by omega) hb0 (fun t h1 h2 => by omega) (fun t h1 h2 => by omega)
 rw [partition_fst, partition_arr, size_swp]
 exact ⟨r1, r2, r3.1.trans (size_swp _ _ _)⟩
theorem weak_partEq (lt : α → α → Bool) (d : Array α) (a b p : Nat) (hap : a ≤ p) (hpb : p < b) (hb : b ≤ d.size) :
  a < (partitionEqual lt d a b p).1 ∧ (partitionEqual lt d a b p).1 ≤ b ∧ (partitionEqual lt d a b p).2.size = d.size := by
 unfold partitionEqual
 have hb0 : b ≤ (swp d a p).size := by rw [size_swp]; exact hb
 obtain ⟨r1, r2, r3, _⟩ := partEqLoop_spec lt a b _ (a + 1) (b - 1) (swp d a p) (Nat.le_refl _) (Nat.lt_succ_self a) (by omega) (by omega) hb0 (fun t h1 h2 => by omega) (fun t h1 h2 => by omega)
 exact ⟨r1, r2, r3.1.trans (size_swp _ _ _)⟩
theorem weak_insInner (lt : α → α → Bool) (a : Nat) : ∀ (j : Nat) (d : Array α), (insInner lt a j d).size = d.size
 | 0, d => rfl
 | j + 1, d => by
  rw [insInner]
  split
  ·rw [weak_insInner lt a j, size_swp]
  ·rfl
theorem weak_insOuter (lt : α → α → Bool) (a b : Nat) : ∀ (n i : Nat) (d : Array α), b - i ≤ n → (insOuter lt a b i d).size = d.size
 | 0, i, d, h => by rw [insOuter, if_neg (by omega)]
 | n + 1, i, d, h => by
  rw [insOuter]
  split
  ·rw [weak_insOuter lt a b n (i + 1) _ (by omega), weak_insInner]
  ·rfl
theorem weak_ins (lt : α → α → Bool) (d : Array α) (a b : Nat) : (insertionSort lt d a b).size = d.size := weak_insOuter lt a b _ _ d (Nat.le_refl _)
theorem weak_sift (lt : α → α → Bool) (hi f : Nat) : ∀ (n r : Nat) (d : Array α), hi - r ≤ n → (siftDown lt hi f r d).size = d.size
 | 0, r, d, h => by rw [siftDown, dif_pos (by omega)]
 | n + 1, r, d, h => by
  rw [siftDown]
  repeat' split
  all_goals first | rfl | (rw [weak_sift lt hi f n _ _ (by omega), size_swp])
theorem weak_build (lt : α → α → Bool) (hi f : Nat) : ∀ (k : Nat) (d : Array α), (heapBuild lt hi f k d).size = d.size
 | 0, d => rfl
 | k + 1, d => by rw [heapBuild, weak_build lt hi f k, weak_sift lt hi f _ _ _ (Nat.le_refl _)]
theorem weak_pop (lt : α → α → Bool) (f : Nat) : ∀ (k : Nat) (d : Array α), (heapPop lt f k d).size = d.size
 | 0, d => rfl
 | k + 1, d => by rw [heapPop, weak_pop lt f k, weak_sift lt k f _ _ _ (Nat.le_refl _), size_swp]
theorem weak_heap (lt : α → α → Bool) (d : Array α) (a b : Nat) : (heapSort lt d a b).size = d.size := by
 unfold heapSort
 rw [weak_pop, weak_build]
theorem weak_down (lt : α → α → Bool) : ∀ (j : Nat) (d : Array α), (shiftDown lt j d).size = d.size
 | 0, d => rfl
 | j + 1, d => by
  rw [shiftDown]
  split
  ·rfl
  ·rw [weak_down lt j, size_swp]
theorem weak_up (lt : α → α → Bool) (b : Nat) : ∀ (n j : Nat) (d : Array α), b - j ≤ n → (shiftUp lt b j d).size = d.size
 | 0, j, d, h => by rw [shiftUp, if_neg (by omega)]
 | n + 1, j, d, h => by
  rw [shiftUp]
  repeat' split
  all_goals first | rfl | (rw [weak_up lt b n _ _ (by omega), size_swp])
theorem weak_steps (lt : α → α → Bool) (a b : Nat) : ∀ (s i : Nat) (d : Array α), (partialIns lt a b s i d).1.size = d.size
 | 0, _, _ => rfl
 | s + 1, i, d => by
  rw [partialIns]
  simp only []
  repeat' split
  all_goals first | rfl | (rw [weak_steps lt a b s]; simp only [weak_up lt b _ _ _ (Nat.le_refl _), weak_down, size_swp])
theorem weak_partial (lt : α → α → Bool) (d : Array α) (a b : Nat) : (partialInsertionSort lt d a b).1.size = d.size := weak_steps lt a b _ _ d
theorem weak_break (d : Array α) (a b : Nat) (hab : a ≤ b) (hb : b ≤ d.size) : (breakPatterns d a b).size = d.size := (breakPatterns_holds d a b hab hb).1
theorem weak_rev (d : Array α) (a b : Nat) (hab : a ≤ b) (hb : b ≤ d.size) : (reverseRange d a b).size = d.size := (reverseRange_holds d a b hab hb).1
end Go.Proofs.YtifeniiefhpadaaGreatDoor
