/- Words of a text, and numerals. No condition. -/
import Derived.Test.YtoojedjmlcdomaaGreatDoorSpring25
import Derived.Lib.SplitLaws
set_option linter.all false
namespace Go.Proofs.YtoojedjmlcdomaaGreatDoor
open Go.RowKit

def stepD (n : Int) (c : Nat) : Int := if 48 ≤ c ∧ c ≤ 57 then min (10 * n + ((c : Int) - 48)) 1073741824 else n
def digF (l : List UInt8) : Int := l.foldl (fun n c => stepD n c.toNat) 0
theorem digF_snoc (l : List UInt8) (c : UInt8) : digF (l ++ [c]) = stepD (digF l) c.toNat := by simp [digF]
theorem ofNat_dig {k : Nat} (h : k < 10) : (UInt8.ofNat (48 + k)).toNat = 48 + k := by
 rw [UInt8.toNat_ofNat']
 omega
theorem digF_dec : ∀ (u : Nat), u ≤ 1073741824 → digF (Lib.decDigits u) = u := by
 intro u
 induction u using Nat.strongRecOn with
 | _ u ih =>
  intro hu
  rw [Lib.decDigits]
  split
  ·rename_i h
   simp only [digF, List.foldl_cons, List.foldl_nil, stepD, ofNat_dig h]
   rw [if_pos (by omega)]
   omega
  ·rename_i h
   have h1 := ih (u / 10) (by omega) (by omega)
   rw [digF_snoc, h1, ofNat_dig (show u % 10 < 10 by omega)]
   unfold stepD
   rw [if_pos (by omega)]
   omega
theorem dec_dig : ∀ (u : Nat), ∀ c ∈ Lib.decDigits u, 48 ≤ c.toNat ∧ c.toNat ≤ 57 := by
 intro u
 induction u using Nat.strongRecOn with
 | _ u ih =>
  intro c hc
  rw [Lib.decDigits] at hc
  split at hc
  ·rename_i h
   simp only [List.mem_singleton] at hc
   subst hc
   rw [ofNat_dig h]
   omega
  ·rename_i h
   rcases List.mem_append.1 hc with hc | hc
   ·exact ih (u / 10) (by omega) c hc
   ·simp only [List.mem_singleton] at hc
    subst hc
    rw [ofNat_dig (show u % 10 < 10 by omega)]
    omega
theorem dec_head : ∀ (u : Nat), ∃ c t, Lib.decDigits u = c :: t ∧ (1 ≤ u → c ≠ 48) ∧ (u = 0 → t = []) := by
 intro u
 induction u using Nat.strongRecOn with
 | _ u ih =>
  rw [Lib.decDigits]
  split
  ·rename_i h
   refine ⟨_, [], rfl, fun h1 h2 => ?_, fun _ => rfl⟩
   have h3 := congrArg UInt8.toNat h2
   rw [ofNat_dig h] at h3
   have : (48 : UInt8).toNat = 48 := rfl
   omega
  ·rename_i h
   obtain ⟨c, t, h1, h2, _⟩ := ih (u / 10) (by omega)
   rw [h1]
   exact ⟨c, _, rfl, fun _ => h2 (by omega), fun h0 => by omega⟩
theorem dec_len : ∀ (k u : Nat), u < 10 ^ k → (Lib.decDigits u).length ≤ max k 1
 | 0, u, h => by
  rw [Lib.decDigits, dif_pos (by simp at h; omega)]
  simp
 | k + 1, u, h => by
  rw [Lib.decDigits]
  split
  ·simp
  ·rename_i h1
   have h2 := dec_len k (u / 10) (by rw [Nat.pow_succ] at h; omega)
   rw [List.length_append, List.length_singleton]
   have : k ≠ 0 := fun h0 => by subst h0; simp at h; omega
   omega
theorem itoa_cases (n : Int) : (n < 0 ∧ Lib.itoa n = 45 :: Lib.decDigits n.natAbs) ∨ (0 ≤ n ∧ Lib.itoa n = Lib.decDigits n.toNat) := by
 unfold Lib.itoa
 split
 ·exact .inl ⟨by assumption, rfl⟩
 ·exact .inr ⟨by omega, rfl⟩
theorem itoa_low (n : Int) : ∀ c ∈ Lib.itoa n, c.toNat < 128 ∧ c ≠ 32 := by
 have hd : ∀ (u : Nat), ∀ c ∈ Lib.decDigits u, c.toNat < 128 ∧ c ≠ 32 := fun u c hc => by
  have := dec_dig u c hc
  refine ⟨by omega, fun h => ?_⟩
  subst h
  have : (32 : UInt8).toNat = 32 := rfl
  omega
 intro c hc
 rcases itoa_cases n with ⟨_, h⟩ | ⟨_, h⟩
 ·rw [h] at hc
  rcases List.mem_cons.1 hc with rfl | hc
  ·decide
  ·exact hd _ c hc
 ·rw [h] at hc
  exact hd _ c hc
theorem digF_itoa {n : Int} (h : -1048576 ≤ n ∧ n ≤ 1048576) : digF (Lib.itoa n) = n.natAbs ∧ ((Lib.itoa n).head? = some 45 ↔ n < 0) := by
 rcases itoa_cases n with ⟨h1, h2⟩ | ⟨h1, h2⟩
 ·rw [h2]
  refine ⟨?_, by simp [h1]⟩
  have h3 := digF_dec n.natAbs (by omega)
  rw [← h3]
  simp [digF, stepD]
 ·rw [h2]
  refine ⟨?_, ?_⟩
  ·rw [digF_dec _ (by omega)]
   omega
  ·obtain ⟨c, t, h3, _⟩ := dec_head n.toNat
   have h4 := dec_dig n.toNat c (by rw [h3]; simp)
   rw [h3]
   constructor
   ·intro h5
    simp at h5
    subst h5
    have : (45 : UInt8).toNat = 45 := rfl
    omega
   ·intro h5
    omega

def NoSp (l : List UInt8) : Prop := ∀ c ∈ l, c ≠ 32
theorem index_sp : ∀ {l : List UInt8} (r : List UInt8), NoSp l → Lib.index (l ++ 32 :: r) [32] = (l.length : Int)
 | [], r, _ => by simp [Lib.index]
 | b :: l, r, h => by
  have hb : b ≠ 32 := h b (List.mem_cons_self ..)
  have ih := index_sp r (l := l) fun c hc => h c (List.mem_cons_of_mem _ hc)
  have h1 : ([32] : List UInt8).isPrefixOf (b :: (l ++ 32 :: r)) = false := by
   simp [List.isPrefixOf]
   exact fun e => hb e.symm
  rw [List.cons_append, Lib.index, h1, ih]
  simp
  try omega
theorem index_no : ∀ {l : List UInt8}, NoSp l → Lib.index l [32] = -1
 | [], _ => by simp [Lib.index]
 | b :: l, h => by
  have hb : b ≠ 32 := h b (List.mem_cons_self ..)
  have ih := index_no (l := l) fun c hc => h c (List.mem_cons_of_mem _ hc)
  have h1 : ([32] : List UInt8).isPrefixOf (b :: l) = false := by
   simp [List.isPrefixOf]
   exact fun e => hb e.symm
  rw [Lib.index, h1, ih]
  simp
def splitL (l : List UInt8) : List (List UInt8) := Lib.splitK [32] 0 (Lib.count l [32]) l
theorem splitL_cons {l : List UInt8} (r : List UInt8) (h : NoSp l) : splitL (l ++ 32 :: r) = l :: splitL r := by
 have h1 := index_sp r h
 unfold splitL
 rw [Lib.count_hit (by simp) h1, Nat.add_comm, Lib.splitK, h1, if_neg (by simp; try omega)]
 simp
theorem splitL_one {l : List UInt8} (h : NoSp l) : splitL l = [l] := by
 unfold splitL
 rw [Lib.count_miss (index_no h), Lib.splitK]
def wthL : List UInt8 := [119, 101, 97, 116, 104, 101, 114]
def wordsL (x : Weather) : List (List UInt8) := [wthL, Lib.itoa x.day, Lib.itoa x.temp, Lib.itoa x.rain]
theorem noSp_itoa (n : Int) : NoSp (Lib.itoa n) := fun c hc => (itoa_low n c hc).2
theorem noSp_wth : NoSp wthL := by unfold NoSp wthL; decide
theorem print_join (x : Weather) : printL x = wthL ++ 32 :: (Lib.itoa x.day ++ 32 :: (Lib.itoa x.temp ++ 32 :: Lib.itoa x.rain)) := by
 simp [printL, wthL]
theorem split_print (x : Weather) : splitL (printL x) = wordsL x := by
 rw [print_join, splitL_cons _ noSp_wth, splitL_cons _ (noSp_itoa _), splitL_cons _ (noSp_itoa _), splitL_one (noSp_itoa _)]
 rfl
def wStep (xs : List (List UInt8)) (c : UInt8) : List (List UInt8) := if c = 32 then xs ++ [[]] else xs.dropLast ++ [xs.getLast?.getD [] ++ [c]]
def wFold (l : List UInt8) : List (List UInt8) := l.foldl wStep [[]]
theorem wStep_in (xs : List (List UInt8)) (y : List UInt8) {c : UInt8} (h : c ≠ 32) : wStep (xs ++ [y]) c = xs ++ [y ++ [c]] := by simp [wStep, h]
theorem wStep_sp (xs : List (List UInt8)) : wStep xs 32 = xs ++ [[]] := by simp [wStep]
theorem w_word (xs : List (List UInt8)) : ∀ (l y : List UInt8), NoSp l → l.foldl wStep (xs ++ [y]) = xs ++ [y ++ l]
 | [], y, _ => by simp
 | c :: l, y, h => by
  rw [List.foldl_cons, wStep_in xs y (h c (List.mem_cons_self ..)), w_word xs l _ fun d hd => h d (List.mem_cons_of_mem _ hd)]
  simp
theorem wFold_print (x : Weather) : wFold (printL x) = wordsL x := by
 rw [print_join, wFold, show ([[]] : List (List UInt8)) = [] ++ [[]] from rfl]
 rw [List.foldl_append, w_word _ _ _ noSp_wth, List.foldl_cons, wStep_sp, List.foldl_append, w_word _ _ _ (noSp_itoa _), List.foldl_cons, wStep_sp, List.foldl_append, w_word _ _ _ (noSp_itoa _), List.foldl_cons, wStep_sp, w_word _ _ _ (noSp_itoa _)]
 simp [wordsL]
theorem wFold_snoc (l : List UInt8) (c : UInt8) : wFold (l ++ [c]) = wStep (wFold l) c := by simp [wFold]
theorem wFold_ne (l : List UInt8) : ∃ xs y, wFold l = xs ++ [y] := by
 unfold wFold
 suffices h : ∀ (l : List UInt8) (xs : List (List UInt8)) (y : List UInt8), ∃ xs' y', l.foldl wStep (xs ++ [y]) = xs' ++ [y'] from h l [] []
 intro l
 induction l with
 | nil => exact fun xs y => ⟨xs, y, rfl⟩
 | cons c l ih =>
  intro xs y
  rw [List.foldl_cons]
  by_cases hc : c = 32
  ·subst hc
   rw [wStep_sp]
   exact ih _ _
  ·rw [wStep_in xs y hc]
   exact ih _ _
theorem wFold_len (l : List UInt8) : (wFold l).length ≤ l.length + 1 := by
 unfold wFold
 suffices h : ∀ (l : List UInt8) (xs : List (List UInt8)) (y : List UInt8), (l.foldl wStep (xs ++ [y])).length ≤ l.length + (xs.length + 1) from by simpa using h l [] []
 intro l
 induction l with
 | nil => intro xs y; simp
 | cons c l ih =>
  intro xs y
  rw [List.foldl_cons]
  by_cases hc : c = 32
  ·subst hc
   rw [wStep_sp]
   have := ih (xs ++ [y]) []
   simp only [List.length_append, List.length_cons, List.length_nil] at this ⊢
   omega
  ·rw [wStep_in xs y hc]
   have := ih xs (y ++ [c])
   simp only [List.length_cons] at this ⊢
   omega

def intF (l : List UInt8) : Int := l.foldl (fun n c => 10 * n + ((c.toNat : Int) - 48)) 0
theorem intF_snoc (l : List UInt8) (c : UInt8) : intF (l ++ [c]) = 10 * intF l + ((c.toNat : Int) - 48) := by simp [intF]
theorem intF_dec : ∀ (u : Nat), intF (Lib.decDigits u) = u := by
 intro u
 induction u using Nat.strongRecOn with
 | _ u ih =>
  rw [Lib.decDigits]
  split
  ·rename_i h
   simp only [intF, List.foldl_cons, List.foldl_nil, ofNat_dig h]
   omega
  ·rename_i h
   rw [intF_snoc, ih (u / 10) (by omega), ofNat_dig (show u % 10 < 10 by omega)]
   omega
def digB (c : UInt8) : Bool := decide (48 ≤ c.toNat ∧ c.toNat ≤ 57)
def negB (l : List UInt8) : Bool := l.head? == some 45
def bodyL (l : List UInt8) : List UInt8 := if negB l then l.tail else l
def badB (b : List UInt8) (neg : Bool) : Bool := decide (b.length = 0) || decide (14 < b.length) || (b.head? == some 48 && (neg || decide (1 < b.length)))
def intV (l : List UInt8) : Int × Bool := if badB (bodyL l) (negB l) then (0, false) else if (bodyL l).all digB then (if negB l then -intF (bodyL l) else intF (bodyL l), true) else (0, false)
theorem intV_itoa {n : Int} (h : -1048576 ≤ n ∧ n ≤ 1048576) : intV (Lib.itoa n) = (n, true) := by
 have hall : ∀ u, (Lib.decDigits u).all digB = true := fun u => by
  rw [List.all_eq_true]
  exact fun c hc => by simp [digB, dec_dig u c hc]
 have hlen : ∀ u, u < 10 ^ 7 → (Lib.decDigits u).length ≤ 7 := fun u hu => dec_len 7 u hu
 rcases itoa_cases n with ⟨h1, h2⟩ | ⟨h1, h2⟩
 ·have hn : negB (Lib.itoa n) = true := by rw [h2]; rfl
  have hb : bodyL (Lib.itoa n) = Lib.decDigits n.natAbs := by rw [bodyL, hn, h2]; rfl
  obtain ⟨c, t, h3, h4, _⟩ := dec_head n.natAbs
  have hl := hlen n.natAbs (by omega)
  have hbad : badB (Lib.decDigits n.natAbs) true = false := by
   rw [h3] at hl ⊢
   simp only [List.length_cons] at hl
   simp [badB, h4 (by omega)]
   omega
  rw [intV, hb, hn, hbad, hall, intF_dec]
  simp
  omega
 ·obtain ⟨c, t, h3, h4, h5⟩ := dec_head n.toNat
  have h6 := dec_dig n.toNat c (by rw [h3]; simp)
  have hn : negB (Lib.itoa n) = false := by
   rw [h2, h3]
   simp only [negB, List.head?_cons, beq_eq_false_iff_ne, ne_eq, Option.some.injEq]
   intro e
   subst e
   have : (45 : UInt8).toNat = 45 := rfl
   omega
  have hb : bodyL (Lib.itoa n) = Lib.decDigits n.toNat := by rw [bodyL, hn, h2]; rfl
  have hl := hlen n.toNat (by omega)
  have hbad : badB (Lib.decDigits n.toNat) false = false := by
   rw [h3] at hl ⊢
   simp only [List.length_cons] at hl
   rcases Nat.eq_zero_or_pos n.toNat with h0 | h0
   ·rw [h5 h0]
    simp [badB]
   ·simp [badB, h4 h0]
    omega
  rw [intV, hb, hn, hbad, hall, intF_dec]
  simp
  omega
end Go.Proofs.YtoojedjmlcdomaaGreatDoor
