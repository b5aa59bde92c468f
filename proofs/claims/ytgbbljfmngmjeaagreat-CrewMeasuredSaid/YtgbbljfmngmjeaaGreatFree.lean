/- A region that draws its order, whose operations make memory (and read old memory) in whatever order, ahead of a tail in one order: each operation is shown once. No condition. -/
import Derived.Test.YtgbbljfmngmjeaaGreatBasePack
import Derived.Test.YtgbbljfmngmjeaaGreatGrow
import Derived.StillTail
import Derived.ScopeJumps
set_option linter.all false
namespace Go.Proofs.YtgbbljfmngmjeaaGreat
open Go.RowKit

theorem wp_scope_key {P : Program} {Q : Exit → Act → World → Prop} {a : Act} {w : World} {c rest : Code} (l : Nat) (J : Nat → Act → World → Prop) (hf : findLabel c l = some rest)
  (pass : ∀ n a w, J n a w → rest.wp P (Exit.jump l (fun a' w' => ∃ m, m < n ∧ J m a' w') Q) a w)
  (first : (∀ n a w, J n a w → rest.wp P (Exit.jump l (fun a' w' => ∃ m, J m a' w') Q) a w) → c.wp P (Exit.jump l (fun a' w' => ∃ m, J m a' w') Q) a w) : (Code.scope c).wp P Q a w := by
 have first := first fun n a w hJ => wp_mono (pass n a w hJ) fun e a' w' h => by
  cases e with
  | goto l' => exact ⟨h.1, h.2.choose, h.2.choose_spec.2⟩
  | normal => exact h
  | exit id => exact h
  | ret => exact h
  | panic ch => exact h
  | outgrown => exact h
 intro b k cs
 have hg : gotoIn l (.inScope c :: k) = some (.code rest :: .inScope c :: k) := by simp [gotoIn, hf]
 have key : ∀ n a w, J n a w → ∃ e a' w', Q e a' w' ∧ Arrives P (lone (b.at a (.code rest :: .inScope c :: k)) cs w) b k cs e a' w' := by
  intro n
  induction n using Nat.strongRecOn with
  | _ n ih =>
   intro a w hJ
   obtain ⟨e, a₁, w₁, hq, harr⟩ := pass n a w hJ b (.inScope c :: k) cs
   cases e with
   | normal => exact ⟨.normal, a₁, w₁, hq, Steps.trans harr (.one step_inScope)⟩
   | exit id => exact ⟨.exit id, a₁, w₁, hq, fun k' hk => harr k' (by simp [exitTo, hk])⟩
   | goto l' =>
    obtain ⟨rfl, m, hm, hJ'⟩ := hq
    obtain ⟨e₂, a₂, w₂, hq₂, harr₂⟩ := ih m hm a₁ w₁ hJ'
    exact ⟨e₂, a₂, w₂, hq₂, .of_steps (harr _ hg) harr₂⟩
   | ret => exact ⟨_, a₁, w₁, hq, harr⟩
   | panic ch => exact ⟨_, a₁, w₁, hq, harr⟩
   | outgrown => exact ⟨_, a₁, w₁, hq, harr⟩
 obtain ⟨e, a₁, w₁, hq, harr⟩ := first b (.inScope c :: k) cs
 cases e with
 | normal => exact ⟨.normal, a₁, w₁, hq, .head step_scope (Steps.trans harr (.one step_inScope))⟩
 | exit id => exact ⟨.exit id, a₁, w₁, hq, fun k' hk => .head step_scope (harr k' (by simp [exitTo, hk]))⟩
 | goto l' =>
  obtain ⟨rfl, m, hJ'⟩ := hq
  obtain ⟨e₂, a₂, w₂, hq₂, harr₂⟩ := key m a₁ w₁ hJ'
  exact ⟨e₂, a₂, w₂, hq₂, .of_steps (.head step_scope (harr _ hg)) harr₂⟩
 | ret => exact ⟨_, a₁, w₁, hq, .of_steps (.one step_scope) harr⟩
 | panic ch => exact ⟨_, a₁, w₁, hq, .of_steps (.one step_scope) harr⟩
 | outgrown => exact ⟨_, a₁, w₁, hq, .of_steps (.one step_scope) harr⟩

theorem wp_scope_key2 {P : Program} {Q : Exit → Act → World → Prop} {a : Act} {w : World} {c r : Code} (l : Nat) (J : Nat → Act → World → Prop) (hf : findLabel c l = some (.seq .skip r))
  (pass : ∀ n a w, J n a w → r.wp P (Exit.jump l (fun a' w' => ∃ m, m < n ∧ J m a' w') Q) a w)
  (first : (∀ n a w, J n a w → r.wp P (Exit.jump l (fun a' w' => ∃ m, J m a' w') Q) a w) → c.wp P (Exit.jump l (fun a' w' => ∃ m, J m a' w') Q) a w) : (Code.scope c).wp P Q a w :=
 wp_scope_key l J hf (fun n a w hJ => wp_seq (wp_skip (pass n a w hJ))) fun _ => first fun n a w hJ => wp_mono (pass n a w hJ) fun e a' w' h => by
  cases e with
  | goto l' => exact ⟨h.1, h.2.choose, h.2.choose_spec.2⟩
  | normal => exact h
  | exit id => exact h
  | ret => exact h
  | panic ch => exact h
  | outgrown => exact h

def actOf (l : List Oper) (L : Array Bool) (vs : Nat → Value) (a0 : Act) : Nat → Act
 | 0 => a0
 | i + 1 => if L.getD i false = true then (actOf l L vs a0 i).put ((l[i]?).bind (·.dst)) (vs i) else actOf l L vs a0 i

def dstsB (l : List Oper) (n : Nat) : Bool :=
 (List.range n).all fun i => (List.range n).all fun j => i == j || (match (l[i]?).bind (·.dst), (l[j]?).bind (·.dst) with | some x, some y => x != y | _, _ => true)
theorem dstsB_spec {l : List Oper} {n : Nat} (h : dstsB l n = true) {i j : Nat} (hi : i < n) (hj : j < n) (hij : i ≠ j) {x : Tmp} (hx : (l[i]?).bind (·.dst) = some x) : (l[j]?).bind (·.dst) ≠ some x := by
 intro hy
 have h1 := List.all_eq_true.1 (List.all_eq_true.1 h i (List.mem_range.2 hi)) j (List.mem_range.2 hj)
 rw [hx, hy] at h1
 simp [hij] at h1

theorem actOf_congr {l : List Oper} {L L' : Array Bool} {vs vs' : Nat → Value} {a0 : Act} : ∀ n, (∀ i, i < n → L.getD i false = L'.getD i false ∧ (L.getD i false = true → vs i = vs' i)) → actOf l L vs a0 n = actOf l L' vs' a0 n
 | 0, _ => rfl
 | n + 1, h => by
  have h1 := actOf_congr n (fun i hi => h i (by omega)) (l := l) (a0 := a0)
  have h2 := h n (by omega)
  simp only [actOf]
  rw [h1, ← h2.1]
  split
  ·rename_i ht; rw [h2.2 ht]
  ·rfl
theorem actOf_set {l : List Oper} {L : Array Bool} {vs : Nat → Value} {a0 : Act} {m : Nat} (hd : dstsB l m = true) {i : Nat} (u : Value) (hi : L.getD i true = false) : ∀ n, n ≤ m → i < n →
  (actOf l L vs a0 n).put ((l[i]?).bind (·.dst)) u = actOf l (L.setIfInBounds i true) (fun j => if j = i then u else vs j) a0 n := by
 have his : i < L.size := by
  rcases Nat.lt_or_ge i L.size with h | h
  ·exact h
  ·simp [Array.getElem?_eq_none h] at hi
 intro n
 induction n with
 | zero => intro _ h; omega
 | succ n ih =>
  intro hn hin
  by_cases e : i = n
  ·subst e
   have h0 : L.getD i false = false := getD_both hi
   have h1 : (L.setIfInBounds i true).getD i false = true := by simp [his]
   simp only [actOf, h0, h1, if_true]
   have hc : actOf l L vs a0 i = actOf l (L.setIfInBounds i true) (fun j => if j = i then u else vs j) a0 i := actOf_congr i fun j hj => ⟨by rw [getD_set_ne false (by omega)], fun _ => by rw [if_neg (by omega)]⟩
   rw [hc]; simp
  ·have ih' := ih (by omega) (by omega)
   simp only [actOf]
   rw [getD_set_ne false e]
   split
   ·rw [if_neg (fun h => e h.symm), ← ih']
    exact (Act.put_comm _ _ _ (fun d hx => dstsB_spec hd (by omega) (by omega) e hx)).symm ▸ rfl
   ·exact ih'

def left_ (L : Array Bool) : Nat → Nat
 | 0 => 0
 | i + 1 => left_ L i + if L.getD i false = true then 0 else 1
theorem left_set {L : Array Bool} {i : Nat} (hi : L.getD i true = false) : ∀ n, (i < n → left_ (L.setIfInBounds i true) n + 1 = left_ L n) ∧ (n ≤ i → left_ (L.setIfInBounds i true) n = left_ L n) := by
 have his : i < L.size := by
  rcases Nat.lt_or_ge i L.size with h | h
  ·exact h
  ·simp [Array.getElem?_eq_none h] at hi
 have h0 : L.getD i false = false := getD_both hi
 have h1 : (L.setIfInBounds i true).getD i false = true := by simp [his]
 intro n
 induction n with
 | zero => exact ⟨fun h => absurd h (by omega), fun _ => rfl⟩
 | succ n ih =>
  refine ⟨fun h => ?_, fun h => ?_⟩
  ·by_cases e : i = n
   ·subst e
    have := ih.2 (Nat.le_refl _)
    simp only [left_, h0, h1, if_true, Bool.false_eq_true, if_false]; omega
   ·have := ih.1 (by omega)
    simp only [left_, getD_set_ne false e]; omega
  ·have := ih.2 (by omega)
   simp only [left_, getD_set_ne false (show i ≠ n by omega), this]
theorem left_zero {L : Array Bool} : ∀ n, left_ L n = 0 → ∀ i, i < n → L.getD i false = true
 | 0, _, _, h => absurd h (by omega)
 | n + 1, h, i, hi => by
  simp only [left_] at h
  by_cases e : i = n
  ·subst e
   by_cases hL : L.getD i false = true
   ·exact hL
   ·rw [if_neg hL] at h; omega
  ·exact left_zero n (Nat.eq_zero_of_add_eq_zero_right h) i (by omega)
theorem left_pos {L : Array Bool} : ∀ n, 0 < left_ L n → ∃ i, i < n ∧ L.getD i false = false ∧ ∀ j, j < i → L.getD j false = true
 | 0, h => by simp [left_] at h
 | n + 1, h => by
  by_cases h0 : left_ L n = 0
  ·have h1 := left_zero n h0
   unfold left_ at h
   by_cases hL : L.getD n false = true
   ·rw [if_pos hL] at h; omega
   ·exact ⟨n, by omega, by simpa using hL, h1⟩
  ·obtain ⟨i, hi, h1, h2⟩ := left_pos (L := L) n (by omega)
   exact ⟨i, by omega, h1, h2⟩

def fullL (n m : Nat) : Array Bool := (List.replicate n true ++ List.replicate m false).toArray
theorem full_of {n : Nat} {L : Array Bool} {m : Nat} (hsz : L.size = n + m) (hh : ∀ i, i < n → L.getD i false = true) (ht : ∀ t, n ≤ t → t < n + m → L.getD t true = false) : L = fullL n m := by
 apply Array.ext_getElem?
 intro i
 unfold fullL
 show L[i]? = (List.replicate n true ++ List.replicate m false).toArray[i]?
 rw [show (List.replicate n true ++ List.replicate m false).toArray[i]? = (List.replicate n true ++ List.replicate m false)[i]? by simp, List.getElem?_append]
 simp only [List.length_replicate, List.getElem?_replicate]
 by_cases h1 : i < n
 ·have := hh i h1
  have hi : i < L.size := by omega
  simp [hi] at this
  simp [h1, hi, this]
 ·by_cases h2 : i < n + m
  ·have := ht i (by omega) h2
   have hi : i < L.size := by omega
   simp [hi] at this
   rw [if_neg h1, if_pos (by omega)]
   simp [hi, this]
  ·rw [if_neg h1, if_neg (by omega), Array.getElem?_eq_none (by omega)]

def backB (l : List Oper) (n : Nat) : Bool := (List.range n).all fun i => match l[i]? with | some o => o.guard.isNone && o.after.all (fun e => decide (e.on < i)) | none => true

section
variable {P : Program} {l : List Oper} {n g : Nat} {Q : Exit → Act → World → Prop} {a0 : Act} {J : World → Prop} {φ : Nat → Value → World → Prop}

def FreeStep (P : Program) (l : List Oper) (n : Nat) (Q : Exit → Act → World → Prop) (a0 : Act) (J : World → Prop) (φ : Nat → Value → World → Prop) (i : Nat) : Prop :=
 ∀ o, l[i]? = some o → ∀ (L : Array Bool) (vs : Nat → Value) (W : World), J W → (∀ j, j < n → L.getD j false = true → φ j (vs j) W) → (∀ e ∈ o.after, Region.binds .any e = true → L.getD e.on false = true) →
  ∀ K : Act → World → Prop, (∀ u W', Below W.heap.size W W' → J W' → φ i u W' → K ((actOf l L vs a0 n).put o.dst u) W') → o.wp P (actOf l L vs a0 n) W K Q

theorem wpAny_free (hstay : ∀ i v W W', φ i v W → Below W.heap.size W W' → φ i v W') (hb : backB l n = true) (hd : dstsB l n = true) (hn : n < l.length)
  (hs : Region.sinkB .any l.toArray n = true) (hc : Region.chainB .any l.toArray n = true) (hstep : ∀ i, i < n → FreeStep P l n Q a0 J φ i)
  (hL : ∀ vs W, J W → (∀ j, j < n → φ j (vs j) W) → wpAny P .any l.toArray Q g (fullL n (l.length - n)) (actOf l (fullL n (l.length - n)) vs a0 n) W) :
  ∀ f listed vs W, HeadInv .any l.toArray n listed → left_ listed n = f → J W → (∀ j, j < n → listed.getD j false = true → φ j (vs j) W) → wpAny P .any l.toArray Q (f + g) listed (actOf l listed vs a0 n) W := by
 intro f
 induction f with
 | zero =>
  intro listed vs W inv hf hJ hφ
  have hh := left_zero n hf
  have hfull : listed = fullL n (l.length - n) := full_of (by have := inv.size; simp at this; omega) hh (fun t h1 h2 => inv.tail t h1 (by simp; omega))
  subst hfull
  rw [Nat.zero_add]
  exact hL vs W hJ fun j hj => hφ j hj (hh j hj)
 | succ f ih =>
  intro listed vs W inv hf hJ hφ
  obtain ⟨i0, hi0, hu0, hb0⟩ := left_pos n (L := listed) (by omega)
  have hsz : listed.size = l.length := by have := inv.size; simpa using this
  have hready : i0 ∈ Region.ready .any l.toArray listed := by
   have hi0l : i0 < l.length := by omega
   refine mem_ready.2 ⟨getD_in (by omega) hu0, l[i0], by simp [hi0l], fun e he _ => hb0 _ ?_⟩
   have h1 := List.all_eq_true.1 hb i0 (List.mem_range.2 hi0)
   rw [List.getElem?_eq_getElem hi0l] at h1
   simp only [Bool.and_eq_true] at h1
   have h2 := Array.all_eq_true'.1 h1.2 e he
   simpa using h2
  rw [show f + 1 + g = (f + g) + 1 by omega]
  refine ⟨fun h => (by rw [h] at hready; cases hready), fun i hi => ?_⟩
  have hin : i < n := by
   rcases Nat.lt_or_ge i n with h | h
   ·exact h
   ·exact absurd hi (tail_waits hs hc (by simpa using hn) inv (n - i0) i0 rfl hi0 (getD_in (by omega) hu0) i h)
  obtain ⟨hun, o, ho, hall⟩ := mem_ready.1 hi
  have hol : l[i]? = some o := by simpa using ho
  have hg : o.guard = none := by
   have h1 := List.all_eq_true.1 hb i (List.mem_range.2 hin)
   rw [hol] at h1
   simp only [Bool.and_eq_true] at h1
   simpa using h1.1
  unfold wpOp
  simp only [ho]
  rw [if_pos (by simp [Region.wanted, hg])]
  refine .inl (hstep i hin o hol listed vs W hJ hφ hall _ fun u W' hB hJ' hφ' => ?_)
  have hset := actOf_set (a0 := a0) (vs := vs) hd u hun n (Nat.le_refl _) hin
  rw [hol] at hset
  simp only [Option.bind_some] at hset
  rw [hset]
  refine ih _ _ W' (inv.set hi hin) ?_ hJ' fun j hj hjl => ?_
  ·have := (left_set hun n).1 hin; omega
  ·by_cases e : j = i
   ·subst e; simpa using hφ'
   ·rw [getD_set_ne false (fun h => e h.symm)] at hjl
    simp only [e, if_false]
    exact hstay j _ W W' (hφ j hj hjl) hB

def putsOf (l : List Oper) (vs : Nat → Value) (a0 : Act) : Nat → Act
 | 0 => a0
 | i + 1 => (putsOf l vs a0 i).put ((l[i]?).bind (·.dst)) (vs i)
theorem actOf_full {m : Nat} {vs : Nat → Value} : ∀ k, k ≤ n → actOf l (fullL n m) vs a0 k = putsOf l vs a0 k
 | 0, _ => rfl
 | k + 1, hk => by
  have : (fullL n m).getD k false = true := by
   unfold fullL
   rw [show (List.replicate n true ++ List.replicate m false).toArray.getD k false = ((List.replicate n true ++ List.replicate m false)[k]?).getD false by simp, List.getElem?_append]
   simp [show k < n by omega]
  simp only [actOf, putsOf, this, if_true]
  rw [actOf_full k (by omega)]

theorem wp_region_free {id : Nat} {w : World} (n : Nat) (J : World → Prop) (φ : Nat → Value → World → Prop) (hm : P.follows .mixedOrders = true) (hstay : ∀ i v W W', φ i v W → Below W.heap.size W W' → φ i v W')
  (hB : (backB l n && dstsB l n && decide (n < l.length) && Region.sinkB .any l.toArray n && Region.chainB .any l.toArray n && Region.seqB .any l.toArray (l.length - n) n (fullL n (l.length - n))) = true)
  (hJ : J w.drew) (hstep : ∀ i, i < n → FreeStep P l n Q a0 J φ i)
  (hL : ∀ vs W, J W → (∀ j, j < n → φ j (vs j) W) → wpList P l.toArray Q (l.drop n) (putsOf l vs a0 n) W) : (Code.region id l.toArray true).wp P Q a0 w := by
 simp only [Bool.and_eq_true, decide_eq_true_eq] at hB
 obtain ⟨⟨⟨⟨⟨hb, hd⟩, hn⟩, hs⟩, hc⟩, hq⟩ := hB
 refine wp_region_any hm ?_
 have inv0 : HeadInv .any l.toArray n (Array.replicate l.toArray.size false) :=
  ⟨by simp, fun j oj _ hl => (by rw [getD_replicate_false] at hl; cases hl), fun t _ ht => getD_in (by simpa using ht) (getD_replicate_false _ _)⟩
 have hleft : ∀ k, left_ (Array.replicate l.toArray.size false) k = k := by
  intro k
  induction k with
  | zero => rfl
  | succ k ih => simp only [left_, ih, getD_replicate_false]; simp
 have hact : ∀ k, actOf l (Array.replicate l.toArray.size false) (fun _ => undef) a0 k = a0 := by
  intro k
  induction k with
  | zero => rfl
  | succ k ih => simp only [actOf, ih, getD_replicate_false]; simp
 have H := wpAny_free (P := P) (Q := Q) (a0 := a0) (g := l.length - n) hstay hb hd hn hs hc hstep (fun vs W hJ hφ => by
  rw [actOf_full n (Nat.le_refl _)]
  have hdl : (l.drop n).length = l.length - n := by simp
  have := wpAny_of_seq (md := .any) (Q' := Q) (l.drop n) n (fullL n (l.length - n)) (putsOf l vs a0 n) W (fun j => by simp [List.getElem?_drop]) (by rw [hdl]; exact hq) (hL vs W hJ hφ)
  rwa [hdl] at this) n (Array.replicate l.toArray.size false) (fun _ => undef) w.drew inv0 (hleft n) hJ (fun j _ hl => by rw [getD_replicate_false] at hl; cases hl)
 rw [hact, show n + (l.length - n) = l.toArray.size by simp; omega] at H
 exact H

theorem actOf_size {L : Array Bool} {vs : Nat → Value} : ∀ k, (actOf l L vs a0 k).tmps.size = a0.tmps.size ∧ (actOf l L vs a0 k).defers = a0.defers
 | 0 => ⟨rfl, rfl⟩
 | k + 1 => by
  have h := actOf_size (L := L) (vs := vs) k
  simp only [actOf]
  split
  ·cases (l[k]?).bind (·.dst) with
   | none => exact h
   | some d => exact ⟨by simp [Act.put, h.1], h.2⟩
  ·exact h
theorem actOf_other {L : Array Bool} {vs : Nat → Value} {t : Tmp} : ∀ k, (∀ j, j < k → (l[j]?).bind (·.dst) ≠ some t) → (actOf l L vs a0 k).eval (.tmp t) = a0.eval (.tmp t)
 | 0, _ => rfl
 | k + 1, h => by
  have ih := actOf_other (L := L) (vs := vs) k fun j hj => h j (by omega)
  have hk := h k (by omega)
  simp only [actOf]
  split
  ·cases hd : (l[k]?).bind (·.dst) with
   | none => exact ih
   | some d =>
    rw [hd] at hk
    have hne : d ≠ t := fun e => hk (by rw [e])
    rw [← ih]
    simp [Act.put, Act.eval, Array.getElem?_setIfInBounds_ne hne]
  ·exact ih
theorem actOf_at {L : Array Bool} {vs : Nat → Value} {t : Tmp} {m : Nat} (hd : dstsB l m = true) {j : Nat} (hL : L.getD j false = true) (ht : (l[j]?).bind (·.dst) = some t) (hsz : t < a0.tmps.size) : ∀ k, k ≤ m → j < k → (actOf l L vs a0 k).eval (.tmp t) = vs j
 | 0, _, h => absurd h (by omega)
 | k + 1, hk, hjk => by
  by_cases e : j = k
  ·subst e
   simp only [actOf, hL, if_true, ht]
   have := (actOf_size (l := l) (a0 := a0) (L := L) (vs := vs) j).1
   simp [Act.put, Act.eval, this, hsz]
  ·have ih := actOf_at hd hL ht hsz k (by omega) (show j < k by omega) (vs := vs)
   simp only [actOf]
   split
   ·cases hdk : (l[k]?).bind (·.dst) with
    | none => exact ih
    | some d =>
     have hne : d ≠ t := fun e' => dstsB_spec hd (show j < m by omega) (show k < m by omega) e ht (by rw [hdk, e'])
     rw [← ih]
     simp [Act.put, Act.eval, Array.getElem?_setIfInBounds_ne hne]
   ·exact ih

theorem wp_of_value {o : Oper} {a : Act} {W W' : World} {u : Value} {K : Act → World → Prop} (h : (execOp a.eval o).run P W = .ok (.value u) W') (hk : K (a.put o.dst u) W') : o.wp P a W K Q := by
 unfold Oper.wp; rw [h]; exact hk
theorem wp_of_skip {o : Oper} {a : Act} {W W' : World} {K : Act → World → Prop} (h : (execOp a.eval o).run P W = .ok .skip W') (hk : K (a.put o.dst undef) W') : o.wp P a W K Q := by
 unfold Oper.wp; rw [h]; exact hk
theorem wp_of_enter {o : Oper} {a : Act} {W : World} {f : FuncId} {args : Array Value} {K : Act → World → Prop} {R : Value → World → Prop} (h : (execOp a.eval o).run P W = .ok (.enter f args) W)
  (hc : Calls P f args W fun e w' => ∃ v, e = .returned v ∧ R v w') (hk : ∀ v w', R v w' → K (a.put o.dst v) w') : o.wp P a W K Q := by
 unfold Oper.wp; rw [h]
 exact hc.mono fun e w' ⟨v, he, hr⟩ => by subst he; exact hk v w' hr
theorem free_step (hd : dstsB l n = true) {i : Nat} (h : ∀ o, l[i]? = some o → ∀ (a : Act) (vs : Nat → Value) (W : World), J W →
  (∀ t, ((List.range n).all fun j => (l[j]?).bind (·.dst) != some t) = true → a.tmps[t]?.getD undef = a0.tmps[t]?.getD undef) →
  (∀ j t, o.after.any (fun e => e.on == j && Region.binds .any e) = true → j < n → (l[j]?).bind (·.dst) = some t → t < a0.tmps.size → a.tmps[t]?.getD undef = vs j ∧ φ j (vs j) W) →
  ∀ K : Act → World → Prop, (∀ u W', Below W.heap.size W W' → J W' → φ i u W' → K (a.put o.dst u) W') → o.wp P a W K Q) : FreeStep P l n Q a0 J φ i := by
 intro o ho L vs W hJ hφ haft K hK
 refine h o ho (actOf l L vs a0 n) vs W hJ (fun t ht => ?_) (fun j t hj hjn ht hsz => ?_) K hK
 ·have h1 := actOf_other (a0 := a0) (L := L) (vs := vs) (l := l) (t := t) n fun j hj => by
   have := List.all_eq_true.1 ht j (List.mem_range.2 hj)
   simpa using this
  simpa [Act.eval] using h1
 ·rw [Array.any_eq_true'] at hj
  obtain ⟨e, he, hb⟩ := hj
  simp only [Bool.and_eq_true, beq_iff_eq] at hb
  obtain ⟨rfl, hb⟩ := hb
  have hL := haft e he hb
  have h1 := actOf_at (vs := vs) hd hL ht hsz n (Nat.le_refl _) hjn
  exact ⟨by simpa [Act.eval] using h1, hφ _ hjn hL⟩
end
end Go.Proofs.YtgbbljfmngmjeaaGreat
