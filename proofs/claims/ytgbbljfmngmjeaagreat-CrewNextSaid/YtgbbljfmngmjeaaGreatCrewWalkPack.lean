/- Walks over tracks, and how short they can be. No condition. -/
import Derived.Test.YtgbbljfmngmjeaaGreatLeafPack
import Derived.Test.YtgbbljfmngmjeaaGreatCrew2Pack
import Derived.Test.YtgbbljfmngmjeaaGreatCrew9Pack
import Derived.Test.YtgbbljfmngmjeaaGreatCrewDefsPack
set_option linter.all false
namespace Go.Proofs.YtgbbljfmngmjeaaGreat
open Go.RowKit

def ArcT (ss : List Site) (t : Track) (x y : Nat) : Prop := (x = pA ss t ∧ y = pB ss t) ∨ (x = pB ss t ∧ y = pA ss t)
theorem ArcT.symm {ss : List Site} {t : Track} {x y : Nat} (h : ArcT ss t x y) : ArcT ss t y x := h.elim (fun h => .inr ⟨h.2, h.1⟩) fun h => .inl ⟨h.2, h.1⟩
def WalkT (ss : List Site) : Nat → List Track → Nat → Prop
 | x, [], y => x = y
 | x, t :: l, y => ∃ z, ArcT ss t x z ∧ WalkT ss z l y
def costT : List Track → Int
 | [] => 0
 | t :: l => t.minutes + costT l
def SubT (l O : List Track) : Prop := ∀ t ∈ l, t ∈ O
theorem SubT.nil (O : List Track) : SubT [] O := fun _ h => by cases h
theorem SubT.cons {t : Track} {l O : List Track} (h : t ∈ O) (hl : SubT l O) : SubT (t :: l) O := fun u hu => by
 rcases List.mem_cons.1 hu with rfl | hu
 ·exact h
 ·exact hl u hu
theorem SubT.append {a b O : List Track} (ha : SubT a O) (hb : SubT b O) : SubT (a ++ b) O := fun u hu => (List.mem_append.1 hu).elim (ha u) (hb u)
theorem SubT.left {a b O : List Track} (h : SubT (a ++ b) O) : SubT a O := fun u hu => h u (List.mem_append_left _ hu)
theorem SubT.right {a b O : List Track} (h : SubT (a ++ b) O) : SubT b O := fun u hu => h u (List.mem_append_right _ hu)
theorem SubT.reverse {a O : List Track} (h : SubT a O) : SubT a.reverse O := fun u hu => h u (List.mem_reverse.1 hu)
theorem costT_append : ∀ a b : List Track, costT (a ++ b) = costT a + costT b
 | [], b => by simp [costT]
 | t :: a, b => by simp only [List.cons_append, costT]; rw [costT_append a b]; omega
theorem costT_reverse : ∀ a : List Track, costT a.reverse = costT a
 | [] => rfl
 | t :: a => by rw [List.reverse_cons, costT_append, costT_reverse a]; simp only [costT]; omega
theorem WalkT.append {ss : List Site} {y z : Nat} {b : List Track} : ∀ {a : List Track} {x : Nat}, WalkT ss x a y → WalkT ss y b z → WalkT ss x (a ++ b) z
 | [], _, h, h2 => by cases h; exact h2
 | _ :: _, _, ⟨u, h1, h⟩, h2 => ⟨u, h1, WalkT.append h h2⟩
theorem WalkT.split {ss : List Site} {z : Nat} {b : List Track} : ∀ {a : List Track} {x : Nat}, WalkT ss x (a ++ b) z → ∃ y, WalkT ss x a y ∧ WalkT ss y b z
 | [], x, h => ⟨x, rfl, h⟩
 | _ :: _, _, ⟨u, h1, h⟩ => by
  obtain ⟨y, h2, h3⟩ := WalkT.split h
  exact ⟨y, ⟨u, h1, h2⟩, h3⟩
theorem WalkT.one {ss : List Site} {t : Track} {x y : Nat} (h : ArcT ss t x y) : WalkT ss x [t] y := ⟨y, h, rfl⟩
theorem WalkT.reverse {ss : List Site} : ∀ {a : List Track} {x y : Nat}, WalkT ss x a y → WalkT ss y a.reverse x
 | [], _, _, h => h.symm
 | t :: a, x, y, ⟨u, h1, h⟩ => by
  rw [List.reverse_cons]
  exact (WalkT.reverse h).append (WalkT.one h1.symm)
theorem costT_nonneg {O : List Track} (hO : ∀ t ∈ O, 0 ≤ t.minutes) : ∀ {l : List Track}, SubT l O → 0 ≤ costT l
 | [], _ => Int.le_refl _
 | t :: l, h => by
  have h1 := hO t (h t (List.mem_cons_self ..))
  have h2 := costT_nonneg hO (l := l) fun u hu => h u (List.mem_cons_of_mem _ hu)
  simp only [costT]
  omega
theorem costT_le {O : List Track} (hO : ∀ t ∈ O, t.minutes ≤ 1440) : ∀ {l : List Track}, SubT l O → costT l ≤ 1440 * (l.length : Nat)
 | [], _ => by simp [costT]
 | t :: l, h => by
  have h1 := hO t (h t (List.mem_cons_self ..))
  have h2 := costT_le hO (l := l) fun u hu => h u (List.mem_cons_of_mem _ hu)
  simp only [costT, List.length_cons]
  omega
def WalkIn (ss : List Site) (S : Nat → Prop) : Nat → List Track → Nat → Prop
 | x, [], y => S x ∧ x = y
 | x, t :: l, y => S x ∧ ∃ z, ArcT ss t x z ∧ WalkIn ss S z l y
theorem WalkIn.walk {ss : List Site} {S : Nat → Prop} : ∀ {l : List Track} {x y : Nat}, WalkIn ss S x l y → WalkT ss x l y
 | [], _, _, h => h.2
 | _ :: _, _, _, ⟨_, z, h1, h2⟩ => ⟨z, h1, h2.walk⟩
theorem WalkIn.mono {ss : List Site} {S T : Nat → Prop} (hST : ∀ v, S v → T v) : ∀ {l : List Track} {x y : Nat}, WalkIn ss S x l y → WalkIn ss T x l y
 | [], _, _, h => ⟨hST _ h.1, h.2⟩
 | _ :: _, _, _, ⟨h0, z, h1, h2⟩ => ⟨hST _ h0, z, h1, h2.mono hST⟩
theorem WalkIn.of {ss : List Site} {O : List Track} {n : Nat} (hO : ∀ t ∈ O, pA ss t < n ∧ pB ss t < n) : ∀ {l : List Track} {x y : Nat}, SubT l O → x < n → WalkT ss x l y → WalkIn ss (fun v => v ∈ List.range n) x l y
 | [], x, _, _, hx, h => ⟨List.mem_range.2 hx, h⟩
 | t :: l, x, _, hl, hx, ⟨z, h1, h2⟩ => by
  have hz : z < n := by
   have := hO t (hl t (List.mem_cons_self ..))
   rcases h1 with ⟨_, rfl⟩ | ⟨_, rfl⟩
   ·exact this.2
   ·exact this.1
  exact ⟨List.mem_range.2 hx, z, h1, WalkIn.of hO (fun u hu => hl u (List.mem_cons_of_mem _ hu)) hz h2⟩
theorem WalkT.lt {ss : List Site} {O : List Track} {n : Nat} (hO : ∀ t ∈ O, pA ss t < n ∧ pB ss t < n) : ∀ {l : List Track} {x y : Nat}, SubT l O → x < n → WalkT ss x l y → y < n
 | [], x, _, _, hx, h => h ▸ hx
 | t :: l, x, _, hl, hx, ⟨z, h1, h2⟩ => by
  have hz : z < n := by
   have := hO t (hl t (List.mem_cons_self ..))
   rcases h1 with ⟨_, rfl⟩ | ⟨_, rfl⟩
   ·exact this.2
   ·exact this.1
  exact WalkT.lt hO (fun u hu => hl u (List.mem_cons_of_mem _ hu)) hz h2
theorem last_visit {ss : List Site} {S : Nat → Prop} (x : Nat) : ∀ {l : List Track} {u y : Nat}, WalkIn ss S u l y →
  WalkIn ss (fun v => S v ∧ v ≠ x) u l y ∨ (y = x ∨ ∃ a t b z, l = a ++ t :: b ∧ ArcT ss t x z ∧ WalkIn ss (fun v => S v ∧ v ≠ x) z b y)
 | [], u, y, ⟨h0, h⟩ => by
  by_cases hu : u = x
  ·exact .inr (.inl (h ▸ hu))
  ·exact .inl ⟨⟨h0, hu⟩, h⟩
 | t :: l, u, y, ⟨h0, z, h1, h2⟩ => by
  rcases last_visit x h2 with h | h | ⟨a, t', b, z', e, h3, h4⟩
  ·by_cases hu : u = x
   ·subst hu
    exact .inr (.inr ⟨[], t, l, z, rfl, h1, h⟩)
   ·exact .inl ⟨⟨h0, hu⟩, z, h1, h⟩
  ·exact .inr (.inl h)
  ·exact .inr (.inr ⟨t :: a, t', b, z', by rw [e]; rfl, h3, h4⟩)
theorem short_in {ss : List Site} {O : List Track} (hO : ∀ t ∈ O, 0 ≤ t.minutes) : ∀ (k : Nat) (S : List Nat), S.length ≤ k → ∀ {l : List Track} {x y : Nat}, SubT l O → x ∈ S → WalkIn ss (fun v => v ∈ S) x l y →
  ∃ l', SubT l' O ∧ WalkT ss x l' y ∧ l'.length < S.length ∧ costT l' ≤ costT l
 | 0, S, hk, l, x, y, _, hx, _ => by
  obtain rfl : S = [] := List.length_eq_zero_iff.1 (by omega)
  cases hx
 | k + 1, S, hk, l, x, y, hl, hx, h => by
  rcases last_visit x h with h1 | h1 | ⟨a, t, b, z, rfl, h2, h3⟩
  ·cases l with
   | nil => exact absurd rfl h1.1.2
   | cons t l => exact absurd rfl h1.1.2
  ·subst h1
   exact ⟨[], SubT.nil O, rfl, List.length_pos_of_mem hx, costT_nonneg hO hl⟩
  ·have hlen : (S.filter fun v => decide (v ≠ x)).length < S.length := by
    refine Nat.lt_of_le_of_ne (List.length_filter_le ..) fun e => ?_
    have := (List.length_filter_eq_length_iff.1 e) x hx
    simp at this
   have hmem : ∀ v, (v ∈ S ∧ v ≠ x) → v ∈ S.filter fun v => decide (v ≠ x) := fun v hv => List.mem_filter.2 ⟨hv.1, by simpa using hv.2⟩
   have h4 := h3.mono hmem
   have hz : z ∈ S.filter fun v => decide (v ≠ x) := by
    cases b with
    | nil => exact h4.1
    | cons t b => exact h4.1
   have ht := hl t (by simp)
   have hb : SubT b O := fun u hu => hl u (by simp [hu])
   obtain ⟨l', g1, g2, g3, g4⟩ := short_in hO k _ (by omega) hb hz h4
   refine ⟨t :: l', SubT.cons ht g1, ⟨z, h2, g2⟩, by simp only [List.length_cons]; omega, ?_⟩
   have ha : 0 ≤ costT a := costT_nonneg hO fun u hu => hl u (List.mem_append_left _ hu)
   rw [costT_append]
   simp only [costT]
   omega
theorem walk_short {ss : List Site} {O : List Track} {n : Nat} (hO : ∀ t ∈ O, 0 ≤ t.minutes ∧ pA ss t < n ∧ pB ss t < n) {l : List Track} {x y : Nat} (hl : SubT l O) (hx : x < n) (h : WalkT ss x l y) :
  ∃ l', SubT l' O ∧ WalkT ss x l' y ∧ l'.length < n ∧ costT l' ≤ costT l := by
 have := short_in (fun t ht => (hO t ht).1) n (List.range n) (by simp) hl (List.mem_range.2 hx) (WalkIn.of (fun t ht => (hO t ht).2) hl hx h)
 simpa using this
def AttT (ss : List Site) (O : List Track) (n start : Nat) (d : Nat → Int) : Prop := ∀ i, i < n → d i = farN ∨ ∃ l, SubT l O ∧ WalkT ss start l i ∧ costT l = d i
def LowT (ss : List Site) (O : List Track) (start k : Nat) (d : Nat → Int) : Prop := ∀ i l, SubT l O → l.length ≤ k → WalkT ss start l i → d i ≤ costT l
structure StepT (ss : List Site) (O ts : List Track) (n start : Nat) (d d' : Nat → Int) : Prop where
 mono : ∀ i, i < n → d' i ≤ d i
 arc : ∀ t ∈ ts, ∀ x i, ArcT ss t x i → d' i ≤ d x + t.minutes
 att : AttT ss O n start d → AttT ss O n start d'
theorem StepT.trans {ss : List Site} {O a b : List Track} {n start : Nat} {d e f : Nat → Int} (hb : ∀ t ∈ a ++ b, pA ss t < n ∧ pB ss t < n) (h1 : StepT ss O a n start d e) (h2 : StepT ss O b n start e f) : StepT ss O (a ++ b) n start d f := by
 refine ⟨fun i hi => Int.le_trans (h2.mono i hi) (h1.mono i hi), fun t ht x i hxi => ?_, fun h => h2.att (h1.att h)⟩
 have hlt := hb t ht
 have hx : x < n ∧ i < n := by
  rcases hxi with ⟨rfl, rfl⟩ | ⟨rfl, rfl⟩
  ·exact hlt
  ·exact ⟨hlt.2, hlt.1⟩
 rcases List.mem_append.1 ht with ht | ht
 ·exact Int.le_trans (h2.mono i hx.2) (h1.arc t ht x i hxi)
 ·have h3 := h2.arc t ht x i hxi
  have h4 := h1.mono x hx.1
  omega
theorem StepT.nil (ss : List Site) (O : List Track) (n start : Nat) (d : Nat → Int) : StepT ss O [] n start d d := ⟨fun _ _ => Int.le_refl _, fun _ h => (by cases h), fun h => h⟩
theorem StepT.fold {σ : Type} {ss : List Site} {O : List Track} {n start : Nat} {D : σ → Nat → Int} {f : σ → Track → σ} {J : σ → Prop} (hO : ∀ t ∈ O, pA ss t < n ∧ pB ss t < n)
  (hs : ∀ s t, t ∈ O → J s → J (f s t) ∧ StepT ss O [t] n start (D s) (D (f s t))) : ∀ (ts : List Track) (s : σ), SubT ts O → J s → J (ts.foldl f s) ∧ StepT ss O ts n start (D s) (D (ts.foldl f s))
 | [], s, _, h => ⟨h, StepT.nil ..⟩
 | t :: ts, s, ht, h => by
  have h1 := hs s t (ht t (List.mem_cons_self ..)) h
  have h2 := StepT.fold hO hs ts (f s t) (fun u hu => ht u (List.mem_cons_of_mem _ hu)) h1.1
  exact ⟨h2.1, StepT.trans (a := [t]) (fun u hu => hO u (ht u (by simpa using hu))) h1.2 h2.2⟩
theorem LowT.step {ss : List Site} {O : List Track} {n start k : Nat} {d d' : Nat → Int} (hO : ∀ t ∈ O, pA ss t < n ∧ pB ss t < n) (hst : start < n) (h : LowT ss O start k d) (hd : StepT ss O O n start d d') : LowT ss O start (k + 1) d' := by
 intro i l hl hk hw
 have hi := WalkT.lt hO hl hst hw
 rcases Nat.lt_or_ge l.length (k + 1) with h1 | h1
 ·exact Int.le_trans (hd.mono i hi) (h i l hl (by omega) hw)
 ·have hne : l ≠ [] := by rintro rfl; simp at h1
  have e := List.dropLast_concat_getLast hne
  have ht : l.getLast hne ∈ O := hl _ (List.getLast_mem hne)
  have hlen : l.dropLast.length = l.length - 1 := List.length_dropLast
  rw [← e] at hw hl ⊢
  obtain ⟨y, h2, z, h3, rfl⟩ := WalkT.split hw
  have h4 := hd.arc _ ht y z h3
  have h5 := h y l.dropLast hl.left (by omega) h2
  rw [costT_append]
  simp only [costT]
  omega
structure DistT (ss : List Site) (O : List Track) (n start : Nat) (d : Nat → Int) : Prop where
 low : ∀ i l, SubT l O → WalkT ss start l i → d i ≤ costT l
 att : ∀ i, i < n → d i = farN ∨ ∃ l, SubT l O ∧ WalkT ss start l i ∧ costT l = d i
theorem DistT.of {ss : List Site} {O : List Track} {n start : Nat} {d : Nat → Int} (hO : ∀ t ∈ O, 0 ≤ t.minutes ∧ pA ss t < n ∧ pB ss t < n) (hst : start < n) (h : LowT ss O start n d) (ha : AttT ss O n start d) : DistT ss O n start d :=
 ⟨fun i l hl hw => by
  obtain ⟨l', g1, g2, g3, g4⟩ := walk_short hO hl hst hw
  exact Int.le_trans (h i l' g1 (by omega) g2) g4, ha⟩
section
variable {ss : List Site} {O : List Track} {n start : Nat} {d e : Nat → Int}
theorem DistT.short (h : DistT ss O n start d) (hO : ∀ t ∈ O, 0 ≤ t.minutes ∧ pA ss t < n ∧ pB ss t < n) (hst : start < n) {i : Nat} (hi : i < n) (hf : d i ≠ farN) : ∃ l, SubT l O ∧ WalkT ss start l i ∧ costT l = d i ∧ l.length < n := by
 rcases h.att i hi with h1 | ⟨l, g1, g2, g3⟩
 ·exact absurd h1 hf
 ·obtain ⟨l', k1, k2, k3, k4⟩ := walk_short hO g1 hst g2
  exact ⟨l', k1, k2, Int.le_antisymm (by omega) (h.low i l' k1 k2), k3⟩
theorem DistT.lt_far (h : DistT ss O n start d) (hO : ∀ t ∈ O, 0 ≤ t.minutes ∧ t.minutes ≤ 1440 ∧ pA ss t < n ∧ pB ss t < n) (hn : n ≤ 16) (hst : start < n) {i : Nat} {l : List Track} (hl : SubT l O) (hw : WalkT ss start l i) : 0 ≤ d i ∧ d i ≤ 21600 := by
 have hO1 : ∀ t ∈ O, 0 ≤ t.minutes ∧ pA ss t < n ∧ pB ss t < n := fun t ht => ⟨(hO t ht).1, (hO t ht).2.2⟩
 obtain ⟨l', k1, k2, k3, k4⟩ := walk_short hO1 hl hst hw
 have hi := WalkT.lt (fun t ht => (hO1 t ht).2) hl hst hw
 have h1 := h.low i l' k1 k2
 have h2 := costT_le (fun t ht => (hO t ht).2.1) k1
 have h3 : d i ≤ 21600 := by omega
 refine ⟨?_, h3⟩
 rcases h.att i hi with h4 | ⟨l2, g1, _, g3⟩
 ·rw [h4]; simp [farN]
 ·rw [← g3]; exact costT_nonneg (fun t ht => (hO t ht).1) g1
theorem DistT.eq (h : DistT ss O n start d) (h2 : DistT ss O n start e) (hO : ∀ t ∈ O, 0 ≤ t.minutes ∧ t.minutes ≤ 1440 ∧ pA ss t < n ∧ pB ss t < n) (hn : n ≤ 16) (hst : start < n) {i : Nat} (hi : i < n) : d i = e i := by
 rcases h.att i hi with a | ⟨l, a1, a2, a3⟩
 ·rcases h2.att i hi with b | ⟨l, b1, b2, b3⟩
  ·rw [a, b]
  ·have := h.lt_far hO hn hst b1 b2
   rw [a] at this
   simp [farN] at this
 ·rcases h2.att i hi with b | ⟨l2, b1, b2, b3⟩
  ·have := h2.lt_far hO hn hst a1 a2
   rw [b] at this
   simp [farN] at this
  ·have k1 := h.low i l2 b1 b2
   have k2 := h2.low i l a1 a2
   omega
end

def minS (l : List Stp) (i : Nat) : Int := (l.getD i default).minutes
structure NetT (ss : List Site) (O : List Track) (n : Nat) : Prop where
 at_ : ∀ t ∈ O, (1 ≤ t.minutes ∧ t.minutes ≤ 1440) ∧ pA ss t < n ∧ pB ss t < n
section
variable {ss : List Site} {O : List Track} {n start : Nat} {l : List Stp} {t : Track} {x y : Nat}
theorem NetT.end_ (h : NetT ss O n) : ∀ t ∈ O, pA ss t < n ∧ pB ss t < n := fun t ht => (h.at_ t ht).2
theorem NetT.pos (h : NetT ss O n) : ∀ t ∈ O, 0 ≤ t.minutes ∧ pA ss t < n ∧ pB ss t < n := fun t ht => ⟨by have := (h.at_ t ht).1.1; omega, (h.at_ t ht).2⟩
theorem NetT.bd (h : NetT ss O n) : ∀ t ∈ O, 0 ≤ t.minutes ∧ t.minutes ≤ 1440 ∧ pA ss t < n ∧ pB ss t < n := fun t ht => ⟨by have := (h.at_ t ht).1.1; omega, (h.at_ t ht).1.2, (h.at_ t ht).2⟩
theorem NetT.arc (h : NetT ss O n) (ht : t ∈ O) (ha : ArcT ss t x y) : x < n ∧ y < n := by
 rcases ha with ⟨rfl, rfl⟩ | ⟨rfl, rfl⟩
 ·exact (h.at_ t ht).2
 ·exact (h.at_ t ht).2.symm
theorem StOk.min_bd (h : StOk n l) {i : Nat} (hi : i < n) : 0 ≤ minS l i ∧ minS l i ≤ farN := by
 obtain ⟨s, _, hs, h0, h1⟩ := h.at_ hi
 unfold minS
 rw [hs]
 exact ⟨h0, by unfold farN; exact h1⟩
theorem relax_min (hy : y < l.length) (m no : Int) (i : Nat) : minS (relax1 l x y m no) i = if minS l x + m < minS l y ∧ y = i then minS l x + m else minS l i := by
 unfold relax1 minS
 split
 ·rename_i h
  rw [getD_set_stp hy]
  split
  ·rename_i hi
   rw [if_pos ⟨h, hi⟩]
  ·rename_i hi
   rw [if_neg fun e => hi e.2]
 ·rename_i h
  rw [if_neg fun e => h e.1]
theorem relax_le (hy : y < l.length) (m no : Int) (i : Nat) : minS (relax1 l x y m no) i ≤ minS l i := by
 rw [relax_min hy]
 split
 ·rename_i h
  obtain ⟨h1, rfl⟩ := h
  omega
 ·exact Int.le_refl _
theorem relax_arc (hy : y < l.length) (m no : Int) : minS (relax1 l x y m no) y ≤ minS l x + m := by
 rw [relax_min hy]
 split
 ·exact Int.le_refl _
 ·rename_i h
  have : ¬ minS l x + m < minS l y := fun e => h ⟨e, rfl⟩
  omega
theorem relax_att (hN : NetT ss O n) (hl : StOk n l) (ht : t ∈ O) (ha : ArcT ss t x y) (h : AttT ss O n start (minS l)) (no : Int) : AttT ss O n start (minS (relax1 l x y t.minutes no)) := by
 have hxy := hN.arc ht ha
 intro i hi
 rw [relax_min (by rw [hl.len]; exact hxy.2)]
 split
 ·rename_i hc
  obtain ⟨h1, rfl⟩ := hc
  have h2 := (hN.at_ t ht).1.1
  have h3 := (hl.min_bd hxy.2).2
  rcases h x hxy.1 with h4 | ⟨L, g1, g2, g3⟩
  ·omega
  ·refine .inr ⟨L ++ [t], g1.append (SubT.cons ht (SubT.nil O)), g2.append (WalkT.one ha), ?_⟩
   rw [costT_append, g3]
   simp [costT]
 ·exact h i hi
theorem relaxT_step (hN : NetT ss O n) (hl : StOk n l) (ht : t ∈ O) : StOk n (relaxT ss l t) ∧ StepT ss O [t] n start (minS l) (minS (relaxT ss l t)) := by
 have h1 := hN.at_ t ht
 have a1 : ArcT ss t (pA ss t) (pB ss t) := .inl ⟨rfl, rfl⟩
 have a2 : ArcT ss t (pB ss t) (pA ss t) := .inr ⟨rfl, rfl⟩
 have k1 := hl.relax (x := pA ss t) (y := pB ss t) (m := t.minutes) (no := t.no) (by omega) h1.2.1 h1.2.2
 have k2 := k1.relax (x := pB ss t) (y := pA ss t) (m := t.minutes) (no := t.no) (by omega) h1.2.2 h1.2.1
 have y1 : pB ss t < l.length := by rw [hl.len]; exact h1.2.2
 have y2 : pA ss t < (relax1 l (pA ss t) (pB ss t) t.minutes t.no).length := by rw [k1.len]; exact h1.2.1
 have e : relaxT ss l t = relax1 (relax1 l (pA ss t) (pB ss t) t.minutes t.no) (pB ss t) (pA ss t) t.minutes t.no := rfl
 rw [e]
 refine ⟨k2, fun i _ => Int.le_trans (relax_le y2 ..) (relax_le y1 ..), fun u hu x i hxi => ?_, fun h => relax_att hN k1 ht a2 (relax_att hN hl ht a1 h _) _⟩
 obtain rfl : u = t := by simpa using hu
 rcases hxi with ⟨rfl, rfl⟩ | ⟨rfl, rfl⟩
 ·exact Int.le_trans (relax_le y2 ..) (relax_arc y1 ..)
 ·refine Int.le_trans (relax_arc y2 ..) ?_
  have := relax_le (x := pA ss u) y1 u.minutes u.no (pB ss u)
  omega
theorem rounds_dist (hN : NetT ss O n) (hst : start < n) : ∀ k, StOk n (relaxN ss O (startF n start) k) ∧ LowT ss O start k (minS (relaxN ss O (startF n start) k)) ∧ AttT ss O n start (minS (relaxN ss O (startF n start) k))
 | 0 => by
  have h0 : ∀ i, minS (startF n start) i = if start = i then 0 else (if i < n then farN else 0) := fun i => by
   unfold minS startF
   rw [getD_set_stp (by simpa using hst)]
   split
   ·rfl
   ·split
    ·rename_i h; simp [h]
    ·rename_i h
     simp [h]
     rfl
  refine ⟨StOk.start n start, fun i l hl hk hw => ?_, fun i hi => ?_⟩
  ·obtain rfl : l = [] := List.length_eq_zero_iff.1 (by omega)
   have hw : start = i := hw
   rw [relaxN, h0, if_pos hw]
   exact Int.le_refl _
  ·rw [relaxN, h0]
   by_cases h : start = i
   ·rw [if_pos h]
    exact .inr ⟨[], SubT.nil O, h, rfl⟩
   ·rw [if_neg h, if_pos hi]
    exact .inl rfl
 | k + 1 => by
  obtain ⟨h1, h2, h3⟩ := rounds_dist hN hst k
  have h4 := StepT.fold (D := minS) (f := relaxT ss) (J := StOk n) (start := start) hN.end_ (fun s t ht hs => relaxT_step hN hs ht) O _ (fun _ h => h) h1
  exact ⟨h4.1, h2.step hN.end_ hst h4.2, h4.2.att h3⟩
theorem quick_dist (hN : NetT ss O ss.length) (hst : start < ss.length) : DistT ss O ss.length start (minS (quickF ss O start)) := by
 obtain ⟨_, h2, h3⟩ := rounds_dist hN hst ss.length
 exact DistT.of hN.pos hst h2 h3
theorem quick_stok (hN : NetT ss O ss.length) (hst : start < ss.length) : StOk ss.length (quickF ss O start) := (rounds_dist hN hst ss.length).1
structure PtrT (ss : List Site) (O : List Track) (n start : Nat) (l : List Stp) : Prop where
 ok : StOk n l
 zero : minS l start = 0
 ptr : ∀ i, i < n → ((l.getD i default).before < 0 ∧ (minS l i = farN ∨ i = start)) ∨
  ∃ (x : Nat) (t : Track), x < n ∧ t ∈ O ∧ (l.getD i default).before = x ∧ (l.getD i default).track = t.no ∧ ArcT ss t x i ∧ minS l x + t.minutes ≤ minS l i
theorem PtrT.relax (hN : NetT ss O n) (hst : start < n) (h : PtrT ss O n start l) (ht : t ∈ O) (ha : ArcT ss t x y) : PtrT ss O n start (relax1 l x y t.minutes t.no) := by
 have hxy := hN.arc ht ha
 have h1 := (hN.at_ t ht).1
 have hyl : y < l.length := by rw [h.ok.len]; exact hxy.2
 refine ⟨h.ok.relax (by omega) hxy.1 hxy.2, ?_, fun i hi => ?_⟩
 ·rw [relax_min hyl]
  split
  ·rename_i hc
   obtain ⟨h2, rfl⟩ := hc
   have := (h.ok.min_bd hxy.1).1
   rw [h.zero] at h2
   omega
  ·exact h.zero
 ·by_cases hc : minS l x + t.minutes < minS l y ∧ y = i
  ·obtain ⟨h2, rfl⟩ := hc
   have e : (relax1 l x y t.minutes t.no).getD y default = ⟨minS l x + t.minutes, x, t.no⟩ := by
    unfold relax1
    rw [if_pos (by exact h2), getD_set_stp hyl, if_pos rfl]
    rfl
   refine .inr ⟨x, t, hxy.1, ht, by rw [e], by rw [e], ha, ?_⟩
   have := relax_le (x := x) hyl t.minutes t.no x
   have e2 : minS (relax1 l x y t.minutes t.no) y = minS l x + t.minutes := by unfold minS at e ⊢; rw [e]
   omega
  ·have e : (relax1 l x y t.minutes t.no).getD i default = l.getD i default := by
    unfold relax1
    split
    ·rename_i h2
     rw [getD_set_stp hyl, if_neg fun e => hc ⟨h2, e⟩]
    ·rfl
   have e2 : minS (relax1 l x y t.minutes t.no) i = minS l i := by unfold minS; rw [e]
   rw [e, e2]
   rcases h.ptr i hi with h2 | ⟨x', t', g1, g2, g3, g4, g5, g6⟩
   ·exact .inl h2
   ·refine .inr ⟨x', t', g1, g2, g3, g4, g5, ?_⟩
    have := relax_le (x := x) hyl t.minutes t.no x'
    omega
theorem PtrT.fold (hN : NetT ss O n) (hst : start < n) : ∀ (ts : List Track) (l : List Stp), SubT ts O → PtrT ss O n start l → PtrT ss O n start (ts.foldl (relaxT ss) l)
 | [], _, _, h => h
 | t :: ts, l, hs, h => PtrT.fold hN hst ts _ (fun u hu => hs u (List.mem_cons_of_mem _ hu)) ((h.relax hN hst (hs t (List.mem_cons_self ..)) (.inl ⟨rfl, rfl⟩)).relax hN hst (hs t (List.mem_cons_self ..)) (.inr ⟨rfl, rfl⟩))
theorem PtrT.rounds (hN : NetT ss O n) (hst : start < n) : ∀ k, PtrT ss O n start (relaxN ss O (startF n start) k)
 | 0 => by
  have h0 : ∀ i, i < n → (startF n start).getD i default = if start = i then ⟨0, -1, -1⟩ else ⟨farN, -1, -1⟩ := fun i hi => by
   unfold startF
   rw [getD_set_stp (by simpa using hst)]
   split
   ·rfl
   ·simp [hi]
  refine ⟨StOk.start n start, ?_, fun i hi => .inl ?_⟩
  ·rw [relaxN, minS, h0 start hst, if_pos rfl]
  ·rw [relaxN, minS, h0 i hi]
   split
   ·rename_i h; exact ⟨by simp, .inr h.symm⟩
   ·exact ⟨by simp, .inl rfl⟩
 | k + 1 => PtrT.fold hN hst O _ (fun _ h => h) (PtrT.rounds hN hst k)
theorem way_walk (hN : NetT ss O n) (hst : start < n) (h : PtrT ss O n start l) (hd : DistT ss O n start (minS l)) : ∀ (f i : Nat), i < n → minS l i ≠ farN → (minS l i).toNat < f →
  ∃ L, SubT L O ∧ WalkT ss start L i ∧ costT L = minS l i ∧ (wayF l f i).reverse = L.map Track.no
 | 0, _, _, _, hf => by omega
 | f + 1, i, hi, hne, hf => by
  rcases h.ptr i hi with ⟨h1, h2⟩ | ⟨x, t, hx, ht, h3, h4, h5, h6⟩
  ·rcases h2 with h2 | rfl
   ·exact absurd h2 hne
   ·refine ⟨[], SubT.nil O, rfl, by rw [h.zero]; rfl, ?_⟩
    rw [wayF, if_pos h1]
    rfl
  ·have h7 := (hN.at_ t ht).1
   have h8 := (h.ok.min_bd hi).2
   have h9 := (h.ok.min_bd hx).1
   obtain ⟨L, g1, g2, g3, g4⟩ := way_walk hN hst h hd f x hx (by omega) (by omega)
   have g5 : WalkT ss start (L ++ [t]) i := g2.append (WalkT.one h5)
   have g6 : SubT (L ++ [t]) O := g1.append (SubT.cons ht (SubT.nil O))
   have g7 : costT (L ++ [t]) = minS l x + t.minutes := by rw [costT_append, g3]; simp [costT]
   refine ⟨L ++ [t], g6, g5, ?_, ?_⟩
   ·have := hd.low i _ g6 g5
    omega
   ·rw [wayF, if_neg (by rw [h3]; omega), List.reverse_cons, h3, Int.toNat_natCast, g4, h4]
    simp
end
theorem net_open {ss : List Site} {ts : List Track} (hr : RangeOk ss ts) (m : Int → Option Int) : NetT ss (openF m ts) ss.length := ⟨fun t ht => by
 have h1 := hr.tr ((List.mem_filter.1 ht).1)
 have ha := placeS_lt h1.a
 have hb := placeS_lt h1.b
 have := h1.a
 have := h1.b
 exact ⟨h1.minutes, by unfold pA; omega, by unfold pB; omega⟩⟩

theorem idx_uniq {α : Type} {p : α → Bool} : ∀ {xs : List α} {i : Nat} {x : α}, xs[i]? = some x → p x = true → (∀ (j : Nat) y, j < i → xs[j]? = some y → p y = false) → idxBy p xs = i
 | [], i, x, h, _, _ => by simp at h
 | y :: ys, 0, x, h, hp, _ => by
  obtain rfl : y = x := by simpa using h
  simp [idxBy, hp]
 | y :: ys, i + 1, x, h, hp, hn => by
  have h0 := hn 0 y (by omega) rfl
  have ih := idx_uniq (xs := ys) (i := i) (by simpa using h) hp fun j z hj hz => hn (j + 1) z (by omega) (by simpa using hz)
  simp only [idxBy, h0, Bool.false_eq_true, if_false, ih]
  rw [if_neg (by omega)]
  omega
theorem rise_all {α : Type} {f : α → Int} {xs : List α} (h : ∀ (i : Nat) x y, xs[i]? = some x → xs[i + 1]? = some y → f x < f y) : ∀ (d i : Nat) x y, xs[i]? = some x → xs[i + d + 1]? = some y → f x < f y
 | 0, i, x, y, hx, hy => h i x y hx hy
 | d + 1, i, x, y, hx, hy => by
  have hl : i + d + 1 < xs.length := by
   have := (List.getElem?_eq_some_iff.1 hy).1
   omega
  obtain ⟨z, hz⟩ := getElem?_of_lt hl
  have h1 := rise_all h d i x z hx hz
  have h2 := h (i + d + 1) z y hz (by rw [← hy]; congr 1)
  omega
section
variable {ss : List Site} {ts : List Track} {i j : Nat}
theorem RangeOk.sites (hr : RangeOk ss ts) {x y : Site} (hx : ss[i]? = some x) (hy : ss[j]? = some y) (hij : i < j) : x.no < y.no := by
 refine rise_all (f := Site.no) (xs := ss) (fun k a b ha hb => ?_) (j - i - 1) i x y hx (by rw [← hy]; congr 1; omega)
 have h := hr.site (k + 1) (List.getElem?_eq_some_iff.1 hb).1
 simp only [siteGood, getD_of hb, Bool.and_eq_true, Bool.or_eq_true, decide_eq_true_eq, Nat.add_sub_cancel, getD_of ha] at h
 rcases h.2 with h | h
 ·simp at h
 ·exact h
theorem RangeOk.tracks (hr : RangeOk ss ts) {x y : Track} (hx : ts[i]? = some x) (hy : ts[j]? = some y) (hij : i < j) : x.no < y.no := by
 refine rise_all (f := Track.no) (xs := ts) (fun k a b ha hb => ?_) (j - i - 1) i x y hx (by rw [← hy]; congr 1; omega)
 have h := hr.track (k + 1) (List.getElem?_eq_some_iff.1 hb).1
 simp only [trackGood, getD_of hb, Bool.and_eq_true, Bool.or_eq_true, decide_eq_true_eq, Nat.add_sub_cancel, getD_of ha] at h
 rcases h.1.1.2 with h | h
 ·simp at h
 ·exact h
theorem RangeOk.place (hr : RangeOk ss ts) {x : Site} (hx : ss[i]? = some x) : placeS ss x.no = i :=
 idx_uniq hx (by simp) fun j y hj hy => by
  have := hr.sites hy hx hj
  simp; omega
theorem RangeOk.placeT (hr : RangeOk ss ts) {x : Track} (hx : ts[i]? = some x) : Proofs.YtgbbljfmngmjeaaGreat.placeT ts x.no = i ∧ trackAt ts x.no = x := by
 have h : Proofs.YtgbbljfmngmjeaaGreat.placeT ts x.no = i := idx_uniq hx (by simp) fun j y hj hy => by
  have := hr.tracks hy hx hj
  simp; omega
 exact ⟨h, by simp [trackAt, h, hx]⟩
end
section
variable {ss : List Site} {O : List Track} {x y z : Nat}
theorem dist_back1 (hN : NetT ss O ss.length) (hn : ss.length ≤ 16) (hx : x < ss.length) (hy : y < ss.length) : minS (quickF ss O y) x ≤ minS (quickF ss O x) y := by
 have Dx := quick_dist hN hx
 have Dy := quick_dist hN hy
 rcases Dx.att y hy with h | ⟨L, g1, g2, g3⟩
 ·rw [h]
  exact ((quick_stok hN hy).min_bd hx).2
 ·rw [← g3, ← costT_reverse]
  exact Dy.low x _ g1.reverse g2.reverse
theorem dist_back (hN : NetT ss O ss.length) (hn : ss.length ≤ 16) (hx : x < ss.length) (hy : y < ss.length) : minS (quickF ss O y) x = minS (quickF ss O x) y :=
 Int.le_antisymm (dist_back1 hN hn hx hy) (dist_back1 hN hn hy hx)
theorem dist_by (hN : NetT ss O ss.length) (hn : ss.length ≤ 16) (hx : x < ss.length) (hy : y < ss.length) (hz : z < ss.length) (h1 : minS (quickF ss O x) y ≠ farN) (h2 : minS (quickF ss O y) z ≠ farN) :
  minS (quickF ss O x) z ≤ minS (quickF ss O x) y + minS (quickF ss O y) z ∧ minS (quickF ss O x) z ≠ farN := by
 obtain ⟨L, g1, g2, g3⟩ := ((quick_dist hN hx).att y hy).resolve_left h1
 obtain ⟨M, k1, k2, k3⟩ := ((quick_dist hN hy).att z hz).resolve_left h2
 have hw := g2.append k2
 have hs := g1.append k1
 have h3 := (quick_dist hN hx).low z _ hs hw
 have h4 := (quick_dist hN hx).lt_far hN.bd hn hx hs hw
 rw [costT_append, g3, k3] at h3
 refine ⟨h3, fun e => ?_⟩
 rw [e] at h4
 simp [farN] at h4
theorem dist_near (hN : NetT ss O ss.length) (hn : ss.length ≤ 16) (hx : x < ss.length) (hy : y < ss.length) (h1 : minS (quickF ss O x) y ≠ farN) : 0 ≤ minS (quickF ss O x) y ∧ minS (quickF ss O x) y ≤ 21600 := by
 obtain ⟨L, g1, g2, g3⟩ := ((quick_dist hN hx).att y hy).resolve_left h1
 exact (quick_dist hN hx).lt_far hN.bd hn hx g1 g2
end
theorem home_spec : ∀ (xs : List (Site × Stp)) (m : Int), (xs.foldl (fun m p => if p.1.kind == 1 then min m p.2.minutes else m) m ≤ m) ∧ (∀ p ∈ xs, p.1.kind = 1 → xs.foldl (fun m p => if p.1.kind == 1 then min m p.2.minutes else m) m ≤ p.2.minutes) ∧
  (xs.foldl (fun m p => if p.1.kind == 1 then min m p.2.minutes else m) m = m ∨ ∃ p ∈ xs, p.1.kind = 1 ∧ xs.foldl (fun m p => if p.1.kind == 1 then min m p.2.minutes else m) m = p.2.minutes)
 | [], m => ⟨Int.le_refl _, fun _ h => (by cases h), .inl rfl⟩
 | q :: xs, m => by
  obtain ⟨h1, h2, h3⟩ := home_spec xs (if q.1.kind == 1 then min m q.2.minutes else m)
  rw [List.foldl_cons]
  by_cases hk : q.1.kind = 1
  ·have e : (q.1.kind == 1) = true := by simpa using hk
   rw [e, if_pos rfl] at h1 h2 h3 ⊢
   refine ⟨by omega, fun p hp hpk => ?_, ?_⟩
   ·rcases List.mem_cons.1 hp with rfl | hp
    ·omega
    ·exact h2 p hp hpk
   ·rcases h3 with h3 | ⟨p, hp, hpk, he⟩
    ·rcases Int.le_total m q.2.minutes with hm | hm
     ·exact .inl (by omega)
     ·exact .inr ⟨q, List.mem_cons_self .., hk, by omega⟩
    ·exact .inr ⟨p, List.mem_cons_of_mem _ hp, hpk, he⟩
  ·have e : (q.1.kind == 1) = false := by simpa using hk
   rw [e, if_neg (by simp)] at h1 h2 h3 ⊢
   refine ⟨h1, fun p hp hpk => ?_, ?_⟩
   ·rcases List.mem_cons.1 hp with rfl | hp
    ·exact absurd hpk hk
    ·exact h2 p hp hpk
   ·rcases h3 with h3 | ⟨p, hp, hpk, he⟩
    ·exact .inl h3
    ·exact .inr ⟨p, List.mem_cons_of_mem _ hp, hpk, he⟩
theorem zip_at {α β : Type} : ∀ {xs : List α} {ys : List β} {p : α × β}, p ∈ xs.zip ys ↔ ∃ k : Nat, xs[k]? = some p.1 ∧ ys[k]? = some p.2
 | [], ys, p => by simp
 | x :: xs, [], p => by simp
 | x :: xs, y :: ys, p => by
  rw [List.zip_cons_cons, List.mem_cons, zip_at (xs := xs) (ys := ys)]
  constructor
  ·rintro (rfl | ⟨k, h1, h2⟩)
   ·exact ⟨0, rfl, rfl⟩
   ·exact ⟨k + 1, by simpa using h1, by simpa using h2⟩
  ·rintro ⟨k, h1, h2⟩
   cases k with
   | zero =>
    left
    obtain ⟨a, b⟩ := p
    simp at h1 h2
    rw [h1, h2]
   | succ k => exact .inr ⟨k, by simpa using h1, by simpa using h2⟩
theorem home_min {ss : List Site} {l : List Stp} (hl : l.length = ss.length) : (∀ k, k < ss.length → (ss.getD k default).kind = 1 → homeF ss l ≤ minS l k) ∧ (homeF ss l = farN ∨ ∃ k, k < ss.length ∧ (ss.getD k default).kind = 1 ∧ homeF ss l = minS l k) := by
 obtain ⟨_, h2, h3⟩ := home_spec (ss.zip l) farN
 refine ⟨fun k hk hkk => ?_, ?_⟩
 ·obtain ⟨x, hx⟩ := getElem?_of_lt hk
  obtain ⟨y, hy⟩ := getElem?_of_lt (xs := l) (k := k) (by omega)
  have := h2 (x, y) (zip_at.2 ⟨k, hx, hy⟩) (by rw [getD_of hx] at hkk; exact hkk)
  unfold homeF minS
  rw [getD_of hy]
  exact this
 ·rcases h3 with h3 | ⟨p, hp, hpk, he⟩
  ·exact .inl h3
  ·obtain ⟨k, hx, hy⟩ := zip_at.1 hp
   refine .inr ⟨k, (List.getElem?_eq_some_iff.1 hx).1, by rw [getD_of hx]; exact hpk, ?_⟩
   unfold homeF minS
   rw [getD_of hy]
   exact he
def canK (ss : List Site) (O : List Track) (c : Crew) (day : Int) (h i k : Nat) : Bool :=
 !(minS (quickF ss O h) i == farN) && !(minS (quickF ss O i) k == farN) && ((ss.getD k default).kind == 1) && decide ((minS (quickF ss O h) i + minS (quickF ss O i) k) * (100 + c.load) ≤ 100 * lightF day)
theorem clock_le {x : Int} (a b l : Int) (ha : 0 ≤ a) (hb : 0 ≤ b) : (a * (100 + b) + 99) / 100 + 0 * l ≤ x ↔ a * (100 + b) ≤ 100 * x := by
 have := Int.mul_nonneg ha (show 0 ≤ 100 + b by omega)
 omega
theorem can_reach {ss : List Site} {O : List Track} {c : Crew} {day : Int} {h i : Nat} (hN : NetT ss O ss.length) (hn : ss.length ≤ 16) (hh : h < ss.length) (hi : i < ss.length) (hl : 0 ≤ c.load) :
  (List.range ss.length).any (canK ss O c day h i) = reachG ss O c day (quickF ss O h) i := by
 have S1 := (quick_stok hN hh).min_bd hi
 have Si := fun k (hk : k < ss.length) => (quick_stok hN hi).min_bd hk
 obtain ⟨m1, m2⟩ := home_min (ss := ss) (l := quickF ss O i) (quick_stok hN hi).len
 have e : reachN ss O (quickF ss O h) i = minS (quickF ss O h) i + homeF ss (quickF ss O i) := rfl
 apply Bool.eq_iff_iff.2
 simp only [List.any_eq_true, List.mem_range, reachG, e, Bool.and_eq_true, decide_eq_true_eq, canK, Bool.not_eq_true', beq_eq_false_iff_ne, beq_iff_eq, ne_eq, clockF]
 have nr := fun k hk h1 => dist_near (x := i) (y := k) hN hn hi hk h1
 constructor
 ·rintro ⟨k, hk, ⟨⟨h1, h2⟩, h3⟩, h4⟩
  have h5 := m1 k hk h3
  have h6 := dist_near hN hn hh hi h1
  have h7 := nr k hk h2
  have h8 : 0 ≤ homeF ss (quickF ss O i) := (home_in ss (quick_stok hN hi)).1
  refine ⟨by unfold farN; omega, (clock_le _ _ _ (by omega) hl).2 ?_⟩
  refine Int.le_trans (Int.mul_le_mul_of_nonneg_right ?_ (by omega)) h4
  omega
 ·rintro ⟨h1, h2⟩
  rcases m2 with m2 | ⟨k, hk, hkk, m2⟩
  ·rw [m2] at h1; omega
  ·have h3 := Si k hk
   rw [m2] at h1 h2
   refine ⟨k, hk, ⟨⟨by omega, by omega⟩, hkk⟩, (clock_le _ _ _ (by omega) hl).1 h2⟩
theorem reach_has {ss : List Site} {ts O : List Track} {c : Crew} {day : Int} {l : List Stp} {i : Nat} {x : Site} (hr : RangeOk ss ts) (hx : ss[i]? = some x) : (reachT ss O c day l ss.length).any (fun n => n == x.no) = reachG ss O c day l i := by
 have hi := (List.getElem?_eq_some_iff.1 hx).1
 apply Bool.eq_iff_iff.2
 simp only [reachT, List.any_map, List.any_eq_true, List.mem_filter, List.mem_range, Function.comp_apply, beq_iff_eq]
 constructor
 ·rintro ⟨j, ⟨hj, hg⟩, he⟩
  obtain ⟨y, hy⟩ := getElem?_of_lt hj
  rw [getD_of hy] at he
  have h1 := hr.place hx
  have h2 := hr.place hy
  rw [he, h1] at h2
  obtain rfl : i = j := by omega
  exact hg
 ·intro h
  exact ⟨i, ⟨hi, h⟩, by rw [getD_of hx]⟩

def strollS (ts : List Track) (op : List Int) (p : Option (Int × Int)) (no : Int) : Option (Int × Int) :=
 p.bind fun p => if 0 ≤ placeT ts no ∧ op.any (fun n => n == no) = true ∧ (p.1 = (trackAt ts no).a ∨ p.1 = (trackAt ts no).b) then some ((trackAt ts no).a + (trackAt ts no).b - p.1, p.2 + (trackAt ts no).minutes) else none
def strollF (ts : List Track) (op : List Int) (frm : Int) (l : List Int) : Option (Int × Int) := l.foldl (strollS ts op) (some (frm, 0))
theorem stroll_none (ts : List Track) (op : List Int) : ∀ l : List Int, l.foldl (strollS ts op) none = none
 | [] => rfl
 | x :: l => by rw [List.foldl_cons]; exact stroll_none ts op l
theorem stroll_snoc {ts : List Track} {op : List Int} {frm : Int} {l : List Int} {k : Nat} {no : Int} (h : l[k]? = some no) : strollF ts op frm (l.take (k + 1)) = strollS ts op (strollF ts op frm (l.take k)) no := by
 have hk := (List.getElem?_eq_some_iff.1 h)
 rw [strollF, List.take_succ, h]
 simp [List.foldl_append, strollF]
theorem stroll_stop {ts : List Track} {op : List Int} {frm : Int} {l : List Int} {k : Nat} (h : strollF ts op frm (l.take k) = none) : strollF ts op frm l = none := by
 have e : strollF ts op frm l = (l.drop k).foldl (strollS ts op) (strollF ts op frm (l.take k)) := by
  rw [strollF, strollF, ← List.foldl_append, List.take_append_drop]
 rw [e, h]
 exact stroll_none ..
section
variable {ss : List Site} {ts : List Track} {m : Int → Option Int}
theorem open_no (hr : RangeOk ss ts) {t : Track} (ht : t ∈ openF m ts) : 0 ≤ placeT ts t.no ∧ trackAt ts t.no = t ∧ ((openF m ts).map Track.no).any (fun n => n == t.no) = true := by
 have h1 := (List.mem_filter.1 ht).1
 obtain ⟨i, hi⟩ := List.mem_iff_getElem?.1 h1
 obtain ⟨h2, h3⟩ := hr.placeT hi
 refine ⟨by omega, h3, ?_⟩
 rw [List.any_eq_true]
 exact ⟨t.no, List.mem_map.2 ⟨t, ht, rfl⟩, by simp⟩
theorem place_no {x : Nat} {a b : Int} (ha : placeS ss a = x) (hb : placeS ss b = x) : a = b := by
 obtain ⟨y, hy, _, h1⟩ := siteAt_of (ss := ss) (no := a) (by omega)
 obtain ⟨z, hz, _, h2⟩ := siteAt_of (ss := ss) (no := b) (by omega)
 rw [ha] at hy
 rw [hb] at hz
 simp only [Int.toNat_natCast] at hy hz
 rw [hy] at hz
 injection hz with hz
 rw [← h1, ← h2, hz]
theorem stroll_walk (hr : RangeOk ss ts) {y : Nat} : ∀ (L : List Track) (x : Nat) (a c : Int), SubT L (openF m ts) → placeS ss a = x → WalkT ss x L y → ∃ b, (L.map Track.no).foldl (strollS ts ((openF m ts).map Track.no)) (some (a, c)) = some (b, c + costT L) ∧ placeS ss b = y
 | [], x, a, c, _, ha, hw => ⟨a, by simp [costT], by rw [ha]; exact congrArg _ hw⟩
 | t :: L, x, a, c, hs, ha, ⟨z, h1, h2⟩ => by
  have ht := hs t (List.mem_cons_self ..)
  obtain ⟨p1, p2, p3⟩ := open_no hr ht
  have hti := hr.tr (List.mem_filter.1 ht).1
  have hta := hti.a
  have htb := hti.b
  have hab : ∃ b, strollS ts ((openF m ts).map Track.no) (some (a, c)) t.no = some (b, c + t.minutes) ∧ placeS ss b = z := by
   rcases h1 with ⟨e1, e2⟩ | ⟨e1, e2⟩
   ·have ea : a = t.a := place_no ha (by unfold pA at e1; omega)
    refine ⟨t.b, ?_, by unfold pB at e2; omega⟩
    unfold strollS
    rw [Option.bind_some, p2, if_pos ⟨p1, p3, .inl ea⟩]
    simp only [ea]
    rw [show t.a + t.b - t.a = t.b by omega]
   ·have ea : a = t.b := place_no ha (by unfold pB at e1; omega)
    refine ⟨t.a, ?_, by unfold pA at e2; omega⟩
    unfold strollS
    rw [Option.bind_some, p2, if_pos ⟨p1, p3, .inr ea⟩]
    simp only [ea]
    rw [show t.a + t.b - t.b = t.a by omega]
  obtain ⟨b, h3, h4⟩ := hab
  obtain ⟨b', h5, h6⟩ := stroll_walk hr L z b (c + t.minutes) (fun u hu => hs u (List.mem_cons_of_mem _ hu)) h4 h2
  refine ⟨b', ?_, h6⟩
  rw [List.map_cons, List.foldl_cons, h3, h5]
  simp only [costT]
  rw [show c + t.minutes + costT L = c + (t.minutes + costT L) by omega]
theorem way_stroll {s : Scene} {day a b : Int} (hr : RangeOk ss ts) (ha : 0 ≤ placeS ss a) (hb : 0 ≤ placeS ss b) (h : wayB ss ts s day a b = true) :
  strollF ts ((openF (hwF s day) ts).map Track.no) a (wayP ss ts s day a b) = some (b, wayM ss ts s day a b) ∧ (wayP ss ts s day a b).length ≤ wayM ss ts s day a b := by
 have hN := net_open hr (hwF s day)
 have la := placeS_lt ha
 have lb := placeS_lt hb
 obtain ⟨x, hx⟩ : ∃ x : Nat, placeS ss a = x := ⟨(placeS ss a).toNat, by omega⟩
 obtain ⟨y, hy⟩ : ∃ y : Nat, placeS ss b = y := ⟨(placeS ss b).toNat, by omega⟩
 have hP : wayP ss ts s day a b = (wayF (wayL ss ts s day a) ((wayN ss ts s day a b).toNat + 1) (placeS ss b).toNat).reverse := by simp [wayP, h]
 have hM : wayM ss ts s day a b = wayN ss ts s day a b := by simp [wayM, h]
 have hq : wayL ss ts s day a = quickF ss (openF (hwF s day) ts) x := by rw [wayL, hx]; rfl
 have hn : wayN ss ts s day a b = minS (quickF ss (openF (hwF s day) ts) x) y := by rw [wayN, hq, hy]; rfl
 have hne : wayN ss ts s day a b ≠ farN := by
  intro e
  simp [wayB, e] at h
 rw [hP, hM, hn, hq, hy, Int.toNat_natCast]
 rw [hn] at hne
 have hx' : x < ss.length := by omega
 have hy' : y < ss.length := by omega
 have hp := PtrT.rounds hN hx' ss.length
 obtain ⟨L, g1, g2, g3, g4⟩ := way_walk hN hx' hp (quick_dist hN hx') _ y hy' hne (Nat.lt_succ_self _)
 obtain ⟨b', k1, k2⟩ := stroll_walk (m := hwF s day) hr L x a 0 g1 hx g2
 have hbb := place_no k2 hy
 rw [show quickF ss (openF (hwF s day) ts) x = relaxN ss (openF (hwF s day) ts) (startF ss.length x) ss.length from rfl, g4, ← g3]
 refine ⟨?_, ?_⟩
 ·rw [strollF, k1, hbb, Int.zero_add]
 ·rw [List.length_map]
  have : ∀ L : List Track, SubT L (openF (hwF s day) ts) → (L.length : Int) ≤ costT L := by
   intro L
   induction L with
   | nil => intro _; simp [costT]
   | cons t L ih =>
    intro hs
    have h1 := ih fun u hu => hs u (List.mem_cons_of_mem _ hu)
    have h2 := (hN.at_ t (hs t (List.mem_cons_self ..))).1.1
    simp only [costT, List.length_cons]
    omega
  exact this L g1
end
end Go.Proofs.YtgbbljfmngmjeaaGreat
