/- The package spring: what a day does at a height. Conditions stand in the theorems. -/
import Derived.Test.YtgbbljfmngmjeaaGreatIndexFuncPack
import Derived.Test.YtgbbljfmngmjeaaGreatBasinDefsPack
import Derived.Deep.RegionHeld3
import Derived.Test.YtgbbljfmngmjeaaGreatBasePack
set_option linter.all false
namespace Go.Proofs.YtgbbljfmngmjeaaGreat
open Go.RowKit

abbrev ClimAt (c : Climate) (g : Nat) (W : World) : Prop := g < W.heap.size ∧ W.cell? ⟨g, 0, none⟩ = some (I c.base) ∧ W.cell? ⟨g, 1, none⟩ = some (I c.lapse) ∧ W.cell? ⟨g, 2, none⟩ = some (I c.swing) ∧ W.cell? ⟨g, 3, none⟩ = some (I c.wettest) ∧
 W.cell? ⟨g, 4, none⟩ = some (I c.coldest) ∧ W.cell? ⟨g, 5, none⟩ = some (I c.warmest) ∧ W.cell? ⟨g, 6, none⟩ = some (I c.flo) ∧ W.cell? ⟨g, 7, none⟩ = some (I c.fhi)
theorem ClimAt.grow {c : Climate} {g : Nat} {W W' : World} (h : ClimAt c g W) (hb : Below W.heap.size W W') : ClimAt c g W' := by
 obtain ⟨h, h0, h1, h2, h3, h4, h5, h6, h7⟩ := h
 have hc := (bcell hb).1
 exact ⟨Nat.lt_of_lt_of_le h hb.size, (hc _ _ h).trans h0, (hc _ _ h).trans h1, (hc _ _ h).trans h2, (hc _ _ h).trans h3, (hc _ _ h).trans h4, (hc _ _ h).trans h5, (hc _ _ h).trans h6, (hc _ _ h).trans h7⟩
theorem ClimAt.new (c : Climate) (w : World) (t : TypeId) : ClimAt c w.heap.size (w.alloc (.cells (c8 c) t)) := by
 have h := Blk.new w t (c8 c)
 exact ⟨h.lt, h.cell 0, h.cell 1, h.cell 2, h.cell 3, h.cell 4, h.cell 5, h.cell 6, h.cell 7⟩
theorem below_drew' {W W' : World} (h : Below W.drew.heap.size W.drew W') : Below W.heap.size W W' := (below_drewN (Below.refl _ W) 1).trans h
theorem sl_lit {α : Type} {W : World} {g : Nat} {t : TypeId} {cs : Array Value} {enc : α → List Value} {xs : List α} (hb : Blk W g t cs) (h : cs.toList = xs.flatMap enc) (k : Nat) (hlen : ∀ x, (enc x).length = k) (hn : xs.length ≤ 1000) :
  Sl W k enc (.slice (some ⟨g, 0, none⟩) xs.length xs.length) xs := by
 refine ⟨_, _, rfl, Nat.le_refl _, ⟨by unfold maxLen; omega, by omega⟩, fun _ => ⟨_, 0, rfl, hb.lt, fun i x hx j u hu => ?_⟩⟩
 have h1 := flat_at hlen xs i x hx j u hu
 have h2 := hb.cell (i * k + j)
 rw [Nat.zero_add, h2, ← h1, ← h]
 simp
theorem asked_cases (c : Climate) (xs : List Bool) : (askedE c xs = 0 ∧ climateOk c = true ∧ xs.all id = true) ∨ (askedE c xs ≠ 0 ∧ (climateOk c = false ∨ xs.all id = false)) := by
 unfold askedE
 cases h1 : climateOk c with
 | false => exact .inr ⟨by simp, .inl rfl⟩
 | true =>
  cases h2 : xs.any (fun x => x == false) with
  | true =>
   refine .inr ⟨by simp, .inr ?_⟩
   rw [List.any_eq_true] at h2
   obtain ⟨x, hx, hx2⟩ := h2
   rw [List.all_eq_false]
   exact ⟨x, hx, by simpa using hx2⟩
  | false =>
   refine .inl ⟨by simp, rfl, ?_⟩
   rw [List.any_eq_false] at h2
   rw [List.all_eq_true]
   intro x hx
   have := h2 x hx
   simpa using this
theorem tempB_bd {t : Int} (h : tempB t = true) : -600 ≤ t ∧ t ≤ 600 := inB_true.1 h
theorem heightB_bd {t : Int} (h : heightB t = true) : 0 ≤ t ∧ t ≤ 9000 := inB_true.1 h
def atV (c : Climate) (t h : Int) : Int := if askedE c [tempB t, heightB h] = 0 then atF c t h else 0

theorem fallF_le {c : Climate} {x : Weather} {h : Int} (g : atF c x.temp h ≤ 0) : fallF c x h = (x.rain, 0) := by simp [fallF, g]
theorem fallF_gt {c : Climate} {x : Weather} {h : Int} (g : 0 < atF c x.temp h) : fallF c x h = (0, x.rain) := by simp only [fallF]; rw [if_neg (by omega)]
theorem meltF_bd {c : Climate} {x : Weather} {h f : Int} (hc : ClimOk c) (ht : -600 ≤ x.temp ∧ x.temp ≤ 600) (hh : 0 ≤ h ∧ h ≤ 9000) (hf : 0 ≤ f ∧ f ≤ 2000) : (0 ≤ f * max 0 (atF c x.temp h) ∧ f * max 0 (atF c x.temp h) ≤ 4800000) ∧ 0 ≤ meltF c x h f ∧ meltF c x h f ≤ 4800 := by
 have h1 := (atF_bd hc ht hh).2
 have h2 : 0 ≤ f * max 0 (atF c x.temp h) := Int.mul_nonneg hf.1 (by omega)
 have h3 := Int.mul_le_mul (a := f) (c := 2000) (b := max 0 (atF c x.temp h)) (d := 2400) hf.2 (by omega) (by omega) (by omega)
 unfold meltF
 omega

theorem day1_cases (c : Climate) (x : Weather) (xs : List Bool) : (dayE1 c x xs = 0 ∧ climateOk c = true ∧ weatherOk c x = true ∧ xs.all id = true) ∨ dayE1 c x xs ≠ 0 := by
 unfold dayE1
 cases h1 : climateOk c with
 | false => exact .inr (by simp)
 | true =>
  cases h2 : weatherOk c x with
  | false => exact .inr (by simp)
  | true =>
   rcases asked_cases c xs with ⟨h3, _, h4⟩ | ⟨h3, _⟩
   ·exact .inl ⟨by simp [h3], rfl, rfl, h4⟩
   ·exact .inr (by simpa using h3)
theorem blk32d (w : World) (t : TypeId) (cs : Array Value) (o o' : Obj) : Blk (((w.alloc o).alloc o').alloc (.cells cs t)).drew (w.heap.size + 2) t cs := blk32 w t cs o o'
theorem WeaOk.t600 {c : Climate} {x : Weather} (h : WeaOk c x) (hc : ClimOk c) : -600 ≤ x.temp ∧ x.temp ≤ 600 := by
 have h1 := hc.cold; have h2 := hc.warm; have h3 := h.temp; omega
theorem retIII {a b c a' b' c' : Int} (h1 : a = a') (h2 : b = b') (h3 : c = c') : Ending.returned (.tuple #[I a, I b, I c]) = .returned (.tuple #[I a', I b', I c']) := by rw [h1, h2, h3]
theorem Prod_eta {a b : Int} {p : Int × Int} (h : p = (a, b)) : p.1 = a ∧ p.2 = b := by subst h; exact ⟨rfl, rfl⟩
def snowV (c : Climate) (x : Weather) (h : Int) : Int × Int := if dayE1 c x [heightB h] = 0 then fallF c x h else (0, 0)
def meltV (c : Climate) (x : Weather) (h f : Int) : Int := if dayE1 c x [heightB h, inB f 0 2000] = 0 then meltF c x h f else 0

def frostR (c : Climate) (t : Int) (n k : Nat) : Int × Int := match frostF c t n k with | some h => ((h : Int), 0) | none => (0, 4)
theorem frostR_zero (c : Climate) (t : Int) (k : Nat) : frostR c t 0 k = (0, 4) := rfl
theorem frostR_yes {c : Climate} {t : Int} {n k : Nat} (h : atF c t k ≤ 0) : frostR c t (n + 1) k = ((k : Int), 0) := by simp [frostR, frostF, h]
theorem frostR_no {c : Climate} {t : Int} {n k : Nat} (h : 0 < atF c t k) : frostR c t (n + 1) k = frostR c t n (k + 1) := by
 have : ¬ atF c t k ≤ 0 := by omega
 simp [frostR, frostF, this]
def frostV (c : Climate) (t : Int) : Int × Int := if askedE c [tempB t] = 0 then frostR c t 9001 0 else (0, askedE c [tempB t])

theorem linkedAt_head {c : Climate} {l : List Weather} {k : Nat} {x : Weather} (hx : l[k]? = some x) (h : weatherOk c x = false) : linkedAt c l k = false := by simp [linkedAt, hx, h]
theorem linkedAt_zero {c : Climate} {l : List Weather} {x : Weather} (hx : l[0]? = some x) (h : weatherOk c x = true) : linkedAt c l 0 = true := by simp [linkedAt, hx, h]
theorem linkedAt_pos {c : Climate} {l : List Weather} {k : Nat} {x y : Weather} (hk : 0 < k) (hx : l[k]? = some x) (hy : l[k - 1]? = some y) (h : weatherOk c x = true) : linkedAt c l k = (decide (y.day < x.day) && nearB c y x) := by
 have : (k == 0) = false := by simp; omega
 simp [linkedAt, hx, hy, h, this]
theorem linkedAt_ok {c : Climate} {l : List Weather} {k : Nat} {x : Weather} (hx : l[k]? = some x) (h : linkedAt c l k = true) : weatherOk c x = true := by
 simp only [linkedAt, getD_of hx, Bool.and_eq_true] at h; exact h.1


theorem succAt_of {l : List Weather} {k : Nat} {x y : Weather} (hx : l[k]? = some x) (hy : l[0]? = some y) : succAt l k = (inB x.day 0 1048576 && decide (x.day = y.day + k)) := by simp [succAt, hx, hy]

theorem gapF_snoc {c : Climate} {l : List Weather} {d : Int} {k : Nat} {x : Weather} (hx : l[k]? = some x) : gapF c (l.take (k + 1)) d = gapStep c d (gapF c (l.take k) d) x := by
 unfold gapF
 rw [take_succ_of hx, List.foldl_append]
 rfl
structure GapOk (g : Gap) : Prop where
 tlo : -630000000 ≤ g.tlo ∧ g.tlo ≤ 630000000
 thi : -630000000 ≤ g.thi ∧ g.thi ≤ 630000000
 rlo : 0 ≤ g.rlo ∧ g.rlo ≤ 1000
 rhi : 0 ≤ g.rhi ∧ g.rhi ≤ 1000
theorem swing_bd {c : Climate} {x : Weather} {d : Int} (hc : ClimOk c) (hd : 0 ≤ d ∧ d ≤ 1048576) (hx : WeaOk c x) : 0 ≤ c.swing * sizeF (x.day - d) ∧ c.swing * sizeF (x.day - d) ≤ 629145600 := by
 have h1 := hx.day
 have hs := sizeF_bd (n := x.day - d) (B := 1048576) (by omega) (by omega)
 have h2 := hc.swing
 have := Int.mul_le_mul h2.2 hs.2 hs.1 (show (0 : Int) ≤ 600 by omega)
 exact ⟨Int.mul_nonneg h2.1 hs.1, by omega⟩
theorem gapStep_ok {c : Climate} {d : Int} {g : Gap} {x : Weather} (hc : ClimOk c) (hd : 0 ≤ d ∧ d ≤ 1048576) (hx : WeaOk c x) (hg : GapOk g) : GapOk (gapStep c d g x) := by
 have hs := swing_bd hc hd hx
 have ht := hx.t600 hc
 have hr := hx.rain
 have hw := hc.wettest
 obtain ⟨a1, a2, a3, a4⟩ := hg
 constructor <;> simp only [gapStep]
 ·omega
 ·omega
 ·split <;> omega
 ·split <;> omega
theorem gapF_ok {c : Climate} {d : Int} {l : List Weather} (hc : ClimOk c) (hd : 0 ≤ d ∧ d ≤ 1048576) (hl : ∀ x ∈ l, WeaOk c x) : ∀ k, k ≤ l.length → GapOk (gapF c (l.take k) d)
 | 0, _ => by
  have h1 := hc.cold; have h2 := hc.cw; have h3 := hc.warm; have h4 := hc.wettest
  constructor <;> simp [gapF] <;> omega
 | k + 1, hk => by
  obtain ⟨x, hx⟩ := getElem?_of_lt (xs := l) (k := k) (by omega)
  rw [gapF_snoc hx]
  exact gapStep_ok hc hd (hl x (List.mem_of_getElem? hx)) (gapF_ok hc hd hl k (by omega))
theorem blk_box {w : World} {g : Nat} {t : TypeId} {a b : Value} (h : Blk w g t #[a, b]) : g < w.heap.size ∧ w.cell? ⟨g, 0, none⟩ = some a ∧ w.cell? ⟨g, 1, none⟩ = some b ∧ w.frozen? ⟨g, 0, none⟩ = false ∧ w.frozen? ⟨g, 1, none⟩ = false :=
 ⟨h.lt, h.cell 0, h.cell 1, h.frozen 0, h.frozen 1⟩

theorem Blk.drewN {w : World} {g : Nat} {t : TypeId} {cs : Array Value} (h : Blk w g t cs) (n : Nat) : Blk (w.drewN n) g t cs := h
section
variable {wr : World} {g gt gr : Nat} {t : TypeId} {cs : Array Value} {p q a b r s : Value} {X : Obj} {n : Nat}
theorem gap_keep (h : Blk wr g t cs) (h1 : g ≠ gt) : Blk ((((wr.alloc X).drewN n).setCell ⟨gt, 0, none⟩ a).setCell ⟨gt, 1, none⟩ b) g t cs :=
 (((h.alloc X).drewN n).far (p := ⟨gt, 0, none⟩) h1 a).far (p := ⟨gt, 1, none⟩) h1 b
theorem gap_keep2 (h : Blk wr g t cs) (h1 : g ≠ gr) : Blk ((wr.setCell ⟨gr, 0, none⟩ r).setCell ⟨gr, 1, none⟩ s) g t cs :=
 (h.far (p := ⟨gr, 0, none⟩) h1 r).far (p := ⟨gr, 1, none⟩) h1 s
theorem gap_set (h : Blk wr gt t #[p, q]) : Blk ((((wr.alloc X).drewN n).setCell ⟨gt, 0, none⟩ a).setCell ⟨gt, 1, none⟩ b) gt t #[a, b] := by
 have := (((h.alloc X).drewN n).set_ 0 a).set_ 1 b
 simpa using this
theorem gap_set2 (h : Blk wr gr t #[p, q]) : Blk ((wr.setCell ⟨gr, 0, none⟩ r).setCell ⟨gr, 1, none⟩ s) gr t #[r, s] := by
 have := (h.set_ 0 r).set_ 1 s
 simpa using this
theorem gap_below {B : Nat} {w : World} (h : Below B w wr) (hB : B ≤ wr.heap.size) (h1 : B ≤ gt) : Below B w ((((wr.alloc X).drewN n).setCell ⟨gt, 0, none⟩ a).setCell ⟨gt, 1, none⟩ b) :=
 bset (bset (below_drewN (h.alloc hB X) n) gt 0 h1 a) gt 1 h1 b
theorem gap_below2 {B : Nat} {w : World} (h : Below B w wr) (h1 : B ≤ gr) : Below B w ((wr.setCell ⟨gr, 0, none⟩ r).setCell ⟨gr, 1, none⟩ s) :=
 bset (bset h gr 0 h1 r) gr 1 h1 s
end
theorem ite_max (a b : Int) : (if a < b then b else a) = max a b := by split <;> omega
theorem ite_min (a b : Int) : (if a < b then a else b) = min b a := by split <;> omega


def loggedE (c : Climate) (l : List Weather) (xs : List Bool) : Int := if logE c l = 0 then askedE c xs else logE c l
theorem linkedB_ok {c : Climate} {l : List Weather} (h : linkedB c l = true) : ∀ x ∈ l, WeaOk c x := by
 intro x hx
 obtain ⟨i, hi, rfl⟩ := List.getElem_of_mem hx
 have := List.all_eq_true.1 h i (List.mem_range.2 hi)
 exact .of (linkedAt_ok (List.getElem?_eq_getElem hi) this)
structure LogOk (c : Climate) (l : List Weather) : Prop where
 clim : ClimOk c
 len : l.length ≤ 512
 mem : ∀ x ∈ l, WeaOk c x
 link : linkedB c l = true
theorem LogOk.of {c : Climate} {l : List Weather} (h : logE c l = 0) : LogOk c l := by
 unfold logE at h
 cases h1 : climateOk c with
 | false => rw [h1] at h; simp at h
 | true =>
  rw [h1] at h
  simp only [Bool.true_eq_false, if_false] at h
  split at h
  ·cases h
  ·rename_i h2
   have h3 : linkedB c l = true := by simp at h2; exact h2.2
   exact ⟨.of h1, by omega, linkedB_ok h3, h3⟩
theorem logged_cases (c : Climate) (l : List Weather) (xs : List Bool) : (loggedE c l xs = 0 ∧ LogOk c l ∧ xs.all id = true) ∨ loggedE c l xs ≠ 0 := by
 unfold loggedE
 by_cases h : logE c l = 0
 ·rw [if_pos h]
  rcases asked_cases c xs with ⟨h1, _, h3⟩ | ⟨h1, _⟩
  ·exact .inl ⟨h1, .of h, h3⟩
  ·exact .inr h1
 ·rw [if_neg h]; exact .inr h
theorem Blk.clim {c : Climate} {w : World} {g : Nat} {t : TypeId} (h : Blk w g t (c8 c)) : ClimAt c g w :=
 ⟨h.lt, h.cell 0, h.cell 1, h.cell 2, h.cell 3, h.cell 4, h.cell 5, h.cell 6, h.cell 7⟩
def gapE (c : Climate) (l : List Weather) (d : Int) : Int := loggedE c l [inB d 0 1048576]
def gapV (c : Climate) (l : List Weather) (d : Int) : Gap := if gapE c l d = 0 then gapF c l d else ⟨0, 0, 0, 0⟩
theorem blk43 (w : World) (t : TypeId) (cs : Array Value) (a b o : Obj) : Blk ((((w.alloc a).alloc b).alloc o).alloc (.cells cs t)).drew (w.heap.size + 3) t cs := by
 have := Blk.new (((w.alloc a).alloc b).alloc o) t cs
 have h : Blk ((((w.alloc a).alloc b).alloc o).alloc (.cells cs t)) (w.heap.size + 3) t cs := by simpa using this
 exact h

theorem Gives.mono {P : Program} {α : Type} {g : Nat} {cap : Array Value} {mk : α → Value} {p : α → Bool} {w w' : World} {xs : List α} (h : Gives P g cap mk p w xs) (hb : Below w.heap.size w w') : Gives P g cap mk p w' xs :=
 fun W x hx hW => h W x hx (bup hb hW)
theorem all_any_not {α : Type} (p : α → Bool) (xs : List α) : (!xs.any fun x => !p x) = xs.all p := by
 induction xs with
 | nil => rfl
 | cons x xs ih => simp only [List.any_cons, List.all_cons, Bool.not_or, Bool.not_not, ih]

def nextTo (days : List Weather) (x : Weather) : Nat := (min (max (x.day - (days.getD 0 default).day) 0) (days.length - 1)).toNat
theorem agreesAt_eq {c : Climate} {days : List Weather} {x y : Weather} (h : days[nextTo days x]? = some y) : agreesAt c days x = (nearB c x y && (decide (x.day ≠ y.day) || decide (x = y))) := by
 have h2 : days.getD (min (max (x.day - (days.getD 0 default).day) 0) (days.length - 1)).toNat default = y := getD_of h
 simp only [agreesAt, h2]
theorem Weather.eq_iff {x y : Weather} : x = y ↔ x.day = y.day ∧ x.temp = y.temp ∧ x.rain = y.rain := by
 cases x; cases y; simp
end Go.Proofs.YtgbbljfmngmjeaaGreat
