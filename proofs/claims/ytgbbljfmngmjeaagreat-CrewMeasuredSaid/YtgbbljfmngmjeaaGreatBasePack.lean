/- What the contracts of this seat are said in: Go's data as plain data, and a slice in memory that reads as a list. No condition. -/
import Derived.WalkKit
import Derived.WalkSpells
import Derived.WalkLawsBesides
import Derived.Deep.QuietTactic
import Derived.BigQuiet
import Derived.Deep.Draws
import Derived.OwnWalk
import Derived.Laws.OwnMore
import Derived.Laws.MakeOwn
set_option linter.all false
namespace Go.Proofs.YtgbbljfmngmjeaaGreat
open Go.RowKit

structure Site where
 no : Int
 kind : Int
 cell : Int
deriving DecidableEq, Inhabited
structure Track where
 no : Int
 a : Int
 b : Int
 minutes : Int
 cell : Int
 steep : Int
deriving DecidableEq, Inhabited
structure Crew where
 hut : Int
 work : Int
 load : Int
deriving DecidableEq, Inhabited
structure Cell where
 no : Int
 height : Int
 aspect : Int
 area : Int
deriving DecidableEq, Inhabited
structure Sight where
 no : Int
 cell : Int
 day : Int
 lo : Int
 hi : Int
deriving DecidableEq, Inhabited
structure Change where
 cell : Int
 frm : Int
 to : Int
 lo : Int
 hi : Int
deriving DecidableEq, Inhabited
structure Diff where
 frm : Int
 to : Int
 most : Int
deriving DecidableEq, Inhabited
structure Span where
 lo : Int
 hi : Int
deriving DecidableEq, Inhabited

structure Weather where
 day : Int
 temp : Int
 rain : Int
deriving DecidableEq, Inhabited
structure SprV where
 no : Int
 dv : Value
deriving Inhabited

abbrev I (n : Int) : Value := .int .i64 n
def intC (n : Int) : List Value := [I n]
def boolC (n : Bool) : List Value := [.bool n]
def pairC (p : Int × Int) : List Value := [I p.1, I p.2]
def Site.cells (x : Site) : List Value := [I x.no, I x.kind, I x.cell]
def Track.cells (x : Track) : List Value := [I x.no, I x.a, I x.b, I x.minutes, I x.cell, I x.steep]
def Crew.cells (x : Crew) : List Value := [I x.hut, I x.work, I x.load]
def Cell.cells (x : Cell) : List Value := [I x.no, I x.height, I x.aspect, I x.area]
def Sight.cells (x : Sight) : List Value := [I x.no, I x.cell, I x.day, I x.lo, I x.hi]
def Change.cells (x : Change) : List Value := [I x.cell, I x.frm, I x.to, I x.lo, I x.hi]
def Diff.cells (x : Diff) : List Value := [I x.frm, I x.to, I x.most]
def Weather.cells (x : Weather) : List Value := [I x.day, I x.temp, I x.rain]
def SprV.cells (x : SprV) : List Value := [I x.no, x.dv]
def Span.cells (x : Span) : List Value := [I x.lo, I x.hi]

def Sl {α : Type} (w : World) (k : Nat) (enc : α → List Value) (v : Value) (xs : List α) : Prop :=
 ∃ A c, v = .slice A xs.length c ∧ xs.length ≤ c ∧ (c ≤ maxLen ∧ xs.length ≤ 140737488355328) ∧
  (0 < xs.length → ∃ b off, A = some ⟨b, off, none⟩ ∧ b < w.heap.size ∧ ∀ i x, xs[i]? = some x → ∀ j u, (enc x)[j]? = some u → w.cell? ⟨b, off + i * k + j, none⟩ = some u)

theorem Sl.mono {α : Type} {w w' : World} {k : Nat} {enc : α → List Value} {v : Value} {xs : List α} (h : Sl w k enc v xs) (hb : Below w.heap.size w w') : Sl w' k enc v xs := by
 obtain ⟨A, c, hv, hl, hc, hr⟩ := h
 refine ⟨A, c, hv, hl, hc, fun h0 => ?_⟩
 obtain ⟨b, off, hA, hbw, hcell⟩ := hr h0
 exact ⟨b, off, hA, Nat.lt_of_lt_of_le hbw hb.size, fun i x hx j u hu => (hb.cell (p := ⟨b, off + i * k + j, none⟩) hbw).trans (hcell i x hx j u hu)⟩

theorem Sl.nil {α : Type} (w : World) (k : Nat) (enc : α → List Value) : Sl w k enc (.slice none 0 0) [] :=
 ⟨none, 0, rfl, Nat.le_refl _, ⟨by unfold maxLen; omega, by simp⟩, fun h => absurd h (by simp)⟩

theorem Sl.open_ {α : Type} {w : World} {k : Nat} {enc : α → List Value} {v : Value} {xs : List α} (h : Sl w k enc v xs) :
  ∃ A c, v = .slice A xs.length c ∧ xs.length ≤ c ∧ c ≤ maxLen ∧ xs.length ≤ 140737488355328 ∧ ∀ i, i < xs.length → ∃ b off, A = some ⟨b, off, none⟩ ∧ b < w.heap.size := by
 obtain ⟨A, c, hv, hl, hc, hr⟩ := h
 refine ⟨A, c, hv, hl, hc.1, hc.2, fun i hi => ?_⟩
 obtain ⟨b, off, hA, hbw, _⟩ := hr (by omega)
 exact ⟨b, off, hA, hbw⟩

theorem Sl.cells_ {α : Type} {w : World} {k : Nat} {enc : α → List Value} {b off c : Nat} {xs : List α} (h : Sl w k enc (.slice (some ⟨b, off, none⟩) xs.length c) xs) {i : Nat} {x : α} (hx : xs[i]? = some x) :
  b < w.heap.size ∧ ∀ j u, (enc x)[j]? = some u → w.cell? ⟨b, off + i * k + j, none⟩ = some u := by
 obtain ⟨A, c', hv, hl, hc, hr⟩ := h
 have hi : i < xs.length := by
  rcases Nat.lt_or_ge i xs.length with h | h
  ·exact h
  ·rw [List.getElem?_eq_none h] at hx; cases hx
 obtain ⟨b', off', hA, hbw, hcell⟩ := hr (by omega)
 injection hv with hv1 _ _
 rw [hA] at hv1
 injection hv1 with hv1
 injection hv1 with h1 h2 _
 subst h1; subst h2
 exact ⟨hbw, hcell i x hx⟩

theorem bcell {W w1 : World} (hb : Below W.heap.size W w1) : (∀ b o, b < W.heap.size → w1.cell? ⟨b, o, none⟩ = W.cell? ⟨b, o, none⟩) ∧ (∀ b o, b < W.heap.size → w1.frozen? ⟨b, o, none⟩ = W.frozen? ⟨b, o, none⟩) :=
 ⟨fun b o h => hb.cell (p := ⟨b, o, none⟩) h, fun b o h => hb.frozen (p := ⟨b, o, none⟩) h⟩

theorem hide {p : Prop} (h : p) : Hid p := h
theorem unhide {p : Prop} (h : Hid p) : p := h

theorem Sl.int_at {w : World} {b off c : Nat} {xs : List Int} (h : Sl w 1 intC (.slice (some ⟨b, off, none⟩) xs.length c) xs) {i : Nat} {x : Int} (hx : xs[i]? = some x) :
  b < w.heap.size ∧ w.cell? ⟨b, off + i, none⟩ = some (I x) := by
 obtain ⟨h1, h2⟩ := h.cells_ hx
 exact ⟨h1, by simpa using h2 0 _ rfl⟩
theorem Sl.weather_at {w : World} {b off c : Nat} {xs : List Weather} (h : Sl w 3 Weather.cells (.slice (some ⟨b, off, none⟩) xs.length c) xs) {i : Nat} {x : Weather} (hx : xs[i]? = some x) :
  b < w.heap.size ∧ w.cell? ⟨b, off + i * 3, none⟩ = some (I x.day) ∧ w.cell? ⟨b, off + i * 3 + 1, none⟩ = some (I x.temp) ∧ w.cell? ⟨b, off + i * 3 + 2, none⟩ = some (I x.rain) := by
 obtain ⟨h1, h2⟩ := h.cells_ hx
 exact ⟨h1, by simpa using h2 0 _ rfl, h2 1 _ rfl, h2 2 _ rfl⟩
theorem Sl.sprv_at {w : World} {b off c : Nat} {xs : List SprV} (h : Sl w 2 SprV.cells (.slice (some ⟨b, off, none⟩) xs.length c) xs) {i : Nat} {x : SprV} (hx : xs[i]? = some x) :
  b < w.heap.size ∧ w.cell? ⟨b, off + i * 2, none⟩ = some (I x.no) ∧ w.cell? ⟨b, off + i * 2 + 1, none⟩ = some x.dv := by
 obtain ⟨h1, h2⟩ := h.cells_ hx
 exact ⟨h1, by simpa using h2 0 _ rfl, h2 1 _ rfl⟩
theorem Sl.bool_at {w : World} {b off c : Nat} {xs : List Bool} (h : Sl w 1 boolC (.slice (some ⟨b, off, none⟩) xs.length c) xs) {i : Nat} {x : Bool} (hx : xs[i]? = some x) :
  b < w.heap.size ∧ w.cell? ⟨b, off + i, none⟩ = some (.bool x) := by
 obtain ⟨h1, h2⟩ := h.cells_ hx
 exact ⟨h1, by simpa using h2 0 _ rfl⟩
theorem Sl.pair_at {w : World} {b off c : Nat} {xs : List (Int × Int)} (h : Sl w 2 pairC (.slice (some ⟨b, off, none⟩) xs.length c) xs) {i : Nat} {x : Int × Int} (hx : xs[i]? = some x) :
  b < w.heap.size ∧ w.cell? ⟨b, off + i * 2, none⟩ = some (I x.1) ∧ w.cell? ⟨b, off + i * 2 + 1, none⟩ = some (I x.2) := by
 obtain ⟨h1, h2⟩ := h.cells_ hx
 exact ⟨h1, by simpa using h2 0 _ rfl, h2 1 _ rfl⟩
theorem Sl.site_at {w : World} {b off c : Nat} {xs : List Site} (h : Sl w 3 Site.cells (.slice (some ⟨b, off, none⟩) xs.length c) xs) {i : Nat} {x : Site} (hx : xs[i]? = some x) :
  b < w.heap.size ∧ w.cell? ⟨b, off + i * 3, none⟩ = some (I x.no) ∧ w.cell? ⟨b, off + i * 3 + 1, none⟩ = some (I x.kind) ∧ w.cell? ⟨b, off + i * 3 + 2, none⟩ = some (I x.cell) := by
 obtain ⟨h1, h2⟩ := h.cells_ hx
 exact ⟨h1, by simpa using h2 0 _ rfl, h2 1 _ rfl, h2 2 _ rfl⟩
theorem Sl.track_at {w : World} {b off c : Nat} {xs : List Track} (h : Sl w 6 Track.cells (.slice (some ⟨b, off, none⟩) xs.length c) xs) {i : Nat} {x : Track} (hx : xs[i]? = some x) :
  b < w.heap.size ∧ w.cell? ⟨b, off + i * 6, none⟩ = some (I x.no) ∧ w.cell? ⟨b, off + i * 6 + 1, none⟩ = some (I x.a) ∧ w.cell? ⟨b, off + i * 6 + 2, none⟩ = some (I x.b) ∧ w.cell? ⟨b, off + i * 6 + 3, none⟩ = some (I x.minutes) ∧ w.cell? ⟨b, off + i * 6 + 4, none⟩ = some (I x.cell) ∧ w.cell? ⟨b, off + i * 6 + 5, none⟩ = some (I x.steep) := by
 obtain ⟨h1, h2⟩ := h.cells_ hx
 exact ⟨h1, by simpa using h2 0 _ rfl, h2 1 _ rfl, h2 2 _ rfl, h2 3 _ rfl, h2 4 _ rfl, h2 5 _ rfl⟩
theorem Sl.cell_at {w : World} {b off c : Nat} {xs : List Cell} (h : Sl w 4 Cell.cells (.slice (some ⟨b, off, none⟩) xs.length c) xs) {i : Nat} {x : Cell} (hx : xs[i]? = some x) :
  b < w.heap.size ∧ w.cell? ⟨b, off + i * 4, none⟩ = some (I x.no) ∧ w.cell? ⟨b, off + i * 4 + 1, none⟩ = some (I x.height) ∧ w.cell? ⟨b, off + i * 4 + 2, none⟩ = some (I x.aspect) ∧ w.cell? ⟨b, off + i * 4 + 3, none⟩ = some (I x.area) := by
 obtain ⟨h1, h2⟩ := h.cells_ hx
 exact ⟨h1, by simpa using h2 0 _ rfl, h2 1 _ rfl, h2 2 _ rfl, h2 3 _ rfl⟩
theorem Sl.sight_at {w : World} {b off c : Nat} {xs : List Sight} (h : Sl w 5 Sight.cells (.slice (some ⟨b, off, none⟩) xs.length c) xs) {i : Nat} {x : Sight} (hx : xs[i]? = some x) :
  b < w.heap.size ∧ w.cell? ⟨b, off + i * 5, none⟩ = some (I x.no) ∧ w.cell? ⟨b, off + i * 5 + 1, none⟩ = some (I x.cell) ∧ w.cell? ⟨b, off + i * 5 + 2, none⟩ = some (I x.day) ∧ w.cell? ⟨b, off + i * 5 + 3, none⟩ = some (I x.lo) ∧ w.cell? ⟨b, off + i * 5 + 4, none⟩ = some (I x.hi) := by
 obtain ⟨h1, h2⟩ := h.cells_ hx
 exact ⟨h1, by simpa using h2 0 _ rfl, h2 1 _ rfl, h2 2 _ rfl, h2 3 _ rfl, h2 4 _ rfl⟩
theorem Sl.change_at {w : World} {b off c : Nat} {xs : List Change} (h : Sl w 5 Change.cells (.slice (some ⟨b, off, none⟩) xs.length c) xs) {i : Nat} {x : Change} (hx : xs[i]? = some x) :
  b < w.heap.size ∧ w.cell? ⟨b, off + i * 5, none⟩ = some (I x.cell) ∧ w.cell? ⟨b, off + i * 5 + 1, none⟩ = some (I x.frm) ∧ w.cell? ⟨b, off + i * 5 + 2, none⟩ = some (I x.to) ∧ w.cell? ⟨b, off + i * 5 + 3, none⟩ = some (I x.lo) ∧ w.cell? ⟨b, off + i * 5 + 4, none⟩ = some (I x.hi) := by
 obtain ⟨h1, h2⟩ := h.cells_ hx
 exact ⟨h1, by simpa using h2 0 _ rfl, h2 1 _ rfl, h2 2 _ rfl, h2 3 _ rfl, h2 4 _ rfl⟩
theorem Sl.diff_at {w : World} {b off c : Nat} {xs : List Diff} (h : Sl w 3 Diff.cells (.slice (some ⟨b, off, none⟩) xs.length c) xs) {i : Nat} {x : Diff} (hx : xs[i]? = some x) :
  b < w.heap.size ∧ w.cell? ⟨b, off + i * 3, none⟩ = some (I x.frm) ∧ w.cell? ⟨b, off + i * 3 + 1, none⟩ = some (I x.to) ∧ w.cell? ⟨b, off + i * 3 + 2, none⟩ = some (I x.most) := by
 obtain ⟨h1, h2⟩ := h.cells_ hx
 exact ⟨h1, by simpa using h2 0 _ rfl, h2 1 _ rfl, h2 2 _ rfl⟩

def idxBy {α : Type} (p : α → Bool) : List α → Int
 | [] => -1
 | x :: xs => if p x then 0 else (if idxBy p xs < 0 then -1 else idxBy p xs + 1)

theorem idxBy_nil {α : Type} (p : α → Bool) : idxBy p [] = -1 := rfl
theorem idxBy_neg {α : Type} {p : α → Bool} {xs : List α} (h : ∀ x ∈ xs, p x = false) : idxBy p xs = -1 := by
 induction xs with
 | nil => rfl
 | cons x xs ih =>
  have h1 := h x (by simp)
  have h2 := ih fun y hy => h y (by simp [hy])
  simp [idxBy, h1, h2]
def NoneTo {α : Type} (p : α → Bool) (xs : List α) (k : Nat) : Prop := ∀ i x, i < k → xs[i]? = some x → p x = false
theorem NoneTo.zero {α : Type} (p : α → Bool) (xs : List α) : NoneTo p xs 0 := fun _ _ h => absurd h (by omega)
theorem NoneTo.succ {α : Type} {p : α → Bool} {xs : List α} {k : Nat} (h : NoneTo p xs k) {x : α} (hx : xs[k]? = some x) (hp : p x = false) : NoneTo p xs (k + 1) := fun i y hi hy => by
 rcases Nat.lt_or_ge i k with h1 | h1
 ·exact h i y h1 hy
 ·have : i = k := by omega
  subst this
  rw [hx] at hy; cases hy; exact hp
theorem NoneTo.found {α : Type} {p : α → Bool} : ∀ {xs : List α} {k : Nat}, NoneTo p xs k → ∀ {x : α}, xs[k]? = some x → p x = true → idxBy p xs = (k : Int)
 | [], k, _, x, hx, _ => by simp at hx
 | y :: ys, 0, _, x, hx, hp => by
  simp at hx; subst hx
  simp [idxBy, hp]
 | y :: ys, k + 1, h, x, hx, hp => by
  have h0 : p y = false := h 0 y (by omega) rfl
  have h1 : NoneTo p ys k := fun i z hi hz => h (i + 1) z (by omega) (by simpa using hz)
  have h2 := NoneTo.found h1 (x := x) (by simpa using hx) hp
  simp only [idxBy, h0, h2]
  simp
  omega
theorem NoneTo.missed {α : Type} {p : α → Bool} {xs : List α} (h : NoneTo p xs xs.length) : idxBy p xs = -1 :=
 idxBy_neg fun x hx => by
  obtain ⟨i, hi, rfl⟩ := List.getElem_of_mem hx
  exact h i _ hi (List.getElem?_eq_getElem hi)
theorem getElem?_of_lt {α : Type} {xs : List α} {k : Nat} (h : k < xs.length) : ∃ x, xs[k]? = some x := ⟨xs[k], List.getElem?_eq_getElem h⟩

def Gives (P : Program) {α : Type} (g : Nat) (cap : Array Value) (mk : α → Value) (p : α → Bool) (w : World) (xs : List α) : Prop :=
 ∀ (W : World) (x : α), x ∈ xs → Below w.heap.size w W → Calls P g (#[mk x] ++ cap) W fun e w' => e = .returned (.bool (p x)) ∧ Below W.heap.size W w'

theorem ret_bool {a b : Bool} (h : a = b) : Ending.returned (.bool a) = .returned (.bool b) := by rw [h]
theorem ret_int {a b : Int} (h : a = b) : Ending.returned (I a) = .returned (I b) := by rw [h]
theorem below1 (w : World) (a : Obj) : Below w.heap.size w (w.alloc a) := (Below.refl _ _).alloc (Nat.le_refl _) _
theorem below2 (w : World) (a b : Obj) : Below w.heap.size w ((w.alloc a).alloc b) := (below1 w a).alloc (by simp) _
theorem below3 (w : World) (a b c : Obj) : Below w.heap.size w (((w.alloc a).alloc b).alloc c) := (below2 w a b).alloc (by simp; omega) _
theorem below4 (w : World) (a b c d : Obj) : Below w.heap.size w ((((w.alloc a).alloc b).alloc c).alloc d) := (below3 w a b c).alloc (by simp; omega) _
theorem below5 (w : World) (a b c d e : Obj) : Below w.heap.size w (((((w.alloc a).alloc b).alloc c).alloc d).alloc e) := (below4 w a b c d).alloc (by simp; omega) _
theorem below6 (w : World) (a b c d e f : Obj) : Below w.heap.size w ((((((w.alloc a).alloc b).alloc c).alloc d).alloc e).alloc f) := (below5 w a b c d e).alloc (by simp; omega) _
theorem below7 (w : World) (a b c d e f g : Obj) : Below w.heap.size w (((((((w.alloc a).alloc b).alloc c).alloc d).alloc e).alloc f).alloc g) := (below6 w a b c d e f).alloc (by simp; omega) _
theorem below_drewN {B : Nat} {a w : World} (h : Below B a w) (n : Nat) : Below B a (w.drewN n) := ⟨h.os, h.tape, h.output, h.size, h.block⟩
theorem bon {B : Nat} {w W W1 : World} (h : Below B w W) (h1 : Below W.heap.size W W1) (hB : B ≤ W.heap.size) : Below B w W1 := h.trans (h1.mono hB)
theorem bup {w W W1 : World} (h : Below w.heap.size w W) (h1 : Below W.heap.size W W1) : Below w.heap.size w W1 := h.trans (h1.mono h.size)
theorem ilt (a b : Int) : a < b ∨ b ≤ a := by omega
theorem retII {a b c d : Int} (h1 : a = c) (h2 : b = d) : Ending.returned (.tuple #[I a, I b]) = .returned (.tuple #[I c, I d]) := by rw [h1, h2]
theorem retBI {a c : Bool} {b d : Int} (h1 : a = c) (h2 : b = d) : Ending.returned (.tuple #[.bool a, I b]) = .returned (.tuple #[.bool c, I d]) := by rw [h1, h2]

def inB (n lo hi : Int) : Bool := decide (lo ≤ n ∧ n ≤ hi)
theorem inB_true {n lo hi : Int} : inB n lo hi = true ↔ lo ≤ n ∧ n ≤ hi := by simp [inB]
theorem inB_false {n lo hi : Int} : inB n lo hi = false ↔ n < lo ∨ hi < n := by simp [inB]; omega

def siteOk (s : Site) : Bool := inB s.no 0 4095 && inB s.kind 1 3 && inB s.cell 0 4095 && (s.kind == 2 || s.cell == 0)
def trackOk (t : Track) : Bool :=
 inB t.a 0 4095 && inB t.b 0 4095 && (t.a != t.b) && inB t.no 0 4095 && inB t.minutes 1 1440 && inB t.steep 0 60 && inB t.cell 0 4095 && (decide (0 < t.steep) || t.cell == 0)
def lightF (day : Int) : Int := if day % 365 ≤ 182 then 480 + 480 * (day % 365) / 182 else 480 + 480 * (365 - day % 365) / 183
def breaksB (water steep : Int) : Bool := decide (25 < steep ∧ 10000 ≤ water * (steep - 25))
def bearsF (steep : Int) : Int := if steep ≤ 25 then 65536 else 9999 / (steep - 25)
def lightV (day : Int) : Int := if inB day 0 1048576 then lightF day else 0
def dayE (day : Int) : Int := if inB day 0 1048576 then 0 else 1
def breaksV (water steep : Int) : Bool := inB water 0 65536 && inB steep 0 60 && breaksB water steep
def breaksE (water steep : Int) : Int := if inB water 0 65536 && inB steep 0 60 then 0 else 1
def bearsV (steep : Int) : Int := if inB steep 0 60 then bearsF steep else 0
def bearsE (steep : Int) : Int := if inB steep 0 60 then 0 else 1

def AllTo (p : Nat → Bool) (n : Nat) : Prop := ∀ i, i < n → p i = true
theorem AllTo.zero (p : Nat → Bool) : AllTo p 0 := fun _ h => absurd h (by omega)
theorem AllTo.succ {p : Nat → Bool} {n : Nat} (h : AllTo p n) (hp : p n = true) : AllTo p (n + 1) := fun i hi => by
 rcases Nat.lt_or_ge i n with h1 | h1
 ·exact h i h1
 ·have : i = n := by omega
  subst this; exact hp
theorem AllTo.all {p : Nat → Bool} {n : Nat} (h : AllTo p n) : (List.range n).all p = true := by simpa [AllTo] using h
theorem all_of_not {p : Nat → Bool} {n k : Nat} (hk : k < n) (hp : p k = false) : (List.range n).all p = false := by
 rw [Bool.eq_false_iff]; intro h
 have := List.all_eq_true.1 h k (List.mem_range.2 hk)
 rw [hp] at this; cases this

def placeS (ss : List Site) (no : Int) : Int := idxBy (fun s => s.no == no) ss
def placeT (ts : List Track) (no : Int) : Int := idxBy (fun s => s.no == no) ts
def siteGood (ss : List Site) (i : Nat) : Bool := siteOk (ss.getD i default) && (i == 0 || decide ((ss.getD (i-1) default).no < (ss.getD i default).no))
def trackGood (ss : List Site) (ts : List Track) (i : Nat) : Bool :=
 trackOk (ts.getD i default) && (i == 0 || decide ((ts.getD (i-1) default).no < (ts.getD i default).no)) && decide (0 ≤ placeS ss (ts.getD i default).a) && decide (0 ≤ placeS ss (ts.getD i default).b)
def rangeOk (ss : List Site) (ts : List Track) : Bool :=
 decide (ss.length ≤ 16) && decide (ts.length ≤ 48) && (List.range ss.length).all (siteGood ss) && (List.range ts.length).all (trackGood ss ts)
def rangeE (ss : List Site) (ts : List Track) : Int := if rangeOk ss ts then 0 else 70
theorem getD_of {α : Type} [Inhabited α] {xs : List α} {i : Nat} {x : α} (h : xs[i]? = some x) : xs.getD i default = x := by simp [h]

section
variable {ss : List Site} {ts : List Track} {k : Nat} {x y : Track}
theorem trackGood_true (hx : ts[k]? = some x) (hok : trackOk x = true) (ho : k = 0 ∨ ∃ y, ts[k - 1]? = some y ∧ y.no < x.no) (ha : 0 ≤ placeS ss x.a) (hb : 0 ≤ placeS ss x.b) : trackGood ss ts k = true := by
 rcases ho with rfl | ⟨y, hy, h⟩
 ·simp [trackGood, hx, hok, ha, hb]
 ·simp [trackGood, hx, hy, hok, ha, hb, h]
theorem trackGood_ok (hx : ts[k]? = some x) (hok : trackOk x = false) : trackGood ss ts k = false := by simp [trackGood, hx, hok]
theorem trackGood_ord (hx : ts[k]? = some x) (hk : 0 < k) (hy : ts[k - 1]? = some y) (h : x.no ≤ y.no) : trackGood ss ts k = false := by
 have h1 : k ≠ 0 := by omega
 have h2 : ¬ y.no < x.no := by omega
 simp [trackGood, hx, hy, h1, h2]
theorem trackGood_a (hx : ts[k]? = some x) (h : placeS ss x.a < 0) : trackGood ss ts k = false := by
 have h1 : ¬ 0 ≤ placeS ss x.a := by omega
 simp [trackGood, hx, h1]
theorem trackGood_b (hx : ts[k]? = some x) (h : placeS ss x.b < 0) : trackGood ss ts k = false := by
 have h1 : ¬ 0 ≤ placeS ss x.b := by omega
 simp [trackGood, hx, h1]
end

def Own {α : Type} (w : World) (base e k : Nat) (enc : α → List Value) (v : Value) (xs : List α) : Prop := w.ownsRow base e k v xs.length (xs.flatMap enc)

theorem flat_len {α : Type} {k : Nat} {enc : α → List Value} (hlen : ∀ x, (enc x).length = k) : ∀ xs : List α, (xs.flatMap enc).length = xs.length * k
 | [] => by simp
 | x :: xs => by simp [hlen, Nat.add_mul, flat_len hlen xs]; omega
theorem flat_at {α : Type} {k : Nat} {enc : α → List Value} (hlen : ∀ x, (enc x).length = k) : ∀ (xs : List α) (i : Nat) (x : α), xs[i]? = some x → ∀ j u, (enc x)[j]? = some u → (xs.flatMap enc)[i * k + j]? = some u
 | y :: ys, 0, x, hx, j, u, hu => by
  simp at hx; subst hx
  rw [List.flatMap_cons, List.getElem?_append_left, ← hu]
  ·simp
  ·have := (List.getElem?_eq_some_iff.1 hu).1; omega
 | y :: ys, i + 1, x, hx, j, u, hu => by
  rw [List.flatMap_cons, List.getElem?_append_right (by rw [hlen, Nat.add_mul]; omega), hlen]
  have h := flat_at hlen ys i x (by simpa using hx) j u hu
  rw [← h]; congr 1
  rw [Nat.add_mul]; omega

section
variable {α : Type} {w w' : World} {base e k : Nat} {enc : α → List Value} {v : Value} {xs : List α}
theorem Own.nil_ (w : World) (base e k : Nat) (enc : α → List Value) : Own w base e k enc (.slice none 0 0) [] := World.ownsRow_nil _ _ _ _
theorem Own.sl (h : Own w base e k enc v xs) (hlen : ∀ x, (enc x).length = k) (hb : xs.length ≤ 140737488355328) : Sl w k enc v xs := by
 have h0 := h
 rcases h.2 with ⟨rfl, hn⟩ | ⟨g, cap, cur, rfl, hg, hh, hnc, hcap, hsz, ht⟩
 ·have : xs = [] := List.eq_nil_of_length_eq_zero hn
  subst this
  exact Sl.nil _ _ _
 ·refine ⟨some ⟨g, 0, none⟩, cap, rfl, hnc, ⟨hcap, hb⟩, fun hpos => ⟨g, 0, rfl, ?_, fun i x hx j u hu => ?_⟩⟩
  ·rcases Nat.lt_or_ge g w.heap.size with h | h
   ·exact h
   ·rw [Array.getElem?_eq_none h] at hh; cases hh
  ·have hf := flat_at hlen xs i x hx j u hu
   have hjl : i * k + j < xs.length * k := by
    have h1 := (List.getElem?_eq_some_iff.1 hf).1
    rwa [flat_len hlen] at h1
   have := h0.cellAt (i * k + j) hjl
   rw [Nat.zero_add, this, hf]
theorem Own.shape (h : Own w base e k enc v xs) : ∃ A n c, v = .slice A n c := by
 rcases h.2 with ⟨rfl, _⟩ | ⟨g, cap, cur, rfl, _⟩
 ·exact ⟨_, _, _, rfl⟩
 ·exact ⟨_, _, _, rfl⟩
theorem Own.alloc (h : Own w base e k enc v xs) (o : Obj) : Own (w.alloc o) base e k enc v xs := World.ownsRow.alloc h o
theorem Own.drew (h : Own w base e k enc v xs) : Own w.drew base e k enc v xs := h
theorem ownBlock_lt (h : Own w base e k enc v xs) : ∀ g, v.ownBlock = some g → base ≤ g ∧ g < w.heap.size := World.ownsRow.lt h
theorem Own.below (h : Own w base e k enc v xs) (hb : Below w.heap.size w w') : Own w' base e k enc v xs :=
 World.ownsRow.kept (row := none) h ⟨hb.os, hb.tape, hb.output, hb.size, fun i hi _ => hb.block i hi⟩ (by
  rcases hv : v.ownBlock with _ | g
  ·exact .inl rfl
  ·exact .inr (by simp))
theorem Own.mono {base' : Nat} (h : Own w base e k enc v xs) (hb : base' ≤ base) : Own w base' e k enc v xs := by
 obtain ⟨h1, h2⟩ := h
 refine ⟨h1, ?_⟩
 rcases h2 with h2 | ⟨g, cap, cur, hv, hg, hr⟩
 ·exact .inl h2
 ·exact .inr ⟨g, cap, cur, hv, by omega, hr⟩
end

def Blk (w : World) (g : Nat) (t : TypeId) (cs : Array Value) : Prop := w.heap[g]? = some (.cells cs t (0, 0))
section
variable {w w' : World} {g : Nat} {t : TypeId} {cs : Array Value}
theorem Blk.lt (h : Blk w g t cs) : g < w.heap.size := by
 rcases Nat.lt_or_ge g w.heap.size with hlt | hge
 ·exact hlt
 ·unfold Blk at h; rw [Array.getElem?_eq_none hge] at h; cases h
theorem Blk.cell (h : Blk w g t cs) (i : Nat) : w.cell? ⟨g, i, none⟩ = cs[i]? := cell_of_row w g i cs t (0, 0) h
theorem Blk.frozen (h : Blk w g t cs) (i : Nat) : w.frozen? ⟨g, i, none⟩ = false := by
 unfold Blk at h
 simp [World.frozen?, h]
theorem Blk.new (w : World) (t : TypeId) (cs : Array Value) : Blk (w.alloc (.cells cs t)) w.heap.size t cs := heap_alloc_new w _
theorem Blk.drew (h : Blk w g t cs) : Blk w.drew g t cs := h
theorem Blk.alloc (h : Blk w g t cs) (o : Obj) : Blk (w.alloc o) g t cs := (Below.heap_alloc w o g h.lt).trans h
theorem Blk.set_ (h : Blk w g t cs) (i : Nat) (u : Value) : Blk (w.setCell ⟨g, i, none⟩ u) g t (cs.setIfInBounds i u) := by
 unfold Blk at h ⊢
 simp [World.setCell, Array.getElem?_modify, h]
theorem Blk.far (h : Blk w g t cs) {p : Addr} (hp : g ≠ p.block) (u : Value) : Blk (w.setCell p u) g t cs := (Below.heap_setCell w p u g hp).trans h
theorem Blk.below {B : Nat} (h : Blk w g t cs) (hb : Below B w w') (hg : g < B) : Blk w' g t cs := (hb.block g hg).trans h
end
theorem alv (w : World) (cs : Array Value) (t : TypeId) : ∃ v, v = w.alloc (.cells cs t) ∧ Below w.heap.size w v ∧ Blk v w.heap.size t cs := ⟨_, rfl, below1 _ _, Blk.new _ _ _⟩
theorem alvd (w : World) (cs : Array Value) (t : TypeId) : ∃ v, v = (w.alloc (.cells cs t)).drew ∧ Below w.drew.heap.size w.drew v ∧ Blk v w.heap.size t cs := ⟨_, rfl, below1 w.drew _, Blk.new w.drew _ _⟩
theorem blk_next {w v : World} {n : Nat} {t : TypeId} {cs : Array Value} (h : Blk v w.heap.size t cs) (hn : w.heap.size = n) : Blk v n t cs := by rw [← hn]; exact h
theorem al1 (w : World) (c1 : Array Value) (t1 : TypeId) : ∃ v, v = w.alloc (.cells c1 t1) ∧ Below w.heap.size w v ∧ Blk v (w.heap.size) t1 c1 :=
 ⟨_, rfl, below1 _ _, Blk.new w t1 c1⟩
theorem al2 (w : World) (c1 : Array Value) (t1 : TypeId) (c2 : Array Value) (t2 : TypeId) : ∃ v, v = (w.alloc (.cells c1 t1)).alloc (.cells c2 t2) ∧ Below w.heap.size w v ∧ Blk v (w.heap.size) t1 c1 ∧ Blk v (w.heap.size + 1) t2 c2 :=
 ⟨_, rfl, below2 _ _ _, (Blk.new w t1 c1).alloc _, blk_next (Blk.new (w.alloc (.cells c1 t1)) t2 c2) (by simp)⟩
theorem al3 (w : World) (c1 : Array Value) (t1 : TypeId) (c2 : Array Value) (t2 : TypeId) (c3 : Array Value) (t3 : TypeId) : ∃ v, v = ((w.alloc (.cells c1 t1)).alloc (.cells c2 t2)).alloc (.cells c3 t3) ∧ Below w.heap.size w v ∧ Blk v (w.heap.size) t1 c1 ∧ Blk v (w.heap.size + 1) t2 c2 ∧ Blk v (w.heap.size + 1 + 1) t3 c3 :=
 ⟨_, rfl, below3 _ _ _ _, ((Blk.new w t1 c1).alloc _).alloc _, (blk_next (Blk.new (w.alloc (.cells c1 t1)) t2 c2) (by simp)).alloc _, blk_next (Blk.new ((w.alloc (.cells c1 t1)).alloc (.cells c2 t2)) t3 c3) (by simp)⟩
theorem al4 (w : World) (c1 : Array Value) (t1 : TypeId) (c2 : Array Value) (t2 : TypeId) (c3 : Array Value) (t3 : TypeId) (c4 : Array Value) (t4 : TypeId) : ∃ v, v = (((w.alloc (.cells c1 t1)).alloc (.cells c2 t2)).alloc (.cells c3 t3)).alloc (.cells c4 t4) ∧ Below w.heap.size w v ∧ Blk v (w.heap.size) t1 c1 ∧ Blk v (w.heap.size + 1) t2 c2 ∧ Blk v (w.heap.size + 1 + 1) t3 c3 ∧ Blk v (w.heap.size + 1 + 1 + 1) t4 c4 :=
 ⟨_, rfl, below4 _ _ _ _ _, (((Blk.new w t1 c1).alloc _).alloc _).alloc _, ((blk_next (Blk.new (w.alloc (.cells c1 t1)) t2 c2) (by simp)).alloc _).alloc _, (blk_next (Blk.new ((w.alloc (.cells c1 t1)).alloc (.cells c2 t2)) t3 c3) (by simp)).alloc _, blk_next (Blk.new (((w.alloc (.cells c1 t1)).alloc (.cells c2 t2)).alloc (.cells c3 t3)) t4 c4) (by simp)⟩
theorem al5 (w : World) (c1 : Array Value) (t1 : TypeId) (c2 : Array Value) (t2 : TypeId) (c3 : Array Value) (t3 : TypeId) (c4 : Array Value) (t4 : TypeId) (c5 : Array Value) (t5 : TypeId) : ∃ v, v = ((((w.alloc (.cells c1 t1)).alloc (.cells c2 t2)).alloc (.cells c3 t3)).alloc (.cells c4 t4)).alloc (.cells c5 t5) ∧ Below w.heap.size w v ∧ Blk v (w.heap.size) t1 c1 ∧ Blk v (w.heap.size + 1) t2 c2 ∧ Blk v (w.heap.size + 1 + 1) t3 c3 ∧ Blk v (w.heap.size + 1 + 1 + 1) t4 c4 ∧ Blk v (w.heap.size + 1 + 1 + 1 + 1) t5 c5 :=
 ⟨_, rfl, below5 _ _ _ _ _ _, ((((Blk.new w t1 c1).alloc _).alloc _).alloc _).alloc _, (((blk_next (Blk.new (w.alloc (.cells c1 t1)) t2 c2) (by simp)).alloc _).alloc _).alloc _, ((blk_next (Blk.new ((w.alloc (.cells c1 t1)).alloc (.cells c2 t2)) t3 c3) (by simp)).alloc _).alloc _, (blk_next (Blk.new (((w.alloc (.cells c1 t1)).alloc (.cells c2 t2)).alloc (.cells c3 t3)) t4 c4) (by simp)).alloc _, blk_next (Blk.new ((((w.alloc (.cells c1 t1)).alloc (.cells c2 t2)).alloc (.cells c3 t3)).alloc (.cells c4 t4)) t5 c5) (by simp)⟩
theorem Blk.cells2 {w : World} {g : Nat} {t : TypeId} {x0 x1 : Value} (h : Blk w g t #[x0, x1]) : w.cell? ⟨g, 0, none⟩ = some x0 ∧ w.cell? ⟨g, 1, none⟩ = some x1 := ⟨h.cell 0, h.cell 1⟩
theorem Blk.cells3 {w : World} {g : Nat} {t : TypeId} {x0 x1 x2 : Value} (h : Blk w g t #[x0, x1, x2]) : w.cell? ⟨g, 0, none⟩ = some x0 ∧ w.cell? ⟨g, 1, none⟩ = some x1 ∧ w.cell? ⟨g, 2, none⟩ = some x2 := ⟨h.cell 0, h.cell 1, h.cell 2⟩
theorem Blk.cells8 {w : World} {g : Nat} {t : TypeId} {x0 x1 x2 x3 x4 x5 x6 x7 : Value} (h : Blk w g t #[x0, x1, x2, x3, x4, x5, x6, x7]) : w.cell? ⟨g, 0, none⟩ = some x0 ∧ w.cell? ⟨g, 1, none⟩ = some x1 ∧ w.cell? ⟨g, 2, none⟩ = some x2 ∧ w.cell? ⟨g, 3, none⟩ = some x3 ∧ w.cell? ⟨g, 4, none⟩ = some x4 ∧ w.cell? ⟨g, 5, none⟩ = some x5 ∧ w.cell? ⟨g, 6, none⟩ = some x6 ∧ w.cell? ⟨g, 7, none⟩ = some x7 := ⟨h.cell 0, h.cell 1, h.cell 2, h.cell 3, h.cell 4, h.cell 5, h.cell 6, h.cell 7⟩
theorem Blk.cells10 {w : World} {g : Nat} {t : TypeId} {x0 x1 x2 x3 x4 x5 x6 x7 x8 x9 : Value} (h : Blk w g t #[x0, x1, x2, x3, x4, x5, x6, x7, x8, x9]) : w.cell? ⟨g, 0, none⟩ = some x0 ∧ w.cell? ⟨g, 1, none⟩ = some x1 ∧ w.cell? ⟨g, 2, none⟩ = some x2 ∧ w.cell? ⟨g, 3, none⟩ = some x3 ∧ w.cell? ⟨g, 4, none⟩ = some x4 ∧ w.cell? ⟨g, 5, none⟩ = some x5 ∧ w.cell? ⟨g, 6, none⟩ = some x6 ∧ w.cell? ⟨g, 7, none⟩ = some x7 ∧ w.cell? ⟨g, 8, none⟩ = some x8 ∧ w.cell? ⟨g, 9, none⟩ = some x9 := ⟨h.cell 0, h.cell 1, h.cell 2, h.cell 3, h.cell 4, h.cell 5, h.cell 6, h.cell 7, h.cell 8, h.cell 9⟩
theorem Blk.cells12 {w : World} {g : Nat} {t : TypeId} {x0 x1 x2 x3 x4 x5 x6 x7 x8 x9 x10 x11 : Value} (h : Blk w g t #[x0, x1, x2, x3, x4, x5, x6, x7, x8, x9, x10, x11]) : w.cell? ⟨g, 0, none⟩ = some x0 ∧ w.cell? ⟨g, 1, none⟩ = some x1 ∧ w.cell? ⟨g, 2, none⟩ = some x2 ∧ w.cell? ⟨g, 3, none⟩ = some x3 ∧ w.cell? ⟨g, 4, none⟩ = some x4 ∧ w.cell? ⟨g, 5, none⟩ = some x5 ∧ w.cell? ⟨g, 6, none⟩ = some x6 ∧ w.cell? ⟨g, 7, none⟩ = some x7 ∧ w.cell? ⟨g, 8, none⟩ = some x8 ∧ w.cell? ⟨g, 9, none⟩ = some x9 ∧ w.cell? ⟨g, 10, none⟩ = some x10 ∧ w.cell? ⟨g, 11, none⟩ = some x11 := ⟨h.cell 0, h.cell 1, h.cell 2, h.cell 3, h.cell 4, h.cell 5, h.cell 6, h.cell 7, h.cell 8, h.cell 9, h.cell 10, h.cell 11⟩
theorem new_cells {W : World} {n : Nat} (hn : W.heap.size = n) (t : TypeId) (l : List Value) : ∀ j u, l[j]? = some u → (W.alloc (.cells l.toArray t)).cell? ⟨n, j, none⟩ = some u := by
 intro j u hu
 subst hn
 rw [(Blk.new W t l.toArray).cell j]
 simpa using hu
theorem Own.set_below {α : Type} {w : World} {base e k : Nat} {enc : α → List Value} {v : Value} {xs : List α} (h : Own w base e k enc v xs) {p : Addr} (hp : p.block < base) (u : Value) : Own (w.setCell p u) base e k enc v xs :=
 ownsRow_setCell_below h hp u

structure ElemOk (P : Program) (t e k bytes : Nat) (z : Value) : Prop where
 ht : P.underlying t = some (.slice e)
 hi : (P.info? e).map (fun i => (i.zero, i.size, i.bytes)) = some (some z, k, bytes)
 hzs : z.cells.size = k
 hk : 0 < k

theorem wp_push {P : Program} {α : Type} {t e k bytes : Nat} {z : Value} (E : ElemOk P t e k bytes z) {enc : α → List Value} (hlen : ∀ x, (enc x).length = k) (hone : ∀ x, ∀ u ∈ enc x, u.oneCell' = true)
  {w : World} {ops : Array Oper} {rest : List Oper} {o : Oper} {a : Act} {Q : Exit → Act → World → Prop} (hgd : o.guard = none) (s x : Operand)
  (ho : o.op = .call { callee := .builtin .append, args := #[s, x], argTypes := #[t, t] })
  (base : Nat) {v : Value} {xs : List α} (hs : a.eval s = v) (hown : Own w base e k enc v xs) (y : α) {g c : Nat} (hx : a.eval x = .slice (some ⟨g, 0, none⟩) 1 c)
  (hy : ∀ j u, (enc y)[j]? = some u → w.cell? ⟨g, j, none⟩ = some u) (hlb : (xs.length + 1) * bytes ≤ 140737488355328) (hl : xs.length ≤ 140737488355328) (hbase : base ≤ w.heap.size)
  (h : ∀ v' w', Own w' base e k enc v' (xs ++ [y]) → Below base w w' → v' ≠ .slice none 0 0 → wpList P ops Q rest (a.put o.dst v') w') : wpList P ops Q (o :: rest) a w := by
 obtain ⟨i0, hi, hz0, hz1, hz2⟩ := info_parts E.hi
 refine wpList_append_own w hgd s x t ho base e i0 z k bytes E.ht hi hz0 hz1 hz2 E.hzs E.hk v xs.length (xs.flatMap enc) hs hown ⟨g, 0, none⟩ 1 c (enc y) hx (by rw [hlen, Nat.one_mul]) ?_ (hone y) (by unfold maxLen; omega) hlb hbase ?_
 ·intro j u hu
  have := hy j u hu
  unfold Addr.add
  split
  ·rename_i h0; subst h0; exact this
  ·simpa using this
 ·intro v' w' h1 h2 h3
  refine h v' w' ?_ ((Below.refl _ _).grown h2 hbase fun g' hg' => (ownBlock_lt hown g' hg').1) ?_
  ·unfold Own
   simpa using h1
  ·intro hv; have := (h3.1 hv).2; omega

theorem flat_inv {α : Type} {k : Nat} {enc : α → List Value} (hlen : ∀ x, (enc x).length = k) : ∀ (xs : List α) (j : Nat) (u : Value), (xs.flatMap enc)[j]? = some u → ∃ i x r, xs[i]? = some x ∧ (enc x)[r]? = some u ∧ j = i * k + r
 | [], j, u, h => by simp at h
 | y :: ys, j, u, h => by
  rw [List.flatMap_cons] at h
  rcases Nat.lt_or_ge j k with hj | hj
  ·rw [List.getElem?_append_left (by rw [hlen]; exact hj)] at h
   exact ⟨0, y, j, rfl, h, by simp⟩
  ·rw [List.getElem?_append_right (by rw [hlen]; exact hj), hlen] at h
   obtain ⟨i, x, r, hx, hr, hjr⟩ := flat_inv hlen ys (j - k) u h
   exact ⟨i + 1, x, r, by simpa using hx, hr, by rw [Nat.add_mul]; omega⟩
theorem flat_one {α : Type} {enc : α → List Value} (hone : ∀ x, ∀ u ∈ enc x, u.oneCell' = true) (xs : List α) : ∀ u ∈ xs.flatMap enc, u.oneCell' = true := by
 intro u hu
 obtain ⟨x, _, hx⟩ := List.mem_flatMap.1 hu
 exact hone x u hx

theorem bpush {B base : Nat} {w w' w1 : World} (h : Below B w w') (h1 : Below base w' w1) (hB : B ≤ base) : Below B w w1 := h.trans (h1.mono hB)
theorem wp_append_all {P : Program} {α : Type} {t e k bytes : Nat} {z : Value} (E : ElemOk P t e k bytes z) {enc : α → List Value} (hlen : ∀ x, (enc x).length = k) (hone : ∀ x, ∀ u ∈ enc x, u.oneCell' = true)
  {w : World} {ops : Array Oper} {rest : List Oper} {o : Oper} {a : Act} {Q : Exit → Act → World → Prop} (hgd : o.guard = none) (s x : Operand)
  (ho : o.op = .call { callee := .builtin .append, args := #[s, x], argTypes := #[t, t] })
  (base : Nat) {v : Value} {xs ys : List α} (hs : a.eval s = v) (hown : Own w base e k enc v xs) {ad : Addr} {c : Nat} (hx : a.eval x = .slice (some ad) ys.length c)
  (hy : Sl w k enc (.slice (some ad) ys.length c) ys) (hlb : (xs.length + ys.length) * bytes ≤ 140737488355328) (hl : xs.length ≤ 140737488355328) (hl' : ys.length ≤ 140737488355328) (hbase : base ≤ w.heap.size)
  (h : ∀ v' w', Own w' base e k enc v' (xs ++ ys) → Below base w w' → (v' = .slice none 0 0 ↔ v = .slice none 0 0 ∧ ys.length = 0) → wpList P ops Q rest (a.put o.dst v') w') : wpList P ops Q (o :: rest) a w := by
 obtain ⟨i0, hi, hz0, hz1, hz2⟩ := info_parts E.hi
 refine wpList_append_own w hgd s x t ho base e i0 z k bytes E.ht hi hz0 hz1 hz2 E.hzs E.hk v xs.length (xs.flatMap enc) hs hown ad ys.length c (ys.flatMap enc) hx (flat_len hlen _) ?_ (flat_one hone _) (by unfold maxLen; omega) hlb hbase ?_
 ·intro j u hu
  obtain ⟨i, y, r, hi', hr, rfl⟩ := flat_inv hlen ys j u hu
  have hpos : 0 < ys.length := Nat.lt_of_le_of_lt (Nat.zero_le _) (List.getElem?_eq_some_iff.1 hi').1
  obtain ⟨A, c', hv, _, _, hr'⟩ := hy
  obtain ⟨b, off, hA, _, hc⟩ := hr' hpos
  injection hv with hv _ _
  rw [hA] at hv; injection hv with hv; subst hv
  have := hc i y hi' r u hr
  unfold Addr.add
  split
  ·rename_i h0
   have h1 : off + i * k + r = off := by omega
   rw [h1] at this; exact this
  ·rw [Nat.add_assoc] at this; exact this
 ·intro v' w' h1 h2 h3
  refine h v' w' ?_ ((Below.refl _ _).grown h2 hbase fun g' hg' => (ownBlock_lt hown g' hg').1) h3
  unfold Own
  simpa using h1
theorem Own.empty {α : Type} (w : World) (base e k : Nat) (enc : α → List Value) (hb : base ≤ w.heap.size) : Own (w.alloc (.cells #[] e)) base e k enc (.slice (some ⟨w.heap.size, 0, none⟩) 0 0) [] :=
 World.ownsRow_lit w #[] 0 hb (Nat.zero_le _) (by simp)
theorem intC_len (x : Int) : (intC x).length = 1 := rfl
theorem boolC_len (x : Bool) : (boolC x).length = 1 := rfl
theorem intC_one (x : Int) : ∀ u ∈ intC x, u.oneCell' = true := by intro u hu; simp [intC] at hu; subst hu; rfl
theorem boolC_one (x : Bool) : ∀ u ∈ boolC x, u.oneCell' = true := by intro u hu; simp [boolC] at hu; subst hu; rfl
theorem pairC_len (x : Int × Int) : (pairC x).length = 2 := rfl
theorem pairC_one (x : Int × Int) : ∀ u ∈ pairC x, u.oneCell' = true := by intro u hu; simp [pairC] at hu; rcases hu with rfl | rfl <;> rfl
theorem Site.cells_len (x : Site) : x.cells.length = 3 := rfl
theorem Site.cells_one (x : Site) : ∀ u ∈ x.cells, u.oneCell' = true := by intro u hu; simp [Site.cells] at hu; rcases hu with rfl | rfl | rfl <;> rfl
theorem Track.cells_len (x : Track) : x.cells.length = 6 := rfl
theorem Track.cells_one (x : Track) : ∀ u ∈ x.cells, u.oneCell' = true := by intro u hu; simp [Track.cells] at hu; rcases hu with rfl | rfl | rfl | rfl | rfl | rfl <;> rfl
theorem Cell.cells_len (x : Cell) : x.cells.length = 4 := rfl
theorem Cell.cells_one (x : Cell) : ∀ u ∈ x.cells, u.oneCell' = true := by intro u hu; simp [Cell.cells] at hu; rcases hu with rfl | rfl | rfl | rfl <;> rfl
theorem Sight.cells_len (x : Sight) : x.cells.length = 5 := rfl
theorem Sight.cells_one (x : Sight) : ∀ u ∈ x.cells, u.oneCell' = true := by intro u hu; simp [Sight.cells] at hu; rcases hu with rfl | rfl | rfl | rfl | rfl <;> rfl
theorem Change.cells_len (x : Change) : x.cells.length = 5 := rfl
theorem Change.cells_one (x : Change) : ∀ u ∈ x.cells, u.oneCell' = true := by intro u hu; simp [Change.cells] at hu; rcases hu with rfl | rfl | rfl | rfl | rfl <;> rfl
theorem Weather.cells_len (x : Weather) : x.cells.length = 3 := rfl
theorem Weather.cells_one (x : Weather) : ∀ u ∈ x.cells, u.oneCell' = true := by intro u hu; simp [Weather.cells] at hu; rcases hu with rfl | rfl | rfl <;> rfl
theorem Diff.cells_len (x : Diff) : x.cells.length = 3 := rfl
theorem Diff.cells_one (x : Diff) : ∀ u ∈ x.cells, u.oneCell' = true := by intro u hu; simp [Diff.cells] at hu; rcases hu with rfl | rfl | rfl <;> rfl

def rowN (n : Nat) (z : Value) : Array Value := (List.replicate n z).toArray
theorem rowN_list (n : Nat) (z : Value) : (rowN n z).toList = List.replicate n z := by simp [rowN]
theorem run_make1 {P : Program} {t e bytes : Nat} {z : Value} (E : ElemOk P t e 1 bytes z) (hz : z.cells = #[z]) (n : Nat) (hb : bytes * n ≤ 281474976710656) (hn : n ≤ 281474976710656) (w : World) :
  (Instr.makeSlice t (.int .i64 (n : Int)) (.int .i64 (n : Int))).run P w = .ok (.slice (some ⟨w.heap.size, 0, none⟩) n n) (w.alloc (.cells (rowN n z) e)) := by
 obtain ⟨i0, hi, hz0, hz1, hz2⟩ := info_parts E.hi
 have hb' : (i0.bytes : Int) * (n : Int) ≤ 281474976710656 := by
  rw [hz2]; have h : ((bytes * n : Nat) : Int) ≤ 281474976710656 := by omega
  rwa [Int.natCast_mul] at h
 have hr := run_make (P := P) w t e i0 z E.ht hi hz0 .i64 .i64 n n (by omega) (by omega) hb' (by omega)
 simp only [Int.toNat_natCast] at hr
 rw [hr, hz1, Nat.mul_one, hz]
 have : madeCells #[z] n = rowN n z := by
  apply Array.toList_inj.1
  rw [toList_madeCells_one, rowN_list]
 rw [this]
theorem own_row {α : Type} {w : World} {base e g n cap : Nat} {enc : α → List Value} {xs : List α} {cur : Array Value} (hlen : ∀ x, (enc x).length = 1) (hg : w.heap[g]? = some (.cells cur e (0, 0))) (hb : base ≤ g) (hc : cap ≤ maxLen) (hn : n ≤ cap) (hs : cur.size = cap)
  (hx : cur.toList.take n = xs.flatMap enc) : Own w base e 1 enc (.slice (some ⟨g, 0, none⟩) n cap) xs := by
 have hl : xs.length = n := by
  have := congrArg List.length hx
  rw [flat_len hlen, List.length_take, Array.length_toList] at this; omega
 subst hl
 exact ⟨by rw [flat_len hlen], .inr ⟨g, cap, cur, rfl, hb, hg, hn, hc, by omega, by rw [Nat.mul_one]; exact hx⟩⟩
theorem flat_int (xs : List Int) : xs.flatMap intC = xs.map I := by
 induction xs with
 | nil => rfl
 | cons x xs ih => simp [intC, ih]
theorem flat_bool (xs : List Bool) : xs.flatMap boolC = xs.map Value.bool := by
 induction xs with
 | nil => rfl
 | cons x xs ih => simp [boolC, ih]

def diffOk (nodes : Int) (d : Diff) : Bool := inB d.frm 0 (nodes - 1) && inB d.to 0 (nodes - 1) && inB d.most (-1073741824) 1073741824
def netOk (nodes : Int) (ds : List Diff) : Bool := inB nodes 1 256 && decide (ds.length ≤ 4096) && ds.all (diffOk nodes)
def netE (nodes : Int) (ds : List Diff) : Int := if netOk nodes ds then 0 else 40

def loopF (last : List Int) (ds : List Diff) : Nat → Nat → Int
 | 0, at_ => at_
 | k + 1, at_ => if last.getD at_ (-1) < 0 then -1 else loopF last ds k (ds.getD (last.getD at_ (-1)).toNat default).frm.toNat

def turnD (d : Diff) : Diff := ⟨d.to, d.frm, d.most⟩

def Upto {α : Type} (p : α → Bool) (xs : List α) (k : Nat) : Prop := ∀ i x, i < k → xs[i]? = some x → p x = true
theorem Upto.zero {α : Type} (p : α → Bool) (xs : List α) : Upto p xs 0 := fun _ _ h => absurd h (by omega)
theorem Upto.succ {α : Type} {p : α → Bool} {xs : List α} {k : Nat} (h : Upto p xs k) {x : α} (hx : xs[k]? = some x) (hp : p x = true) : Upto p xs (k + 1) := fun i y hi hy => by
 rcases Nat.lt_or_ge i k with h1 | h1
 ·exact h i y h1 hy
 ·have : i = k := by omega
  subst this
  rw [hx] at hy; cases hy; exact hp
theorem Upto.all {α : Type} {p : α → Bool} {xs : List α} (h : Upto p xs xs.length) : xs.all p = true := by
 rw [List.all_eq_true]; intro x hx
 obtain ⟨i, hi, rfl⟩ := List.getElem_of_mem hx
 exact h i _ hi (List.getElem?_eq_getElem hi)
theorem all_bad {α : Type} {p : α → Bool} {xs : List α} {k : Nat} {x : α} (hx : xs[k]? = some x) (hp : p x = false) : xs.all p = false := by
 rw [Bool.eq_false_iff]; intro h
 have := List.all_eq_true.1 h x (List.mem_of_getElem? hx)
 rw [hp] at this; cases this
theorem take_succ_of {α : Type} {xs : List α} {k : Nat} {x : α} (hx : xs[k]? = some x) : xs.take (k + 1) = xs.take k ++ [x] := by
 rw [List.take_add_one, hx]; rfl

structure Wk where
 long : List Int
 has : List Bool
 last : List Int
 ch : Int

def wkB (s : Wk) (d : Diff) : Bool :=
 s.has.getD d.frm.toNat false && (!s.has.getD d.to.toNat false || decide (s.long.getD d.frm.toNat 0 + d.most < s.long.getD d.to.toNat 0))
def wkStep (s : Wk) (k : Nat) (d : Diff) : Wk :=
 if wkB s d then ⟨s.long.set d.to.toNat (s.long.getD d.frm.toNat 0 + d.most), s.has.set d.to.toNat true, s.last.set d.to.toNat k, d.to⟩ else s
def wkTo (ds : List Diff) (s : Wk) : Nat → Wk
 | 0 => { s with ch := -1 }
 | k + 1 => wkStep (wkTo ds s k) k (ds.getD k default)
def wkPass (ds : List Diff) (s : Wk) : Wk := wkTo ds s ds.length
def wkRun (ds : List Diff) : Nat → Wk → Wk × Int
 | 0, s => (s, -1)
 | f + 1, s =>
  let t := wkPass ds s
  if t.ch < 0 then (t, -1) else
  let b := loopF t.last ds t.last.length t.ch.toNat
  if 0 ≤ b then (t, b) else wkRun ds f t
def wkInit (n : Nat) (frm : List Int) : Wk := ⟨List.replicate n 0, frm.foldl (fun h i => h.set i.toNat true) (List.replicate n false), List.replicate n (-1), -1⟩
def growF (n : Nat) (ds : List Diff) (frm : List Int) : Wk × Int := wkRun ds n (wkInit n frm)

theorem wkStep_len (s : Wk) (k : Nat) (d : Diff) : (wkStep s k d).long.length = s.long.length ∧ (wkStep s k d).has.length = s.has.length ∧ (wkStep s k d).last.length = s.last.length := by
 unfold wkStep; split <;> simp
theorem wkTo_len (ds : List Diff) (s : Wk) : ∀ k, (wkTo ds s k).long.length = s.long.length ∧ (wkTo ds s k).has.length = s.has.length ∧ (wkTo ds s k).last.length = s.last.length
 | 0 => ⟨rfl, rfl, rfl⟩
 | k + 1 => by
  have h := wkTo_len ds s k
  have h1 := wkStep_len (wkTo ds s k) k (ds.getD k default)
  exact ⟨h1.1.trans h.1, h1.2.1.trans h.2.1, h1.2.2.trans h.2.2⟩

def Within (b : Int) (l : List Int) : Prop := ∀ i, -b ≤ l.getD i 0 ∧ l.getD i 0 ≤ b
theorem Within.mono {b b' : Int} {l : List Int} (h : Within b l) (hb : b ≤ b') : Within b' l := fun i => by have := h i; omega
theorem Within.set {b : Int} {l : List Int} (h : Within b l) (j : Nat) (x : Int) (h0 : -b ≤ x) (h1 : x ≤ b) : Within b (l.set j x) := fun i => by
 rw [List.getD_eq_getElem?_getD, List.getElem?_set]
 split
 ·split
  ·exact ⟨h0, h1⟩
  ·simp; have := h i; have hb : 0 ≤ b := by omega
   omega
 ·have := h i; rwa [List.getD_eq_getElem?_getD] at this
theorem wkTo_within {ds : List Diff} (hd : ∀ d ∈ ds, -1073741824 ≤ d.most ∧ d.most ≤ 1073741824) {s : Wk} {b : Int} (h : Within b s.long) : ∀ k, k ≤ ds.length → Within (b + 1073741824 * k) (wkTo ds s k).long
 | 0, _ => by simpa [wkTo] using h
 | k + 1, hk => by
  have ih := wkTo_within hd h k (by omega)
  have hm := hd (ds.getD k default) (by rw [List.getD_eq_getElem?_getD, List.getElem?_eq_getElem (by omega)]; exact List.getElem_mem _)
  have h1 := ih (ds.getD k default).frm.toNat
  simp only [wkTo, wkStep]
  split
  ·refine Within.set (ih.mono (by omega)) _ _ (by omega) (by omega)
  ·exact ih.mono (by omega)
def LastOk (m : Nat) (l : List Int) : Prop := ∀ x ∈ l, -1 ≤ x ∧ x < m
theorem wkTo_last {ds : List Diff} {s : Wk} (h : LastOk ds.length s.last) : ∀ k, k ≤ ds.length → LastOk ds.length (wkTo ds s k).last
 | 0, _ => by simpa [wkTo] using h
 | k + 1, hk => by
  have ih := wkTo_last h k (by omega)
  simp only [wkTo, wkStep]
  split
  ·intro x hx
   rcases List.mem_or_eq_of_mem_set hx with hx | rfl
   ·exact ih x hx
   ·omega
  ·exact ih
theorem wkTo_ch {ds : List Diff} {n : Nat} (hd : ∀ d ∈ ds, 0 ≤ d.to ∧ d.to < n) {s : Wk} : ∀ k, k ≤ ds.length → (wkTo ds s k).ch = -1 ∨ (0 ≤ (wkTo ds s k).ch ∧ (wkTo ds s k).ch < n)
 | 0, _ => .inl rfl
 | k + 1, hk => by
  have ih := wkTo_ch hd (s := s) k (by omega)
  have hm := hd (ds.getD k default) (by rw [List.getD_eq_getElem?_getD, List.getElem?_eq_getElem (by omega)]; exact List.getElem_mem _)
  simp only [wkTo, wkStep]
  split
  ·exact .inr hm
  ·exact ih

def Sat (s : Wk) (d : Diff) : Prop := s.has.getD d.frm.toNat false = true → s.has.getD d.to.toNat false = true ∧ s.long.getD d.to.toNat 0 ≤ s.long.getD d.frm.toNat 0 + d.most
theorem sat_of_not {s : Wk} {d : Diff} (h : wkB s d = false) : Sat s d := by
 intro hf
 unfold wkB at h
 rw [hf] at h
 simp only [Bool.true_and, Bool.or_eq_false_iff, Bool.not_eq_false', decide_eq_false_iff_not] at h
 exact ⟨h.1, by omega⟩
theorem not_sat {s : Wk} {d : Diff} (h : wkB s d = true) : ¬ Sat s d := by
 intro hs
 unfold wkB at h
 simp only [Bool.and_eq_true, Bool.or_eq_true, Bool.not_eq_true', decide_eq_true_eq] at h
 obtain ⟨h1, h2⟩ := h
 obtain ⟨h3, h4⟩ := hs h1
 rcases h2 with h2 | h2
 ·rw [h3] at h2; cases h2
 ·omega

theorem getD_set_same {α : Type} {l : List α} {i : Nat} (hi : i < l.length) (x d : α) : (l.set i x).getD i d = x := by simp [hi]
theorem getD_set_other {α : Type} {l : List α} {i j : Nat} (h : i ≠ j) (x d : α) : (l.set i x).getD j d = l.getD j d := by
 rw [List.getD_eq_getElem?_getD, List.getElem?_set_ne h, ← List.getD_eq_getElem?_getD]

structure Pass (n : Nat) (ds : List Diff) (k j : Nat) (s : Wk) (upd : Nat → Nat) : Prop where
 last_ : ∀ v, v < n → upd v = 0 ∨ (0 ≤ s.last.getD v (-1) ∧ s.last.getD v (-1) < ds.length ∧ upd v ≤ upd (ds.getD (s.last.getD v (-1)).toNat default).frm.toNat + 1)
 top : ∀ v, v < n → upd v ≤ k + 1
 ahead : ∀ e, j ≤ e → e < ds.length → upd (ds.getD e default).frm.toNat < k → Sat s (ds.getD e default)
 done_ : ∀ e, e < j → e < ds.length → upd (ds.getD e default).frm.toNat < k + 1 → Sat s (ds.getD e default)
 ch : 0 ≤ s.ch → upd s.ch.toNat = k + 1

section
variable {n : Nat} {ds : List Diff} {k j : Nat} {s : Wk} {upd : Nat → Nat}
theorem Pass.step (hd : ∀ d ∈ ds, 0 ≤ d.frm ∧ d.frm < n ∧ 0 ≤ d.to ∧ d.to < n) (hl : s.long.length = n) (hh : s.has.length = n) (ht : s.last.length = n) (hj : j < ds.length) (h : Pass n ds k j s upd) :
  ∃ upd', Pass n ds k (j + 1) (wkStep s j (ds.getD j default)) upd' := by
 obtain ⟨d, hdj⟩ : ∃ d, ds.getD j default = d := ⟨_, rfl⟩
 have hdm : d ∈ ds := by rw [← hdj, List.getD_eq_getElem?_getD, List.getElem?_eq_getElem hj]; exact List.getElem_mem _
 obtain ⟨hf0, hf1, ht0, ht1⟩ := hd d hdm
 rw [hdj]
 unfold wkStep
 cases hb : wkB s d with
 | false =>
  rw [if_neg (by simp)]
  refine ⟨upd, h.last_, h.top, fun e he hel hu => h.ahead e (by omega) hel hu, fun e he hel hu => ?_, h.ch⟩
  by_cases ej : e = j
  ·subst ej; rw [hdj]; exact sat_of_not hb
  ·exact h.done_ e (by omega) hel hu
 | true =>
  rw [if_pos rfl]
  have hns := not_sat hb
  have hu : k ≤ upd d.frm.toNat := by
   rcases Nat.lt_or_ge (upd d.frm.toNat) k with hlt | hge
   ·exact absurd (by rw [← hdj]; exact h.ahead j (Nat.le_refl _) hj (by rw [hdj]; exact hlt)) hns
   ·exact hge
  have hto : d.to.toNat < n := by omega
  have hfm : d.frm.toNat < n := by omega
  have hfh : s.has.getD d.frm.toNat false = true := by
   unfold wkB at hb; simp only [Bool.and_eq_true] at hb; exact hb.1
  -- a difference that is satisfied stays so, unless it begins where the change is
  have keep : ∀ x ∈ ds, x.frm.toNat ≠ d.to.toNat → Sat s x → Sat ⟨s.long.set d.to.toNat (s.long.getD d.frm.toNat 0 + d.most), s.has.set d.to.toNat true, s.last.set d.to.toNat j, d.to⟩ x := by
   intro x hx hne hs hxf
   simp only at hxf ⊢
   rw [getD_set_other (Ne.symm hne)] at hxf
   obtain ⟨q1, q2⟩ := hs hxf
   by_cases e : d.to.toNat = x.to.toNat
   ·rw [← e, getD_set_same (by omega), getD_set_same (by omega), getD_set_other (Ne.symm hne)]
    refine ⟨rfl, ?_⟩
    rw [← e] at q1 q2
    have hlt : s.long.getD d.frm.toNat 0 + d.most ≤ s.long.getD d.to.toNat 0 := by
     unfold wkB at hb
     simp only [Bool.and_eq_true, Bool.or_eq_true, Bool.not_eq_true', decide_eq_true_eq] at hb
     rcases hb.2 with hb | hb
     ·rw [q1] at hb; cases hb
     ·omega
    omega
   ·rw [getD_set_other e, getD_set_other e, getD_set_other (Ne.symm hne)]
    exact ⟨q1, q2⟩
  have mem : ∀ e, e < ds.length → ds.getD e default ∈ ds := fun e he => by rw [List.getD_eq_getElem?_getD, List.getElem?_eq_getElem he]; exact List.getElem_mem _
  refine ⟨fun v => if v = d.to.toNat then k + 1 else upd v, fun v hv => ?_, fun v hv => ?_, fun e he hel hu' => ?_, fun e he hel hu' => ?_, fun _ => ?_⟩
  ·by_cases e : v = d.to.toNat
   ·subst e
    right
    simp only
    rw [getD_set_same (by omega)]
    have e1 : ((j : Int)).toNat = j := by omega
    rw [e1, hdj]
    refine ⟨by omega, by omega, ?_⟩
    simp only [if_true]
    split <;> omega
   ·simp only [e, if_false]
    rw [getD_set_other (Ne.symm e)]
    rcases h.last_ v hv with h0 | ⟨h1, h2, h3⟩
    ·exact .inl h0
    ·refine .inr ⟨h1, h2, ?_⟩
     split
     ·have := h.top v hv; omega
     ·exact h3
  ·split
   ·omega
   ·exact h.top v hv
  ·split at hu'
   ·omega
   ·rename_i hne
    exact keep _ (mem e hel) hne (h.ahead e (by omega) hel hu')
  ·split at hu'
   ·omega
   ·rename_i hne
    by_cases ej : e = j
    ·subst ej
     rw [hdj] at hne ⊢
     intro _
     simp only
     rw [getD_set_same (by omega), getD_set_same (by omega), getD_set_other (Ne.symm hne)]
     exact ⟨rfl, Int.le_refl _⟩
    ·exact keep _ (mem e hel) hne (h.done_ e (by omega) hel hu')
  ·simp
theorem Pass.to (hd : ∀ d ∈ ds, 0 ≤ d.frm ∧ d.frm < n ∧ 0 ≤ d.to ∧ d.to < n) (hl : s.long.length = n) (hh : s.has.length = n) (ht : s.last.length = n) (h : Pass n ds k 0 { s with ch := -1 } upd) :
  ∀ j, j ≤ ds.length → ∃ upd', Pass n ds k j (wkTo ds s j) upd'
 | 0, _ => ⟨upd, h⟩
 | j + 1, hj => by
  obtain ⟨u, hu⟩ := Pass.to hd hl hh ht h j (by omega)
  have hlen := wkTo_len ds s j
  exact hu.step hd (hlen.1.trans hl) (hlen.2.1.trans hh) (hlen.2.2.trans ht) (by omega)
theorem Pass.next {t : Wk} (h : Pass n ds k ds.length t upd) : Pass n ds (k + 1) 0 { t with ch := -1 } upd :=
 ⟨h.last_, fun v hv => by have := h.top v hv; omega, fun e _ hel hu => h.done_ e hel hel hu, fun e he => absurd he (by omega), fun hc => by simp at hc⟩
theorem Pass.loop (h : Pass n ds k j s upd) (hd : ∀ d ∈ ds, 0 ≤ d.frm ∧ d.frm < n) : ∀ (m at_ : Nat), at_ < n → m ≤ upd at_ → 0 ≤ loopF s.last ds m at_
 | 0, at_, _, _ => by simp [loopF]
 | m + 1, at_, ha, hm => by
  rcases h.last_ at_ ha with h0 | ⟨h1, h2, h3⟩
  ·omega
  ·unfold loopF
   rw [if_neg (by omega)]
   have hmem : ds.getD (s.last.getD at_ (-1)).toNat default ∈ ds := by rw [List.getD_eq_getElem?_getD, List.getElem?_eq_getElem (by omega)]; exact List.getElem_mem _
   have := hd _ hmem
   exact Pass.loop h hd m _ (by omega) (by omega)
end

def wkIter (ds : List Diff) (s : Wk) : Nat → Wk
 | 0 => s
 | k + 1 => wkPass ds (wkIter ds s k)
theorem wkIter_len (ds : List Diff) (s : Wk) : ∀ k, (wkIter ds s k).long.length = s.long.length ∧ (wkIter ds s k).has.length = s.has.length ∧ (wkIter ds s k).last.length = s.last.length
 | 0 => ⟨rfl, rfl, rfl⟩
 | k + 1 => by
  have h := wkIter_len ds s k
  have h1 := wkTo_len ds (wkIter ds s k) ds.length
  exact ⟨h1.1.trans h.1, h1.2.1.trans h.2.1, h1.2.2.trans h.2.2⟩
theorem wkInit_len (n : Nat) (frm : List Int) : (wkInit n frm).long.length = n ∧ (wkInit n frm).has.length = n ∧ (wkInit n frm).last.length = n := by
 refine ⟨by simp [wkInit], ?_, by simp [wkInit]⟩
 have : ∀ (l : List Int) (h : List Bool), (l.foldl (fun h i => h.set i.toNat true) h).length = h.length := by
  intro l
  induction l with
  | nil => intro h; rfl
  | cons x xs ih => intro h; simp [ih]
 simp [wkInit, this]
theorem iter_pass {n : Nat} {ds : List Diff} (hd : ∀ d ∈ ds, 0 ≤ d.frm ∧ d.frm < n ∧ 0 ≤ d.to ∧ d.to < n) (frm : List Int) : ∀ k, ∃ upd, Pass n ds k 0 { wkIter ds (wkInit n frm) k with ch := -1 } upd
 | 0 => ⟨fun _ => 0, fun v _ => .inl rfl, fun v _ => by omega, fun e _ _ h => absurd h (by omega), fun e h => absurd h (by omega), fun h => by simp at h⟩
 | k + 1 => by
  obtain ⟨u, hu⟩ := iter_pass hd frm k
  have h1 := wkIter_len ds (wkInit n frm) k
  have h2 := wkInit_len n frm
  obtain ⟨u', hu'⟩ := Pass.to hd (h1.1.trans h2.1) (h1.2.1.trans h2.2.1) (h1.2.2.trans h2.2.2) hu ds.length (Nat.le_refl _)
  exact ⟨u', hu'.next⟩
theorem grow_last {n : Nat} {ds : List Diff} (hd : ∀ d ∈ ds, 0 ≤ d.frm ∧ d.frm < n ∧ 0 ≤ d.to ∧ d.to < n) (frm : List Int) {k : Nat} (hk : n ≤ k + 1) {t : Wk} (ht : t = wkIter ds (wkInit n frm) (k + 1)) (hc : 0 ≤ t.ch) : 0 ≤ loopF t.last ds n t.ch.toNat := by
 obtain ⟨u, hu⟩ := iter_pass hd frm k
 have h1 := wkIter_len ds (wkInit n frm) k
 have h2 := wkInit_len n frm
 obtain ⟨u', hu'⟩ := Pass.to hd (h1.1.trans h2.1) (h1.2.1.trans h2.2.1) (h1.2.2.trans h2.2.2) hu ds.length (Nat.le_refl _)
 have hch := wkTo_ch (s := wkIter ds (wkInit n frm) k) (fun d hd' => ⟨(hd d hd').2.2.1, (hd d hd').2.2.2⟩) ds.length (Nat.le_refl _)
 have ht' : t = wkTo ds (wkIter ds (wkInit n frm) k) ds.length := ht
 rw [← ht'] at hu' hch
 have hlt : t.ch.toNat < n := by omega
 exact hu'.loop (fun d hd' => ⟨(hd d hd').1, (hd d hd').2.1⟩) n _ hlt (by rw [hu'.ch hc]; exact hk)
end Go.Proofs.YtgbbljfmngmjeaaGreat
