/- slices.IndexFunc at the program's own element types: the first place at which a closure says yes. Conditions stand in the theorems. -/
import Derived.Test.YtifeniiefhpadaaGreatDoorPlugPack
import Derived.Test.YtifeniiefhpadaaGreatDoorBasePack
import Derived.Shelf.Abstract
import Derived.Test.YtifeniiefhpadaaGreatDoorGrow
import Derived.BigRegion
import Derived.Test.YtifeniiefhpadaaGreatDoorSpringDefsPack
set_option linter.all false
set_option maxHeartbeats 1000000
set_option maxRecDepth 100000
namespace Go.Proofs.YtifeniiefhpadaaGreatDoor
open Go.RowKit
theorem indexFunc_Cell (v : Value) (xs : List Cell) (g : Nat) (cap : Array Value) (p : Cell → Bool) (w : World) (hv : Sl w 4 Cell.cells v xs) (eg : ∀ args w, (callFunc g args).run Tryz.prog w = .ok (.enter g args) w)
  (hp : Gives Tryz.prog g cap (fun x => .agg #[I x.no, I x.height, I x.aspect, I x.area]) p w xs) : Calls Tryz.prog 110 #[v, .func (.func g) #[] cap] w fun e w' => e = .returned (I (idxBy p xs)) ∧ Below w.heap.size w w' := by
 obtain ⟨A, c, rfl, _, _, hlen, hA⟩ := hv.open_
 replace hv := hide hv
 replace hp := hide hp
 replace hA := hide hA
 go_enter Tryz.func110, Tryz.ntmps110
 go_wp2_with fail
 go_loopw [5, 8] (fun v i wr => ∃ k : Nat, k ≤ xs.length ∧ i = I k ∧ Hid (NoneTo p xs k) ∧ Below w.heap.size w wr) (fun _ i _ => xs.length - (intOf i).toNat)
 case atStart => exact ⟨0, Nat.zero_le _, rfl, hide (NoneTo.zero _ _), Below.refl _ _⟩
 case round =>
  obtain ⟨k, hk, rfl, hn, hb⟩ := hrel
  by_cases hlt : k < xs.length
  ·obtain ⟨b, off, rfl, hbw⟩ := hA.out k hlt
   obtain ⟨x, hx⟩ := getElem?_of_lt hlt
   obtain ⟨_, h0, h1, h2, h3⟩ := ((unhide hv).mono hb).cell_at hx
   have hcall := (unhide hp) wr x (List.mem_of_getElem? hx) hb
   replace hx := hide hx
   clear hA hv hp
   cases hq : p x with
   | true =>
    rw [hq] at hcall
    have H := hide hcall
    replace hq := hide hq
    clear hcall
    go_wp2_with (go_at_fn g; refine (unhide H).mono ?_; rintro e w' ⟨rfl, hb1⟩)
    go_ret
    exact ⟨ret_int (((unhide hn).found hx.out hq.out).symm), hb.trans (hb1.mono hb.size)⟩
   | false =>
    rw [hq] at hcall
    have H := hide hcall
    replace hq := hide hq
    clear hcall
    go_wp2_with (go_at_fn g; refine (unhide H).mono ?_; rintro e w' ⟨rfl, hb1⟩)
    go_roundw
    case rel => exact ⟨k + 1, by omega, by go_num, hide ((unhide hn).succ hx.out hq.out), hb.trans (hb1.mono hb.size)⟩
    case measure => simp [intOf]; omega
  ·have he : k = xs.length := by omega
   subst he
   clear hA
   go_wp2_with fail
   go_ret
   exact ⟨ret_int ((unhide hn).missed.symm), hb⟩
theorem indexFunc_Weather (v : Value) (xs : List Weather) (g : Nat) (cap : Array Value) (p : Weather → Bool) (w : World) (hv : Sl w 3 Weather.cells v xs) (eg : ∀ args w, (callFunc g args).run Tryz.prog w = .ok (.enter g args) w)
  (hp : Gives Tryz.prog g cap (fun x => .agg #[I x.day, I x.temp, I x.rain]) p w xs) : Calls Tryz.prog 117 #[v, .func (.func g) #[] cap] w fun e w' => e = .returned (I (idxBy p xs)) ∧ Below w.heap.size w w' := by
 obtain ⟨A, c, rfl, _, _, hlen, hA⟩ := hv.open_
 replace hv := hide hv
 replace hp := hide hp
 replace hA := hide hA
 go_enter Tryz.func117, Tryz.ntmps117
 go_wp2_with fail
 go_loopw [5, 8] (fun v i wr => ∃ k : Nat, k ≤ xs.length ∧ i = I k ∧ Hid (NoneTo p xs k) ∧ Below w.heap.size w wr) (fun _ i _ => xs.length - (intOf i).toNat)
 case atStart => exact ⟨0, Nat.zero_le _, rfl, hide (NoneTo.zero _ _), Below.refl _ _⟩
 case round =>
  obtain ⟨k, hk, rfl, hn, hb⟩ := hrel
  by_cases hlt : k < xs.length
  ·obtain ⟨b, off, rfl, hbw⟩ := hA.out k hlt
   obtain ⟨x, hx⟩ := getElem?_of_lt hlt
   obtain ⟨_, h0, h1, h2⟩ := ((unhide hv).mono hb).weather_at hx
   have hcall := (unhide hp) wr x (List.mem_of_getElem? hx) hb
   replace hx := hide hx
   clear hA hv hp
   cases hq : p x with
   | true =>
    rw [hq] at hcall
    have H := hide hcall
    replace hq := hide hq
    clear hcall
    go_wp2_with (go_at_fn g; refine (unhide H).mono ?_; rintro e w' ⟨rfl, hb1⟩)
    go_ret
    exact ⟨ret_int (((unhide hn).found hx.out hq.out).symm), hb.trans (hb1.mono hb.size)⟩
   | false =>
    rw [hq] at hcall
    have H := hide hcall
    replace hq := hide hq
    clear hcall
    go_wp2_with (go_at_fn g; refine (unhide H).mono ?_; rintro e w' ⟨rfl, hb1⟩)
    go_roundw
    case rel => exact ⟨k + 1, by omega, by go_num, hide ((unhide hn).succ hx.out hq.out), hb.trans (hb1.mono hb.size)⟩
    case measure => simp [intOf]; omega
  ·have he : k = xs.length := by omega
   subst he
   clear hA
   go_wp2_with fail
   go_ret
   exact ⟨ret_int ((unhide hn).missed.symm), hb⟩

theorem idxBy_nonneg {α : Type} (p : α → Bool) (xs : List α) : decide (0 ≤ idxBy p xs) = xs.any p := by
 induction xs with
 | nil => rfl
 | cons x xs ih =>
  rw [List.any_cons, ← ih]
  cases hp : p x with
  | true => simp [idxBy, hp]
  | false =>
   simp only [idxBy, hp, Bool.false_or]
   simp only [Bool.false_eq_true, if_false]
   split
   ·rename_i h; rw [Bool.eq_iff_iff]; simp; omega
   ·rename_i h; rw [Bool.eq_iff_iff]; simp; omega
theorem index_int (v : Value) (xs : List Int) (y : Int) (w : World) (hv : Sl w 1 intC v xs) :
  Calls Tryz.prog 43 #[v, I y] w fun e w' => e = .returned (I (idxBy (fun x => x == y) xs)) ∧ w = w' := by
 obtain ⟨A, c, rfl, _, _, hlen, hA⟩ := hv.open_
 replace hv := hide hv
 replace hA := hide hA
 go_enter Tryz.func43, Tryz.ntmps43
 go_wp2_with fail
 go_loop [5, 8] (fun _ i => ∃ k : Nat, k ≤ xs.length ∧ i = I k ∧ Hid (NoneTo (fun x => x == y) xs k)) (fun _ i => xs.length - (intOf i).toNat)
 case atStart => exact ⟨0, Nat.zero_le _, rfl, hide (NoneTo.zero _ _)⟩
 case round =>
  obtain ⟨k, hk, rfl, hn⟩ := hrel
  by_cases hlt : k < xs.length
  ·obtain ⟨b, off, rfl, hbw⟩ := hA.out k hlt
   obtain ⟨x, hx⟩ := getElem?_of_lt hlt
   obtain ⟨_, h0⟩ := (unhide hv).int_at hx
   replace hx := hide hx
   clear hA hv
   cases hq : (x == y) with
   | true =>
    have hq2 : (y == x) = true := by rw [Bool.beq_comm]; exact hq
    replace hq := hide hq
    go_wp2_with fail
    go_ret
    exact ⟨ret_int (((unhide hn).found hx.out hq.out).symm), rfl⟩
   | false =>
    have hq2 : (y == x) = false := by rw [Bool.beq_comm]; exact hq
    replace hq := hide hq
    go_wp2_with fail
    go_round
    case rel => exact ⟨k + 1, by omega, by go_num, hide ((unhide hn).succ hx.out hq.out)⟩
    case measure => simp [intOf]; omega
  ·have he : k = xs.length := by omega
   subst he
   clear hA
   go_wp2_with fail
   go_ret
   exact ⟨ret_int ((unhide hn).missed.symm), rfl⟩

theorem contains_int (v : Value) (xs : List Int) (y : Int) (w : World) (hv : Sl w 1 intC v xs) :
  Calls Tryz.prog 16 #[v, I y] w fun e w' => e = .returned (.bool (xs.any (fun x => x == y))) ∧ w = w' := by
 replace hv := hide hv
 have hf := hide (idxBy_nonneg (fun x => x == y) xs)
 go_enter Tryz.func16, Tryz.ntmps16
 go_wp2_with (go_at_call 43; refine (index_int _ xs y _ hv.out).mono ?_; generalize idxBy (fun x => x == y) xs = r at hf ⊢; rintro e w' ⟨rfl, rfl⟩)
 go_ret
 exact ⟨ret_bool (by rw [← hf.out]), rfl⟩
theorem index_bool (v : Value) (xs : List Bool) (y : Bool) (w : World) (hv : Sl w 1 boolC v xs) :
  Calls Tryz.prog 106 #[v, .bool y] w fun e w' => e = .returned (I (idxBy (fun x => x == y) xs)) ∧ w = w' := by
 obtain ⟨A, c, rfl, _, _, hlen, hA⟩ := hv.open_
 replace hv := hide hv
 replace hA := hide hA
 go_enter Tryz.func106, Tryz.ntmps106
 go_wp2_with fail
 go_loop [5, 8] (fun _ i => ∃ k : Nat, k ≤ xs.length ∧ i = I k ∧ Hid (NoneTo (fun x => x == y) xs k)) (fun _ i => xs.length - (intOf i).toNat)
 case atStart => exact ⟨0, Nat.zero_le _, rfl, hide (NoneTo.zero _ _)⟩
 case round =>
  obtain ⟨k, hk, rfl, hn⟩ := hrel
  by_cases hlt : k < xs.length
  ·obtain ⟨b, off, rfl, hbw⟩ := hA.out k hlt
   obtain ⟨x, hx⟩ := getElem?_of_lt hlt
   obtain ⟨_, h0⟩ := (unhide hv).bool_at hx
   replace hx := hide hx
   clear hA hv
   cases hq : (x == y) with
   | true =>
    have hq2 : (y == x) = true := by rw [Bool.beq_comm]; exact hq
    replace hq := hide hq
    go_wp2_with fail
    go_ret
    exact ⟨ret_int (((unhide hn).found hx.out hq.out).symm), rfl⟩
   | false =>
    have hq2 : (y == x) = false := by rw [Bool.beq_comm]; exact hq
    replace hq := hide hq
    go_wp2_with fail
    go_round
    case rel => exact ⟨k + 1, by omega, by go_num, hide ((unhide hn).succ hx.out hq.out)⟩
    case measure => simp [intOf]; omega
  ·have he : k = xs.length := by omega
   subst he
   clear hA
   go_wp2_with fail
   go_ret
   exact ⟨ret_int ((unhide hn).missed.symm), rfl⟩

theorem contains_bool (v : Value) (xs : List Bool) (y : Bool) (w : World) (hv : Sl w 1 boolC v xs) :
  Calls Tryz.prog 82 #[v, .bool y] w fun e w' => e = .returned (.bool (xs.any (fun x => x == y))) ∧ w = w' := by
 replace hv := hide hv
 have hf := hide (idxBy_nonneg (fun x => x == y) xs)
 go_enter Tryz.func82, Tryz.ntmps82
 go_wp2_with (go_at_call 106; refine (index_bool _ xs y _ hv.out).mono ?_; generalize idxBy (fun x => x == y) xs = r at hf ⊢; rintro e w' ⟨rfl, rfl⟩)
 go_ret
 exact ⟨ret_bool (by rw [← hf.out]), rfl⟩
theorem containsFunc_Cell (v : Value) (xs : List Cell) (g : Nat) (cap : Array Value) (p : Cell → Bool) (w : World) (hv : Sl w 4 Cell.cells v xs) (eg : ∀ args w, (callFunc g args).run Tryz.prog w = .ok (.enter g args) w)
  (hp : Gives Tryz.prog g cap (fun x => .agg #[I x.no, I x.height, I x.aspect, I x.area]) p w xs) : Calls Tryz.prog 91 #[v, .func (.func g) #[] cap] w fun e w' => e = .returned (.bool (xs.any p)) ∧ Below w.heap.size w w' := by
 have hc := hide (indexFunc_Cell v xs g cap p w hv eg hp)
 have hf := hide (idxBy_nonneg p xs)
 clear hv hp eg
 go_enter Tryz.func91, Tryz.ntmps91
 go_wp2_with (go_at_call 110; refine (unhide hc).mono ?_; generalize idxBy p xs = r at hf ⊢; rintro e w' ⟨rfl, hb⟩)
 go_ret
 exact ⟨ret_bool (by rw [← hf.out]), hb⟩
theorem containsFunc_Weather (v : Value) (xs : List Weather) (g : Nat) (cap : Array Value) (p : Weather → Bool) (w : World) (hv : Sl w 3 Weather.cells v xs) (eg : ∀ args w, (callFunc g args).run Tryz.prog w = .ok (.enter g args) w)
  (hp : Gives Tryz.prog g cap (fun x => .agg #[I x.day, I x.temp, I x.rain]) p w xs) : Calls Tryz.prog 104 #[v, .func (.func g) #[] cap] w fun e w' => e = .returned (.bool (xs.any p)) ∧ Below w.heap.size w w' := by
 have hc := hide (indexFunc_Weather v xs g cap p w hv eg hp)
 have hf := hide (idxBy_nonneg p xs)
 clear hv hp eg
 go_enter Tryz.func104, Tryz.ntmps104
 go_wp2_with (go_at_call 117; refine (unhide hc).mono ?_; generalize idxBy p xs = r at hf ⊢; rintro e w' ⟨rfl, hb⟩)
 go_ret
 exact ⟨ret_bool (by rw [← hf.out]), hb⟩
theorem clone_int (v : Value) (xs : List Int) (w : World) (hv : Sl w 1 intC v xs) (hb : xs.length ≤ 1099511627776) :
  Calls Tryz.prog 137 #[v] w fun e w' => ∃ v', e = .returned v' ∧ Own w' w.heap.size 3 1 intC v' xs ∧ (0 < xs.length → v' ≠ .slice none 0 0) ∧ Below w.heap.size w w' := by
 obtain ⟨A, c, rfl, _, _, hlen, hA⟩ := hv.open_
 rcases A with _ | ad
 ·have he := Lib.run_eql_slice_nil (P := Tryz.prog) w 42 3 none 0 c 0 0 Tryz.underlying42
  have h0 : xs = [] := by
   rcases xs with _ | ⟨x, xs⟩
   ·rfl
   ·obtain ⟨b, off, h, _⟩ := hA 0 (by simp)
    cases h
  subst h0
  clear hv hA hlen
  go_enter Tryz.func137, Tryz.ntmps137
  go_wp2_with fail
  go_ret
  exact ⟨_, rfl, Own.nil_ _ _ _ _ _, fun h => absurd h (by simp), Below.refl _ _⟩
 ·have he := Lib.run_eql_slice_nil (P := Tryz.prog) w 42 3 (some ad) xs.length c 0 0 Tryz.underlying42
  have hv1 := hide (hv.mono (below1 w (.cells #[] 3)))
  clear hv hA
  go_enter Tryz.func137, Tryz.ntmps137
  go_wp2_with (at_builtin; refine wp_append_all el_int intC_len intC_one rfl (.tmp 5) (.tmp 6) rfl w.heap.size rfl (Own.empty w _ _ _ intC (Nat.le_refl _)) rfl hv1.out ?c1 ?c2 ?c3 ?c4 ?_)
  case c1 => simp; omega
  case c2 => simp
  case c3 => omega
  case c4 => simp
  intro v' w1 hown hbel hnil
  go_wp2_with fail
  go_ret
  refine ⟨_, rfl, by simpa using hown, fun h hn => ?_, (below1 _ _).trans hbel⟩
  exact hnil hn

def revN (xs : List Int) : Nat → List Int
 | 0 => xs
 | k + 1 => ((revN xs k).set k ((revN xs k).getD (xs.length - 1 - k) 0)).set (xs.length - 1 - k) ((revN xs k).getD k 0)
theorem Own.set_int {w : World} {base e g n cap : Nat} {xs : List Int} (h : Own w base e 1 intC (.slice (some ⟨g, 0, none⟩) n cap) xs) (hn : xs.length = n) (i : Nat) (y : Int) :
  Own (w.setCell ⟨g, i, none⟩ (I y)) base e 1 intC (.slice (some ⟨g, 0, none⟩) n cap) (xs.set i y) := by
 subst hn
 have := (World.ownsRow.stored h i (I y)).1
 have hf : ∀ xs : List Int, xs.flatMap intC = xs.map I := fun xs => by induction xs with
  | nil => rfl
  | cons x xs ih => simp [intC, ih]
 unfold Own
 rw [hf] at this ⊢
 rw [List.map_set, List.length_set]
 exact this
theorem Own.int_at {w : World} {base e g n cap : Nat} {xs : List Int} (h : Own w base e 1 intC (.slice (some ⟨g, 0, none⟩) n cap) xs) (hn : xs.length = n) {i : Nat} {x : Int} (hx : xs[i]? = some x) :
  w.cell? ⟨g, i, none⟩ = some (I x) ∧ w.frozen? ⟨g, i, none⟩ = false ∧ base ≤ g ∧ g < w.heap.size := by
 subst hn
 have hi : i < xs.length := (List.getElem?_eq_some_iff.1 hx).1
 have hf : xs.flatMap intC = xs.map I := by
  clear h hx hi
  induction xs with
  | nil => rfl
  | cons x xs ih => simp [intC, ih]
 refine ⟨?_, World.ownsRow.frozenAt h i, ownBlock_lt h g rfl⟩
 rw [World.ownsRow.cellAt h i (by omega), hf]
 simp [hx]


theorem spring_in (n lo hi : Int) (w : World) : Calls Tryz.prog 49 #[I n, I lo, I hi] w fun e w' => e = .returned (.bool (inB n lo hi)) ∧ w = w' := by
 by_cases h : lo ≤ n
 ·go_enter Tryz.func49, Tryz.ntmps49
  go_wp2
  go_ret
  exact ⟨by simp [inB, h], rfl⟩
 ·go_enter Tryz.func49, Tryz.ntmps49
  go_wp2
  go_ret
  exact ⟨ret_bool (by simp only [inB]; symm; simp; omega), rfl⟩
theorem spring_day (n : Int) (w : World) : Calls Tryz.prog 35 #[I n] w fun e w' => e = .returned (.bool (inB n 0 1048576)) ∧ w = w' := by
 go_enter Tryz.func35, Tryz.ntmps35
 go_wp2_with (go_at_call 49; refine (spring_in _ _ _ _).mono ?_; rintro e w' ⟨rfl, rfl⟩)
 go_ret
 exact ⟨rfl, rfl⟩
theorem spring_temp (n : Int) (w : World) : Calls Tryz.prog 45 #[I n] w fun e w' => e = .returned (.bool (tempB n)) ∧ w = w' := by
 go_enter Tryz.func45, Tryz.ntmps45
 go_wp2_with (go_at_call 49; refine (spring_in _ _ _ _).mono ?_; rintro e w' ⟨rfl, rfl⟩)
 go_ret
 exact ⟨rfl, rfl⟩
theorem spring_height (n : Int) (w : World) : Calls Tryz.prog 37 #[I n] w fun e w' => e = .returned (.bool (heightB n)) ∧ w = w' := by
 go_enter Tryz.func37, Tryz.ntmps37
 go_wp2_with (go_at_call 49; refine (spring_in _ _ _ _).mono ?_; rintro e w' ⟨rfl, rfl⟩)
 go_ret
 exact ⟨rfl, rfl⟩
theorem spring_size (n : Int) (w : World) (h0 : -1000000000 ≤ n) (h1 : n ≤ 1000000000) : Calls Tryz.prog 76 #[I n] w fun e w' => e = .returned (I (sizeF n)) ∧ w = w' := by
 have hw : IntKind.i64.wrap (-n) = -n := IntWalk.i64_in _ (by omega)
 rcases ilt n (-n) with h | h
 ·go_enter Tryz.func76, Tryz.ntmps76
  go_wp2
  go_ret
  exact ⟨ret_int (by simp [sizeF] <;> omega), rfl⟩
 ·go_enter Tryz.func76, Tryz.ntmps76
  go_wp2
  go_ret
  exact ⟨ret_int (by simp [sizeF] <;> omega), rfl⟩

structure ClimOk (c : Climate) : Prop where
 base : 0 ≤ c.base ∧ c.base ≤ 9000
 lapse : 0 ≤ c.lapse ∧ c.lapse ≤ 20
 swing : 0 ≤ c.swing ∧ c.swing ≤ 600
 wettest : 0 ≤ c.wettest ∧ c.wettest ≤ 1000
 cold : -600 ≤ c.coldest
 cw : c.coldest ≤ c.warmest
 warm : c.warmest ≤ 600
 flo : 0 ≤ c.flo
 fl : c.flo ≤ c.fhi
 fhi : c.fhi ≤ 2000
 spread : c.fhi ≤ c.flo + 50
theorem ClimOk.of {c : Climate} (h : climateOk c = true) : ClimOk c := by
 simp only [climateOk, Bool.and_eq_true, inB_true] at h
 obtain ⟨⟨⟨⟨⟨⟨⟨h1, h2⟩, h3⟩, h4⟩, h5⟩, h6⟩, h7⟩, h8⟩ := h
 constructor <;> omega
structure WeaOk (c : Climate) (x : Weather) : Prop where
 day : 0 ≤ x.day ∧ x.day ≤ 1048576
 temp : c.coldest ≤ x.temp ∧ x.temp ≤ c.warmest
 rain : 0 ≤ x.rain ∧ x.rain ≤ c.wettest
theorem WeaOk.of {c : Climate} {x : Weather} (h : weatherOk c x = true) : WeaOk c x := by
 simp only [weatherOk, Bool.and_eq_true, inB_true] at h
 exact ⟨h.1.1, h.1.2, h.2⟩
theorem spring_CheckClimate (c : Climate) (w : World) : Calls Tryz.prog 32 #[c.v] w fun e w' => e = .returned (I (climateE c)) ∧ Below w.heap.size w w' := by
 unfold Climate.v
 cases hf : inB c.flo 0 2000 with
 | true =>
  have h2 := inB_true.1 hf
  rcases ilt (c.flo + 50) 2000 with hm | hm
  ·have hmin := hide (show min 2000 (c.flo + 50) = c.flo + 50 by omega)
   go_enter Tryz.func32, Tryz.ntmps32
   go_wp2_with (first | (go_at_call 49; refine (spring_in _ _ _ _).mono ?_; rintro e w' ⟨rfl, rfl⟩))
   all_goals (go_ret; exact ⟨ret_int (by simp_all [climateE, climateOk, hmin.out]), below1 _ _⟩)
  ·have hmin := hide (show min 2000 (c.flo + 50) = 2000 by omega)
   go_enter Tryz.func32, Tryz.ntmps32
   go_wp2_with (first | (go_at_call 49; refine (spring_in _ _ _ _).mono ?_; rintro e w' ⟨rfl, rfl⟩))
   all_goals (go_ret; exact ⟨ret_int (by simp_all [climateE, climateOk, hmin.out]), below1 _ _⟩)
 | false =>
  go_enter Tryz.func32, Tryz.ntmps32
  go_wp2_with (first | (go_at_call 49; refine (spring_in _ _ _ _).mono ?_; rintro e w' ⟨rfl, rfl⟩))
  all_goals (go_ret; exact ⟨ret_int (by simp_all [climateE, climateOk]), below1 _ _⟩)

theorem spring_weather (c : Climate) (x : Weather) (w : World) : Calls Tryz.prog 74 #[c.v, x.v] w fun e w' => e = .returned (.bool (weatherOk c x)) ∧ Below w.heap.size w w' := by
 unfold Climate.v Weather.v
 go_enter Tryz.func74, Tryz.ntmps74
 go_wp2_with (first | (go_at_call 49; refine (spring_in _ _ _ _).mono ?_; rintro e w' ⟨rfl, rfl⟩) | (go_at_call 35; refine (spring_day _ _).mono ?_; rintro e w' ⟨rfl, rfl⟩))
 all_goals (go_ret; exact ⟨ret_bool (by simp_all [weatherOk]), below2 _ _ _⟩)

theorem sizeF_bd {n B : Int} (h0 : -B ≤ n) (h1 : n ≤ B) : 0 ≤ sizeF n ∧ sizeF n ≤ B := by unfold sizeF; omega
theorem spring_near (c : Climate) (x y : Weather) (w : World) (hc : ClimOk c) (hx : WeaOk c x) (hy : WeaOk c y) : Calls Tryz.prog 75 #[c.v, x.v, y.v] w fun e w' => e = .returned (.bool (nearB c x y)) ∧ Below w.heap.size w w' := by
 obtain ⟨q1, q2⟩ := hc.swing
 have q3 := hc.cold
 have q4 := hc.warm
 obtain ⟨x1, x2⟩ := hx.day
 obtain ⟨x3, x4⟩ := hx.temp
 obtain ⟨y1, y2⟩ := hy.day
 obtain ⟨y3, y4⟩ := hy.temp
 have hs := sizeF_bd (n := x.day - y.day) (B := 1048576) (by omega) (by omega)
 have m0 : 0 ≤ c.swing * sizeF (x.day - y.day) := Int.mul_nonneg q1 hs.1
 have m1 : c.swing * sizeF (x.day - y.day) ≤ 600 * 1048576 := Int.mul_le_mul q2 hs.2 hs.1 (by omega)
 have k1 : IntKind.i64.wrap (x.temp - y.temp) = x.temp - y.temp := IntWalk.i64_in _ (by omega)
 have k2 : IntKind.i64.wrap (x.day - y.day) = x.day - y.day := IntWalk.i64_in _ (by omega)
 have k3 : IntKind.i64.wrap (c.swing * sizeF (x.day - y.day)) = c.swing * sizeF (x.day - y.day) := IntWalk.i64_in _ (by omega)
 clear m0 m1 hs
 unfold Climate.v Weather.v
 go_enter Tryz.func75, Tryz.ntmps75
 go_wp2_with fail
 go_quiet ((go_at_call 76; first | exact Calls.quiet_of_same ((spring_size (x.temp - y.temp) _ (by omega) (by omega)).mono fun _ _ h => ⟨h.1, h.2.symm⟩) | exact Calls.quiet_of_same ((spring_size (x.day - y.day) _ (by omega) (by omega)).mono fun _ _ h => ⟨h.1, h.2.symm⟩)))
 go_wp2_with fail
 go_ret
 exact ⟨rfl, below_drewN (below3 _ _ _ _) _⟩


theorem tdiv_neg_of {n d : Int} (h : n < 0) : n.tdiv d = -((-n) / d) := by
 have h1 : n = -(-n) := by omega
 rw [h1, Int.neg_tdiv, Int.tdiv_eq_ediv_of_nonneg (by omega)]; simp
theorem spring_down (n d : Int) (w : World) (hd : d = 100 ∨ d = 1000) (h0 : -1000000000 ≤ n) (h1 : n ≤ 1000000000) : Calls Tryz.prog 83 #[I n, I d] w fun e w' => e = .returned (I (n / d)) ∧ w = w' := by
 rcases ilt n 0 with hn | hn
 ·have ht := tdiv_neg_of (d := d) hn
  obtain ⟨q, hq⟩ : ∃ q, n.tdiv d = q := ⟨_, rfl⟩
  have hqb : -10000000 ≤ q ∧ q ≤ 0 ∧ (n < q * d → n / d = q - 1) ∧ (q * d ≤ n → n / d = q) := by
   rw [← hq, ht]; rcases hd with rfl | rfl <;> omega
  obtain ⟨b1, b2, b3, b4⟩ := hqb
  have b5 : -1000000000 ≤ q * d ∧ q * d ≤ 0 := by rw [← hq, ht]; rcases hd with rfl | rfl <;> omega
  have b6 : IntKind.i64.wrap (q * d) = q * d := IntWalk.i64_in _ (by omega)
  have b7 : IntKind.i64.wrap (q - 1) = q - 1 := IntWalk.i64_in _ (by omega)
  replace b3 := hide b3
  replace b4 := hide b4
  replace ht := hide ht
  rcases ilt n (q * d) with hm | hm
  ·go_enter Tryz.func83, Tryz.ntmps83
   go_wp2_with fail
   go_ret
   exact ⟨ret_int (b3.out hm).symm, rfl⟩
  ·go_enter Tryz.func83, Tryz.ntmps83
   go_wp2_with fail
   go_ret
   exact ⟨ret_int (b4.out hm).symm, rfl⟩
 ·have ht : n.tdiv d = n / d := Int.tdiv_eq_ediv_of_nonneg hn
  obtain ⟨q, hq⟩ : ∃ q, n.tdiv d = q := ⟨_, rfl⟩
  have hm : 0 ≤ q * d ∧ q * d ≤ n := by rw [← hq, ht]; rcases hd with rfl | rfl <;> omega
  have b6 : IntKind.i64.wrap (q * d) = q * d := IntWalk.i64_in _ (by omega)
  have hm2 := hm.2
  have hm3 : 0 ≤ q ∧ q ≤ 1000000000 := by rw [← hq, ht]; rcases hd with rfl | rfl <;> omega
  obtain ⟨b1, b2⟩ := hm3
  have b3 : ¬ n < q * d := by omega
  replace hq2 := hide (ht.symm.trans hq)
  clear ht hm
  go_enter Tryz.func83, Tryz.ntmps83
  go_wp2_with fail
  go_ret
  exact ⟨ret_int hq2.out.symm, rfl⟩

theorem atF_bd {c : Climate} (hc : ClimOk c) {t h : Int} (ht : -600 ≤ t ∧ t ≤ 600) (hh : 0 ≤ h ∧ h ≤ 9000) : (-180000 ≤ c.lapse * (h - c.base) ∧ c.lapse * (h - c.base) ≤ 180000) ∧ -2400 ≤ atF c t h ∧ atF c t h ≤ 2400 := by
 have h1 := hc.lapse
 have h2 := hc.base
 have h3 : -180000 ≤ c.lapse * (h - c.base) ∧ c.lapse * (h - c.base) ≤ 180000 := by
  rcases ilt (h - c.base) 0 with g | g
  ·have := Int.mul_le_mul (a := c.lapse) (c := 20) (b := -(h - c.base)) (d := 9000) h1.2 (by omega) (by omega) (by omega)
   have h5 : 0 ≤ c.lapse * (-(h - c.base)) := Int.mul_nonneg h1.1 (by omega)
   rw [Int.mul_neg] at this h5
   omega
  ·have := Int.mul_le_mul (a := c.lapse) (c := 20) (b := h - c.base) (d := 9000) h1.2 (by omega) (by omega) (by omega)
   have h5 : 0 ≤ c.lapse * (h - c.base) := Int.mul_nonneg h1.1 (by omega)
   omega
 refine ⟨h3, ?_⟩
 unfold atF
 omega
theorem spring_at (c : Climate) (t h : Int) (w : World) (hc : ClimOk c) (ht : -600 ≤ t ∧ t ≤ 600) (hh : 0 ≤ h ∧ h ≤ 9000) : Calls Tryz.prog 46 #[c.v, I t, I h] w fun e w' => e = .returned (I (atF c t h)) ∧ Below w.heap.size w w' := by
 obtain ⟨⟨b1, b2⟩, b3, b4⟩ := atF_bd hc ht hh
 obtain ⟨h1, h2⟩ := ht
 obtain ⟨h3, h4⟩ := hh
 obtain ⟨h5, h6⟩ := hc.base
 have k1 : IntKind.i64.wrap (h - c.base) = h - c.base := IntWalk.i64_in _ (by omega)
 have k2 : IntKind.i64.wrap (c.lapse * (h - c.base)) = c.lapse * (h - c.base) := IntWalk.i64_in _ (by omega)
 have k3 : IntKind.i64.wrap (t - c.lapse * (h - c.base) / 100) = t - c.lapse * (h - c.base) / 100 := IntWalk.i64_in _ (by unfold atF at b3 b4; omega)
 unfold atF at b3 b4
 have H := fun (w : World) => spring_down (c.lapse * (h - c.base)) 100 w (.inl rfl) (by omega) (by omega)
 replace H := hide H
 unfold Climate.v
 go_enter Tryz.func46, Tryz.ntmps46
 go_wp2_with (first | (go_at_call 83; refine (H.out _).mono ?_; rintro e w' ⟨rfl, rfl⟩))
 go_ret
 exact ⟨rfl, below1 _ _⟩

theorem spring_asked (c : Climate) (v : Value) (xs : List Bool) (w : World) (hv : Sl w 1 boolC v xs) : Calls Tryz.prog 44 #[c.v, v] w fun e w' => e = .returned (I (askedE c xs)) ∧ Below w.heap.size w w' := by
 replace hv := hide hv
 have H := hide (spring_CheckClimate c)
 unfold Climate.v at H ⊢
 cases h1 : climateOk c with
 | false =>
  have hE : climateE c = 61 := by simp [climateE, h1]
  have hfin := hide (show askedE c xs = 61 by simp [askedE, h1])
  rw [hE] at H
  go_enter Tryz.func44, Tryz.ntmps44
  go_wp2_with (first | (go_at_call 32; refine (H.out _).mono ?_; rintro e w' ⟨rfl, hb1⟩))
  go_ret
  exact ⟨ret_int hfin.out.symm, bup (below1 _ _) hb1⟩
 | true =>
  have hE : climateE c = 0 := by simp [climateE, h1]
  rw [hE] at H
  have hfin := hide (show askedE c xs = if xs.any (fun x => x == false) then 1 else 0 by simp [askedE, h1])
  cases h2 : xs.any (fun x => x == false) with
  | true =>
   rw [h2] at hfin
   replace h2 := hide h2
   go_enter Tryz.func44, Tryz.ntmps44
   go_wp2_with (first | (go_at_call 32; refine (H.out _).mono ?_; rintro e w1 ⟨rfl, hb1⟩; obtain ⟨hc1, _⟩ := bcell hb1; clear H) | (go_at_call 82; refine (contains_bool _ xs _ _ (hv.out.mono (bup (below1 _ _) hb1))).mono ?_; rw [h2.out]; rintro e w' ⟨rfl, rfl⟩))
   go_ret
   exact ⟨ret_int hfin.out.symm, bup (below1 _ _) hb1⟩
  | false =>
   rw [h2] at hfin
   replace h2 := hide h2
   go_enter Tryz.func44, Tryz.ntmps44
   go_wp2_with (first | (go_at_call 32; refine (H.out _).mono ?_; rintro e w1 ⟨rfl, hb1⟩; obtain ⟨hc1, _⟩ := bcell hb1; clear H) | (go_at_call 82; refine (contains_bool _ xs _ _ (hv.out.mono (bup (below1 _ _) hb1))).mono ?_; rw [h2.out]; rintro e w' ⟨rfl, rfl⟩))
   go_ret
   exact ⟨ret_int hfin.out.symm, bup (below1 _ _) hb1⟩
end Go.Proofs.YtifeniiefhpadaaGreatDoor
