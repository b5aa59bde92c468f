/- slices.IndexFunc at the program's own element types: the first place at which a closure says yes. Conditions stand in the theorems. -/
import Derived.Test.YtgbbljfmngmjeaaGreatPlugPack
import Derived.Test.YtgbbljfmngmjeaaGreatBasePack
import Derived.Shelf.Abstract
import Derived.Test.YtgbbljfmngmjeaaGreatGrow
import Derived.BigRegion
import Derived.Test.YtgbbljfmngmjeaaGreatBasinDefsPack
set_option linter.all false
set_option maxHeartbeats 1000000
set_option maxRecDepth 20000
namespace Go.Proofs.YtgbbljfmngmjeaaGreat
open Go.RowKit
theorem indexFunc_int (v : Value) (xs : List Int) (g : Nat) (cap : Array Value) (p : Int → Bool) (w : World) (hv : Sl w 1 intC v xs) (eg : ∀ args w, (callFunc g args).run Tryz.prog w = .ok (.enter g args) w)
  (hp : Gives Tryz.prog g cap (I) p w xs) : Calls Tryz.prog 127 #[v, .func (.func g) #[] cap] w fun e w' => e = .returned (I (idxBy p xs)) ∧ Below w.heap.size w w' := by
 obtain ⟨A, c, rfl, _, _, hlen, hA⟩ := hv.open_
 replace hv := hide hv
 replace hp := hide hp
 replace hA := hide hA
 go_enter Tryz.func127, Tryz.ntmps127
 go_wp2_with fail
 go_loopw [5, 8] (fun v i wr => ∃ k : Nat, k ≤ xs.length ∧ i = I k ∧ Hid (NoneTo p xs k) ∧ Below w.heap.size w wr) (fun _ i _ => xs.length - (intOf i).toNat)
 case atStart => exact ⟨0, Nat.zero_le _, rfl, hide (NoneTo.zero _ _), Below.refl _ _⟩
 case round =>
  obtain ⟨k, hk, rfl, hn, hb⟩ := hrel
  by_cases hlt : k < xs.length
  ·obtain ⟨b, off, rfl, hbw⟩ := hA.out k hlt
   obtain ⟨x, hx⟩ := getElem?_of_lt hlt
   obtain ⟨_, h0⟩ := ((unhide hv).mono hb).int_at hx
   have hcall := (unhide hp) wr x (List.mem_of_getElem? hx) hb
   replace hx := hide hx
   clear hA hv hp
   cases hq : p x with
   | true =>
    rw [hq] at hcall
    have H := hide hcall
    replace hq := hide hq
    clear hcall
    go_wp2_with (go_at_fn g; refine (unhide H).mono ?_; rintro e w' ⟨rfl, hb1⟩)
    go_ret
    exact ⟨ret_int (((unhide hn).found hx.out hq.out).symm), hb.trans (hb1.mono hb.size)⟩
   | false =>
    rw [hq] at hcall
    have H := hide hcall
    replace hq := hide hq
    clear hcall
    go_wp2_with (go_at_fn g; refine (unhide H).mono ?_; rintro e w' ⟨rfl, hb1⟩)
    go_roundw
    case rel => exact ⟨k + 1, by omega, by go_num, hide ((unhide hn).succ hx.out hq.out), hb.trans (hb1.mono hb.size)⟩
    case measure => simp [intOf]; omega
  ·have he : k = xs.length := by omega
   subst he
   clear hA
   go_wp2_with fail
   go_ret
   exact ⟨ret_int ((unhide hn).missed.symm), hb⟩
theorem indexFunc_Site (v : Value) (xs : List Site) (g : Nat) (cap : Array Value) (p : Site → Bool) (w : World) (hv : Sl w 3 Site.cells v xs) (eg : ∀ args w, (callFunc g args).run Tryz.prog w = .ok (.enter g args) w)
  (hp : Gives Tryz.prog g cap (fun x => .agg #[I x.no, I x.kind, I x.cell]) p w xs) : Calls Tryz.prog 150 #[v, .func (.func g) #[] cap] w fun e w' => e = .returned (I (idxBy p xs)) ∧ Below w.heap.size w w' := by
 obtain ⟨A, c, rfl, _, _, hlen, hA⟩ := hv.open_
 replace hv := hide hv
 replace hp := hide hp
 replace hA := hide hA
 go_enter Tryz.func150, Tryz.ntmps150
 go_wp2_with fail
 go_loopw [5, 8] (fun v i wr => ∃ k : Nat, k ≤ xs.length ∧ i = I k ∧ Hid (NoneTo p xs k) ∧ Below w.heap.size w wr) (fun _ i _ => xs.length - (intOf i).toNat)
 case atStart => exact ⟨0, Nat.zero_le _, rfl, hide (NoneTo.zero _ _), Below.refl _ _⟩
 case round =>
  obtain ⟨k, hk, rfl, hn, hb⟩ := hrel
  by_cases hlt : k < xs.length
  ·obtain ⟨b, off, rfl, hbw⟩ := hA.out k hlt
   obtain ⟨x, hx⟩ := getElem?_of_lt hlt
   obtain ⟨_, h0, h1, h2⟩ := ((unhide hv).mono hb).site_at hx
   have hcall := (unhide hp) wr x (List.mem_of_getElem? hx) hb
   replace hx := hide hx
   clear hA hv hp
   cases hq : p x with
   | true =>
    rw [hq] at hcall
    have H := hide hcall
    replace hq := hide hq
    clear hcall
    go_wp2_with (go_at_fn g; refine (unhide H).mono ?_; rintro e w' ⟨rfl, hb1⟩)
    go_ret
    exact ⟨ret_int (((unhide hn).found hx.out hq.out).symm), hb.trans (hb1.mono hb.size)⟩
   | false =>
    rw [hq] at hcall
    have H := hide hcall
    replace hq := hide hq
    clear hcall
    go_wp2_with (go_at_fn g; refine (unhide H).mono ?_; rintro e w' ⟨rfl, hb1⟩)
    go_roundw
    case rel => exact ⟨k + 1, by omega, by go_num, hide ((unhide hn).succ hx.out hq.out), hb.trans (hb1.mono hb.size)⟩
    case measure => simp [intOf]; omega
  ·have he : k = xs.length := by omega
   subst he
   clear hA
   go_wp2_with fail
   go_ret
   exact ⟨ret_int ((unhide hn).missed.symm), hb⟩
theorem indexFunc_Track (v : Value) (xs : List Track) (g : Nat) (cap : Array Value) (p : Track → Bool) (w : World) (hv : Sl w 6 Track.cells v xs) (eg : ∀ args w, (callFunc g args).run Tryz.prog w = .ok (.enter g args) w)
  (hp : Gives Tryz.prog g cap (fun x => .agg #[I x.no, I x.a, I x.b, I x.minutes, I x.cell, I x.steep]) p w xs) : Calls Tryz.prog 123 #[v, .func (.func g) #[] cap] w fun e w' => e = .returned (I (idxBy p xs)) ∧ Below w.heap.size w w' := by
 obtain ⟨A, c, rfl, _, _, hlen, hA⟩ := hv.open_
 replace hv := hide hv
 replace hp := hide hp
 replace hA := hide hA
 go_enter Tryz.func123, Tryz.ntmps123
 go_wp2_with fail
 go_loopw [5, 8] (fun v i wr => ∃ k : Nat, k ≤ xs.length ∧ i = I k ∧ Hid (NoneTo p xs k) ∧ Below w.heap.size w wr) (fun _ i _ => xs.length - (intOf i).toNat)
 case atStart => exact ⟨0, Nat.zero_le _, rfl, hide (NoneTo.zero _ _), Below.refl _ _⟩
 case round =>
  obtain ⟨k, hk, rfl, hn, hb⟩ := hrel
  by_cases hlt : k < xs.length
  ·obtain ⟨b, off, rfl, hbw⟩ := hA.out k hlt
   obtain ⟨x, hx⟩ := getElem?_of_lt hlt
   obtain ⟨_, h0, h1, h2, h3, h4, h5⟩ := ((unhide hv).mono hb).track_at hx
   have hcall := (unhide hp) wr x (List.mem_of_getElem? hx) hb
   replace hx := hide hx
   clear hA hv hp
   cases hq : p x with
   | true =>
    rw [hq] at hcall
    have H := hide hcall
    replace hq := hide hq
    clear hcall
    go_wp2_with (go_at_fn g; refine (unhide H).mono ?_; rintro e w' ⟨rfl, hb1⟩)
    go_ret
    exact ⟨ret_int (((unhide hn).found hx.out hq.out).symm), hb.trans (hb1.mono hb.size)⟩
   | false =>
    rw [hq] at hcall
    have H := hide hcall
    replace hq := hide hq
    clear hcall
    go_wp2_with (go_at_fn g; refine (unhide H).mono ?_; rintro e w' ⟨rfl, hb1⟩)
    go_roundw
    case rel => exact ⟨k + 1, by omega, by go_num, hide ((unhide hn).succ hx.out hq.out), hb.trans (hb1.mono hb.size)⟩
    case measure => simp [intOf]; omega
  ·have he : k = xs.length := by omega
   subst he
   clear hA
   go_wp2_with fail
   go_ret
   exact ⟨ret_int ((unhide hn).missed.symm), hb⟩
theorem indexFunc_Cell (v : Value) (xs : List Cell) (g : Nat) (cap : Array Value) (p : Cell → Bool) (w : World) (hv : Sl w 4 Cell.cells v xs) (eg : ∀ args w, (callFunc g args).run Tryz.prog w = .ok (.enter g args) w)
  (hp : Gives Tryz.prog g cap (fun x => .agg #[I x.no, I x.height, I x.aspect, I x.area]) p w xs) : Calls Tryz.prog 142 #[v, .func (.func g) #[] cap] w fun e w' => e = .returned (I (idxBy p xs)) ∧ Below w.heap.size w w' := by
 obtain ⟨A, c, rfl, _, _, hlen, hA⟩ := hv.open_
 replace hv := hide hv
 replace hp := hide hp
 replace hA := hide hA
 go_enter Tryz.func142, Tryz.ntmps142
 go_wp2_with fail
 go_loopw [5, 8] (fun v i wr => ∃ k : Nat, k ≤ xs.length ∧ i = I k ∧ Hid (NoneTo p xs k) ∧ Below w.heap.size w wr) (fun _ i _ => xs.length - (intOf i).toNat)
 case atStart => exact ⟨0, Nat.zero_le _, rfl, hide (NoneTo.zero _ _), Below.refl _ _⟩
 case round =>
  obtain ⟨k, hk, rfl, hn, hb⟩ := hrel
  by_cases hlt : k < xs.length
  ·obtain ⟨b, off, rfl, hbw⟩ := hA.out k hlt
   obtain ⟨x, hx⟩ := getElem?_of_lt hlt
   obtain ⟨_, h0, h1, h2, h3⟩ := ((unhide hv).mono hb).cell_at hx
   have hcall := (unhide hp) wr x (List.mem_of_getElem? hx) hb
   replace hx := hide hx
   clear hA hv hp
   cases hq : p x with
   | true =>
    rw [hq] at hcall
    have H := hide hcall
    replace hq := hide hq
    clear hcall
    go_wp2_with (go_at_fn g; refine (unhide H).mono ?_; rintro e w' ⟨rfl, hb1⟩)
    go_ret
    exact ⟨ret_int (((unhide hn).found hx.out hq.out).symm), hb.trans (hb1.mono hb.size)⟩
   | false =>
    rw [hq] at hcall
    have H := hide hcall
    replace hq := hide hq
    clear hcall
    go_wp2_with (go_at_fn g; refine (unhide H).mono ?_; rintro e w' ⟨rfl, hb1⟩)
    go_roundw
    case rel => exact ⟨k + 1, by omega, by go_num, hide ((unhide hn).succ hx.out hq.out), hb.trans (hb1.mono hb.size)⟩
    case measure => simp [intOf]; omega
  ·have he : k = xs.length := by omega
   subst he
   clear hA
   go_wp2_with fail
   go_ret
   exact ⟨ret_int ((unhide hn).missed.symm), hb⟩
theorem indexFunc_Diff (v : Value) (xs : List Diff) (g : Nat) (cap : Array Value) (p : Diff → Bool) (w : World) (hv : Sl w 3 Diff.cells v xs) (eg : ∀ args w, (callFunc g args).run Tryz.prog w = .ok (.enter g args) w)
  (hp : Gives Tryz.prog g cap (fun x => .agg #[I x.frm, I x.to, I x.most]) p w xs) : Calls Tryz.prog 214 #[v, .func (.func g) #[] cap] w fun e w' => e = .returned (I (idxBy p xs)) ∧ Below w.heap.size w w' := by
 obtain ⟨A, c, rfl, _, _, hlen, hA⟩ := hv.open_
 replace hv := hide hv
 replace hp := hide hp
 replace hA := hide hA
 go_enter Tryz.func214, Tryz.ntmps214
 go_wp2_with fail
 go_loopw [5, 8] (fun v i wr => ∃ k : Nat, k ≤ xs.length ∧ i = I k ∧ Hid (NoneTo p xs k) ∧ Below w.heap.size w wr) (fun _ i _ => xs.length - (intOf i).toNat)
 case atStart => exact ⟨0, Nat.zero_le _, rfl, hide (NoneTo.zero _ _), Below.refl _ _⟩
 case round =>
  obtain ⟨k, hk, rfl, hn, hb⟩ := hrel
  by_cases hlt : k < xs.length
  ·obtain ⟨b, off, rfl, hbw⟩ := hA.out k hlt
   obtain ⟨x, hx⟩ := getElem?_of_lt hlt
   obtain ⟨_, h0, h1, h2⟩ := ((unhide hv).mono hb).diff_at hx
   have hcall := (unhide hp) wr x (List.mem_of_getElem? hx) hb
   replace hx := hide hx
   clear hA hv hp
   cases hq : p x with
   | true =>
    rw [hq] at hcall
    have H := hide hcall
    replace hq := hide hq
    clear hcall
    go_wp2_with (go_at_fn g; refine (unhide H).mono ?_; rintro e w' ⟨rfl, hb1⟩)
    go_ret
    exact ⟨ret_int (((unhide hn).found hx.out hq.out).symm), hb.trans (hb1.mono hb.size)⟩
   | false =>
    rw [hq] at hcall
    have H := hide hcall
    replace hq := hide hq
    clear hcall
    go_wp2_with (go_at_fn g; refine (unhide H).mono ?_; rintro e w' ⟨rfl, hb1⟩)
    go_roundw
    case rel => exact ⟨k + 1, by omega, by go_num, hide ((unhide hn).succ hx.out hq.out), hb.trans (hb1.mono hb.size)⟩
    case measure => simp [intOf]; omega
  ·have he : k = xs.length := by omega
   subst he
   clear hA
   go_wp2_with fail
   go_ret
   exact ⟨ret_int ((unhide hn).missed.symm), hb⟩

theorem idxBy_nonneg {α : Type} (p : α → Bool) (xs : List α) : decide (0 ≤ idxBy p xs) = xs.any p := by
 induction xs with
 | nil => rfl
 | cons x xs ih =>
  rw [List.any_cons, ← ih]
  cases hp : p x with
  | true => simp [idxBy, hp]
  | false =>
   simp only [idxBy, hp, Bool.false_or]
   simp only [Bool.false_eq_true, if_false]
   split
   ·rename_i h; rw [Bool.eq_iff_iff]; simp; omega
   ·rename_i h; rw [Bool.eq_iff_iff]; simp; omega
theorem index_int (v : Value) (xs : List Int) (y : Int) (w : World) (hv : Sl w 1 intC v xs) :
  Calls Tryz.prog 122 #[v, I y] w fun e w' => e = .returned (I (idxBy (fun x => x == y) xs)) ∧ w = w' := by
 obtain ⟨A, c, rfl, _, _, hlen, hA⟩ := hv.open_
 replace hv := hide hv
 replace hA := hide hA
 go_enter Tryz.func122, Tryz.ntmps122
 go_wp2_with fail
 go_loop [5, 8] (fun _ i => ∃ k : Nat, k ≤ xs.length ∧ i = I k ∧ Hid (NoneTo (fun x => x == y) xs k)) (fun _ i => xs.length - (intOf i).toNat)
 case atStart => exact ⟨0, Nat.zero_le _, rfl, hide (NoneTo.zero _ _)⟩
 case round =>
  obtain ⟨k, hk, rfl, hn⟩ := hrel
  by_cases hlt : k < xs.length
  ·obtain ⟨b, off, rfl, hbw⟩ := hA.out k hlt
   obtain ⟨x, hx⟩ := getElem?_of_lt hlt
   obtain ⟨_, h0⟩ := (unhide hv).int_at hx
   replace hx := hide hx
   clear hA hv
   cases hq : (x == y) with
   | true =>
    have hq2 : (y == x) = true := by rw [Bool.beq_comm]; exact hq
    replace hq := hide hq
    go_wp2_with fail
    go_ret
    exact ⟨ret_int (((unhide hn).found hx.out hq.out).symm), rfl⟩
   | false =>
    have hq2 : (y == x) = false := by rw [Bool.beq_comm]; exact hq
    replace hq := hide hq
    go_wp2_with fail
    go_round
    case rel => exact ⟨k + 1, by omega, by go_num, hide ((unhide hn).succ hx.out hq.out)⟩
    case measure => simp [intOf]; omega
  ·have he : k = xs.length := by omega
   subst he
   clear hA
   go_wp2_with fail
   go_ret
   exact ⟨ret_int ((unhide hn).missed.symm), rfl⟩

theorem contains_int (v : Value) (xs : List Int) (y : Int) (w : World) (hv : Sl w 1 intC v xs) :
  Calls Tryz.prog 48 #[v, I y] w fun e w' => e = .returned (.bool (xs.any (fun x => x == y))) ∧ w = w' := by
 replace hv := hide hv
 have hf := hide (idxBy_nonneg (fun x => x == y) xs)
 go_enter Tryz.func48, Tryz.ntmps48
 go_wp2_with (go_at_call 122; refine (index_int _ xs y _ hv.out).mono ?_; generalize idxBy (fun x => x == y) xs = r at hf ⊢; rintro e w' ⟨rfl, rfl⟩)
 go_ret
 exact ⟨ret_bool (by rw [← hf.out]), rfl⟩
theorem index_bool (v : Value) (xs : List Bool) (y : Bool) (w : World) (hv : Sl w 1 boolC v xs) :
  Calls Tryz.prog 213 #[v, .bool y] w fun e w' => e = .returned (I (idxBy (fun x => x == y) xs)) ∧ w = w' := by
 obtain ⟨A, c, rfl, _, _, hlen, hA⟩ := hv.open_
 replace hv := hide hv
 replace hA := hide hA
 go_enter Tryz.func213, Tryz.ntmps213
 go_wp2_with fail
 go_loop [5, 8] (fun _ i => ∃ k : Nat, k ≤ xs.length ∧ i = I k ∧ Hid (NoneTo (fun x => x == y) xs k)) (fun _ i => xs.length - (intOf i).toNat)
 case atStart => exact ⟨0, Nat.zero_le _, rfl, hide (NoneTo.zero _ _)⟩
 case round =>
  obtain ⟨k, hk, rfl, hn⟩ := hrel
  by_cases hlt : k < xs.length
  ·obtain ⟨b, off, rfl, hbw⟩ := hA.out k hlt
   obtain ⟨x, hx⟩ := getElem?_of_lt hlt
   obtain ⟨_, h0⟩ := (unhide hv).bool_at hx
   replace hx := hide hx
   clear hA hv
   cases hq : (x == y) with
   | true =>
    have hq2 : (y == x) = true := by rw [Bool.beq_comm]; exact hq
    replace hq := hide hq
    go_wp2_with fail
    go_ret
    exact ⟨ret_int (((unhide hn).found hx.out hq.out).symm), rfl⟩
   | false =>
    have hq2 : (y == x) = false := by rw [Bool.beq_comm]; exact hq
    replace hq := hide hq
    go_wp2_with fail
    go_round
    case rel => exact ⟨k + 1, by omega, by go_num, hide ((unhide hn).succ hx.out hq.out)⟩
    case measure => simp [intOf]; omega
  ·have he : k = xs.length := by omega
   subst he
   clear hA
   go_wp2_with fail
   go_ret
   exact ⟨ret_int ((unhide hn).missed.symm), rfl⟩

theorem contains_bool (v : Value) (xs : List Bool) (y : Bool) (w : World) (hv : Sl w 1 boolC v xs) :
  Calls Tryz.prog 203 #[v, .bool y] w fun e w' => e = .returned (.bool (xs.any (fun x => x == y))) ∧ w = w' := by
 replace hv := hide hv
 have hf := hide (idxBy_nonneg (fun x => x == y) xs)
 go_enter Tryz.func203, Tryz.ntmps203
 go_wp2_with (go_at_call 213; refine (index_bool _ xs y _ hv.out).mono ?_; generalize idxBy (fun x => x == y) xs = r at hf ⊢; rintro e w' ⟨rfl, rfl⟩)
 go_ret
 exact ⟨ret_bool (by rw [← hf.out]), rfl⟩
theorem containsFunc_int (v : Value) (xs : List Int) (g : Nat) (cap : Array Value) (p : Int → Bool) (w : World) (hv : Sl w 1 intC v xs) (eg : ∀ args w, (callFunc g args).run Tryz.prog w = .ok (.enter g args) w)
  (hp : Gives Tryz.prog g cap (I) p w xs) : Calls Tryz.prog 52 #[v, .func (.func g) #[] cap] w fun e w' => e = .returned (.bool (xs.any p)) ∧ Below w.heap.size w w' := by
 have hc := hide (indexFunc_int v xs g cap p w hv eg hp)
 have hf := hide (idxBy_nonneg p xs)
 clear hv hp eg
 go_enter Tryz.func52, Tryz.ntmps52
 go_wp2_with (go_at_call 127; refine (unhide hc).mono ?_; generalize idxBy p xs = r at hf ⊢; rintro e w' ⟨rfl, hb⟩)
 go_ret
 exact ⟨ret_bool (by rw [← hf.out]), hb⟩
theorem containsFunc_Cell (v : Value) (xs : List Cell) (g : Nat) (cap : Array Value) (p : Cell → Bool) (w : World) (hv : Sl w 4 Cell.cells v xs) (eg : ∀ args w, (callFunc g args).run Tryz.prog w = .ok (.enter g args) w)
  (hp : Gives Tryz.prog g cap (fun x => .agg #[I x.no, I x.height, I x.aspect, I x.area]) p w xs) : Calls Tryz.prog 63 #[v, .func (.func g) #[] cap] w fun e w' => e = .returned (.bool (xs.any p)) ∧ Below w.heap.size w w' := by
 have hc := hide (indexFunc_Cell v xs g cap p w hv eg hp)
 have hf := hide (idxBy_nonneg p xs)
 clear hv hp eg
 go_enter Tryz.func63, Tryz.ntmps63
 go_wp2_with (go_at_call 142; refine (unhide hc).mono ?_; generalize idxBy p xs = r at hf ⊢; rintro e w' ⟨rfl, hb⟩)
 go_ret
 exact ⟨ret_bool (by rw [← hf.out]), hb⟩
theorem containsFunc_Diff (v : Value) (xs : List Diff) (g : Nat) (cap : Array Value) (p : Diff → Bool) (w : World) (hv : Sl w 3 Diff.cells v xs) (eg : ∀ args w, (callFunc g args).run Tryz.prog w = .ok (.enter g args) w)
  (hp : Gives Tryz.prog g cap (fun x => .agg #[I x.frm, I x.to, I x.most]) p w xs) : Calls Tryz.prog 206 #[v, .func (.func g) #[] cap] w fun e w' => e = .returned (.bool (xs.any p)) ∧ Below w.heap.size w w' := by
 have hc := hide (indexFunc_Diff v xs g cap p w hv eg hp)
 have hf := hide (idxBy_nonneg p xs)
 clear hv hp eg
 go_enter Tryz.func206, Tryz.ntmps206
 go_wp2_with (go_at_call 214; refine (unhide hc).mono ?_; generalize idxBy p xs = r at hf ⊢; rintro e w' ⟨rfl, hb⟩)
 go_ret
 exact ⟨ret_bool (by rw [← hf.out]), hb⟩

theorem equal_int (v v' : Value) (xs ys : List Int) (w : World) (hv : Sl w 1 intC v xs) (hv' : Sl w 1 intC v' ys) :
  Calls Tryz.prog 30 #[v, v'] w fun e w' => e = .returned (.bool (decide (xs = ys))) ∧ Below w.heap.size w w' := by
 obtain ⟨A, c, rfl, _, _, hlen, hA⟩ := hv.open_
 obtain ⟨A', c', rfl, _, _, hlen', hA'⟩ := hv'.open_
 replace hv := hide hv
 replace hA := hide hA
 replace hv' := hide hv'
 replace hA' := hide hA'
 by_cases hl : xs.length = ys.length
 ·have hlB : ((xs.length : Int) != (ys.length : Int)) = false := by simp [hl]
  have hl1 : xs.length ≤ ys.length := by omega
  have hl2 : ys.length ≤ xs.length := by omega
  replace hl := hide hl
  go_enter Tryz.func30, Tryz.ntmps30
  go_wp2_with fail
  go_loopw [13] (fun i wr => ∃ k : Nat, k ≤ xs.length ∧ i = I k ∧ Hid (∀ j, j < k → xs[j]? = ys[j]?) ∧ Below w.heap.size w wr) (fun i _ => xs.length - (intOf i).toNat)
  case atStart => exact ⟨0, Nat.zero_le _, rfl, hide (fun _ h => absurd h (by omega)), Below.refl _ _⟩
  case round =>
   obtain ⟨k, hk, rfl, hn, hb⟩ := hrel
   by_cases hlt : k < xs.length
   ·have hlt' : k < ys.length := by omega
    obtain ⟨b, off, rfl, hbw⟩ := hA.out k hlt
    obtain ⟨b', off', rfl, hbw'⟩ := hA'.out k hlt'
    obtain ⟨x, hx⟩ := getElem?_of_lt hlt
    obtain ⟨y, hy⟩ := getElem?_of_lt hlt'
    obtain ⟨q1, h0⟩ := ((unhide hv).mono hb).int_at hx
    obtain ⟨q2, h1⟩ := ((unhide hv').mono hb).int_at hy
    replace hx := hide hx
    replace hy := hide hy
    clear hA hv hA' hv'
    cases hq : (x != y) with
    | true =>
     have hne : decide (xs = ys) = false := by
      rw [decide_eq_false_iff_not]; intro h; subst h
      have h1 := hx.out; rw [hy.out] at h1
      injection h1 with h1; subst h1; simp at hq
     replace hne := hide hne
     go_wp2_with fail
     (refine wp_grow ?_; (repeat go_big_quiet_step (fail)); refine wp_grow0 ?_; intro W1 hW1)
     go_wp2_with fail
     go_ret
     exact ⟨ret_bool hne.out.symm, bup hb hW1⟩
    | false =>
     have hxy : x = y := by simpa using hq
     replace hxy := hide hxy
     go_wp2_with fail
     (refine wp_grow ?_; (repeat go_big_quiet_step (fail)); refine wp_grow0 ?_; intro W1 hW1)
     go_wp2_with fail
     go_roundw
     case rel =>
      refine ⟨k + 1, by omega, by go_num, hide (fun j hj => ?_), bup hb hW1⟩
      rcases Nat.lt_or_ge j k with h | h
      ·exact (unhide hn) j h
      ·have : j = k := by omega
       subst this
       rw [hx.out, hy.out, hxy.out]
     case measure => simp [intOf]; omega
   ·have he : k = xs.length := by omega
    subst he
    clear hA hA'
    go_wp2_with fail
    go_ret
    refine ⟨ret_bool ?_, hb⟩
    symm
    rw [decide_eq_true_iff]
    refine List.ext_getElem? fun j => ?_
    rcases Nat.lt_or_ge j xs.length with h | h
    ·exact (unhide hn) j h
    ·rw [List.getElem?_eq_none h, List.getElem?_eq_none (by rw [← hl.out]; exact h)]
 ·have hlB : ((xs.length : Int) != (ys.length : Int)) = true := by simp; omega
  have hne : decide (xs = ys) = false := by rw [decide_eq_false_iff_not]; intro h; subst h; exact hl rfl
  replace hne := hide hne
  clear hl
  go_enter Tryz.func30, Tryz.ntmps30
  go_wp2_with fail
  go_ret
  exact ⟨ret_bool hne.out.symm, Below.refl _ _⟩
theorem clone_int (v : Value) (xs : List Int) (w : World) (hv : Sl w 1 intC v xs) (hb : xs.length ≤ 1099511627776) :
  Calls Tryz.prog 68 #[v] w fun e w' => ∃ v', e = .returned v' ∧ Own w' w.heap.size 3 1 intC v' xs ∧ (0 < xs.length → v' ≠ .slice none 0 0) ∧ Below w.heap.size w w' := by
 obtain ⟨A, c, rfl, _, _, hlen, hA⟩ := hv.open_
 rcases A with _ | ad
 ·have he := Lib.run_eql_slice_nil (P := Tryz.prog) w 38 3 none 0 c 0 0 Tryz.underlying38
  have h0 : xs = [] := by
   rcases xs with _ | ⟨x, xs⟩
   ·rfl
   ·obtain ⟨b, off, h, _⟩ := hA 0 (by simp)
    cases h
  subst h0
  clear hv hA hlen
  go_enter Tryz.func68, Tryz.ntmps68
  go_wp2_with fail
  go_ret
  exact ⟨_, rfl, Own.nil_ _ _ _ _ _, fun h => absurd h (by simp), Below.refl _ _⟩
 ·have he := Lib.run_eql_slice_nil (P := Tryz.prog) w 38 3 (some ad) xs.length c 0 0 Tryz.underlying38
  have hv1 := hide (hv.mono (below1 w (.cells #[] 3)))
  clear hv hA
  go_enter Tryz.func68, Tryz.ntmps68
  go_wp2_with (at_builtin; refine wp_append_all el_int intC_len intC_one rfl (.tmp 5) (.tmp 6) rfl w.heap.size rfl (Own.empty w _ _ _ intC (Nat.le_refl _)) rfl hv1.out ?c1 ?c2 ?c3 ?c4 ?_)
  case c1 => simp; omega
  case c2 => simp
  case c3 => omega
  case c4 => simp
  intro v' w1 hown hbel hnil
  go_wp2_with fail
  go_ret
  refine ⟨_, rfl, by simpa using hown, fun h hn => ?_, (below1 _ _).trans hbel⟩
  exact hnil hn
theorem clone_Cell (v : Value) (xs : List Cell) (w : World) (hv : Sl w 4 Cell.cells v xs) (hb : xs.length ≤ 1099511627776) :
  Calls Tryz.prog 168 #[v] w fun e w' => ∃ v', e = .returned v' ∧ Own w' w.heap.size 101 4 Cell.cells v' xs ∧ (0 < xs.length → v' ≠ .slice none 0 0) ∧ Below w.heap.size w w' := by
 obtain ⟨A, c, rfl, _, _, hlen, hA⟩ := hv.open_
 rcases A with _ | ad
 ·have he := Lib.run_eql_slice_nil (P := Tryz.prog) w 34 101 none 0 c 0 0 Tryz.underlying34
  have h0 : xs = [] := by
   rcases xs with _ | ⟨x, xs⟩
   ·rfl
   ·obtain ⟨b, off, h, _⟩ := hA 0 (by simp)
    cases h
  subst h0
  clear hv hA hlen
  go_enter Tryz.func168, Tryz.ntmps168
  go_wp2_with fail
  go_ret
  exact ⟨_, rfl, Own.nil_ _ _ _ _ _, fun h => absurd h (by simp), Below.refl _ _⟩
 ·have he := Lib.run_eql_slice_nil (P := Tryz.prog) w 34 101 (some ad) xs.length c 0 0 Tryz.underlying34
  have hv1 := hide (hv.mono (below1 w (.cells #[] 101)))
  clear hv hA
  go_enter Tryz.func168, Tryz.ntmps168
  go_wp2_with (at_builtin; refine wp_append_all el_Cell Cell.cells_len Cell.cells_one rfl (.tmp 5) (.tmp 6) rfl w.heap.size rfl (Own.empty w _ _ _ Cell.cells (Nat.le_refl _)) rfl hv1.out ?c1 ?c2 ?c3 ?c4 ?_)
  case c1 => simp; omega
  case c2 => simp
  case c3 => omega
  case c4 => simp
  intro v' w1 hown hbel hnil
  go_wp2_with fail
  go_ret
  refine ⟨_, rfl, by simpa using hown, fun h hn => ?_, (below1 _ _).trans hbel⟩
  exact hnil hn
theorem clone_pair (v : Value) (xs : List (Int × Int)) (w : World) (hv : Sl w 2 pairC v xs) (hb : xs.length ≤ 1099511627776) :
  Calls Tryz.prog 169 #[v] w fun e w' => ∃ v', e = .returned v' ∧ Own w' w.heap.size 203 2 pairC v' xs ∧ (0 < xs.length → v' ≠ .slice none 0 0) ∧ Below w.heap.size w w' := by
 obtain ⟨A, c, rfl, _, _, hlen, hA⟩ := hv.open_
 rcases A with _ | ad
 ·have he := Lib.run_eql_slice_nil (P := Tryz.prog) w 35 203 none 0 c 0 0 Tryz.underlying35
  have h0 : xs = [] := by
   rcases xs with _ | ⟨x, xs⟩
   ·rfl
   ·obtain ⟨b, off, h, _⟩ := hA 0 (by simp)
    cases h
  subst h0
  clear hv hA hlen
  go_enter Tryz.func169, Tryz.ntmps169
  go_wp2_with fail
  go_ret
  exact ⟨_, rfl, Own.nil_ _ _ _ _ _, fun h => absurd h (by simp), Below.refl _ _⟩
 ·have he := Lib.run_eql_slice_nil (P := Tryz.prog) w 35 203 (some ad) xs.length c 0 0 Tryz.underlying35
  have hv1 := hide (hv.mono (below1 w (.cells #[] 203)))
  clear hv hA
  go_enter Tryz.func169, Tryz.ntmps169
  go_wp2_with (at_builtin; refine wp_append_all el_pair pairC_len pairC_one rfl (.tmp 5) (.tmp 6) rfl w.heap.size rfl (Own.empty w _ _ _ pairC (Nat.le_refl _)) rfl hv1.out ?c1 ?c2 ?c3 ?c4 ?_)
  case c1 => simp; omega
  case c2 => simp
  case c3 => omega
  case c4 => simp
  intro v' w1 hown hbel hnil
  go_wp2_with fail
  go_ret
  refine ⟨_, rfl, by simpa using hown, fun h hn => ?_, (below1 _ _).trans hbel⟩
  exact hnil hn
theorem clone_Sight (v : Value) (xs : List Sight) (w : World) (hv : Sl w 5 Sight.cells v xs) (hb : xs.length ≤ 1099511627776) :
  Calls Tryz.prog 170 #[v] w fun e w' => ∃ v', e = .returned v' ∧ Own w' w.heap.size 83 5 Sight.cells v' xs ∧ (0 < xs.length → v' ≠ .slice none 0 0) ∧ Below w.heap.size w w' := by
 obtain ⟨A, c, rfl, _, _, hlen, hA⟩ := hv.open_
 rcases A with _ | ad
 ·have he := Lib.run_eql_slice_nil (P := Tryz.prog) w 39 83 none 0 c 0 0 Tryz.underlying39
  have h0 : xs = [] := by
   rcases xs with _ | ⟨x, xs⟩
   ·rfl
   ·obtain ⟨b, off, h, _⟩ := hA 0 (by simp)
    cases h
  subst h0
  clear hv hA hlen
  go_enter Tryz.func170, Tryz.ntmps170
  go_wp2_with fail
  go_ret
  exact ⟨_, rfl, Own.nil_ _ _ _ _ _, fun h => absurd h (by simp), Below.refl _ _⟩
 ·have he := Lib.run_eql_slice_nil (P := Tryz.prog) w 39 83 (some ad) xs.length c 0 0 Tryz.underlying39
  have hv1 := hide (hv.mono (below1 w (.cells #[] 83)))
  clear hv hA
  go_enter Tryz.func170, Tryz.ntmps170
  go_wp2_with (at_builtin; refine wp_append_all el_Sight Sight.cells_len Sight.cells_one rfl (.tmp 5) (.tmp 6) rfl w.heap.size rfl (Own.empty w _ _ _ Sight.cells (Nat.le_refl _)) rfl hv1.out ?c1 ?c2 ?c3 ?c4 ?_)
  case c1 => simp; omega
  case c2 => simp
  case c3 => omega
  case c4 => simp
  intro v' w1 hown hbel hnil
  go_wp2_with fail
  go_ret
  refine ⟨_, rfl, by simpa using hown, fun h hn => ?_, (below1 _ _).trans hbel⟩
  exact hnil hn
theorem clone_Change (v : Value) (xs : List Change) (w : World) (hv : Sl w 5 Change.cells v xs) (hb : xs.length ≤ 1099511627776) :
  Calls Tryz.prog 171 #[v] w fun e w' => ∃ v', e = .returned v' ∧ Own w' w.heap.size 171 5 Change.cells v' xs ∧ (0 < xs.length → v' ≠ .slice none 0 0) ∧ Below w.heap.size w w' := by
 obtain ⟨A, c, rfl, _, _, hlen, hA⟩ := hv.open_
 rcases A with _ | ad
 ·have he := Lib.run_eql_slice_nil (P := Tryz.prog) w 40 171 none 0 c 0 0 Tryz.underlying40
  have h0 : xs = [] := by
   rcases xs with _ | ⟨x, xs⟩
   ·rfl
   ·obtain ⟨b, off, h, _⟩ := hA 0 (by simp)
    cases h
  subst h0
  clear hv hA hlen
  go_enter Tryz.func171, Tryz.ntmps171
  go_wp2_with fail
  go_ret
  exact ⟨_, rfl, Own.nil_ _ _ _ _ _, fun h => absurd h (by simp), Below.refl _ _⟩
 ·have he := Lib.run_eql_slice_nil (P := Tryz.prog) w 40 171 (some ad) xs.length c 0 0 Tryz.underlying40
  have hv1 := hide (hv.mono (below1 w (.cells #[] 171)))
  clear hv hA
  go_enter Tryz.func171, Tryz.ntmps171
  go_wp2_with (at_builtin; refine wp_append_all el_Change Change.cells_len Change.cells_one rfl (.tmp 5) (.tmp 6) rfl w.heap.size rfl (Own.empty w _ _ _ Change.cells (Nat.le_refl _)) rfl hv1.out ?c1 ?c2 ?c3 ?c4 ?_)
  case c1 => simp; omega
  case c2 => simp
  case c3 => omega
  case c4 => simp
  intro v' w1 hown hbel hnil
  go_wp2_with fail
  go_ret
  refine ⟨_, rfl, by simpa using hown, fun h hn => ?_, (below1 _ _).trans hbel⟩
  exact hnil hn

def revN (xs : List Int) : Nat → List Int
 | 0 => xs
 | k + 1 => ((revN xs k).set k ((revN xs k).getD (xs.length - 1 - k) 0)).set (xs.length - 1 - k) ((revN xs k).getD k 0)
theorem revN_length (xs : List Int) : ∀ k, (revN xs k).length = xs.length
 | 0 => rfl
 | k + 1 => by simp [revN, revN_length xs k]
theorem revN_at (xs : List Int) : ∀ (k : Nat), 2 * k ≤ xs.length → ∀ p, p < xs.length → (revN xs k)[p]? = if p < k ∨ xs.length - 1 - k < p then xs[xs.length - 1 - p]? else xs[p]?
 | 0, _, p, hp => by
  rw [if_neg (by omega)]; rfl
 | k + 1, hk, p, hp => by
  have ih := revN_at xs k (by omega)
  have hl := revN_length xs k
  have h1 : (revN xs k).getD k 0 = xs.getD k 0 := by
   have := ih k (by omega); rw [if_neg (by omega)] at this; simp [this]
  have h2 : (revN xs k).getD (xs.length - 1 - k) 0 = xs.getD (xs.length - 1 - k) 0 := by
   have := ih (xs.length - 1 - k) (by omega); rw [if_neg (by omega)] at this; simp [this]
  show (((revN xs k).set k ((revN xs k).getD (xs.length - 1 - k) 0)).set (xs.length - 1 - k) ((revN xs k).getD k 0))[p]? = _
  rw [h1, h2, List.getElem?_set, List.getElem?_set]
  by_cases e1 : xs.length - 1 - k = p
  ·rw [if_pos e1, if_pos (by simp [hl]; omega), if_pos (by omega)]
   have : xs.length - 1 - p = k := by omega
   rw [this]
   have hk' : k < xs.length := by omega
   simp [hk']
  ·rw [if_neg e1]
   by_cases e2 : k = p
   ·subst e2
    rw [if_pos rfl, if_pos (by rw [hl]; exact hp), if_pos (by omega)]
    have hk' : xs.length - 1 - k < xs.length := by omega
    simp [hk']
   ·rw [if_neg e2, ih p hp]
    by_cases e3 : p < k ∨ xs.length - 1 - k < p
    ·rw [if_pos e3, if_pos (by omega)]
    ·rw [if_neg e3, if_neg (by omega)]
theorem revN_end (xs : List Int) (k : Nat) (h1 : 2 * k ≤ xs.length) (h2 : xs.length ≤ 2 * k + 1) : revN xs k = xs.reverse := by
 refine List.ext_getElem? fun p => ?_
 rcases Nat.lt_or_ge p xs.length with hp | hp
 ·rw [revN_at xs k h1 p hp, List.getElem?_reverse hp]
  by_cases e : p < k ∨ xs.length - 1 - k < p
  ·rw [if_pos e]
  ·rw [if_neg e]; congr 1; omega
 ·rw [List.getElem?_eq_none (by rw [revN_length]; exact hp), List.getElem?_eq_none (by simpa using hp)]
theorem Own.set_int {w : World} {base e g n cap : Nat} {xs : List Int} (h : Own w base e 1 intC (.slice (some ⟨g, 0, none⟩) n cap) xs) (hn : xs.length = n) (i : Nat) (y : Int) :
  Own (w.setCell ⟨g, i, none⟩ (I y)) base e 1 intC (.slice (some ⟨g, 0, none⟩) n cap) (xs.set i y) := by
 subst hn
 have := (World.ownsRow.stored h i (I y)).1
 have hf : ∀ xs : List Int, xs.flatMap intC = xs.map I := fun xs => by induction xs with
  | nil => rfl
  | cons x xs ih => simp [intC, ih]
 unfold Own
 rw [hf] at this ⊢
 rw [List.map_set, List.length_set]
 exact this
theorem Own.int_at {w : World} {base e g n cap : Nat} {xs : List Int} (h : Own w base e 1 intC (.slice (some ⟨g, 0, none⟩) n cap) xs) (hn : xs.length = n) {i : Nat} {x : Int} (hx : xs[i]? = some x) :
  w.cell? ⟨g, i, none⟩ = some (I x) ∧ w.frozen? ⟨g, i, none⟩ = false ∧ base ≤ g ∧ g < w.heap.size := by
 subst hn
 have hi : i < xs.length := (List.getElem?_eq_some_iff.1 hx).1
 have hf : xs.flatMap intC = xs.map I := by
  clear h hx hi
  induction xs with
  | nil => rfl
  | cons x xs ih => simp [intC, ih]
 refine ⟨?_, World.ownsRow.frozenAt h i, ownBlock_lt h g rfl⟩
 rw [World.ownsRow.cellAt h i (by omega), hf]
 simp [hx]

theorem reverse_int (g cap base e : Nat) (xs : List Int) (n : Nat) (w : World) (hn : xs.length = n) (hb : n ≤ 140737488355328) (hown : Own w base e 1 intC (.slice (some ⟨g, 0, none⟩) n cap) xs) :
  Calls Tryz.prog 99 #[.slice (some ⟨g, 0, none⟩) n cap] w fun e' w' => e' = .returned (.tuple #[]) ∧ Own w' base e 1 intC (.slice (some ⟨g, 0, none⟩) n cap) xs.reverse ∧ Below base w w' := by
 replace hn := hide hn
 replace hown := hide hown
 go_enter Tryz.func99, Tryz.ntmps99
 go_wp2_with fail
 go_loopw [2, 3] (fun a b wr => ∃ k : Nat, 2 * k ≤ n ∧ a = I k ∧ b = I (n - 1 - k) ∧ Hid (Own wr base e 1 intC (.slice (some ⟨g, 0, none⟩) n cap) (revN xs k)) ∧ Below base w wr) (fun i _ _ => n - (intOf i).toNat)
 case atStart => exact ⟨0, by omega, rfl, by simp, hown, Below.refl _ _⟩
 case round =>
  obtain ⟨k, hk, rfl, rfl, ho, hbel⟩ := hrel
  by_cases hlt : k < n - 1 - k
  ·have hlt' : (k : Int) < (n : Int) - 1 - (k : Int) := by omega
   have hl : (revN xs k).length = n := (revN_length xs k).trans hn.out
   obtain ⟨x, hx⟩ := getElem?_of_lt (xs := revN xs k) (k := k) (by omega)
   obtain ⟨y, hy⟩ := getElem?_of_lt (xs := revN xs k) (k := n - 1 - k) (by omega)
   obtain ⟨c0, f0, hg1, hg2⟩ := (unhide ho).int_at hl hx
   obtain ⟨c1, f1, _, _⟩ := (unhide ho).int_at hl hy
   replace hl := hide hl
   replace hx := hide hx
   replace hy := hide hy
   clear hown
   go_wp2_with fail
   go_region
   have ho1 := ((unhide ho).drew.set_int hl.out k y).set_int (by rw [List.length_set]; exact hl.out) (n - 1 - k) x
   have hb1 : Below base w ((wr.drew.setCell ⟨g, k, none⟩ (I y)).setCell ⟨g, n - 1 - k, none⟩ (I x)) := (hbel.drew.setCell (p := ⟨g, k, none⟩) hg1 _).setCell (p := ⟨g, n - 1 - k, none⟩) hg1 _
   have he : revN xs (k + 1) = ((revN xs k).set k y).set (n - 1 - k) x := by
    show ((revN xs k).set k ((revN xs k).getD (xs.length - 1 - k) 0)).set (xs.length - 1 - k) ((revN xs k).getD k 0) = _
    rw [hn.out]
    simp [hx.out, hy.out]
   replace ho1 := hide ho1
   replace hb1 := hide hb1
   replace he := hide he
   clear ho hbel
   go_wp2_with fail
   go_roundw
   case rel => exact ⟨k + 1, by omega, by go_num, by simp; omega, hide (by rw [he.out]; exact ho1.out), hb1.out⟩
   case measure => simp [intOf]; omega
  ·have hlt' : ¬ (k : Int) < (n : Int) - 1 - (k : Int) := by omega
   have he : revN xs k = xs.reverse := revN_end xs k (by rw [hn.out]; omega) (by rw [hn.out]; omega)
   replace he := hide he
   go_wp2_with fail
   go_end0
   exact ⟨rfl, by rw [← he.out]; exact unhide ho, hbel⟩

structure ClimOk (c : Climate) : Prop where
 base : 0 ≤ c.base ∧ c.base ≤ 9000
 lapse : 0 ≤ c.lapse ∧ c.lapse ≤ 20
 swing : 0 ≤ c.swing ∧ c.swing ≤ 600
 wettest : 0 ≤ c.wettest ∧ c.wettest ≤ 1000
 cold : -600 ≤ c.coldest
 cw : c.coldest ≤ c.warmest
 warm : c.warmest ≤ 600
 flo : 0 ≤ c.flo
 fl : c.flo ≤ c.fhi
 fhi : c.fhi ≤ 2000
 spread : c.fhi ≤ c.flo + 50
theorem ClimOk.of {c : Climate} (h : climateOk c = true) : ClimOk c := by
 simp only [climateOk, Bool.and_eq_true, inB_true] at h
 obtain ⟨⟨⟨⟨⟨⟨⟨h1, h2⟩, h3⟩, h4⟩, h5⟩, h6⟩, h7⟩, h8⟩ := h
 constructor <;> omega
structure WeaOk (c : Climate) (x : Weather) : Prop where
 day : 0 ≤ x.day ∧ x.day ≤ 1048576
 temp : c.coldest ≤ x.temp ∧ x.temp ≤ c.warmest
 rain : 0 ≤ x.rain ∧ x.rain ≤ c.wettest
theorem WeaOk.of {c : Climate} {x : Weather} (h : weatherOk c x = true) : WeaOk c x := by
 simp only [weatherOk, Bool.and_eq_true, inB_true] at h
 exact ⟨h.1.1, h.1.2, h.2⟩
theorem not_true {b : Bool} (h : (!b) = true) : b = false := by simpa using h
theorem not_false' {b : Bool} (h : (!b) = false) : b = true := by simpa using h

theorem sizeF_bd {n B : Int} (h0 : -B ≤ n) (h1 : n ≤ B) : 0 ≤ sizeF n ∧ sizeF n ≤ B := by unfold sizeF; omega
theorem tdiv_neg_of {n d : Int} (h : n < 0) : n.tdiv d = -((-n) / d) := by
 have h1 : n = -(-n) := by omega
 rw [h1, Int.neg_tdiv, Int.tdiv_eq_ediv_of_nonneg (by omega)]; simp
theorem atF_bd {c : Climate} (hc : ClimOk c) {t h : Int} (ht : -600 ≤ t ∧ t ≤ 600) (hh : 0 ≤ h ∧ h ≤ 9000) : (-180000 ≤ c.lapse * (h - c.base) ∧ c.lapse * (h - c.base) ≤ 180000) ∧ -2400 ≤ atF c t h ∧ atF c t h ≤ 2400 := by
 have h1 := hc.lapse
 have h2 := hc.base
 have h3 : -180000 ≤ c.lapse * (h - c.base) ∧ c.lapse * (h - c.base) ≤ 180000 := by
  rcases ilt (h - c.base) 0 with g | g
  ·have := Int.mul_le_mul (a := c.lapse) (c := 20) (b := -(h - c.base)) (d := 9000) h1.2 (by omega) (by omega) (by omega)
   have h5 : 0 ≤ c.lapse * (-(h - c.base)) := Int.mul_nonneg h1.1 (by omega)
   rw [Int.mul_neg] at this h5
   omega
  ·have := Int.mul_le_mul (a := c.lapse) (c := 20) (b := h - c.base) (d := 9000) h1.2 (by omega) (by omega) (by omega)
   have h5 : 0 ≤ c.lapse * (h - c.base) := Int.mul_nonneg h1.1 (by omega)
   omega
 refine ⟨h3, ?_⟩
 unfold atF
 omega
theorem Sl.any_false {w : World} {v : Value} {xs : List Bool} (h : Sl w 1 boolC v xs) : Sl w 1 boolC v xs := h
end Go.Proofs.YtgbbljfmngmjeaaGreat
