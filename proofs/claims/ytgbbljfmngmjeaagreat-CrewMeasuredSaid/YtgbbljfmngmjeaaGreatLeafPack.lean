/- The leaves of the package crew and of its reference: what each returns. Conditions stand in the theorems. -/
import Derived.Test.YtgbbljfmngmjeaaGreatPlugPack
import Derived.Test.YtgbbljfmngmjeaaGreatBasePack
import Derived.Test.YtgbbljfmngmjeaaGreatCrewDefsPack
set_option linter.all false
namespace Go.Proofs.YtgbbljfmngmjeaaGreat
open Go.RowKit

theorem crew_from (n lo hi : Int) (w : World) : Calls Tryz.prog 75 #[I n, I lo, I hi] w fun e w' => e = .returned (.bool (inB n lo hi)) ∧ w = w' := by
 by_cases h : lo ≤ n
 ·go_enter Tryz.func75, Tryz.ntmps75
  go_wp2
  go_ret
  exact ⟨by simp [inB, h], rfl⟩
 ·go_enter Tryz.func75, Tryz.ntmps75
  go_wp2
  go_ret
  exact ⟨ret_bool (by simp only [inB]; symm; simp; omega), rfl⟩

theorem crew_number (n : Int) (w : World) : Calls Tryz.prog 149 #[I n] w fun e w' => e = .returned (.bool (inB n 0 4095)) ∧ w = w' := by
 go_enter Tryz.func149, Tryz.ntmps149
 go_wp2_with (go_at_call 75; refine (crew_from _ _ _ _).mono ?_; rintro e w' ⟨rfl, rfl⟩)
 go_ret
 exact ⟨rfl, rfl⟩

theorem crew_right (s : Site) (w : World) : Calls Tryz.prog 81 #[.agg #[I s.no, I s.kind, I s.cell]] w fun e w' => e = .returned (.bool (siteOk s)) ∧ Below w.heap.size w w' := by
 go_enter Tryz.func81, Tryz.ntmps81
 go_wp2_with (first | (go_at_call 75; refine (crew_from _ _ _ _).mono ?_; rintro e w' ⟨rfl, rfl⟩) | (go_at_call 149; refine (crew_number _ _).mono ?_; rintro e w' ⟨rfl, rfl⟩))
 all_goals (go_ret; exact ⟨ret_bool (by simp_all [siteOk]), (Below.refl _ _).alloc (Nat.le_refl _) _⟩)

theorem crew_passable (t : Track) (w : World) : Calls Tryz.prog 82 #[.agg #[I t.no, I t.a, I t.b, I t.minutes, I t.cell, I t.steep]] w fun e w' => e = .returned (.bool (trackOk t)) ∧ Below w.heap.size w w' := by
 go_enter Tryz.func82, Tryz.ntmps82
 go_wp2_with (first | (go_at_call 75; refine (crew_from _ _ _ _).mono ?_; rintro e w' ⟨rfl, rfl⟩) | (go_at_call 149; refine (crew_number _ _).mono ?_; rintro e w' ⟨rfl, rfl⟩))
 all_goals (go_ret; exact ⟨ret_bool (by simp_all [trackOk]), (Below.refl _ _).alloc (Nat.le_refl _) _⟩)

theorem crew_light (day : Int) (w : World) (h0 : 0 ≤ day) (h1 : day ≤ 1048576) : Calls Tryz.prog 76 #[I day] w fun e w' => e = .returned (I (lightF day)) ∧ w = w' := by
 by_cases h : day % 365 ≤ 182
 ·go_enter Tryz.func76, Tryz.ntmps76
  go_wp2
  go_ret
  exact ⟨ret_int (by rw [lightF, if_pos h]), rfl⟩
 ·go_enter Tryz.func76, Tryz.ntmps76
  go_wp2
  go_ret
  exact ⟨ret_int (by rw [lightF, if_neg (by omega)]), rfl⟩
theorem crew_Light (day : Int) (w : World) : Calls Tryz.prog 17 #[I day] w fun e w' => e = .returned (.tuple #[I (lightV day), I (dayE day)]) ∧ w = w' := by
 by_cases h : inB day 0 1048576 = true
 ·have h2 := inB_true.1 h
  go_enter Tryz.func17, Tryz.ntmps17
  go_wp2_with (first | (go_at_call 75; refine (crew_from _ _ _ _).mono ?_; rintro e w' ⟨rfl, rfl⟩) | (go_at_call 76; refine (crew_light _ _ h2.1 h2.2).mono ?_; rintro e w' ⟨rfl, rfl⟩))
  go_ret2
  exact ⟨retII (by simp [lightV, h]) (by simp [dayE, h]), rfl⟩
 ·have h : inB day 0 1048576 = false := by simpa using h
  go_enter Tryz.func17, Tryz.ntmps17
  go_wp2_with (first | (go_at_call 75; refine (crew_from _ _ _ _).mono ?_; rintro e w' ⟨rfl, rfl⟩))
  go_ret2
  exact ⟨retII (by simp [lightV, h]) (by simp [dayE, h]), rfl⟩
theorem crew_breaks (water steep : Int) (w : World) (h0 : 0 ≤ water) (h1 : water ≤ 1048576) (h2 : 0 ≤ steep) (h3 : steep ≤ 60) : Calls Tryz.prog 79 #[I water, I steep] w fun e w' => e = .returned (.bool (breaksB water steep)) ∧ w = w' := by
 by_cases h : 25 < steep
 ·have h4 : 0 ≤ water * (steep - 25) := Int.mul_nonneg h0 (by omega)
  have h5 : water * (steep - 25) ≤ 1048576 * 35 := Int.mul_le_mul h1 (by omega) (by omega) (by omega)
  go_enter Tryz.func79, Tryz.ntmps79
  go_wp2
  go_ret
  exact ⟨ret_bool (by simp [breaksB, h]), rfl⟩
 ·go_enter Tryz.func79, Tryz.ntmps79
  go_wp2
  go_ret
  exact ⟨ret_bool (by simp only [breaksB]; symm; simp only [decide_eq_false_iff_not]; omega), rfl⟩
theorem crew_Breaks (water steep : Int) (w : World) : Calls Tryz.prog 19 #[I water, I steep] w fun e w' =>
  e = .returned (.tuple #[.bool (breaksV water steep), I (breaksE water steep)]) ∧ w = w' := by
 by_cases ha : inB water 0 65536 = true
 ·have h2 := inB_true.1 ha
  by_cases hb : inB steep 0 60 = true
  ·have h3 := inB_true.1 hb
   go_enter Tryz.func19, Tryz.ntmps19
   go_wp2_with (first | (go_at_call 75; refine (crew_from _ _ _ _).mono ?_; rintro e w' ⟨rfl, rfl⟩) | (go_at_call 79; refine (crew_breaks _ _ _ h2.1 (by omega) h3.1 h3.2).mono ?_; rintro e w' ⟨rfl, rfl⟩))
   go_ret2
   exact ⟨retBI (by simp [breaksV, ha, hb]) (by simp [breaksE, ha, hb]), rfl⟩
  ·have hb : inB steep 0 60 = false := by simpa using hb
   go_enter Tryz.func19, Tryz.ntmps19
   go_wp2_with (first | (go_at_call 75; refine (crew_from _ _ _ _).mono ?_; rintro e w' ⟨rfl, rfl⟩))
   go_ret2
   exact ⟨retBI (by simp [breaksV, hb]) (by simp [breaksE, hb]), rfl⟩
 ·have ha : inB water 0 65536 = false := by simpa using ha
  go_enter Tryz.func19, Tryz.ntmps19
  go_wp2_with (first | (go_at_call 75; refine (crew_from _ _ _ _).mono ?_; rintro e w' ⟨rfl, rfl⟩))
  go_ret2
  exact ⟨retBI (by simp [breaksV, ha]) (by simp [breaksE, ha]), rfl⟩
theorem crew_Bears (steep : Int) (w : World) : Calls Tryz.prog 21 #[I steep] w fun e w' =>
  e = .returned (.tuple #[I (bearsV steep), I (bearsE steep)]) ∧ w = w' := by
 by_cases hb : inB steep 0 60 = true
 ·have h3 := inB_true.1 hb
  by_cases h : steep ≤ 25
  ·go_enter Tryz.func21, Tryz.ntmps21
   go_wp2_with (first | (go_at_call 75; refine (crew_from _ _ _ _).mono ?_; rintro e w' ⟨rfl, rfl⟩))
   go_ret2
   exact ⟨retII (by simp [bearsV, bearsF, hb, h]) (by simp [bearsE, hb]), rfl⟩
  ·go_enter Tryz.func21, Tryz.ntmps21
   go_wp2_with (first | (go_at_call 75; refine (crew_from _ _ _ _).mono ?_; rintro e w' ⟨rfl, rfl⟩))
   go_ret2
   exact ⟨retII (by rw [bearsV, if_pos hb, bearsF, if_neg (by omega)]) (by simp [bearsE, hb]), rfl⟩
 ·have hb : inB steep 0 60 = false := by simpa using hb
  go_enter Tryz.func21, Tryz.ntmps21
  go_wp2_with (first | (go_at_call 75; refine (crew_from _ _ _ _).mono ?_; rintro e w' ⟨rfl, rfl⟩))
  go_ret2
  exact ⟨retII (by simp [bearsV, hb]) (by simp [bearsE, hb]), rfl⟩

structure Stp where
 minutes : Int
 before : Int
 track : Int
deriving DecidableEq, Inhabited
def Stp.cells (s : Stp) : List Value := [I s.minutes, I s.before, I s.track]
theorem Stp.cells_len (s : Stp) : s.cells.length = 3 := rfl
theorem Stp.cells_one (s : Stp) : ∀ u ∈ s.cells, u.oneCell' = true := by intro u hu; simp [Stp.cells] at hu; rcases hu with rfl | rfl | rfl <;> rfl
def stArr (l : List Stp) : Array Value := (l.flatMap Stp.cells).toArray
theorem stArr_get {l : List Stp} {i : Nat} {s : Stp} (h : l[i]? = some s) : (stArr l)[i * 3]? = some (I s.minutes) ∧ (stArr l)[i * 3 + 1]? = some (I s.before) ∧ (stArr l)[i * 3 + 2]? = some (I s.track) := by
 unfold stArr
 refine ⟨?_, ?_, ?_⟩ <;> rw [List.getElem?_toArray]
 ·exact flat_at Stp.cells_len l i s h 0 _ rfl
 ·exact flat_at Stp.cells_len l i s h 1 _ rfl
 ·exact flat_at Stp.cells_len l i s h 2 _ rfl
theorem flat_set : ∀ (l : List Stp) (i : Nat) (a b c : Int), (((l.flatMap Stp.cells).set (i * 3) (I a)).set (i * 3 + 1) (I b)).set (i * 3 + 2) (I c) = (l.set i ⟨a, b, c⟩).flatMap Stp.cells
 | [], i, a, b, c => by simp
 | s :: l, 0, a, b, c => by simp [Stp.cells]
 | s :: l, i + 1, a, b, c => by
  have ih := flat_set l i a b c
  have e : (i + 1) * 3 = i * 3 + 1 + 1 + 1 := by omega
  rw [e]
  simp only [List.flatMap_cons, Stp.cells, List.cons_append, List.nil_append, List.set_cons_succ]
  rw [ih]
theorem flat_set0 : ∀ (l : List Stp) (i : Nat) (a : Int), (l.flatMap Stp.cells).set (i * 3) (I a) = (l.modify i fun s => ⟨a, s.before, s.track⟩).flatMap Stp.cells
 | [], i, a => by simp
 | s :: l, 0, a => by simp [Stp.cells]
 | s :: l, i + 1, a => by
  have ih := flat_set0 l i a
  have e : (i + 1) * 3 = i * 3 + 1 + 1 + 1 := by omega
  rw [e]
  simp only [List.flatMap_cons, Stp.cells, List.cons_append, List.nil_append, List.set_cons_succ, List.modify_succ_cons]
  rw [ih]
section
variable {w : World} {g : Nat} {t : TypeId} {l : List Stp}
theorem Blk.set_stp (h : Blk w g t (stArr l)) (i : Nat) (a b c : Int) : Blk (((w.setCell ⟨g, i * 3, none⟩ (I a)).setCell ⟨g, i * 3 + 1, none⟩ (I b)).setCell ⟨g, i * 3 + 2, none⟩ (I c)) g t (stArr (l.set i ⟨a, b, c⟩)) := by
 have := ((h.set_ (i * 3) (I a)).set_ (i * 3 + 1) (I b)).set_ (i * 3 + 2) (I c)
 unfold stArr at this ⊢
 rw [← flat_set]
 simpa using this
theorem Blk.set_stp0 (h : Blk w g t (stArr l)) (i : Nat) (a : Int) : Blk (w.setCell ⟨g, i * 3, none⟩ (I a)) g t (stArr (l.modify i fun s => ⟨a, s.before, s.track⟩)) := by
 have := h.set_ (i * 3) (I a)
 unfold stArr at this ⊢
 rw [← flat_set0]
 simpa using this
end
def farN : Int := 1099511627776
def relax1 (l : List Stp) (x y : Nat) (m no : Int) : List Stp :=
 if (l.getD x default).minutes + m < (l.getD y default).minutes then l.set y ⟨(l.getD x default).minutes + m, x, no⟩ else l
def pA (ss : List Site) (t : Track) : Nat := (placeS ss t.a).toNat
def pB (ss : List Site) (t : Track) : Nat := (placeS ss t.b).toNat
def relaxK (ss : List Site) (t : Track) (l : List Stp) : Nat → List Stp
 | 0 => l
 | 1 => relax1 l (pA ss t) (pB ss t) t.minutes t.no
 | _ + 2 => relax1 (relax1 l (pA ss t) (pB ss t) t.minutes t.no) (pB ss t) (pA ss t) t.minutes t.no
def relaxT (ss : List Site) (l : List Stp) (t : Track) : List Stp := relaxK ss t l 2
def relaxN (ss : List Site) (ts : List Track) (l : List Stp) : Nat → List Stp
 | 0 => l
 | k + 1 => ts.foldl (relaxT ss) (relaxN ss ts l k)
def startF (n start : Nat) : List Stp := (List.replicate n (⟨farN, -1, -1⟩ : Stp)).set start ⟨0, -1, -1⟩
def quickF (ss : List Site) (ts : List Track) (start : Nat) : List Stp := relaxN ss ts (startF ss.length start) ss.length

structure StOk (n : Nat) (l : List Stp) : Prop where
 len : l.length = n
 bd : ∀ s ∈ l, 0 ≤ s.minutes ∧ s.minutes ≤ farN
theorem StOk.at_ {n i : Nat} {l : List Stp} (h : StOk n l) (hi : i < n) : ∃ s, l[i]? = some s ∧ l.getD i default = s ∧ 0 ≤ s.minutes ∧ s.minutes ≤ 1099511627776 := by
 obtain ⟨s, hs⟩ := getElem?_of_lt (xs := l) (k := i) (by rw [h.len]; exact hi)
 exact ⟨s, hs, by simp [hs], (h.bd s (List.mem_of_getElem? hs)).1, (h.bd s (List.mem_of_getElem? hs)).2⟩
theorem StOk.set {n i : Nat} {l : List Stp} (h : StOk n l) {s : Stp} (h0 : 0 ≤ s.minutes) (h1 : s.minutes ≤ farN) : StOk n (l.set i s) :=
 ⟨by rw [List.length_set, h.len], fun x hx => by
  rcases List.mem_or_eq_of_mem_set hx with hx | rfl
  ·exact h.bd x hx
  ·exact ⟨h0, h1⟩⟩
theorem StOk.relax {n x y : Nat} {l : List Stp} {m no : Int} (h : StOk n l) (hm : 0 ≤ m) (hx : x < n) (hy : y < n) : StOk n (relax1 l x y m no) := by
 unfold relax1
 split
 ·rename_i hlt
  obtain ⟨a, _, ha, ha0, _⟩ := h.at_ hx
  obtain ⟨b, _, hb, _, hb1⟩ := h.at_ hy
  rw [ha, hb] at hlt
  refine h.set ?_ ?_ <;> simp only [ha, farN] <;> omega
 ·exact h
theorem StOk.relaxK {n : Nat} {ss : List Site} {t : Track} {l : List Stp} (h : StOk n l) (hm : 0 ≤ t.minutes) (ha : pA ss t < n) (hb : pB ss t < n) : ∀ k, StOk n (relaxK ss t l k)
 | 0 => h
 | 1 => h.relax hm ha hb
 | _ + 2 => (h.relax hm ha hb).relax hm hb ha
theorem StOk.foldl {n : Nat} {ss : List Site} {ts : List Track} {l : List Stp} (h : StOk n l) (ht : ∀ t ∈ ts, 0 ≤ t.minutes ∧ pA ss t < n ∧ pB ss t < n) : StOk n (ts.foldl (relaxT ss) l) := by
 induction ts generalizing l with
 | nil => exact h
 | cons t ts ih =>
  have h1 := ht t (List.mem_cons_self ..)
  exact ih (h.relaxK h1.1 h1.2.1 h1.2.2 2) fun t' h' => ht t' (List.mem_cons_of_mem _ h')
theorem StOk.relaxN {n : Nat} {ss : List Site} {ts : List Track} {l : List Stp} (h : StOk n l) (ht : ∀ t ∈ ts, 0 ≤ t.minutes ∧ pA ss t < n ∧ pB ss t < n) : ∀ k, StOk n (relaxN ss ts l k)
 | 0 => h
 | k + 1 => (StOk.relaxN h ht k).foldl ht
theorem StOk.blank (n : Nat) : StOk n (List.replicate n (⟨farN, -1, -1⟩ : Stp)) :=
 ⟨List.length_replicate, fun s hs => by obtain ⟨_, rfl⟩ := List.mem_replicate.1 hs; simp [farN]⟩
theorem StOk.start (n start : Nat) : StOk n (startF n start) := (StOk.blank n).set (by simp) (by simp [farN])
theorem made_stp (n : Nat) : madeCells #[I 0, I 0, I 0] (n * 3) = stArr (List.replicate n (⟨0, 0, 0⟩ : Stp)) := by
 apply Array.toList_inj.1
 have h1 : (List.replicate n (⟨0, 0, 0⟩ : Stp)).flatMap Stp.cells = List.replicate (n * 3) (I 0) := by
  induction n with
  | zero => rfl
  | succ n ih =>
   rw [List.replicate_succ, List.flatMap_cons, ih, show (n + 1) * 3 = n * 3 + 1 + 1 + 1 by omega]
   simp [Stp.cells, List.replicate_succ]
 rw [stArr, h1]
 refine List.ext_getElem? fun i => ?_
 simp only [madeCells, Array.toList_map, Array.toList_range, List.getElem?_map, List.getElem?_replicate]
 rcases Nat.lt_or_ge i (n * 3) with hi | hi
 ·rw [List.getElem?_range hi, if_pos hi]
  have h3 : i % 3 < 3 := Nat.mod_lt _ (by omega)
  simp only [Option.map_some, List.size_toArray, List.length_cons, List.length_nil]
  rcases h : i % 3 with _ | _ | _ | k
  ·simp [h]
  ·simp [h]
  ·simp [h]
  ·omega
 ·rw [List.getElem?_eq_none (by simpa using hi), if_neg (by omega)]
  rfl
theorem run_make3 {P : Program} {t e bytes : Nat} (E : ElemOk P t e 3 bytes (.agg #[I 0, I 0, I 0])) (n : Nat) (hb : bytes * n ≤ 281474976710656) (hn : n ≤ 281474976710656) (w : World) :
  (Instr.makeSlice t (.int .i64 (n : Int)) (.int .i64 (n : Int))).run P w = .ok (.slice (some ⟨w.heap.size, 0, none⟩) n n) (w.alloc (.cells (stArr (List.replicate n (⟨0, 0, 0⟩ : Stp))) e)) := by
 obtain ⟨i0, hi, hz0, hz1, hz2⟩ := info_parts E.hi
 have hb' : (i0.bytes : Int) * (n : Int) ≤ 281474976710656 := by
  rw [hz2]; have h : ((bytes * n : Nat) : Int) ≤ 281474976710656 := by omega
  rwa [Int.natCast_mul] at h
 have hr := run_make (P := P) w t e i0 _ E.ht hi hz0 .i64 .i64 n n (by omega) (by omega) hb' (by omega)
 simp only [Int.toNat_natCast] at hr
 rw [hr, hz1]
 have : (Value.agg #[I 0, I 0, I 0]).cells = #[I 0, I 0, I 0] := rfl
 rw [this, made_stp]
theorem el_step : ElemOk Tryz.prog 127 130 3 24 (.agg #[I 0, I 0, I 0]) := ⟨Tryz.underlying127, by kernel_rfl, rfl, by omega⟩
theorem pairs_ix0 (a b : Int) (w : World) : (Instr.index 204 (.agg #[I a, I b, I b, I a]) (I 0)).run Tryz.prog w = .ok (.agg #[I a, I b]) w := by
 have u1 := Tryz.underlying204
 have a1 := Tryz.isAgg203
 have z1 := Tryz.sizeOf203
 simp only [Instr.index]
 go_simp
theorem pairs_ix1 (a b : Int) (w : World) : (Instr.index 204 (.agg #[I a, I b, I b, I a]) (I 1)).run Tryz.prog w = .ok (.agg #[I b, I a]) w := by
 have u1 := Tryz.underlying204
 have a1 := Tryz.isAgg203
 have z1 := Tryz.sizeOf203
 simp only [Instr.index]
 go_simp

theorem getD_set_stp {l : List Stp} {y i : Nat} {s : Stp} (hy : y < l.length) : (l.set y s).getD i default = if y = i then s else l.getD i default := by
 simp only [List.getD_eq_getElem?_getD, List.getElem?_set]
 split
 ·simp_all
 ·rfl
def wayF (l : List Stp) : Nat → Nat → List Int
 | 0, _ => []
 | f + 1, i => if (l.getD i default).before < 0 then [] else (l.getD i default).track :: wayF l f (l.getD i default).before.toNat
structure TreeOk (n : Nat) (l : List Stp) : Prop where
 ok : StOk n l
 tree : ∀ i, i < n → 0 ≤ (l.getD i default).before → (l.getD i default).before < n ∧ (l.getD (l.getD i default).before.toNat default).minutes < (l.getD i default).minutes
theorem TreeOk.relax {n x y : Nat} {l : List Stp} {m no : Int} (h : TreeOk n l) (hm : 1 ≤ m) (hx : x < n) (hy : y < n) : TreeOk n (relax1 l x y m no) := by
 refine ⟨h.ok.relax (by omega) hx hy, ?_⟩
 unfold relax1
 split
 ·rename_i hlt
  have hyl : y < l.length := by rw [h.ok.len]; exact hy
  have hxy : y ≠ x := by rintro rfl; omega
  intro i hi hb
  rw [getD_set_stp hyl] at hb ⊢
  split
  ·rw [getD_set_stp hyl]
   simp only [Int.toNat_natCast]
   rw [if_neg hxy]
   omega
  ·rename_i hyi
   rw [if_neg hyi] at hb
   obtain ⟨t1, t2⟩ := h.tree i hi hb
   refine ⟨t1, ?_⟩
   rw [getD_set_stp hyl]
   split
   ·rename_i hby
    rw [← hby] at t2
    simp only
    omega
   ·exact t2
 ·exact h.tree
theorem TreeOk.track {n : Nat} {ss : List Site} {t : Track} {l : List Stp} (h : TreeOk n l) (hm : 1 ≤ t.minutes) (ha : pA ss t < n) (hb : pB ss t < n) : TreeOk n (relaxT ss l t) := (h.relax hm ha hb).relax hm hb ha
theorem TreeOk.foldl {n : Nat} {ss : List Site} {ts : List Track} {l : List Stp} (h : TreeOk n l) (ht : ∀ t ∈ ts, 1 ≤ t.minutes ∧ pA ss t < n ∧ pB ss t < n) : TreeOk n (ts.foldl (relaxT ss) l) := by
 induction ts generalizing l with
 | nil => exact h
 | cons t ts ih =>
  have h1 := ht t (List.mem_cons_self ..)
  exact ih (h.track h1.1 h1.2.1 h1.2.2) fun t' h' => ht t' (List.mem_cons_of_mem _ h')
theorem TreeOk.rounds {n : Nat} {ss : List Site} {ts : List Track} {l : List Stp} (h : TreeOk n l) (ht : ∀ t ∈ ts, 1 ≤ t.minutes ∧ pA ss t < n ∧ pB ss t < n) : ∀ k, TreeOk n (relaxN ss ts l k)
 | 0 => h
 | k + 1 => (TreeOk.rounds h ht k).foldl ht
theorem TreeOk.start {n start : Nat} (h : start < n) : TreeOk n (startF n start) :=
 ⟨StOk.start n start, fun i hi hb => by
  unfold startF at hb
  rw [getD_set_stp (by simpa using h)] at hb
  split at hb
  ·simp at hb
  ·simp [hi] at hb⟩
theorem wayF_mono {n : Nat} {l : List Stp} (h : TreeOk n l) : ∀ (f g i : Nat), i < n → (l.getD i default).minutes.toNat < f → f ≤ g → wayF l g i = wayF l f i
 | 0, _, _, _, hf, _ => by omega
 | f + 1, 0, _, _, _, hg => by omega
 | f + 1, g + 1, i, hi, hf, hg => by
  unfold wayF
  split
  ·rfl
  ·rename_i hb
   obtain ⟨t1, t2⟩ := h.tree i hi (by omega)
   have hb0 : (l.getD (l.getD i default).before.toNat default).minutes ≥ 0 := by
    obtain ⟨s, _, hs, h0, _⟩ := h.ok.at_ (i := (l.getD i default).before.toNat) (by omega)
    rw [hs]; exact h0
   rw [wayF_mono h f g _ (by omega) (by omega) (by omega)]
def wayE (ss : List Site) (ts : List Track) (s : Scene) (day frm til : Int) : Int := seenE ss ts s day (sitesB ss [frm, til])
def wayL (ss : List Site) (ts : List Track) (s : Scene) (day frm : Int) : List Stp := quickF ss (openF (hwF s day) ts) (placeS ss frm).toNat
def wayN (ss : List Site) (ts : List Track) (s : Scene) (day frm til : Int) : Int := ((wayL ss ts s day frm).getD (placeS ss til).toNat default).minutes
def wayB (ss : List Site) (ts : List Track) (s : Scene) (day frm til : Int) : Bool := wayE ss ts s day frm til == 0 && !(wayN ss ts s day frm til == farN)
def wayM (ss : List Site) (ts : List Track) (s : Scene) (day frm til : Int) : Int := if wayB ss ts s day frm til then wayN ss ts s day frm til else 0
def wayP (ss : List Site) (ts : List Track) (s : Scene) (day frm til : Int) : List Int :=
 if wayB ss ts s day frm til then (wayF (wayL ss ts s day frm) ((wayN ss ts s day frm til).toNat + 1) (placeS ss til).toNat).reverse else []
def cutB (ss : List Site) (ts : List Track) (s : Scene) (day frm til : Int) : Bool := wayE ss ts s day frm til == 0 && wayN ss ts s day frm til == farN
def cutF (ss : List Site) (l : List Stp) : List Int := ((ss.zip l).filter fun p => decide (p.2.minutes < farN)).map fun p => p.1.no
def cutV (ss : List Site) (ts : List Track) (s : Scene) (day frm til : Int) : List Int := if cutB ss ts s day frm til then cutF ss (wayL ss ts s day frm) else []
end Go.Proofs.YtgbbljfmngmjeaaGreat
