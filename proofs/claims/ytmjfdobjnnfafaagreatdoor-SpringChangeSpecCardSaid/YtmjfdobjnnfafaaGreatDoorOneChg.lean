/- The package spring: Changes. Conditions stand in the theorems. -/
import Derived.Test.YtmjfdobjnnfafaaGreatDoorSpring11Pack
import Derived.Test.YtmjfdobjnnfafaaGreatDoorSpring2Pack
import Derived.Test.YtmjfdobjnnfafaaGreatDoorBasin10
import Derived.Test.YtmjfdobjnnfafaaGreatDoorBasin7Pack
import Derived.Test.YtmjfdobjnnfafaaGreatDoorPoolLibPack
import Derived.Test.YtmjfdobjnnfafaaGreatDoorPlugPack
import Derived.Test.YtmjfdobjnnfafaaGreatDoorAgainElem
set_option linter.all false
set_option maxRecDepth 100000
set_option maxHeartbeats 8000000
namespace Go.Proofs.YtmjfdobjnnfafaaGreatDoor
open Go.RowKit

def chDay (ds : List Int) (k : Nat) : Bool := inB (ds.getD k 0) 0 1048576 && (k == 0 || decide (ds.getD (k - 1) 0 < ds.getD k 0))
def chDays (ds : List Int) : Bool := (List.range ds.length).all (chDay ds)
def chStep (ds : List Int) (k : Nat) : Bool := decide (ds.getD (k + 1) 0 - ds.getD k 0 ≤ 512)
def chSteps (ds : List Int) : Bool := (List.range (ds.length - 1)).all (chStep ds)
def chgsE (c : Climate) (l : List Weather) (b : Basin) (ds : List Int) : Int :=
 if logE c l ≠ 0 then logE c l else if basinE b ≠ 0 then 50 else if chDays ds && inB ds.length 1 16 then (if chSteps ds then 0 else 2) else 1
def chgAt (c : Climate) (l : List Weather) (ds : List Int) (i : Nat) (x : Cell) : Change :=
 ⟨x.no, ds.getD i 0, ds.getD (i + 1) 0, (changeF c l x.height (ds.getD i 0) (ds.getD (i + 1) 0)).1, (changeF c l x.height (ds.getD i 0) (ds.getD (i + 1) 0)).2⟩
def chgsTo (c : Climate) (l : List Weather) (b : Basin) (ds : List Int) (k : Nat) : List Change := (List.range k).flatMap fun i => b.cells.map (chgAt c l ds i)
def chgsV (c : Climate) (l : List Weather) (b : Basin) (ds : List Int) : List Change := if chgsE c l b ds = 0 then chgsTo c l b ds (ds.length - 1) else []
theorem chgsTo_len (c : Climate) (l : List Weather) (b : Basin) (ds : List Int) (k : Nat) : (chgsTo c l b ds k).length = k * b.cells.length := by
 induction k with
 | zero => simp [chgsTo]
 | succ n ih =>
  have : chgsTo c l b ds (n + 1) = chgsTo c l b ds n ++ b.cells.map (chgAt c l ds n) := by simp [chgsTo, List.range_succ]
  rw [this, List.length_append, List.length_map, ih, Nat.succ_mul]
theorem chgsTo_succ (c : Climate) (l : List Weather) (b : Basin) (ds : List Int) (k : Nat) : chgsTo c l b ds (k + 1) = chgsTo c l b ds k ++ (b.cells.take b.cells.length).map (chgAt c l ds k) := by
 rw [List.take_length]
 simp [chgsTo, List.range_succ]
theorem chgs_snoc {c : Climate} {l : List Weather} {ds : List Int} {k j : Nat} {xs : List Cell} {x : Cell} {d0 d1 lo hi : Int} {L : List Change} (hx : xs[j]? = some x) (h0 : ds[k]? = some d0) (h1 : ds[k + 1]? = some d1) (hP : changeF c l x.height d0 d1 = (lo, hi)) :
  L ++ (xs.take (j + 1)).map (chgAt c l ds k) = (L ++ (xs.take j).map (chgAt c l ds k)) ++ [⟨x.no, d0, d1, lo, hi⟩] := by
 rw [take_succ_of hx, List.map_append, ← List.append_assoc]
 simp [chgAt, h0, h1, hP]
theorem chDay_get {ds : List Int} {k : Nat} {d : Int} (h : ds[k]? = some d) (hg : chDay ds k = true) : 0 ≤ d ∧ d ≤ 1048576 := by
 have e0 : ds.getD k 0 = d := by simp [List.getD_eq_getElem?_getD, h]
 simp only [chDay, e0, Bool.and_eq_true] at hg
 exact inB_true.1 hg.1
theorem chDay_lt {ds : List Int} {k : Nat} {d d' : Int} (h : ds[k]? = some d) (h' : ds[k + 1]? = some d') (hg : chDay ds (k + 1) = true) : d < d' := by
 simp [chDay, h, h'] at hg
 exact hg.2
theorem chDay_zero {ds : List Int} {d : Int} {q : Bool} (h : ds[0]? = some d) (hq : inB d 0 1048576 = q) : chDay ds 0 = q := by
 simp [chDay, h, hq]
theorem chDay_out {ds : List Int} {k : Nat} {d : Int} (h : ds[k]? = some d) (hq : inB d 0 1048576 = false) : chDay ds k = false := by
 simp [chDay, h, hq]
theorem chDay_pair {ds : List Int} {k : Nat} {d d' : Int} (h : ds[k]? = some d) (h' : ds[k + 1]? = some d') (hq : inB d' 0 1048576 = true) : chDay ds (k + 1) = decide (d < d') := by
 simp [chDay, h, h', hq]
theorem chStep_at {ds : List Int} {k : Nat} {d d' : Int} (h : ds[k]? = some d) (h' : ds[k + 1]? = some d') : chStep ds k = decide (d' - d ≤ 512) := by
 have e0 : ds.getD k 0 = d := by simp [List.getD_eq_getElem?_getD, h]
 have e1 : ds.getD (k + 1) 0 = d' := by simp [List.getD_eq_getElem?_getD, h']
 simp only [chStep, e0, e1]
theorem chgs_log {c : Climate} {l : List Weather} {b : Basin} {ds : List Int} (h : logE c l ≠ 0) : chgsE c l b ds = logE c l ∧ chgsV c l b ds = [] := by
 have : chgsE c l b ds = logE c l := by simp [chgsE, h]
 exact ⟨this, by rw [chgsV, if_neg (by rw [this]; exact h)]⟩
theorem chgs_basin {c : Climate} {l : List Weather} {b : Basin} {ds : List Int} (h : logE c l = 0) (h2 : basinE b ≠ 0) : chgsE c l b ds = 50 ∧ chgsV c l b ds = [] := by
 have : chgsE c l b ds = 50 := by simp [chgsE, h, h2]
 exact ⟨this, by rw [chgsV, if_neg (by rw [this]; decide)]⟩
theorem chgs_day {c : Climate} {l : List Weather} {b : Basin} {ds : List Int} (h : logE c l = 0) (h2 : basinE b = 0) {k : Nat} (hk : k < ds.length) (hb : chDay ds k = false) : chgsE c l b ds = 1 ∧ chgsV c l b ds = [] := by
 have h3 : chDays ds = false := all_of_not hk hb
 have : chgsE c l b ds = 1 := by simp [chgsE, h, h2, h3]
 exact ⟨this, by rw [chgsV, if_neg (by rw [this]; decide)]⟩
theorem chgs_len {c : Climate} {l : List Weather} {b : Basin} {ds : List Int} (h : logE c l = 0) (h2 : basinE b = 0) (hb : inB ds.length 1 16 = false) : chgsE c l b ds = 1 ∧ chgsV c l b ds = [] := by
 have : chgsE c l b ds = 1 := by simp [chgsE, h, h2, hb]
 exact ⟨this, by rw [chgsV, if_neg (by rw [this]; decide)]⟩
theorem chgs_step {c : Climate} {l : List Weather} {b : Basin} {ds : List Int} (h : logE c l = 0) (h2 : basinE b = 0) (h3 : AllTo (chDay ds) ds.length) (h4 : inB ds.length 1 16 = true) {k : Nat} (hk : k + 1 < ds.length) (hb : chStep ds k = false) : chgsE c l b ds = 2 ∧ chgsV c l b ds = [] := by
 have h5 : chSteps ds = false := all_of_not (show k < ds.length - 1 by omega) hb
 have h6 : chDays ds = true := AllTo.all h3
 have : chgsE c l b ds = 2 := by simp [chgsE, h, h2, h4, h5, h6]
 exact ⟨this, by rw [chgsV, if_neg (by rw [this]; decide)]⟩
theorem chgs_all {c : Climate} {l : List Weather} {b : Basin} {ds : List Int} (h : logE c l = 0) (h2 : basinE b = 0) (h3 : AllTo (chDay ds) ds.length) (h4 : inB ds.length 1 16 = true) (hb : AllTo (chStep ds) (ds.length - 1)) : chgsE c l b ds = 0 ∧ chgsV c l b ds = chgsTo c l b ds (ds.length - 1) := by
 have h5 : chSteps ds = true := AllTo.all hb
 have h6 : chDays ds = true := AllTo.all h3
 have : chgsE c l b ds = 0 := by simp [chgsE, h, h2, h4, h5, h6]
 exact ⟨this, by rw [chgsV, if_pos this]⟩
theorem basinOk_of {b : Basin} (h : basinE b = 0) : basinOk b = true := by
 unfold basinE at h
 split at h
 ·assumption
 ·cases h
theorem basin_cells {b : Basin} (h : basinE b = 0) : (1 ≤ b.cells.length ∧ b.cells.length ≤ 12) ∧ ∀ x ∈ b.cells, 0 ≤ x.height ∧ x.height ≤ 9000 := by
 cases hh : b.headOk with
 | false => rw [basinOk_head hh] at h; cases h
 | true =>
  refine ⟨(Basin.headOk_of hh).1, fun x hx => ?_⟩
  obtain ⟨i, hi⟩ := List.getElem?_of_mem hx
  have hl : i < b.cells.length := by
   rcases Nat.lt_or_ge i b.cells.length with h' | h'
   ·exact h'
   ·rw [List.getElem?_eq_none h'] at hi; cases hi
  cases hg : cellGood b.cells i with
  | false => rw [basinOk_cell (all_of_not hl hg)] at h; cases h
  | true =>
   simp only [cellGood, getD_of hi, Bool.and_eq_true, cellOk] at hg
   exact inB_true.1 hg.1.1.1.2
theorem spring_chF (c : Climate) (v : Value) (l : List Weather) (h a : Int) (n : Nat) (w : World) (hlo : LogOk c l) (hh : 0 ≤ h ∧ h ≤ 9000) (ha : 0 ≤ a) (hn : n ≤ 512) (hb : a + n ≤ 1048576) (hv : Sl w 3 Weather.cells v l) :
  Calls Tryz.prog 134 #[c.v, v, I h, I a, I (a + n)] w fun e w' => e = .returned (.agg #[I (changeF c l h a (a + n)).1, I (changeF c l h a (a + n)).2]) ∧ Below w.heap.size w w' := by
 rw [changeF_eq hlo.clim hlo.mem]
 exact spring_change c v l h a n w hlo.clim hlo.mem hh ha hn hb hv
theorem step_push {P : Program} {α : Type} {t e k bytes : Nat} {z : Value} (E : ElemOk P t e k bytes z) {enc : α → List Value} (hlen : ∀ x, (enc x).length = k) (hone : ∀ x, ∀ u ∈ enc x, u.oneCell' = true)
  {w : World} {ops : Array Oper} {o : Oper} {a : Act} {K : Act → World → Prop} {Q : Exit → Act → World → Prop} {F : Prop} (hgd : o.guard = none) (s x : Operand)
  (ho : o.op = .call { callee := .builtin .append, args := #[s, x], argTypes := #[t, t] })
  (base : Nat) {v : Value} {xs : List α} (hs : a.eval s = v) (hown : Own w base e k enc v xs) (y : α) {g c : Nat} (hx : a.eval x = .slice (some ⟨g, 0, none⟩) 1 c)
  (hy : ∀ j u, (enc y)[j]? = some u → w.cell? ⟨g, j, none⟩ = some u) (hlb : (xs.length + 1) * bytes ≤ 140737488355328) (hl : xs.length ≤ 140737488355328) (hbase : base ≤ w.heap.size)
  (h : ∀ v' w', Own w' base e k enc v' (xs ++ [y]) → Below base w w' → K (a.put o.dst v') w') : if Region.wanted o (yielded ops a.tmps) = true then Oper.wp P o a w K Q else F :=
 step_push_by E hlen hone hgd s x ho base hs hown y hx hy hlb hl hbase fun v' w' h1 h2 => h v' w' h1 ((Below.refl _ _).grown h2 hbase fun g' hg' => (ownBlock_lt hown g' hg').1)

theorem Blk.cells5 {w : World} {g : Nat} {t : TypeId} {a b c d e : Value} (h : Blk w g t #[a, b, c, d, e]) : w.cell? ⟨g, 0, none⟩ = some a ∧ w.cell? ⟨g, 1, none⟩ = some b ∧ w.cell? ⟨g, 2, none⟩ = some c ∧ w.cell? ⟨g, 3, none⟩ = some d ∧ w.cell? ⟨g, 4, none⟩ = some e :=
 ⟨h.cell 0, h.cell 1, h.cell 2, h.cell 3, h.cell 4⟩
theorem spring_Changes (c : Climate) (v vc vp vd : Value) (l : List Weather) (b : Basin) (ds : List Int) (w : World) (hv : Sl w 3 Weather.cells v l) (hc : Sl w 4 Cell.cells vc b.cells) (hp : Sl w 2 pairC vp b.pairs) (hd : Sl w 1 intC vd ds) :
  Calls Tryz.prog 57 #[c.v, v, b.v vc vp, vd] w fun e w' => ∃ vr, e = .returned (.tuple #[vr, I (chgsE c l b ds)]) ∧ Own w' w.heap.size 92 5 Change.cells vr (chgsV c l b ds) ∧ Below w.heap.size w w' := by
 have H1 := fun w hv => spring_CheckLog c v l w hv
 have H2 := fun w hc hp => basin_CheckBasin b vc vp w hc hp
 obtain ⟨A, nA, rfl, _, _, hlenA, hA⟩ := hc.open_
 obtain ⟨D, nD, rfl, _, _, hlenD, hD⟩ := hd.open_
 obtain ⟨P0, nP, rfl, _⟩ := hp.open_
 obtain ⟨V, hV⟩ : ∃ V, chgsV c l b ds = V := ⟨_, rfl⟩
 obtain ⟨E, hE⟩ : ∃ E, chgsE c l b ds = E := ⟨_, rfl⟩
 rw [hV, hE]
 replace hA := hide hA
 replace hD := hide hD
 (try unfold Basin.v at *)
 by_cases hL : logE c l = 0
 ·have hlo := LogOk.of hL
  rw [hL] at H1
  by_cases hS : basinE b = 0
  ·have hbc := basin_cells hS
   rw [hS] at H2
   have u1 := hide (fun k hk h => chgs_day (ds := ds) (k := k) hL hS hk h)
   have u2 := hide (fun h => chgs_len (ds := ds) hL hS h)
   have u3 := hide (fun h3 h4 k hk h => chgs_step (ds := ds) (k := k) hL hS h3 h4 hk h)
   have u4 := hide (fun h3 h4 h => chgs_all (ds := ds) hL hS h3 h4 h)
   rw [hV, hE] at u1 u2 u3 u4
   replace hV := hide hV
   clear hV hE hL hS
   obtain ⟨⟨hl1, hl2⟩, hht⟩ := hbc
   obtain ⟨gc, oc, rfl, hgc⟩ := hA.out 0 (by omega)
   clear hA
   have HC := hide (fun (x : Cell) (hx : x ∈ b.cells) (a : Int) (n : Nat) (ha : 0 ≤ a) (hn : n ≤ 512) (hb : a + n ≤ 1048576) w hv => spring_chF c v l x.height a n w hlo (hht x hx) ha hn hb hv)
   replace hht := hide hht
   replace hlo := hide hlo
   (try unfold Climate.v at *)
   replace hv := hide hv
   replace hc := hide hc
   replace hp := hide hp
   replace hd := hide hd
   replace H1 := hide H1
   replace H2 := hide H2
   go_enter Tryz.func57, Tryz.ntmps57
   go_wp2_with (first | (go_at_call 25; refine (H1.out _ (hv.out.mono (below2 _ _ _))).mono ?_; clear H1; rintro e w1 ⟨rfl, hb1⟩; obtain ⟨_, q0, q1, q2, q3, q4, q5, q6, q7⟩ := (((Blk.new w 25 (c8 c)).alloc _).grow hb1).clim; obtain ⟨p0, p1, p2, p3, p4⟩ := ((blk21 w 58 #[.slice (some ⟨gc, oc, none⟩) b.cells.length nA, .slice P0 b.pairs.length nP, I b.gain, I b.slack, I b.deep] _).grow hb1).cells5; have zz1 := (((Blk.new w 25 (c8 c)).alloc (.cells #[.slice (some ⟨gc, oc, none⟩) b.cells.length nA, .slice P0 b.pairs.length nP, I b.gain, I b.slack, I b.deep] 58)).grow hb1).lt; have zz2 := ((blk21 w 58 #[.slice (some ⟨gc, oc, none⟩) b.cells.length nA, .slice P0 b.pairs.length nP, I b.gain, I b.slack, I b.deep] (.cells (c8 c) 25)).grow hb1).lt) | (go_at_call 60; refine (H2.out _ (hc.out.mono (bup (below2 _ _ _) hb1)) (hp.out.mono (bup (below2 _ _ _) hb1))).mono ?_; clear H2; rintro e w2 ⟨rfl, hb2⟩))
   have kC := hide ((((Blk.new w 25 (c8 c)).alloc (.cells #[.slice (some ⟨gc, oc, none⟩) b.cells.length nA, .slice P0 b.pairs.length nP, I b.gain, I b.slack, I b.deep] 58)).grow hb1).grow hb2)
   have kS := hide (((blk21 w 58 #[.slice (some ⟨gc, oc, none⟩) b.cells.length nA, .slice P0 b.pairs.length nP, I b.gain, I b.slack, I b.deep] (.cells (c8 c) 25)).grow hb1).grow hb2)
   have kB := hide (bup (bup (below2 _ _ _) hb1) hb2)
   clear hb1 q0 q1 q2 q3 q4 q5 q6 q7 p0 p1 p2 p3 p4 zz1 zz2
   go_loopw [28] (fun i wr => ∃ k : Nat, k ≤ ds.length ∧ i = I k ∧ Hid (AllTo (chDay ds) k) ∧ Hid (Below w2.heap.size w2 wr)) (fun i _ => ds.length - (intOf i).toNat)
   case atStart => exact ⟨0, Nat.zero_le _, rfl, hide (AllTo.zero _), hide (Below.refl _ _)⟩
   case round =>
    obtain ⟨k, hk, rfl, hn, hb⟩ := hrel
    by_cases hlt : k < ds.length
    ·obtain ⟨gd, od, rfl, hgd⟩ := hD.out k hlt
     obtain ⟨y, hy⟩ := getElem?_of_lt hlt
     obtain ⟨hby, e0⟩ := (hd.out.mono (bup kB.out hb.out)).int_at hy
     cases h1 : inB y 0 1048576 with
     | false =>
      obtain ⟨r1, r2⟩ := u1.out k hlt (chDay_out hy h1)
      subst r1 r2
      clear u1 u2 u3 u4 hn HC
      replace hy := hide hy
      go_wp2_with fail
      (refine wp_region_grow (by kernel_rfl) (by kernel_rfl) ?_; (repeat (first | go_big_quiet_skip | (go_big_quiet_want; go_big_quiet_op; first | go_big_quiet_on | (apply Exists.intro; refine ⟨fun _ => ?_, ?_⟩; (focus ((go_at_call 107; exact calls_grew_same (spring_day _ _)))); go_big_quiet_on)))); refine wpQuiet_nil ?_; rintro W1 ⟨⟨_, hW1⟩, rfl⟩)
      go_wp2_with fail
      go_ret2
      exact ⟨_, rfl, Own.nil_ _ _ _ _ _, bup kB.out (bup hb.out hW1)⟩
     | true =>
      rcases Nat.lt_or_ge 0 k with hk0 | hk0
      ·obtain ⟨m, hm⟩ : ∃ m, k = m + 1 := ⟨k - 1, by omega⟩
       obtain ⟨z, hz⟩ := getElem?_of_lt (xs := ds) (k := m) (by omega)
       obtain ⟨_, e1⟩ := (hd.out.mono (bup kB.out hb.out)).int_at hz
       have hpos := chDay_pair hz (by rw [← hm]; exact hy) h1
       rw [← hm] at hpos
       have k1 : IntKind.i64.wrap ((k : Int) - 1) = (m : Int) := by rw [IntWalk.i64_in _ (by omega)]; omega
       have k2 : (0 : Int) ≤ (m : Int) := by omega
       have k3 : (m : Int) < (ds.length : Int) := by omega
       have k4 : (k : Int) < (ds.length : Int) := by omega
       have k5 : (0 : Int) < (k : Int) := by omega
       replace hm := hide hm
       replace hy := hide hy
       replace hz := hide hz
       rcases ilt z y with hd' | hd'
       ·have hyd : decide (y ≤ z) = false := by simp; omega
        have hg := hide (hn.out.succ (by rw [hpos]; simpa using hd'))
        clear u1 u2 u3 u4 hn hpos HC
        go_wp2_with fail
        (refine wp_region_grow (by kernel_rfl) (by kernel_rfl) ?_; (repeat (first | go_big_quiet_skip | (go_big_quiet_want; go_big_quiet_op; first | go_big_quiet_on | (apply Exists.intro; refine ⟨fun _ => ?_, ?_⟩; (focus ((go_at_call 107; exact calls_grew_same (spring_day _ _)))); go_big_quiet_on)))); refine wpQuiet_nil ?_; rintro W1 ⟨⟨_, hW1⟩, rfl⟩)
        go_wp2_with fail
        go_roundw
        case rel => exact ⟨k + 1, by omega, by go_num, hg, hide (bup hb.out hW1)⟩
        case measure => simp [intOf]; omega
       ·have hyd : decide (y ≤ z) = true := by simp; omega
        obtain ⟨r1, r2⟩ := u1.out k hlt (by rw [hpos]; simp; omega)
        subst r1 r2
        clear u1 u2 u3 u4 hn hpos HC
        go_wp2_with fail
        (refine wp_region_grow (by kernel_rfl) (by kernel_rfl) ?_; (repeat (first | go_big_quiet_skip | (go_big_quiet_want; go_big_quiet_op; first | go_big_quiet_on | (apply Exists.intro; refine ⟨fun _ => ?_, ?_⟩; (focus ((go_at_call 107; exact calls_grew_same (spring_day _ _)))); go_big_quiet_on)))); refine wpQuiet_nil ?_; rintro W1 ⟨⟨_, hW1⟩, rfl⟩)
        go_wp2_with fail
        go_ret2
        exact ⟨_, rfl, Own.nil_ _ _ _ _ _, bup kB.out (bup hb.out hW1)⟩
      ·have hkd : decide (0 < k) = false := by simp; omega
       have hg := hide (hn.out.succ (by
        obtain rfl : k = 0 := by omega
        exact chDay_zero hy h1))
       replace hy := hide hy
       clear u1 u2 u3 u4 hn HC
       go_wp2_with fail
       (refine wp_region_grow (by kernel_rfl) (by kernel_rfl) ?_; (repeat (first | go_big_quiet_skip | (go_big_quiet_want; go_big_quiet_op; first | go_big_quiet_on | (apply Exists.intro; refine ⟨fun _ => ?_, ?_⟩; (focus ((go_at_call 107; exact calls_grew_same (spring_day _ _)))); go_big_quiet_on)))); refine wpQuiet_nil ?_; rintro W1 ⟨⟨_, hW1⟩, rfl⟩)
       go_wp2_with fail
       go_roundw
       case rel => exact ⟨k + 1, by omega, by go_num, hg, hide (bup hb.out hW1)⟩
       case measure => simp [intOf]; omega
    ·have he : k = ds.length := by omega
     subst he
     clear hk
     cases h4 : inB ds.length 1 16 with
     | false =>
      obtain ⟨r1, r2⟩ := u2.out h4
      subst r1 r2
      clear u1 u2 u3 u4 hn HC
      go_wp2_with (go_at_call 88; refine (spring_in _ _ _ _).mono ?_; rintro e w' ⟨rfl, rfl⟩)
      go_ret2
      exact ⟨_, rfl, Own.nil_ _ _ _ _ _, bup kB.out hb.out⟩
     | true =>
      have h4' := inB_true.1 h4
      have hn1 : 1 ≤ ds.length := by omega
      have hn2 : ds.length ≤ 16 := by omega
      clear h4'
      obtain ⟨gd, od, rfl, hgd⟩ := hD.out 0 (by omega)
      clear hD u1 u2
      go_wp2_with (go_at_call 88; refine (spring_in _ _ _ _).mono ?_; rintro e w' ⟨rfl, rfl⟩)
      have kC1 := hide (kC.out.grow hb.out)
      have kS1 := hide (kS.out.grow hb.out)
      have kB1 := hide (bup kB.out hb.out)
      clear kC kS kB hb
      obtain ⟨Q0, rfl⟩ : ∃ Q, Q = wr := ⟨_, rfl⟩
      obtain ⟨B, hB⟩ : ∃ B, Q0.heap.size = B := ⟨_, rfl⟩
      have hwB : w.heap.size + 1 < B := by have := kS1.out.lt; omega
      replace hB := hide hB
      replace h4 := hide h4
      go_loopw [12, 13] (fun vo i wr => ∃ k m : Nat, m = k + 1 ∧ m ≤ ds.length ∧ i = I m ∧ Hid (AllTo (chStep ds) k) ∧ Hid (Own wr B 92 5 Change.cells vo (chgsTo c l b ds k)) ∧ Hid (Below B Q0 wr) ∧ B ≤ wr.heap.size) (fun _ i _ => ds.length - (intOf i).toNat)
      case atStart => exact ⟨0, 1, rfl, hn1, rfl, hide (AllTo.zero _), hide (Own.nil_ _ _ _ _ _), hide (Below.refl _ _), by rw [hB.out]; exact Nat.le_refl _⟩
      case round =>
       obtain ⟨k, m, hm, hmk, rfl, hst, ho, hbr, hBs⟩ := hrel
       by_cases hlt : m < ds.length
       ·have hlt2 := hlt
        obtain ⟨d0, hd0⟩ := getElem?_of_lt (xs := ds) (k := k) (by omega)
        obtain ⟨d1, hd1⟩ := getElem?_of_lt hlt
        have b0 := chDay_get hd0 (hn.out k (by omega))
        have b1 := chDay_get hd1 (hn.out m (by omega))
        have h01 : d0 < d1 := chDay_lt hd0 (by rw [← hm]; exact hd1) (by rw [← hm]; exact hn.out m (by omega))
        have k1 : IntKind.i64.wrap ((m : Int) - 1) = (k : Int) := by rw [IntWalk.i64_in _ (by omega)]; omega
        have k2 : (0 : Int) ≤ (k : Int) := by omega
        have k3 : (k : Int) < (ds.length : Int) := by omega
        have k4 : (m : Int) < (ds.length : Int) := by omega
        have k5 : (0 : Int) ≤ (m : Int) := by omega
        have kBr := bup kB1.out (hbr.out.mono (Nat.le_of_eq hB.out))
        obtain ⟨hz0, c0⟩ := (hd.out.mono kBr).int_at hd0
        obtain ⟨_, c1⟩ := (hd.out.mono kBr).int_at hd1
        have hsp := chStep_at hd0 (by rw [← hm]; exact hd1)
        have k6 : IntKind.i64.wrap (d1 - d0) = d1 - d0 := IntWalk.i64_in _ (by omega)
        rcases ilt 512 (d1 - d0) with hg | hg
        ·obtain ⟨r1, r2⟩ := u3.out hn.out h4.out k (by omega) (by rw [hsp]; simp; omega)
         subst r1 r2
         clear u3 u4 hn hst ho HC hsp hd0 hd1 b0 b1 hm
         go_wp2_with fail
         (refine wp_region_grow (by kernel_rfl) (by kernel_rfl) ?_; (repeat (first | go_big_quiet_skip | (go_big_quiet_want; go_big_quiet_op; first | go_big_quiet_on | (apply Exists.intro; refine ⟨fun _ => ?_, ?_⟩; (focus (fail)); go_big_quiet_on)))); refine wpQuiet_nil ?_; rintro W1 ⟨⟨_, hW1⟩, rfl⟩)
         go_wp2_with fail
         go_ret2
         exact ⟨_, rfl, Own.nil_ _ _ _ _ _, bup kBr hW1⟩
        ·have hst2 := hide (hst.out.succ (by rw [hsp]; simpa using hg))
         obtain ⟨n, hdn⟩ : ∃ n : Nat, d1 = d0 + n := ⟨(d1 - d0).toNat, by omega⟩
         subst hdn
         have hn5 : n ≤ 512 := by omega
         have hd0' := hide hd0
         have hd1' := hide hd1
         have b0' := hide b0.1
         have b1' := hide b1.2
         replace hm := hide hm
         clear hd0 hd1 hsp hst b0 b1
         go_wp2_with fail
         (refine wp_region_grow (by kernel_rfl) (by kernel_rfl) ?_; (repeat (first | go_big_quiet_skip | (go_big_quiet_want; go_big_quiet_op; first | go_big_quiet_on | (apply Exists.intro; refine ⟨fun _ => ?_, ?_⟩; (focus (fail)); go_big_quiet_on)))); refine wpQuiet_nil ?_; rintro W1 ⟨⟨_, hW1⟩, rfl⟩)
         have ho2 := hide (ho.out.below hW1)
         have hbr2 := hide (hbr.out.trans (hW1.mono hBs))
         have hBs2 : B ≤ W1.heap.size := Nat.le_trans hBs hW1.size
         clear ho hbr hBs kBr hW1
         replace k1 := hide k1
         obtain ⟨_, q0, q1, q2, q3, q4⟩ : w.heap.size + 1 < W1.heap.size ∧ _ := ⟨Nat.lt_of_lt_of_le hwB hBs2, (kS1.out.below hbr2.out hwB).cells5⟩
         clear c0 c1 hz0
         go_wp2_with fail
         clear q0 q1 q2 q3 q4
         go_loopw [12, 78] (fun vo j wr => ∃ i : Nat, i ≤ b.cells.length ∧ j = I i ∧ Hid (Own wr B 92 5 Change.cells vo (chgsTo c l b ds k ++ (b.cells.take i).map (chgAt c l ds k))) ∧ Hid (Below B Q0 wr) ∧ B ≤ wr.heap.size) (fun _ j _ => b.cells.length - (intOf j).toNat)
         case atStart => exact ⟨0, Nat.zero_le _, rfl, hide (by simpa using ho2.out), hbr2, hBs2⟩
         case round =>
          clear ho2 hbr2 hBs2
          obtain ⟨i, hi, rfl, ho, hbr, hBs⟩ := hrel
          by_cases hli : i < b.cells.length
          ·obtain ⟨x, hx⟩ := getElem?_of_lt hli
           have hxm := List.mem_of_getElem? hx
           have kBr := bup kB1.out (hbr.out.mono (Nat.le_of_eq hB.out))
           obtain ⟨hzx, e0, e1, e2, e3⟩ := (hc.out.mono kBr).cell_at hx
           obtain ⟨P, hP⟩ : ∃ P, changeF c l x.height d0 (d0 + n) = P := ⟨_, rfl⟩
           have HX := HC.out x hxm d0 n b0'.out hn5 b1'.out
           rw [hP] at HX
           obtain ⟨lo, hi'⟩ := P
           simp only at HX
           have hsn := hide (chgs_snoc (L := chgsTo c l b ds k) hx hd0'.out (by rw [← hm.out]; exact hd1'.out) hP)
           have hll : Hid ((chgsTo c l b ds k ++ (b.cells.take i).map (chgAt c l ds k)).length ≤ 300) := hide (by
            rw [List.length_append, chgsTo_len, List.length_map, List.length_take]
            have := Nat.mul_le_mul (show k ≤ 16 by omega) hl2
            omega)
           replace HX := hide HX
           replace hx := hide hx
           clear hP hxm
           go_wp2_with fail
           clear e0 e1 e2 e3 hzx
           obtain ⟨W2, hW2⟩ : ∃ W2, W2 = wr.alloc (.cells #[I x.no, I x.height, I x.aspect, I x.area] 89) := ⟨_, rfl⟩
           have kX : Blk W2 wr.heap.size 89 #[I x.no, I x.height, I x.aspect, I x.area] := by rw [hW2]; exact Blk.new _ _ _
           have hbX : Below wr.heap.size wr W2 := by rw [hW2]; exact below1 _ _
           rw [← hW2]
           clear hW2
           obtain ⟨gX, hgX⟩ : ∃ z, wr.heap.size = z := ⟨_, rfl⟩
           rw [hgX] at kX ⊢
           have hbQ2 : Below B Q0 W2 := hbr.out.trans (hbX.mono hBs)
           have hB2 : B ≤ W2.heap.size := Nat.le_trans hBs hbX.size
           have ho2 := hide (ho.out.below hbX)
           have kB2 := bup kBr hbX
           clear ho hbr hBs kBr hbX hgX
           obtain ⟨hz0, c0⟩ := (hd.out.mono kB2).int_at hd0'.out
           obtain ⟨_, c1⟩ := (hd.out.mono kB2).int_at hd1'.out
           have kC2 : Blk W2 w.heap.size 25 (c8 c) := kC1.out.below hbQ2 (by omega)
           have hvW := hv.out.mono kB2
           have HSw : Hid (∀ W : World, Below W2.heap.size W2 W → (fun W : World => W.cell? ⟨w.heap.size, 0, none⟩ = some (I c.base) ∧ W.cell? ⟨w.heap.size, 1, none⟩ = some (I c.lapse) ∧ W.cell? ⟨w.heap.size, 2, none⟩ = some (I c.swing) ∧ W.cell? ⟨w.heap.size, 3, none⟩ = some (I c.wettest) ∧ W.cell? ⟨w.heap.size, 4, none⟩ = some (I c.coldest) ∧ W.cell? ⟨w.heap.size, 5, none⟩ = some (I c.warmest) ∧ W.cell? ⟨w.heap.size, 6, none⟩ = some (I c.flo) ∧ W.cell? ⟨w.heap.size, 7, none⟩ = some (I c.fhi) ∧ W.cell? ⟨gX, 1, none⟩ = some (I x.height) ∧ W.cell? ⟨gd, od + k, none⟩ = some (I d0) ∧ W.cell? ⟨gd, od + m, none⟩ = some (I (d0 + n))) W) := hide fun W hW => by
            have kc := kC2.grow hW
            have kx := kX.grow hW
            exact ⟨kc.cell 0, kc.cell 1, kc.cell 2, kc.cell 3, kc.cell 4, kc.cell 5, kc.cell 6, kc.cell 7, kx.cell 1, (hW.cell (p := ⟨gd, od + k, none⟩) hz0).trans c0, (hW.cell (p := ⟨gd, od + m, none⟩) hz0).trans c1⟩
           replace kX := hide kX
           replace hvW := hide hvW
           replace kB2 := hide kB2
           replace hbQ2 := hide hbQ2
           clear c0 c1 kC2 hz0
           obtain ⟨hi, hhi⟩ : ∃ z, z = hi' := ⟨_, rfl⟩
           subst hhi
           replace k1 := k1.out
           refine wp_region_zg (S := fun W => W.cell? ⟨w.heap.size, 0, none⟩ = some (I c.base) ∧ W.cell? ⟨w.heap.size, 1, none⟩ = some (I c.lapse) ∧ W.cell? ⟨w.heap.size, 2, none⟩ = some (I c.swing) ∧ W.cell? ⟨w.heap.size, 3, none⟩ = some (I c.wettest) ∧ W.cell? ⟨w.heap.size, 4, none⟩ = some (I c.coldest) ∧ W.cell? ⟨w.heap.size, 5, none⟩ = some (I c.warmest) ∧ W.cell? ⟨w.heap.size, 6, none⟩ = some (I c.flo) ∧ W.cell? ⟨w.heap.size, 7, none⟩ = some (I c.fhi) ∧ W.cell? ⟨gX, 1, none⟩ = some (I x.height) ∧ W.cell? ⟨gd, od + k, none⟩ = some (I d0) ∧ W.cell? ⟨gd, od + m, none⟩ = some (I (d0 + n))) 15 (by kernel_rfl) (by kernel_rfl) ?_
           have hHeld := HSw.out W2.drew (Below.refl _ _).drew
           (refine zg_tk 0 ?_; refine zg_tk 1 ?_; refine zg_tk 2 ?_; refine zg_tk 3 ?_; refine zg_tk 4 ?_; refine zg_tk 5 ?_; refine zg_tk 6 ?_; refine zg_tk 7 ?_; refine zg_tk 8 ?_; refine zg_tk 9 ?_; refine zg_tk 10 ?_; refine zg_tk 11 ?_; refine zg_tk 12 ?_; (try simp only [Act.put, List.setIfInBounds_toArray, List.set_cons_zero, List.set_cons_succ]))
           apply via
           case f =>
            intro key
            refine zg_two (i := 13) (j := 14) (by decide) (by decide) rfl rfl (by kernel_rfl) (fun K_ hK_ => ?_) (fun K_ hK_ => ?_)
            ·go_simp
             refine (HX.out W2.drew (hvW.out.mono (Below.refl _ _).drew)).mono ?_
             rintro e wa ⟨rfl, hba⟩
             have hBa : Below W2.heap.size W2 wa := below_drew' hba
             refine hK_.out _ _ (HSw.out _ hBa) (fun hHeld => ?_)
             clear hK_ K_ hba
             (try simp only [Act.put, List.setIfInBounds_toArray, List.set_cons_zero, List.set_cons_succ])
             refine zg_ready (i := 14) (by decide) rfl (by kernel_rfl) (fun K_ hK_ => ?_)
             go_simp
             obtain ⟨v1, hv1⟩ : ∃ v1, v1 = wa.alloc (.cells #[I 0, I 0] 23) := ⟨_, rfl⟩
             have kN : Blk v1 wa.heap.size 23 #[I 0, I 0] := by rw [hv1]; exact Blk.new _ _ _
             have hBv : Below W2.heap.size W2 v1 := by rw [hv1]; exact bup hBa (below1 _ _)
             have hgN : W2.heap.size ≤ wa.heap.size := hBa.size
             rw [← hv1]
             clear hv1
             refine hK_.out _ _ (HSw.out _ hBv) (fun hHeld => ?_)
             clear hK_ K_
             (try simp only [Act.put, List.setIfInBounds_toArray, List.set_cons_zero, List.set_cons_succ])
             obtain ⟨s0, s1⟩ := kN.cells2
             have s2 := kN.frozen 0
             have s3 := kN.frozen 1
             (refine zg_ls 15 fun K_ hK_ => ?_; go_simp; skip; refine hK_.out _ _ ?_; clear hK_ K_; (try simp only [Act.put, List.setIfInBounds_toArray, List.set_cons_zero, List.set_cons_succ]))
             have hbE := gap_below2 (r := I lo) (s := I hi) hBv hgN
             have hkE := gap_set2 (r := I lo) (s := I hi) kN
             generalize ((v1.setCell ⟨wa.heap.size, 0, none⟩ (I lo)).setCell ⟨wa.heap.size, 1, none⟩ (I hi)) = Wz at hbE hkE ⊢
             clear s0 s1 s2 s3 kN hHeld
             obtain ⟨bs, hbs⟩ : ∃ z, z = wa.heap.size := ⟨_, rfl⟩
             rw [← hbs] at hkE ⊢
             have hgB : W2.heap.size ≤ bs := by rw [hbs]; exact hgN
             clear hbs hgN
             revert hgB
             revert hkE
             revert hbE
             revert bs
             revert Wz
             exact key.out
            ·go_simp
             obtain ⟨v1, hv1⟩ : ∃ v1, v1 = (W2.alloc (.cells #[I 0, I 0] 23)).drew := ⟨_, rfl⟩
             have kN1 : Blk v1 W2.heap.size 23 #[I 0, I 0] := by rw [hv1]; exact Blk.new W2.drew _ _
             have hBv : Below W2.heap.size W2 v1 := by rw [hv1]; exact bup (Below.refl _ _).drew (below1 W2.drew _)
             have hgN : W2.heap.size ≤ W2.heap.size := Nat.le_refl _
             rw [← hv1]
             clear hv1
             refine hK_.out _ _ (HSw.out _ hBv) (fun hHeld => ?_)
             clear hK_ K_
             (try simp only [Act.put, List.setIfInBounds_toArray, List.set_cons_zero, List.set_cons_succ])
             refine zg_ready (i := 13) (by decide) rfl (by kernel_rfl) (fun K_ hK_ => ?_)
             go_simp
             refine (HX.out v1 (hvW.out.mono hBv)).mono ?_
             rintro e wa ⟨rfl, hba⟩
             have hBa : Below W2.heap.size W2 wa := bup hBv hba
             have kN := kN1.grow hba
             refine hK_.out _ _ (HSw.out _ hBa) (fun hHeld => ?_)
             clear hK_ K_ hba kN1 hBv
             (try simp only [Act.put, List.setIfInBounds_toArray, List.set_cons_zero, List.set_cons_succ])
             obtain ⟨s0, s1⟩ := kN.cells2
             have s2 := kN.frozen 0
             have s3 := kN.frozen 1
             (refine zg_ls 15 fun K_ hK_ => ?_; go_simp; skip; refine hK_.out _ _ ?_; clear hK_ K_; (try simp only [Act.put, List.setIfInBounds_toArray, List.set_cons_zero, List.set_cons_succ]))
             have hbE := gap_below2 (r := I lo) (s := I hi) hBa hgN
             have hkE := gap_set2 (r := I lo) (s := I hi) kN
             generalize ((wa.setCell ⟨W2.heap.size, 0, none⟩ (I lo)).setCell ⟨W2.heap.size, 1, none⟩ (I hi)) = Wz at hbE hkE ⊢
             clear s0 s1 s2 s3 kN hHeld
             obtain ⟨bs, hbs⟩ : ∃ z, z = W2.heap.size := ⟨_, rfl⟩
             rw [← hbs] at hkE ⊢
             have hgB : W2.heap.size ≤ bs := by rw [hbs]; exact hgN
             clear hbs hgN
             revert hgB
             revert hkE
             revert hbE
             revert bs
             revert Wz
             exact key.out
           case g =>
            intro Wz bs hbE hkE hgN
            clear HSw HX
            have kX3 := hide (kX.out.grow hbE)
            have kB3 := bup kB2.out hbE
            have hoz := ho2.out.below hbE
            have hbQ := hide (hbQ2.out.trans (hbE.mono hB2))
            have hBz : B ≤ Wz.heap.size := Nat.le_trans hB2 hbE.size
            obtain ⟨hz0, c0⟩ := (hd.out.mono kB3).int_at hd0'.out
            obtain ⟨_, c1⟩ := (hd.out.mono kB3).int_at hd1'.out
            have HSz : Hid (∀ W : World, Below Wz.heap.size Wz W → (fun W : World => W.cell? ⟨gX, 0, none⟩ = some (I x.no) ∧ W.cell? ⟨gd, od + k, none⟩ = some (I d0) ∧ W.cell? ⟨gd, od + m, none⟩ = some (I (d0 + n)) ∧ W.cell? ⟨bs, 0, none⟩ = some (I lo) ∧ W.cell? ⟨bs, 1, none⟩ = some (I hi)) W) := hide fun W hW => by
             have kx := kX3.out.grow hW
             have ks := hkE.grow hW
             exact ⟨kx.cell 0, (hW.cell (p := ⟨gd, od + k, none⟩) hz0).trans c0, (hW.cell (p := ⟨gd, od + m, none⟩) hz0).trans c1, ks.cell 0, ks.cell 1⟩
            clear c0 c1 hz0 kX3 kX ho2 kB2 hbQ2 kB3 hvW hbE hkE hgN
            replace hoz := hide hoz
            go_wp2_with fail
            refine wp_region_zg (S := fun W => W.cell? ⟨gX, 0, none⟩ = some (I x.no) ∧ W.cell? ⟨gd, od + k, none⟩ = some (I d0) ∧ W.cell? ⟨gd, od + m, none⟩ = some (I (d0 + n)) ∧ W.cell? ⟨bs, 0, none⟩ = some (I lo) ∧ W.cell? ⟨bs, 1, none⟩ = some (I hi)) 18 (by kernel_rfl) (by kernel_rfl) ?_
            have hHeld := HSz.out Wz.drew (Below.refl _ _).drew
            (refine zg_tk 0 ?_; refine zg_tk 1 ?_; refine zg_tk 2 ?_; refine zg_tk 3 ?_; refine zg_tk 4 ?_; refine zg_tk 5 ?_; refine zg_tk 6 ?_; refine zg_tk 7 ?_; refine zg_tk 8 ?_; refine zg_tk 9 ?_; refine zg_tk 10 ?_; refine zg_tk 11 ?_; refine zg_tk 12 ?_; refine zg_tk 13 ?_; refine zg_tk 14 ?_; refine zg_tk 15 ?_; refine zg_tk 16 ?_; (try simp only [Act.put, List.setIfInBounds_toArray, List.set_cons_zero, List.set_cons_succ]))
            refine zg_ready (i := 17) (by decide) rfl (by kernel_rfl) (fun K_ hK_ => ?_)
            go_simp
            obtain ⟨v1, hv1⟩ : ∃ v1, v1 = (Wz.alloc (.cells #[I x.no, I d0, I (d0 + n), I lo, I hi] 92)).drew := ⟨_, rfl⟩
            have hc1 : ∀ j u, (Change.cells ⟨x.no, d0, d0 + n, lo, hi⟩)[j]? = some u → v1.cell? ⟨Wz.heap.size, j, none⟩ = some u := by rw [hv1]; exact new_cells (W := Wz.drew) rfl _ (Change.cells ⟨x.no, d0, d0 + n, lo, hi⟩)
            have hBv : Below Wz.heap.size Wz v1 := by rw [hv1]; exact bup (Below.refl _ _).drew (below1 Wz.drew _)
            rw [← hv1]
            clear hv1
            refine hK_.out _ _ (HSz.out _ hBv) (fun hHeld => ?_)
            clear hK_ K_
            (try simp only [Act.put, List.setIfInBounds_toArray, List.set_cons_zero, List.set_cons_succ])
            refine zg_of_za ?_
            refine za_ready (i := 18) (by decide) rfl (by kernel_rfl) (fun K_ hK_ => ?_)
            refine step_push el_Change Change.cells_len Change.cells_one rfl (.tmp 96) (.tmp 113) rfl B rfl (hoz.out.below hBv) ⟨x.no, d0, d0 + n, lo, hi⟩ rfl hc1 ?c2 ?c3 ?c4 ?_
            case c2 => have := hll.out; omega
            case c3 => have := hll.out; omega
            case c4 => exact Nat.le_trans hBz hBv.size
            intro v' w5 hown hbel
            rw [← hsn.out] at hown
            obtain ⟨A1, n1, c1, rfl⟩ := hown.shape
            replace hown := hide hown
            have hbF := hide (hbQ.out.trans ((hBv.mono hBz).trans hbel))
            have hzF : B ≤ w5.heap.size := Nat.le_trans (Nat.le_trans hBz hBv.size) hbel.size
            refine hK_.out _ _ ?_
            clear hK_ K_ hHeld hc1 hBv hbel
            (try simp only [Act.put, List.setIfInBounds_toArray, List.set_cons_zero, List.set_cons_succ])
            (refine za_ready (i := 19) (by decide) rfl (by kernel_rfl) (fun K_ hK_ => ?_); go_simp; skip; refine hK_.out _ _ ?_; clear hK_ K_; (try simp only [Act.put, List.setIfInBounds_toArray, List.set_cons_zero, List.set_cons_succ]))
            refine za_end (by kernel_rfl) ?_
            clear hoz HSz hbQ hBz
            replace k1 := hide k1
            go_wp2_with fail
            go_roundw
            case rel => exact ⟨i + 1, by omega, by go_num, hown, hbF, hzF⟩
            case measure => simp [intOf]; omega
          ·have he : i = b.cells.length := by omega
           subst he
           have ho2 := ho.out
           rw [← chgsTo_succ, ← hm.out] at ho2
           replace ho2 := hide ho2
           go_wp2_with fail
           go_roundw
           case rel => exact ⟨m, m + 1, rfl, by omega, by go_num, hide (by rw [hm.out]; exact hst2.out), ho2, hbr, hBs⟩
           case measure => simp [intOf]; omega
       ·have he : k = ds.length - 1 := by omega
        subst he
        obtain ⟨r1, r2⟩ := u4.out hn.out h4.out hst.out
        subst r1
        obtain ⟨A1, n1, c1, rfl⟩ := ho.out.shape
        rw [← r2] at ho
        clear u3 u4 r2 hn hst HC
        go_wp2_with fail
        go_ret2
        exact ⟨_, rfl, ho.out.mono (by omega), bup kB1.out (hbr.out.mono (Nat.le_of_eq hB.out))⟩
  ·obtain ⟨r1, r2⟩ := chgs_basin (ds := ds) hL hS
   rw [hE] at r1
   rw [hV] at r2
   subst r1 r2
   obtain ⟨s0, hs0⟩ : ∃ e, basinE b = e := ⟨_, rfl⟩
   rw [hs0] at hS H2
   have hne : (s0 != 0) = true := by simpa using hS
   clear hV hE hS hs0 hL hA hD hlo
   (try unfold Climate.v at *)
   replace hv := hide hv
   replace hc := hide hc
   replace hp := hide hp
   clear hd
   replace H1 := hide H1
   replace H2 := hide H2
   go_enter Tryz.func57, Tryz.ntmps57
   go_wp2_with (first | (go_at_call 25; refine (H1.out _ (hv.out.mono (below2 _ _ _))).mono ?_; clear H1; rintro e w1 ⟨rfl, hb1⟩; obtain ⟨_, q0, q1, q2, q3, q4, q5, q6, q7⟩ := (((Blk.new w 25 (c8 c)).alloc _).grow hb1).clim; obtain ⟨p0, p1, p2, p3, p4⟩ := ((blk21 w 58 #[.slice A b.cells.length nA, .slice P0 b.pairs.length nP, I b.gain, I b.slack, I b.deep] _).grow hb1).cells5; have zz1 := (((Blk.new w 25 (c8 c)).alloc (.cells #[.slice A b.cells.length nA, .slice P0 b.pairs.length nP, I b.gain, I b.slack, I b.deep] 58)).grow hb1).lt; have zz2 := ((blk21 w 58 #[.slice A b.cells.length nA, .slice P0 b.pairs.length nP, I b.gain, I b.slack, I b.deep] (.cells (c8 c) 25)).grow hb1).lt) | (go_at_call 60; refine (H2.out _ (hc.out.mono (bup (below2 _ _ _) hb1)) (hp.out.mono (bup (below2 _ _ _) hb1))).mono ?_; clear H2; rintro e w2 ⟨rfl, hb2⟩))
   go_ret2
   exact ⟨_, rfl, Own.nil_ _ _ _ _ _, bup (bup (below2 _ _ _) hb1) hb2⟩
 ·obtain ⟨r1, r2⟩ := chgs_log (b := b) (ds := ds) hL
  rw [hE] at r1
  rw [hV] at r2
  subst r2
  rw [r1]
  clear r1
  obtain ⟨s0, hs0⟩ : ∃ e, logE c l = e := ⟨_, rfl⟩
  rw [hs0] at hL H1 ⊢
  have hne : (s0 != 0) = true := by simpa using hL
  clear hV hE hL hs0 H2 hA hD
  (try unfold Climate.v at *)
  replace hv := hide hv
  clear hc hp hd
  replace H1 := hide H1
  go_enter Tryz.func57, Tryz.ntmps57
  go_wp2_with (first | (go_at_call 25; refine (H1.out _ (hv.out.mono (below2 _ _ _))).mono ?_; clear H1; rintro e w1 ⟨rfl, hb1⟩; obtain ⟨_, q0, q1, q2, q3, q4, q5, q6, q7⟩ := (((Blk.new w 25 (c8 c)).alloc _).grow hb1).clim; obtain ⟨p0, p1, p2, p3, p4⟩ := ((blk21 w 58 #[.slice A b.cells.length nA, .slice P0 b.pairs.length nP, I b.gain, I b.slack, I b.deep] _).grow hb1).cells5; have zz1 := (((Blk.new w 25 (c8 c)).alloc (.cells #[.slice A b.cells.length nA, .slice P0 b.pairs.length nP, I b.gain, I b.slack, I b.deep] 58)).grow hb1).lt; have zz2 := ((blk21 w 58 #[.slice A b.cells.length nA, .slice P0 b.pairs.length nP, I b.gain, I b.slack, I b.deep] (.cells (c8 c) 25)).grow hb1).lt))
  go_ret2
  exact ⟨_, rfl, Own.nil_ _ _ _ _ _, bup (below2 _ _ _) hb1⟩
end Go.Proofs.YtmjfdobjnnfafaaGreatDoor
