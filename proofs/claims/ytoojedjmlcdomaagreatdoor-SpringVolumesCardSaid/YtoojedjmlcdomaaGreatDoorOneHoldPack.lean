/- The packages diffs and basin: Holds on a net that is right, CheckField. Conditions stand in the theorems. -/
import Derived.Test.YtoojedjmlcdomaaGreatDoorReachPack
import Derived.Test.YtoojedjmlcdomaaGreatDoorIndexFuncPack
import Derived.Test.YtoojedjmlcdomaaGreatDoorSpring2Pack
import Derived.Test.YtoojedjmlcdomaaGreatDoorGrow
import Derived.Test.YtoojedjmlcdomaaGreatDoorBasin3Pack
import Derived.Test.YtoojedjmlcdomaaGreatDoorAgainLib
set_option linter.all false
set_option maxHeartbeats 4000000
set_option maxRecDepth 100000
namespace Go.Proofs.YtoojedjmlcdomaaGreatDoor
open Go.RowKit

def numB (a : Int) : Bool := inB a (-1099511627776) 1099511627776
def diffB (x : List Int) (d : Diff) : Bool := decide (x.getD d.to.toNat 0 - x.getD d.frm.toNat 0 ≤ d.most)
def numsB (x : List Int) : Bool := !x.any (fun a => !numB a)
def holdsB (ds : List Diff) (x : List Int) : Bool := decide (x.getD 0 0 = 0) && !ds.any (fun d => !diffB x d)

theorem numbers1_gives (xs : List Int) (w : World) : Gives Tryz.prog 177 #[] (I) (fun a => !numB a) w xs := by
 intro W a _ _
 show Calls Tryz.prog 177 #[I a] W fun e w' => e = .returned (.bool (!inB a (-1099511627776) 1099511627776)) ∧ Below W.heap.size W w'
 go_enter Tryz.func177, Tryz.ntmps177
 go_wp2_with (go_at_call 178; refine (diffs_in _ _ _ _).mono ?_; rintro e w' ⟨rfl, rfl⟩)
 go_ret
 exact ⟨rfl, Below.refl _ _⟩
theorem diffs_numbers (v : Value) (xs : List Int) (n : Nat) (w : World) (hv : Sl w 1 intC v xs) (hn : xs.length = n) :
  Calls Tryz.prog 130 #[I n, v] w fun e w' => e = .returned (.bool (numsB xs)) ∧ Below w.heap.size w w' := by
 have H := hide (fun w' (hb : Below w.heap.size w w') => containsFunc_int v xs 177 #[] (fun a => !numB a) w' (hv.mono hb) (enters_of Tryz.func177 (by kernel_rfl) rfl) (numbers1_gives xs w'))
 obtain ⟨A, c, rfl, _, _, hlen, hA⟩ := hv.open_
 unfold numsB
 obtain ⟨q, hq⟩ : ∃ q, (xs.any fun a => !numB a) = q := ⟨_, rfl⟩
 rw [hq] at H ⊢
 clear hq hA hv
 rw [hn] at H ⊢
 clear hn hlen
 go_enter Tryz.func130, Tryz.ntmps130
 go_wp2_with (go_at_call 33; refine (H.out _ (Below.refl _ _)).mono ?_; rintro e w1 ⟨rfl, hb1⟩)
 go_ret
 exact ⟨rfl, hb1⟩

theorem holds1_gives (v : Value) (x : List Int) (B : Nat) (ds : List Diff) (w : World) (hx : Sl w 1 intC v x) (hc : w.cell? ⟨B, 0, none⟩ = some v) (hB : B < w.heap.size)
  (hb : ∀ a ∈ x, -1099511627776 ≤ a ∧ a ≤ 1099511627776) (hd : ∀ d ∈ ds, 0 ≤ d.frm ∧ d.frm < x.length ∧ 0 ≤ d.to ∧ d.to < x.length) :
  Gives Tryz.prog 180 #[.pointer (some ⟨B, 0, none⟩)] (fun d : Diff => .agg #[I d.frm, I d.to, I d.most]) (fun d => !diffB x d) w ds := by
 intro W d hm hbw
 obtain ⟨df, dt, dm⟩ := d
 obtain ⟨d1, d2, d3, d4⟩ := hd _ hm
 simp only at d1 d2 d3 d4
 have hs := hx.mono hbw
 obtain ⟨A, c, rfl, _, _, _, hA⟩ := hs.open_
 have hc' := (hbw.cell (p := ⟨B, 0, none⟩) hB).trans hc
 have hB' : B < W.heap.size := Nat.lt_of_lt_of_le hB hbw.size
 obtain ⟨i, rfl⟩ : ∃ i : Nat, df = i := ⟨df.toNat, by omega⟩
 obtain ⟨j, rfl⟩ : ∃ j : Nat, dt = j := ⟨dt.toNat, by omega⟩
 obtain ⟨a, ha⟩ := getElem?_of_lt (xs := x) (k := i) (by omega)
 obtain ⟨b, hb2⟩ := getElem?_of_lt (xs := x) (k := j) (by omega)
 have ha3 := hb a (List.mem_of_getElem? ha)
 have hb3 := hb b (List.mem_of_getElem? hb2)
 obtain ⟨gx, ox, rfl, _⟩ := hA j (by omega)
 obtain ⟨zx, e0⟩ := hs.int_at ha
 obtain ⟨_, e1⟩ := hs.int_at hb2
 have hfin : (!diffB x ⟨(i : Int), (j : Int), dm⟩) = decide (dm < b - a) := by rw [Bool.eq_iff_iff]; simp [diffB, ha, hb2]
 have hw : IntKind.i64.wrap (b - a) = b - a := IntWalk.i64_in _ (by omega)
 show Calls Tryz.prog 180 #[.agg #[I (i : Int), I (j : Int), I dm], .pointer (some ⟨B, 0, none⟩)] W fun e w' => e = .returned (.bool (!diffB x ⟨(i : Int), (j : Int), dm⟩)) ∧ Below W.heap.size W w'
 rw [hfin]
 have d5 : (0 : Int) ≤ (i : Int) := d1
 have d6 : (0 : Int) ≤ (j : Int) := d3
 clear hfin hs hx hb hd hm ha hb2 ha3 hb3 hA hc hB
 go_enter Tryz.func180, Tryz.ntmps180
 go_wp2_with fail
 go_quiet (fail)
 go_wp2_with fail
 go_ret
 exact ⟨rfl, below_drewN (below1 _ _) _⟩

theorem diffs_holds (vd v : Value) (n : Int) (ds : List Diff) (x : List Int) (w : World) (hd : Sl w 3 Diff.cells vd ds) (hx : Sl w 1 intC v x) (hn : 0 < x.length)
  (hb : ∀ a ∈ x, -1099511627776 ≤ a ∧ a ≤ 1099511627776) (hds : ∀ d ∈ ds, 0 ≤ d.frm ∧ d.frm < x.length ∧ 0 ≤ d.to ∧ d.to < x.length) :
  Calls Tryz.prog 131 #[.agg #[I n, vd], v] w fun e w' => e = .returned (.bool (holdsB ds x)) ∧ Below w.heap.size w w' := by
 have H := hide (fun B w' (h : Below w.heap.size w w') hc hB => containsFunc_Diff vd ds 180 _ (fun d => !diffB x d) w' (hd.mono h) (enters_of Tryz.func180 (by kernel_rfl) rfl) (holds1_gives v x B ds w' (hx.mono h) hc hB hb hds))
 obtain ⟨A, c, rfl, _, _, hlen, hA⟩ := hx.open_
 obtain ⟨Ad, cd, rfl, _⟩ := hd.open_
 obtain ⟨gx, ox, rfl, _⟩ := hA 0 hn
 obtain ⟨a, ha⟩ := getElem?_of_lt hn
 obtain ⟨zx, e0⟩ := hx.int_at ha
 rw [Nat.add_zero] at e0
 have zx1 : gx < w.heap.size + 1 := by omega
 have hfin : holdsB ds x = (decide (a = 0) && !(ds.any fun d => !diffB x d)) := by simp [holdsB, ha]
 rw [hfin]
 obtain ⟨q, hq⟩ : ∃ q, (ds.any fun d => !diffB x d) = q := ⟨_, rfl⟩
 rw [hq] at H ⊢
 have z1 : (0 : Int) < (x.length : Int) := by omega
 have z2 : (0 : Int) ≤ (x.length : Int) := by omega
 clear hq hfin hx hd hb hds ha hA hlen
 by_cases h0 : a = 0
 ·subst h0
  go_enter Tryz.func131, Tryz.ntmps131
  go_wp2_with (go_at_call 179; refine (H.out _ _ (below2 _ _ _) ((blk21 w 34 #[.slice (some ⟨gx, ox, none⟩) x.length c] _).cell 0) (blk21 w 34 #[.slice (some ⟨gx, ox, none⟩) x.length c] _).lt).mono ?_; rintro e w1 ⟨rfl, hb1⟩)
  go_ret
  exact ⟨rfl, bup (below2 _ _ _) hb1⟩
 ·have h1 : (a == 0) = false := by simpa using h0
  have h2 : decide (a = 0) = false := by simpa using h0
  rw [h2]
  replace h0 := hide h0
  clear H
  go_enter Tryz.func131, Tryz.ntmps131
  go_wp2_with fail
  go_ret
  exact ⟨rfl, below2 _ _ _⟩

theorem diffs_asked (vd : Value) (n : Nat) (ds : List Diff) (b : Bool) (v : Value) (w : World) (N : NetOk n ds) (hd : Sl w 3 Diff.cells vd ds) (hv : Sl w 1 boolC v [b]) :
  Calls Tryz.prog 129 #[.agg #[I n, vd], v] w fun e w' => e = .returned (I (if b then 0 else 1)) ∧ Below w.heap.size w w' := by
 have H1 := hide (fun w' (h : Below w.heap.size w w') => diffs_Check vd n ds w' (hd.mono h))
 have H2 := hide (fun w' (h : Below w.heap.size w w') => contains_bool v [b] false w' (hv.mono h))
 rw [N.netE] at H1
 obtain ⟨A, c, rfl, _⟩ := hv.open_
 obtain ⟨Ad, cd, rfl, _⟩ := hd.open_
 clear hd hv N
 cases b
 ·go_enter Tryz.func129, Tryz.ntmps129
  go_wp2_with (first | (go_at_call 139; refine (H1.out _ (below1 _ _)).mono ?_; rintro e w1 ⟨rfl, hb1⟩) | (go_at_call 162; refine (H2.out _ (bup (below1 _ _) hb1)).mono ?_; rintro e w2 ⟨rfl, rfl⟩))
  go_ret
  exact ⟨rfl, bup (below1 _ _) hb1⟩
 ·go_enter Tryz.func129, Tryz.ntmps129
  go_wp2_with (first | (go_at_call 139; refine (H1.out _ (below1 _ _)).mono ?_; rintro e w1 ⟨rfl, hb1⟩) | (go_at_call 162; refine (H2.out _ (bup (below1 _ _) hb1)).mono ?_; rintro e w2 ⟨rfl, rfl⟩))
  go_ret
  exact ⟨rfl, bup (below1 _ _) hb1⟩

theorem diffs_Holds (vd v : Value) (n : Nat) (ds : List Diff) (x : List Int) (w : World) (N : NetOk n ds) (hd : Sl w 3 Diff.cells vd ds) (hx : Sl w 1 intC v x) (hn : x.length = n) :
  Calls Tryz.prog 67 #[.agg #[I n, vd], v] w fun e w' => e = .returned (.tuple #[.bool (numsB x && holdsB ds x), I (if numsB x then 0 else 1)]) ∧ Below w.heap.size w w' := by
 have h1 := N.h1
 have HN := hide (fun w' (h : Below w.heap.size w w') => diffs_numbers v x n w' (hx.mono h) hn)
 have HA := hide (fun g b w' (h : Below w.heap.size w w') (hg : Blk w' g 4 #[.bool b]) => diffs_asked vd n ds b _ w' N (hd.mono h) (sl_lit (xs := [b]) hg rfl 1 boolC_len (by simp)))
 have hbd : numsB x = true → ∀ a ∈ x, -1099511627776 ≤ a ∧ a ≤ 1099511627776 := fun h a ha => by
  have h2 : (x.any fun a => !numB a) = false := by simpa [numsB] using h
  have h3 := List.any_eq_false.1 h2 a ha
  have h4 : numB a = true := by simpa using h3
  exact inB_true.1 h4
 have HH := hide (fun (hq : numsB x = true) w' (h : Below w.heap.size w w') => diffs_holds vd v n ds x w' (hd.mono h) (hx.mono h) (by omega) (hbd hq) (by rw [hn]; exact N.hds))
 obtain ⟨Ad, cd, rfl, _⟩ := hd.open_
 obtain ⟨A, c, rfl, _⟩ := hx.open_
 obtain ⟨r, hr⟩ : ∃ r, holdsB ds x = r := ⟨_, rfl⟩
 obtain ⟨q, hq⟩ : ∃ q, numsB x = q := ⟨_, rfl⟩
 rw [hr] at HH ⊢
 rw [hq] at HN HH ⊢
 clear hd hx N hq hr hbd
 rw [hn] at HN HH ⊢
 clear hn
 have S0 : ∀ W : World, Below (w.alloc (.cells #[I n, .slice Ad ds.length cd] 113)).heap.size (w.alloc (.cells #[I n, .slice Ad ds.length cd] 113)) W → W.cell? ⟨w.heap.size, 0, none⟩ = some (I n) ∧ W.cell? ⟨w.heap.size, 1, none⟩ = some (.slice Ad ds.length cd) := fun W h => by
  have k := (Blk.new w 113 #[I n, .slice Ad ds.length cd]).grow h
  exact ⟨k.cell 0, k.cell 1⟩
 cases q
 ·go_enter Tryz.func67, Tryz.ntmps67
  go_wp2_with fail
  go_region_held3 (fun W => W.cell? ⟨w.heap.size, 0, none⟩ = some (I n) ∧ W.cell? ⟨w.heap.size, 1, none⟩ = some (.slice Ad ds.length cd)) (go_keep) (first | (go_at_call 130; refine (HN.out _ (below_drewN (below1 _ _) 1)).mono ?_; rintro e w1 ⟨rfl, hb1⟩; have hc1 := fun o => (bcell hb1).1 w.heap.size o (by simp); have hz1 : w.heap.size < w1.heap.size := by have := hb1.size; simp at this; omega) | (go_at_call 129; refine (HA.out _ _ _ (bup (below_drewN (below1 _ _) 1) (bup hb1 (below1 _ _))) (Blk.new _ _ _)).mono ?_; rintro e w2 ⟨rfl, hb2⟩; have hc2 := fun o => (bcell hb2).1 w.heap.size o (by have := hb1.size; simp at this ⊢; omega)))
  go_wp2_with fail
  go_ret2
  exact ⟨rfl, bup (below_drewN (below1 _ _) 1) (bup hb1 (bup (below1 _ _) hb2))⟩
 ·go_enter Tryz.func67, Tryz.ntmps67
  go_wp2_with fail
  go_region_held3 (fun W => W.cell? ⟨w.heap.size, 0, none⟩ = some (I n) ∧ W.cell? ⟨w.heap.size, 1, none⟩ = some (.slice Ad ds.length cd)) (go_keep) (first | (go_at_call 130; refine (HN.out _ (below_drewN (below1 _ _) 1)).mono ?_; rintro e w1 ⟨rfl, hb1⟩; have hc1 := fun o => (bcell hb1).1 w.heap.size o (by simp); have hz1 : w.heap.size < w1.heap.size := by have := hb1.size; simp at this; omega) | (go_at_call 129; refine (HA.out _ _ _ (bup (below_drewN (below1 _ _) 1) (bup hb1 (below1 _ _))) (Blk.new _ _ _)).mono ?_; rintro e w2 ⟨rfl, hb2⟩; have hc2 := fun o => (bcell hb2).1 w.heap.size o (by have := hb1.size; simp at this ⊢; omega)))
  go_wp2_with fail
  go_at_call 131
  refine (HH.out (by trivial) _ (bup (below_drewN (below1 _ _) 1) (bup hb1 (bup (below1 _ _) hb2)))).mono ?_
  rintro e w3 ⟨rfl, hb3⟩
  go_wp2_with fail
  go_ret2
  exact ⟨rfl, bup (bup (below_drewN (below1 _ _) 1) (bup hb1 (bup (below1 _ _) hb2))) hb3⟩

section
variable {n : Nat} {ds : List Diff}
structure Tree (n : Nat) (ds : List Diff) (π : Nat → Int) (s : Wk) (tm : Nat → Nat) (T : Nat) : Prop where
 old : ∀ v, tm v ≤ T
 par : ∀ v, v < n → 0 ≤ s.last.getD v (-1) → s.last.getD v (-1) < ds.length ∧ s.has.getD (ds.getD (s.last.getD v (-1)).toNat default).frm.toNat false = true ∧
  (s.long.getD (ds.getD (s.last.getD v (-1)).toNat default).frm.toNat 0 - π (ds.getD (s.last.getD v (-1)).toNat default).frm.toNat < s.long.getD v 0 - π v ∨
   (s.long.getD (ds.getD (s.last.getD v (-1)).toNat default).frm.toNat 0 - π (ds.getD (s.last.getD v (-1)).toNat default).frm.toNat = s.long.getD v 0 - π v ∧ tm (ds.getD (s.last.getD v (-1)).toNat default).frm.toNat < tm v))
theorem Tree.step {π : Nat → Int} {s : Wk} {tm : Nat → Nat} {T k : Nat} (hd : ∀ d ∈ ds, 0 ≤ d.frm ∧ d.frm < n ∧ 0 ≤ d.to ∧ d.to < n) (hp : ∀ d ∈ ds, π d.to.toNat ≤ π d.frm.toNat + d.most)
  (hl : s.long.length = n) (hh : s.has.length = n) (ht : s.last.length = n) (hk : k < ds.length) (h : Tree n ds π s tm T) : ∃ tm' T', Tree n ds π (wkStep s k (ds.getD k default)) tm' T' := by
 obtain ⟨d, hdk⟩ : ∃ d, ds.getD k default = d := ⟨_, rfl⟩
 have hdm : d ∈ ds := hdk ▸ getD_mem hk
 obtain ⟨f0, f1, t0, t1⟩ := hd d hdm
 have hw := hp d hdm
 rw [hdk]
 unfold wkStep
 cases hb : wkB s d with
 | false => exact ⟨tm, T, by simpa using h⟩
 | true =>
  rw [if_pos rfl]
  unfold wkB at hb
  simp only [Bool.and_eq_true, Bool.or_eq_true, Bool.not_eq_true', decide_eq_true_eq] at hb
  obtain ⟨b1, b2⟩ := hb
  have hun : d.frm.toNat < n := by omega
  have hvn : d.to.toNat < n := by omega
  obtain ⟨u, hu⟩ : ∃ u, d.frm.toNat = u := ⟨_, rfl⟩
  obtain ⟨v, hv⟩ : ∃ v, d.to.toNat = v := ⟨_, rfl⟩
  simp only [hu, hv] at hw b1 b2 hun hvn ⊢
  have huv : v ≠ u := by
   intro e
   subst e
   rcases b2 with b2 | b2
   ·rw [b1] at b2; cases b2
   ·omega
  have hlow : s.has.getD v false = true → s.long.getD u 0 + d.most - π v < s.long.getD v 0 - π v := fun hvt => by
   rcases b2 with b2 | b2
   ·rw [hvt] at b2; cases b2
   ·omega
  refine ⟨fun x => if x = v then T + 1 else tm x, T + 1, fun x => ?_, fun x hx hlx => ?_⟩
  ·split
   ·exact Nat.le_refl _
   ·have := h.old x; omega
  ·by_cases ex : x = v
   ·subst ex
    simp only at hlx ⊢
    rw [getD_set_same (by omega)] at hlx ⊢
    have e1 : ((k : Int)).toNat = k := by omega
    rw [e1, hdk, hu]
    rw [getD_set_same (by omega), getD_set_other huv, getD_set_other huv]
    refine ⟨by omega, b1, ?_⟩
    have := h.old u
    simp only [if_pos, if_neg (Ne.symm huv)]
    omega
   ·simp only at hlx ⊢
    rw [getD_set_other (Ne.symm ex)] at hlx ⊢
    obtain ⟨p1, p2, p3⟩ := h.par x hx hlx
    obtain ⟨y, hy⟩ : ∃ y, (ds.getD (s.last.getD x (-1)).toNat default).frm.toNat = y := ⟨_, rfl⟩
    rw [hy] at p2 p3 ⊢
    rw [getD_set_other (Ne.symm ex)]
    by_cases ey : y = v
    ·subst ey
     rw [getD_set_same (by omega), getD_set_same (by omega)]
     refine ⟨p1, rfl, .inl ?_⟩
     have := hlow p2
     omega
    ·rw [getD_set_other (Ne.symm ey), getD_set_other (Ne.symm ey)]
     refine ⟨p1, p2, ?_⟩
     simp only [if_neg ex, if_neg ey]
     exact p3
theorem Tree.to {π : Nat → Int} {s : Wk} {tm : Nat → Nat} {T : Nat} (hd : ∀ d ∈ ds, 0 ≤ d.frm ∧ d.frm < n ∧ 0 ≤ d.to ∧ d.to < n) (hp : ∀ d ∈ ds, π d.to.toNat ≤ π d.frm.toNat + d.most)
  (hl : s.long.length = n) (hh : s.has.length = n) (ht : s.last.length = n) (h : Tree n ds π s tm T) : ∀ k, k ≤ ds.length → ∃ tm' T', Tree n ds π (wkTo ds s k) tm' T'
 | 0, _ => ⟨tm, T, h.old, h.par⟩
 | k + 1, hk => by
  obtain ⟨tm', T', h'⟩ := Tree.to hd hp hl hh ht h k (by omega)
  have hlen := wkTo_len ds s k
  exact h'.step hd hp (hlen.1.trans hl) (hlen.2.1.trans hh) (hlen.2.2.trans ht) (by omega)
theorem AllHas.step {s : Wk} {k : Nat} {d : Diff} (h : AllHas n s) : AllHas n (wkStep s k d) := by
 unfold wkStep
 split
 ·refine ⟨by simp [h.1], fun i hi => ?_⟩
  simp only
  rw [List.getD_eq_getElem?_getD, List.getElem?_set]
  split
  ·split
   ·rfl
   ·rename_i h1 h2; have := h.1; omega
  ·have := h.2 i hi; rwa [List.getD_eq_getElem?_getD] at this
 ·exact h
theorem AllHas.to {s : Wk} (h : AllHas n s) : ∀ k, AllHas n (wkTo ds s k)
 | 0 => h
 | k + 1 => (AllHas.to h k).step
end


end Go.Proofs.YtoojedjmlcdomaaGreatDoor
