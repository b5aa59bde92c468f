/- The reference's shortest walks: so many passes as there are nodes and one more; they end as the program's do. Conditions stand in the theorems. -/
import Derived.Test.YtoojedjmlcdomaaGreatDoorReachPack
import Derived.Test.YtoojedjmlcdomaaGreatDoorGrow
import Derived.Test.YtoojedjmlcdomaaGreatDoorBasin3Pack
import Derived.Test.YtoojedjmlcdomaaGreatDoorRef1Pack
set_option linter.all false
set_option maxHeartbeats 4000000
set_option maxRecDepth 100000
namespace Go.Proofs.YtoojedjmlcdomaaGreatDoor
open Go.RowKit

def lenRun (ds : List Diff) : Nat → Wk → Wk × Bool
 | 0, s => (s, false)
 | f + 1, s => if (wkPass ds s).ch < 0 then (wkPass ds s, true) else lenRun ds f (wkPass ds s)
theorem wkIter_snoc (ds : List Diff) (s : Wk) (k : Nat) : wkIter ds s (k + 1) = wkPass ds (wkIter ds s k) := rfl

section
variable {n : Nat} {ds : List Diff}
theorem len_run (hd : ∀ d ∈ ds, 0 ≤ d.frm ∧ d.frm < n ∧ 0 ≤ d.to ∧ d.to < n) (frm : List Int) : ∀ (f j : Nat), f + 1 + j = n → (wkRun ds (f + 1) (wkIter ds (wkInit n frm) j)).2 < 0 →
  ∀ g, lenRun ds (f + 1 + g) (wkIter ds (wkInit n frm) j) = ((wkRun ds (f + 1) (wkIter ds (wkInit n frm) j)).1, true)
 | f, j, hfj, h, g => by
  have hlen := (wkIter_len ds (wkInit n frm) (j + 1)).2.2.trans (wkInit_len n frm).2.2
  rw [show f + 1 + g = f + g + 1 by omega]
  unfold lenRun
  unfold wkRun at h ⊢
  simp only at h ⊢
  rw [← wkIter_snoc] at h ⊢
  by_cases hc : (wkIter ds (wkInit n frm) (j + 1)).ch < 0
  ·rw [if_pos hc, if_pos hc]
  ·rw [if_neg hc] at h ⊢
   rw [if_neg hc]
   by_cases hb : 0 ≤ loopF (wkIter ds (wkInit n frm) (j + 1)).last ds (wkIter ds (wkInit n frm) (j + 1)).last.length (wkIter ds (wkInit n frm) (j + 1)).ch.toNat
   ·rw [if_pos hb] at h
    simp only at h
    omega
   ·rw [if_neg hb] at h ⊢
    match f, hfj, h with
    | 0, hfj, h =>
     have := grow_last hd frm (k := j) (by omega) (t := wkIter ds (wkInit n frm) (j + 1)) rfl (by omega)
     rw [hlen] at hb
     exact absurd this hb
    | f + 1, hfj, h =>
     exact len_run hd frm f (j + 1) (by omega) h g
theorem len_grow (hd : ∀ d ∈ ds, 0 ≤ d.frm ∧ d.frm < n ∧ 0 ≤ d.to ∧ d.to < n) (frm : List Int) (hn : 0 < n) (h : (growF n ds frm).2 < 0) : lenRun ds (n + 1) (wkInit n frm) = ((growF n ds frm).1, true) := by
 obtain ⟨f, rfl⟩ : ∃ f, n = f + 1 := ⟨n - 1, by omega⟩
 exact len_run hd frm f 0 (by omega) h 1

structure Tree (n : Nat) (ds : List Diff) (π : Nat → Int) (s : Wk) (tm : Nat → Nat) (T : Nat) : Prop where
 old : ∀ v, tm v ≤ T
 par : ∀ v, v < n → 0 ≤ s.last.getD v (-1) → s.last.getD v (-1) < ds.length ∧ s.has.getD (ds.getD (s.last.getD v (-1)).toNat default).frm.toNat false = true ∧
  (s.long.getD (ds.getD (s.last.getD v (-1)).toNat default).frm.toNat 0 - π (ds.getD (s.last.getD v (-1)).toNat default).frm.toNat < s.long.getD v 0 - π v ∨
   (s.long.getD (ds.getD (s.last.getD v (-1)).toNat default).frm.toNat 0 - π (ds.getD (s.last.getD v (-1)).toNat default).frm.toNat = s.long.getD v 0 - π v ∧ tm (ds.getD (s.last.getD v (-1)).toNat default).frm.toNat < tm v))
theorem Tree.step {π : Nat → Int} {s : Wk} {tm : Nat → Nat} {T k : Nat} (hd : ∀ d ∈ ds, 0 ≤ d.frm ∧ d.frm < n ∧ 0 ≤ d.to ∧ d.to < n) (hp : ∀ d ∈ ds, π d.to.toNat ≤ π d.frm.toNat + d.most)
  (hl : s.long.length = n) (hh : s.has.length = n) (ht : s.last.length = n) (hk : k < ds.length) (h : Tree n ds π s tm T) : ∃ tm' T', Tree n ds π (wkStep s k (ds.getD k default)) tm' T' := by
 obtain ⟨d, hdk⟩ : ∃ d, ds.getD k default = d := ⟨_, rfl⟩
 have hdm : d ∈ ds := hdk ▸ getD_mem hk
 obtain ⟨f0, f1, t0, t1⟩ := hd d hdm
 have hw := hp d hdm
 rw [hdk]
 unfold wkStep
 cases hb : wkB s d with
 | false => exact ⟨tm, T, by simpa using h⟩
 | true =>
  rw [if_pos rfl]
  unfold wkB at hb
  simp only [Bool.and_eq_true, Bool.or_eq_true, Bool.not_eq_true', decide_eq_true_eq] at hb
  obtain ⟨b1, b2⟩ := hb
  have hun : d.frm.toNat < n := by omega
  have hvn : d.to.toNat < n := by omega
  obtain ⟨u, hu⟩ : ∃ u, d.frm.toNat = u := ⟨_, rfl⟩
  obtain ⟨v, hv⟩ : ∃ v, d.to.toNat = v := ⟨_, rfl⟩
  simp only [hu, hv] at hw b1 b2 hun hvn ⊢
  have huv : v ≠ u := by
   intro e
   subst e
   rcases b2 with b2 | b2
   ·rw [b1] at b2; cases b2
   ·omega
  have hlow : s.has.getD v false = true → s.long.getD u 0 + d.most - π v < s.long.getD v 0 - π v := fun hvt => by
   rcases b2 with b2 | b2
   ·rw [hvt] at b2; cases b2
   ·omega
  refine ⟨fun x => if x = v then T + 1 else tm x, T + 1, fun x => ?_, fun x hx hlx => ?_⟩
  ·split
   ·exact Nat.le_refl _
   ·have := h.old x; omega
  ·by_cases ex : x = v
   ·subst ex
    simp only at hlx ⊢
    rw [getD_set_same (by omega)] at hlx ⊢
    have e1 : ((k : Int)).toNat = k := by omega
    rw [e1, hdk, hu]
    rw [getD_set_same (by omega), getD_set_other huv, getD_set_other huv]
    refine ⟨by omega, b1, ?_⟩
    have := h.old u
    simp only [if_pos, if_neg (Ne.symm huv)]
    omega
   ·simp only at hlx ⊢
    rw [getD_set_other (Ne.symm ex)] at hlx ⊢
    obtain ⟨p1, p2, p3⟩ := h.par x hx hlx
    obtain ⟨y, hy⟩ : ∃ y, (ds.getD (s.last.getD x (-1)).toNat default).frm.toNat = y := ⟨_, rfl⟩
    rw [hy] at p2 p3 ⊢
    rw [getD_set_other (Ne.symm ex)]
    by_cases ey : y = v
    ·subst ey
     rw [getD_set_same (by omega), getD_set_same (by omega)]
     refine ⟨p1, rfl, .inl ?_⟩
     have := hlow p2
     omega
    ·rw [getD_set_other (Ne.symm ey), getD_set_other (Ne.symm ey)]
     refine ⟨p1, p2, ?_⟩
     simp only [if_neg ex, if_neg ey]
     exact p3
theorem Tree.to {π : Nat → Int} {s : Wk} {tm : Nat → Nat} {T : Nat} (hd : ∀ d ∈ ds, 0 ≤ d.frm ∧ d.frm < n ∧ 0 ≤ d.to ∧ d.to < n) (hp : ∀ d ∈ ds, π d.to.toNat ≤ π d.frm.toNat + d.most)
  (hl : s.long.length = n) (hh : s.has.length = n) (ht : s.last.length = n) (h : Tree n ds π s tm T) : ∀ k, k ≤ ds.length → ∃ tm' T', Tree n ds π (wkTo ds s k) tm' T'
 | 0, _ => ⟨tm, T, h.old, h.par⟩
 | k + 1, hk => by
  obtain ⟨tm', T', h'⟩ := Tree.to hd hp hl hh ht h k (by omega)
  have hlen := wkTo_len ds s k
  exact h'.step hd hp (hlen.1.trans hl) (hlen.2.1.trans hh) (hlen.2.2.trans ht) (by omega)
theorem Tree.iter {π : Nat → Int} (hd : ∀ d ∈ ds, 0 ≤ d.frm ∧ d.frm < n ∧ 0 ≤ d.to ∧ d.to < n) (hp : ∀ d ∈ ds, π d.to.toNat ≤ π d.frm.toNat + d.most) (frm : List Int) : ∀ k, ∃ tm T, Tree n ds π (wkIter ds (wkInit n frm) k) tm T
 | 0 => by
  refine ⟨fun _ => 0, 0, fun _ => Nat.le_refl _, fun v hv h0 => ?_⟩
  simp only [wkIter, wkInit, List.getD_eq_getElem?_getD, List.getElem?_replicate, if_pos hv, Option.getD_some] at h0
  omega
 | k + 1 => by
  obtain ⟨tm, T, h⟩ := Tree.iter hd hp frm k
  have h1 := wkIter_len ds (wkInit n frm) k
  have h2 := wkInit_len n frm
  exact h.to hd hp (h1.1.trans h2.1) (h1.2.1.trans h2.2.1) (h1.2.2.trans h2.2.2) ds.length (Nat.le_refl _)
theorem count_lt {p q : Nat → Bool} : ∀ {l : List Nat} {x : Nat}, (∀ y ∈ l, p y = true → q y = true) → x ∈ l → q x = true → p x = false → l.countP p < l.countP q
 | [], x, _, hx, _, _ => by simp at hx
 | y :: l, x, h, hx, hq, hp => by
  have hle : ∀ l' : List Nat, (∀ z ∈ l', p z = true → q z = true) → l'.countP p ≤ l'.countP q := fun l' h' => List.countP_mono_left h'
  rw [List.countP_cons, List.countP_cons]
  rcases List.mem_cons.1 hx with rfl | hx
  ·have := hle l fun z hz => h z (by simp [hz])
   rw [hq, hp]
   simp
   omega
  ·have := count_lt (fun z hz => h z (by simp [hz])) hx hq hp
   have hy := h y (by simp)
   cases hpy : p y with
   | false => simp; cases q y <;> simp <;> omega
   | true => rw [hy hpy]; simp; omega
def ahead (n : Nat) (π : Nat → Int) (s : Wk) (tm : Nat → Nat) (v : Nat) : Nat :=
 (List.range n).countP fun y => decide (s.long.getD y 0 - π y < s.long.getD v 0 - π v) || (decide (s.long.getD y 0 - π y = s.long.getD v 0 - π v) && decide (tm y < tm v))
theorem ahead_lt {π : Nat → Int} {s : Wk} {tm : Nat → Nat} {v u : Nat} (hu : u < n) (h : s.long.getD u 0 - π u < s.long.getD v 0 - π v ∨ (s.long.getD u 0 - π u = s.long.getD v 0 - π v ∧ tm u < tm v)) : ahead n π s tm u < ahead n π s tm v := by
 refine count_lt (x := u) (fun y _ hy => ?_) (List.mem_range.2 hu) ?_ ?_
 ·simp only [Bool.or_eq_true, Bool.and_eq_true, decide_eq_true_eq] at hy ⊢
  omega
 ·simp only [Bool.or_eq_true, Bool.and_eq_true, decide_eq_true_eq]
  omega
 ·simp
theorem ahead_n {π : Nat → Int} {s : Wk} {tm : Nat → Nat} {v : Nat} (hv : v < n) : ahead n π s tm v < n := by
 have h := count_lt (p := fun y => decide (s.long.getD y 0 - π y < s.long.getD v 0 - π v) || (decide (s.long.getD y 0 - π y = s.long.getD v 0 - π v) && decide (tm y < tm v))) (q := fun _ => true) (l := List.range n) (x := v) (fun _ _ _ => rfl) (List.mem_range.2 hv) rfl (by simp)
 simpa [ahead] using h
theorem Tree.noloop {π : Nat → Int} {s : Wk} {tm : Nat → Nat} {T : Nat} (hd : ∀ d ∈ ds, 0 ≤ d.frm ∧ d.frm < n ∧ 0 ≤ d.to ∧ d.to < n) (h : Tree n ds π s tm T) : ∀ (k v : Nat), v < n → 0 ≤ loopF s.last ds k v → k ≤ ahead n π s tm v
 | 0, v, _, _ => Nat.zero_le _
 | k + 1, v, hv, hl => by
  unfold loopF at hl
  by_cases h0 : s.last.getD v (-1) < 0
  ·rw [if_pos h0] at hl; omega
  ·rw [if_neg h0] at hl
   obtain ⟨p1, _, p3⟩ := h.par v hv (by omega)
   have hm := hd _ (getD_mem (ds := ds) (i := (s.last.getD v (-1)).toNat) (by omega))
   have hu : (ds.getD (s.last.getD v (-1)).toNat default).frm.toNat < n := by omega
   have := h.noloop hd k _ hu hl
   have := ahead_lt (tm := tm) hu p3
   omega
theorem run_fine {π : Nat → Int} (hd : ∀ d ∈ ds, 0 ≤ d.frm ∧ d.frm < n ∧ 0 ≤ d.to ∧ d.to < n) (hp : ∀ d ∈ ds, π d.to.toNat ≤ π d.frm.toNat + d.most) (frm : List Int) : ∀ (f j : Nat), (wkRun ds f (wkIter ds (wkInit n frm) j)).2 < 0
 | 0, j => by simp [wkRun]
 | f + 1, j => by
  have hlen := (wkIter_len ds (wkInit n frm) (j + 1)).2.2.trans (wkInit_len n frm).2.2
  unfold wkRun
  simp only
  rw [← wkIter_snoc]
  by_cases hc : (wkIter ds (wkInit n frm) (j + 1)).ch < 0
  ·rw [if_pos hc]; simp
  ·rw [if_neg hc]
   have hch := wkTo_ch (ds := ds) (n := n) (s := wkIter ds (wkInit n frm) j) (fun d hd' => ⟨(hd d hd').2.2.1, (hd d hd').2.2.2⟩) ds.length (Nat.le_refl _)
   have e : wkIter ds (wkInit n frm) (j + 1) = wkTo ds (wkIter ds (wkInit n frm) j) ds.length := rfl
   rw [← e] at hch
   obtain ⟨tm, T, ht⟩ := Tree.iter hd hp frm (j + 1)
   have hb : ¬ 0 ≤ loopF (wkIter ds (wkInit n frm) (j + 1)).last ds (wkIter ds (wkInit n frm) (j + 1)).last.length (wkIter ds (wkInit n frm) (j + 1)).ch.toNat := fun hb => by
    rw [hlen] at hb
    have h1 := ht.noloop hd n _ (by omega) hb
    have h2 := ahead_n (n := n) (π := π) (s := wkIter ds (wkInit n frm) (j + 1)) (tm := tm) (v := (wkIter ds (wkInit n frm) (j + 1)).ch.toNat) (by omega)
    omega
   rw [if_neg hb]
   exact run_fine hd hp frm f (j + 1)
theorem grow_fine {π : Nat → Int} (hd : ∀ d ∈ ds, 0 ≤ d.frm ∧ d.frm < n ∧ 0 ≤ d.to ∧ d.to < n) (hp : ∀ d ∈ ds, π d.to.toNat ≤ π d.frm.toNat + d.most) (frm : List Int) : (growF n ds frm).2 < 0 := run_fine hd hp frm n 0
theorem len_still {s : Wk} : ∀ (f : Nat) (j : Nat), (lenRun ds f (wkIter ds s j)).2 = true → ∃ i, (wkPass ds (wkIter ds s i)).ch < 0
 | 0, _, h => by simp [lenRun] at h
 | f + 1, j, h => by
  unfold lenRun at h
  by_cases hc : (wkPass ds (wkIter ds s j)).ch < 0
  ·exact ⟨j, hc⟩
  ·rw [if_neg hc] at h
   exact len_still f (j + 1) h
theorem allHas_init : AllHas n (wkInit n (allF n)) := by
 refine ⟨(wkInit_len n _).2.1, fun i hi => ?_⟩
 refine foldl_set n (allF n) _ (by simp) (fun i hi => .inr (by simp [allF]; exact ⟨i, hi, rfl⟩)) (fun x hx => ?_) i hi
 simp [allF] at hx
 obtain ⟨a, _, rfl⟩ := hx
 omega
theorem AllHas.step {s : Wk} {k : Nat} {d : Diff} (h : AllHas n s) : AllHas n (wkStep s k d) := by
 unfold wkStep
 split
 ·refine ⟨by simp [h.1], fun i hi => ?_⟩
  simp only
  rw [List.getD_eq_getElem?_getD, List.getElem?_set]
  split
  ·split
   ·rfl
   ·rename_i h1 h2; have := h.1; omega
  ·have := h.2 i hi; rwa [List.getD_eq_getElem?_getD] at this
 ·exact h
theorem AllHas.to {s : Wk} (h : AllHas n s) : ∀ k, AllHas n (wkTo ds s k)
 | 0 => h
 | k + 1 => (AllHas.to h k).step
theorem AllHas.iter {s : Wk} (h : AllHas n s) : ∀ k, AllHas n (wkIter ds s k)
 | 0 => h
 | k + 1 => (AllHas.iter h k).to _
theorem len_potential (hd : ∀ d ∈ ds, 0 ≤ d.frm ∧ d.frm < n ∧ 0 ≤ d.to ∧ d.to < n) {f : Nat} (h : (lenRun ds f (wkInit n (allF n))).2 = true) : ∃ π : Nat → Int, ∀ d ∈ ds, π d.to.toNat ≤ π d.frm.toNat + d.most := by
 obtain ⟨i, hi⟩ := len_still f 0 h
 obtain ⟨_, h2⟩ := pass_still (fun d hd' => (hd d hd').2.2.1) ds.length (Nat.le_refl _) hi
 have ha := (allHas_init (n := n)).iter (ds := ds) i
 refine ⟨fun v => (wkIter ds (wkInit n (allF n)) i).long.getD v 0, fun d hd' => ?_⟩
 obtain ⟨k, hk, rfl⟩ := List.getElem_of_mem hd'
 have h3 := h2 k hk
 rw [show ds.getD k default = ds[k] by simp [List.getD_eq_getElem?_getD, List.getElem?_eq_getElem hk]] at h3
 have hb := hd _ hd'
 exact (h3 (ha.2 _ (by omega))).2
theorem len_solvable (hd : ∀ d ∈ ds, 0 ≤ d.frm ∧ d.frm < n ∧ 0 ≤ d.to ∧ d.to < n) (hn : 0 < n) : (lenRun ds (n + 1) (wkInit n (allF n))).2 = decide ((growF n ds (allF n)).2 < 0) := by
 by_cases h : (growF n ds (allF n)).2 < 0
 ·rw [len_grow hd _ hn h, decide_eq_true h]
 ·rw [decide_eq_false h]
  cases hb : (lenRun ds (n + 1) (wkInit n (allF n))).2 with
  | false => rfl
  | true =>
   obtain ⟨π, hp⟩ := len_potential hd hb
   exact absurd (grow_fine hd hp _) h
theorem len_top (hd : ∀ d ∈ ds, 0 ≤ d.frm ∧ d.frm < n ∧ 0 ≤ d.to ∧ d.to < n) (hn : 0 < n) (h : (growF n ds (allF n)).2 < 0) : (lenRun ds (n + 1) (wkInit n [0])) = ((growF n ds [0]).1, true) := by
 obtain ⟨π, hp⟩ := potential hd hn h
 exact len_grow hd _ hn (grow_fine hd hp _)
end

theorem ref5_within (n m : Int) (w : World) : Calls Tryz.prog 118 #[I n, I m] w fun e w' => e = .returned (.bool (inB n 0 m)) ∧ w = w' := by
 rcases ilt n 0 with h1 | h1
 ·have h : inB n 0 m = false := by simp [inB]; omega
  rw [h]
  clear h
  have h2 : decide (0 ≤ n) = false := decide_eq_false (by omega)
  go_enter Tryz.func118, Tryz.ntmps118
  go_wp2
  go_ret
  exact ⟨(by first | rfl | (simp <;> omega)), rfl⟩
 ·rcases ilt m n with h2 | h2
  ·have h : inB n 0 m = false := by simp [inB]; omega
   rw [h]
   clear h
   go_enter Tryz.func118, Tryz.ntmps118
   go_wp2
   go_ret
   exact ⟨(by first | rfl | (simp <;> omega)), rfl⟩
  ·have h : inB n 0 m = true := inB_true.2 ⟨h1, h2⟩
   rw [h]
   clear h
   go_enter Tryz.func118, Tryz.ntmps118
   go_wp2
   go_ret
   exact ⟨(by first | rfl | (simp <;> omega)), rfl⟩
theorem within5_is {n m : Int} {b : Bool} (h : inB n 0 m = b) (w : World) : Calls Tryz.prog 118 #[I n, I m] w fun e w' => e = .returned (.bool b) ∧ w = w' := h ▸ ref5_within n m w
theorem ref5_validCell (x : Cell) (w : World) : Calls Tryz.prog 169 #[.agg #[I x.no, I x.height, I x.aspect, I x.area]] w fun e w' => e = .returned (.bool (cellOk x)) ∧ Below w.heap.size w w' := by
 cases g0 : inB x.no 0 4095 with
 | false =>
  rw [show cellOk x = false by simp [cellOk, g0]]
  go_enter Tryz.func169, Tryz.ntmps169
  go_wp2_with (go_at_call 118; refine (within5_is (by assumption) _).mono ?_; rintro e w' ⟨rfl, rfl⟩)
  go_ret
  exact ⟨(by first | rfl | (simp <;> omega)), below1 _ _⟩
 | true =>
  cases g1 : inB x.height 0 9000 with
  | false =>
   rw [show cellOk x = false by simp [cellOk, g0, g1]]
   go_enter Tryz.func169, Tryz.ntmps169
   go_wp2_with (go_at_call 118; refine (within5_is (by assumption) _).mono ?_; rintro e w' ⟨rfl, rfl⟩)
   go_ret
   exact ⟨(by first | rfl | (simp <;> omega)), below1 _ _⟩
  | true =>
   cases g2 : inB x.aspect 0 7 with
   | false =>
    rw [show cellOk x = false by simp [cellOk, g0, g1, g2]]
    go_enter Tryz.func169, Tryz.ntmps169
    go_wp2_with (go_at_call 118; refine (within5_is (by assumption) _).mono ?_; rintro e w' ⟨rfl, rfl⟩)
    go_ret
    exact ⟨(by first | rfl | (simp <;> omega)), below1 _ _⟩
   | true =>
    rcases ilt x.area 1 with g3 | g3
    ·rw [show cellOk x = false by simp [cellOk, g0, g1, g2, inB]; omega]
     go_enter Tryz.func169, Tryz.ntmps169
     go_wp2_with (go_at_call 118; refine (within5_is (by assumption) _).mono ?_; rintro e w' ⟨rfl, rfl⟩)
     go_ret
     exact ⟨(by first | rfl | (simp <;> omega)), below1 _ _⟩
    ·rcases ilt 4096 x.area with g4 | g4
     ·rw [show cellOk x = false by simp [cellOk, g0, g1, g2, inB]; omega]
      go_enter Tryz.func169, Tryz.ntmps169
      go_wp2_with (go_at_call 118; refine (within5_is (by assumption) _).mono ?_; rintro e w' ⟨rfl, rfl⟩)
      go_ret
      exact ⟨(by first | rfl | (simp <;> omega)), below1 _ _⟩
     ·rw [show cellOk x = true by simp [cellOk, g0, g1, g2, inB_true.2 ⟨g3, g4⟩]]
      go_enter Tryz.func169, Tryz.ntmps169
      go_wp2_with (go_at_call 118; refine (within5_is (by assumption) _).mono ?_; rintro e w' ⟨rfl, rfl⟩)
      go_ret
      exact ⟨(by first | rfl | (simp <;> omega)), below1 _ _⟩

theorem bothP_eq {a c d e : Int} : bothP (d, e) = bothP (a, c) ↔ (d = a ∧ e = c) ∨ (d = c ∧ e = a) := by
 simp only [bothP, Prod.mk.injEq]; omega
theorem bothP_no {a c d e : Int} {l : List (Int × Int)} {j : Nat} (hx : l[j]? = some (d, e)) (h : ((l.take j).map bothP).any (fun r => r == bothP (a, c)) = false) (hn : ¬ ((d = a ∧ e = c) ∨ (d = c ∧ e = a))) :
  ((l.take (j + 1)).map bothP).any (fun r => r == bothP (a, c)) = false := by
 rw [take_map_succ bothP hx, List.any_append, h]
 have : bothP (d, e) ≠ bothP (a, c) := fun h => hn (bothP_eq.1 h)
 simpa using this
theorem bothP_hit {a c d e : Int} {l : List (Int × Int)} {j k : Nat} (hj : j < k) (hx : l[j]? = some (d, e)) (hn : (d = a ∧ e = c) ∨ (d = c ∧ e = a)) :
  ((l.take k).map bothP).any (fun r => r == bothP (a, c)) = true := by
 rw [List.any_eq_true]
 refine ⟨bothP (d, e), List.mem_map.2 ⟨(d, e), ?_, rfl⟩, by simpa using bothP_eq.2 hn⟩
 refine List.mem_of_getElem? (i := j) ?_
 rw [List.getElem?_take_of_lt hj, hx]
theorem head5 {b : Basin} (h : b.headOk = false) (h1 : 1 ≤ b.cells.length) (h2 : b.cells.length ≤ 12) (h3 : b.pairs.length ≤ 24) (h4 : inB b.gain 0 65536 = true) (h5 : inB b.slack 0 65536 = true) (h6 : inB b.deep 0 65536 = true) : False := by
 have e1 : inB b.cells.length 1 12 = true := inB_true.2 ⟨by omega, by omega⟩
 simp [Basin.headOk, e1, h3, h4, h5, h6] at h
theorem ref5_CheckBasin_head (b : Basin) (vc vp : Value) (w : World) (hc : Sl w 4 Cell.cells vc b.cells) (hp : Sl w 2 pairC vp b.pairs) (hh : b.headOk = false) :
  Calls Tryz.prog 117 #[b.v vc vp] w fun e w' => e = .returned (I (basinE b)) ∧ Below w.heap.size w w' := by
 obtain ⟨Ac, nc, rfl, _, _, hlc, hAc⟩ := hc.open_
 obtain ⟨Ap, np, rfl, _, _, hlp, hAp⟩ := hp.open_
 clear hc hp hAc hAp
 rw [basinOk_head hh]
 unfold Basin.v
 rcases ilt b.cells.length 1 with h1 | h1
 ·clear hh
  go_enter Tryz.func117, Tryz.ntmps117
  go_wp2_with (go_at_call 118; refine (within5_is (by assumption) _).mono ?_; rintro e w' ⟨rfl, rfl⟩)
  go_ret
  exact ⟨rfl, below1 _ _⟩
 ·rcases ilt 12 b.cells.length with h2 | h2
  ·clear hh
   go_enter Tryz.func117, Tryz.ntmps117
   go_wp2_with (go_at_call 118; refine (within5_is (by assumption) _).mono ?_; rintro e w' ⟨rfl, rfl⟩)
   go_ret
   exact ⟨rfl, below1 _ _⟩
  ·rcases ilt 24 b.pairs.length with h3 | h3
   ·clear hh
    go_enter Tryz.func117, Tryz.ntmps117
    go_wp2_with (go_at_call 118; refine (within5_is (by assumption) _).mono ?_; rintro e w' ⟨rfl, rfl⟩)
    go_ret
    exact ⟨rfl, below1 _ _⟩
   ·cases h4 : inB b.gain 0 65536 with
    | false =>
     clear hh
     go_enter Tryz.func117, Tryz.ntmps117
     go_wp2_with (go_at_call 118; refine (within5_is (by assumption) _).mono ?_; rintro e w' ⟨rfl, rfl⟩)
     go_ret
     exact ⟨rfl, below1 _ _⟩
    | true =>
     cases h5 : inB b.slack 0 65536 with
     | false =>
      clear hh
      go_enter Tryz.func117, Tryz.ntmps117
      go_wp2_with (go_at_call 118; refine (within5_is (by assumption) _).mono ?_; rintro e w' ⟨rfl, rfl⟩)
      go_ret
      exact ⟨rfl, below1 _ _⟩
     | true =>
      cases h6 : inB b.deep 0 65536 with
      | false =>
       clear hh
       go_enter Tryz.func117, Tryz.ntmps117
       go_wp2_with (go_at_call 118; refine (within5_is (by assumption) _).mono ?_; rintro e w' ⟨rfl, rfl⟩)
       go_ret
       exact ⟨rfl, below1 _ _⟩
      | true => exact (head5 hh (by omega) (by omega) (by omega) h4 h5 h6).elim
theorem ref5_CheckBasin_valid (b : Basin) (vc vp : Value) (w : World) (hc : Sl w 4 Cell.cells vc b.cells) (hp : Sl w 2 pairC vp b.pairs) (hh : b.headOk = true) :
  Calls Tryz.prog 117 #[b.v vc vp] w fun e w' => e = .returned (I (basinE b)) ∧ Below w.heap.size w w' := by
 obtain ⟨A, n, rfl, _, _, hlc, hA⟩ := hc.open_
 obtain ⟨D, m, rfl, _, _, hlp, hD⟩ := hp.open_
 replace hc := hide hc
 replace hp := hide hp
 replace hA := hide hA
 replace hD := hide hD
 have hbad1 := hide (fun k (hk : k < b.cells.length) (h : cellGood b.cells k = false) => basinOk_cell (b := b) (all_of_not hk h))
 have hbad2 := hide (fun k (hk : k < b.pairs.length) (h : pairGood b.cells b.pairs k = false) => basinOk_pair (b := b) (all_of_not hk h))
 have hgood := hide (fun h2 h3 => basinOk_all (b := b) hh h2 h3)
 obtain ⟨⟨hl1, hl2⟩, hp2, h3, h4, h5⟩ := Basin.headOk_of hh
 clear hh
 have g1 : (1 : Int) ≤ b.cells.length := by omega
 have g2 : (b.cells.length : Int) ≤ 12 := by omega
 have g3 : (b.pairs.length : Int) ≤ 24 := by omega
 obtain ⟨E, hE⟩ : ∃ E, basinE b = E := ⟨_, rfl⟩
 rw [hE] at hbad1 hbad2 hgood ⊢
 clear hE
 unfold Basin.v
 go_enter Tryz.func117, Tryz.ntmps117
 go_wp2_with (go_at_call 118; refine (within5_is (by assumption) _).mono ?_; rintro e w' ⟨rfl, rfl⟩)
 clear h3 h4 h5 g1 g2 g3
 obtain ⟨W0, hW0⟩ : ∃ W0, W0 = w.alloc (.cells #[.slice A b.cells.length n, .slice D b.pairs.length m, I b.gain, I b.slack, I b.deep] 33) := ⟨_, rfl⟩
 have hK : BasAt W0 w.heap.size b (.slice A b.cells.length n) (.slice D b.pairs.length m) := by rw [hW0]; exact BasAt.new _ _ _ _ _
 have hbl : Below w.heap.size w W0 := by rw [hW0]; exact below1 _ _
 rw [← hW0]
 clear hW0
 replace hK := hide hK
 go_loopw [3] (fun i wr => ∃ k : Nat, k ≤ b.cells.length ∧ i = I k ∧ Hid (AllTo (cellGood b.cells) k) ∧ Below W0.heap.size W0 wr) (fun i _ => b.cells.length - (intOf i).toNat)
 case atStart => exact ⟨0, Nat.zero_le _, rfl, hide (AllTo.zero _), Below.refl _ _⟩
 case round =>
  obtain ⟨k, hk, rfl, hn, hb⟩ := hrel
  obtain ⟨hg0, q0, q1, q2, q3, q4⟩ := hK.out.grow hb
  by_cases hlt : k < b.cells.length
  ·obtain ⟨g, off, rfl, hbw⟩ := hA.out k hlt
   obtain ⟨x, hx⟩ := getElem?_of_lt hlt
   obtain ⟨hbx, e0, e1, e2, e3⟩ := ((unhide hc).mono (bup hbl hb)).cell_at hx
   have HR := fun w => ref5_validCell x w
   cases hok : cellOk x with
   | false =>
    have hfin := hide (hbad1.out k hlt (cellGood_head hx hok))
    rw [hok] at HR
    replace HR := hide HR
    clear hbad1 hbad2 hgood hx hn hok q1 q2 q3 q4
    go_wp2_with fail
    (refine wp_grow ?_; (repeat go_big_quiet_step ((go_at_call 169; exact calls_grew (HR.out _)))); refine wp_grow0 ?_; intro W1 hW1)
    go_wp2_with fail
    go_ret
    exact ⟨ret_int hfin.out.symm, bup (bup hbl hb) hW1⟩
   | true =>
    rw [hok] at HR
    replace HR := hide HR
    rcases Nat.lt_or_ge 0 k with hk0 | hk0
    ·obtain ⟨y, hy⟩ := getElem?_of_lt (xs := b.cells) (k := k - 1) (by omega)
     obtain ⟨_, p0, p1, p2, p3⟩ := ((unhide hc).mono (bup hbl hb)).cell_at hy
     have hpos := cellGood_pos hk0 hx hy hok
     clear hok
     rcases ilt y.no x.no with hd | hd
     ·have hyd : decide (x.no ≤ y.no) = false := by simp; omega
      have hg := hide (hn.out.succ (show cellGood b.cells k = true by rw [hpos]; simpa using hd))
      clear hbad1 hbad2 hgood hx hn hy hpos q1 q2 q3 q4
      go_wp2_with fail
      (refine wp_grow ?_; (repeat go_big_quiet_step ((go_at_call 169; exact calls_grew (HR.out _)))); refine wp_grow0 ?_; intro W1 hW1)
      go_wp2_with fail
      go_roundw
      case rel => exact ⟨k + 1, by omega, by go_num, hg, bup hb hW1⟩
      case measure => simp [intOf]; omega
     ·have hfin := hide (hbad1.out k hlt (by rw [hpos]; simp; omega))
      have hyd : decide (x.no ≤ y.no) = true := by simp; omega
      clear hbad1 hbad2 hgood hx hn hy hpos q1 q2 q3 q4
      go_wp2_with fail
      (refine wp_grow ?_; (repeat go_big_quiet_step ((go_at_call 169; exact calls_grew (HR.out _)))); refine wp_grow0 ?_; intro W1 hW1)
      go_wp2_with fail
      go_ret
      exact ⟨ret_int hfin.out.symm, bup (bup hbl hb) hW1⟩
    ·have hkd : decide (0 < k) = false := by simp; omega
     have hg := hide (hn.out.succ (show cellGood b.cells k = true by
      have hk00 : k = 0 := by omega
      subst hk00; exact cellGood_zero hx hok))
     clear hok
     clear hbad1 hbad2 hgood hx hn q1 q2 q3 q4
     go_wp2_with fail
     (refine wp_grow ?_; (repeat go_big_quiet_step ((go_at_call 169; exact calls_grew (HR.out _)))); refine wp_grow0 ?_; intro W1 hW1)
     go_wp2_with fail
     go_roundw
     case rel => exact ⟨k + 1, by omega, by go_num, hg, bup hb hW1⟩
     case measure => simp [intOf]; omega
  ·have he : k = b.cells.length := by omega
   subst he
   have hgood1 := hide (hgood.out (AllTo.all hn.out))
   clear hbad1 hn hgood
   go_wp2_with fail
   have hb0 := hide hb
   clear hb hg0 q0 q1 q2 q3 q4
   go_loopw [4] (fun i wr => ∃ k : Nat, k ≤ b.pairs.length ∧ i = I k ∧ Hid (AllTo (pairGood b.cells b.pairs) k) ∧ Below W0.heap.size W0 wr) (fun i _ => b.pairs.length - (intOf i).toNat)
   case atStart => exact ⟨0, Nat.zero_le _, rfl, hide (AllTo.zero _), hb0.out⟩
   case round =>
    clear hb0
    obtain ⟨k, hk, rfl, hn, hb⟩ := hrel
    obtain ⟨hg0, q0, q1, q2, q3, q4⟩ := hK.out.grow hb
    by_cases hlt : k < b.pairs.length
    ·obtain ⟨g, off, rfl, hbw⟩ := hD.out k hlt
     obtain ⟨⟨a, c⟩, hx⟩ := getElem?_of_lt hlt
     obtain ⟨hbx, e0, e1⟩ := ((unhide hp).mono (bup hbl hb)).pair_at hx
     simp only at e0 e1
     have hwl : IntKind.i64.wrap ((b.cells.length : Int) - 1) = (b.cells.length : Int) - 1 := IntWalk.i64_in _ (by omega)
     cases f1 : inB a 0 (b.cells.length - 1) with
     | false =>
      have hfin := hide (hbad2.out k hlt (pairGood_bad hx (by simp [pairOk_eq, f1])))
      clear hbad2 hgood1 hx hn q2 q3 q4
      go_wp2_with fail
      (refine wp_grow ?_; (repeat go_big_quiet_step ((go_at_call 118; exact calls_grew_same (within5_is (by assumption) _)))); refine wp_grow0 ?_; intro W1 hW1)
      go_wp2_with fail
      go_ret
      exact ⟨ret_int hfin.out.symm, bup (bup hbl hb) (bup (below1 _ _) hW1)⟩
     | true =>
      cases f2 : inB c 0 (b.cells.length - 1) with
      | false =>
       have hfin := hide (hbad2.out k hlt (pairGood_bad hx (by simp [pairOk_eq, f2])))
       clear hbad2 hgood1 hx hn q2 q3 q4
       go_wp2_with fail
       (refine wp_grow ?_; (repeat go_big_quiet_step ((go_at_call 118; exact calls_grew_same (within5_is (by assumption) _)))); refine wp_grow0 ?_; intro W1 hW1)
       go_wp2_with fail
       go_ret
       exact ⟨ret_int hfin.out.symm, bup (bup hbl hb) (bup (below1 _ _) hW1)⟩
      | true =>
       cases f3 : a == c with
       | true =>
        have hfin := hide (hbad2.out k hlt (pairGood_bad hx (by simp only [pairOk_eq, f3]; simp)))
        clear hbad2 hgood1 hx hn q2 q3 q4
        go_wp2_with fail
        (refine wp_grow ?_; (repeat go_big_quiet_step ((go_at_call 118; exact calls_grew_same (within5_is (by assumption) _)))); refine wp_grow0 ?_; intro W1 hW1)
        go_wp2_with fail
        go_ret
        exact ⟨ret_int hfin.out.symm, bup (bup hbl hb) (bup (below1 _ _) hW1)⟩
       | false =>
        obtain ⟨i, rfl⟩ : ∃ i : Nat, a = i := ⟨a.toNat, by have := inB_true.1 f1; omega⟩
        obtain ⟨j, rfl⟩ : ∃ j : Nat, c = j := ⟨c.toNat, by have := inB_true.1 f2; omega⟩
        have hil : i < b.cells.length := by have := inB_true.1 f1; omega
        have hjl : j < b.cells.length := by have := inB_true.1 f2; omega
        obtain ⟨x, hxi⟩ := getElem?_of_lt hil
        obtain ⟨y, hyj⟩ := getElem?_of_lt hjl
        obtain ⟨gc, oc, rfl, hcw⟩ := hA.out i hil
        obtain ⟨_, _, u1, _, _⟩ := ((unhide hc).mono (bup hbl hb)).cell_at hxi
        obtain ⟨_, _, v1, _, _⟩ := ((unhide hc).mono (bup hbl hb)).cell_at hyj
        have hgc := ((unhide hc).mono (bup hbl hb)).cell_at hxi |>.1
        have hok : pairOk b.cells ((i : Int), (j : Int)) = decide (x.height ≤ y.height) := by
         simp only [pairOk_eq, f1, f2, f3, Int.toNat_natCast, getD_of hxi, getD_of hyj]; rfl
        clear hxi hyj
        rcases ilt y.height x.height with hd | hd
        ·have hfin := hide (hbad2.out k hlt (pairGood_bad hx (by rw [hok]; simp; omega)))
         have hyd : decide (y.height < x.height) = true := by simpa using hd
         clear hok
         clear hbad2 hgood1 hx hn q2 q3 q4
         go_wp2_with fail
         (refine wp_grow ?_; (repeat go_big_quiet_step ((go_at_call 118; exact calls_grew_same (within5_is (by assumption) _)))); refine wp_grow0 ?_; intro W1 hW1)
         go_wp2_with fail
         go_ret
         exact ⟨ret_int hfin.out.symm, bup (bup hbl hb) (bup (below1 _ _) hW1)⟩
        ·have hpos := hide (pairGood_at hx (hok.trans (by simpa using hd)))
         have hyd : decide (y.height < x.height) = false := by simp; omega
         clear hok
         replace hbad2 := hide (fun h => hbad2.out k hlt h)
         have hij : ¬ ((i : Int) = j) := by simpa using f3
         obtain ⟨p, hpp⟩ : ∃ p : Int, p = i := ⟨_, rfl⟩
         obtain ⟨q, hqq⟩ : ∃ q : Int, q = j := ⟨_, rfl⟩
         go_wp2_with fail
         (refine wp_grow ?_; (repeat go_big_quiet_step ((go_at_call 118; exact calls_grew_same (within5_is (by assumption) _)))); refine wp_grow0 ?_; intro W1 hW1)
         clear hg0 q0 q1 q2 q3 q4 hbx e0 e1 u1 v1 hgc hyd hd hwl f1 f2
         have kP : Blk W1 wr.heap.size 177 #[I i, I j] := (Blk.new wr _ _).grow hW1
         have hbP := bup hb (bup (below1 _ _) hW1)
         clear hb hW1
         replace hbP := hide hbP
         obtain ⟨P, hP⟩ : ∃ P, P = wr.heap.size := ⟨_, rfl⟩
         simp only [← hP] at kP ⊢
         clear hP
         replace kP := hide kP
         replace hx := hide hx
         go_wp2_with fail
         go_loopw [6] (fun i' wr => ∃ k' : Nat, k' ≤ k ∧ i' = I k' ∧ Hid (((b.pairs.take k').map bothP).any (fun r => r == bothP ((i : Int), (j : Int))) = false) ∧ Below W1.heap.size W1 wr) (fun i' _ => k - (intOf i').toNat)
         case atStart => exact ⟨0, Nat.zero_le _, rfl, hide (by simp), Below.refl _ _⟩
         case round =>
          obtain ⟨k', hk', rfl, hany, hb2⟩ := hrel
          by_cases hlt' : k' < k
          ·have hbT := bup hbP.out hb2
           obtain ⟨hg0, q0, q1, q2, q3, q4⟩ := hK.out.grow hbT
           obtain ⟨g', off', hg', hbw'⟩ := hD.out k' (by omega)
           cases hg'
           obtain ⟨⟨d, e⟩, hy⟩ := getElem?_of_lt (show k' < b.pairs.length by omega)
           obtain ⟨hby, y0, y1⟩ := ((unhide hp).mono (bup hbl hbT)).pair_at hy
           simp only at y0 y1
           have kP2 := kP.out.grow hb2
           obtain ⟨p0, p1⟩ := kP2.cells2
           have hPlt := kP2.lt
           have hno := fun hn => bothP_no (a := (i : Int)) (c := (j : Int)) hy hany.out hn
           have hhit := fun hn => hbad2.out (by rw [hpos.out, bothP_hit hlt' hy hn]; rfl)
           clear hbad2 hgood1 hpos hx hany hn hy q2 q3 q4 kP2
           cases h1 : (d == (i : Int)) with
           | true =>
            have h1' : d = i := by simpa using h1
            cases h2 : (e == (j : Int)) with
            | true =>
             have h2' : e = j := by simpa using h2
             have hfin := hide (hhit (.inl ⟨h1', h2'⟩))
             clear h1' h2' hno hhit
             go_wp2_with fail
             go_ret
             exact ⟨ret_int hfin.out.symm, bup (bup hbl hbT) (below1 _ _)⟩
            | false =>
             have h2' : e ≠ j := by simpa using h2
             have h3 : (d == (j : Int)) = false := by simpa [h1'] using hij
             have hg := hide (hno (fun h => h.elim (fun h => h2' h.2) (fun h => hij (h1'.symm.trans h.1))))
             clear h1' h2' hno hhit
             go_wp2_with fail
             go_roundw
             case rel => exact ⟨k' + 1, by omega, by go_num, hg, bup hb2 (below1 _ _)⟩
             case measure => simp [intOf]; omega
           | false =>
            have h1' : d ≠ i := by simpa using h1
            cases h3 : (d == (j : Int)) with
            | false =>
             have h3' : d ≠ j := by simpa using h3
             have hg := hide (hno (fun h => h.elim (fun h => h1' h.1) (fun h => h3' h.1)))
             clear h1' h3' hno hhit
             go_wp2_with fail
             go_roundw
             case rel => exact ⟨k' + 1, by omega, by go_num, hg, bup hb2 (below1 _ _)⟩
             case measure => simp [intOf]; omega
            | true =>
             have h3' : d = j := by simpa using h3
             cases h4 : (e == (i : Int)) with
             | false =>
              have h4' : e ≠ i := by simpa using h4
              have hg := hide (hno (fun h => h.elim (fun h => h1' h.1) (fun h => h4' h.2)))
              clear h1' h3' h4' hno hhit
              go_wp2_with fail
              go_roundw
              case rel => exact ⟨k' + 1, by omega, by go_num, hg, bup hb2 (below1 _ _)⟩
              case measure => simp [intOf]; omega
             | true =>
              have h4' : e = i := by simpa using h4
              have hfin := hide (hhit (.inr ⟨h3', h4'⟩))
              clear h1' h3' h4' hno hhit
              go_wp2_with fail
              go_ret
              exact ⟨ret_int hfin.out.symm, bup (bup hbl hbT) (below1 _ _)⟩
          ·have he : k' = k := by omega
           subst he
           have hg := hide (hn.out.succ (show pairGood b.cells b.pairs k' = true by rw [hpos.out, hany.out]; rfl))
           clear hbad2 hgood1 hpos hx hany hn
           go_wp2_with fail
           go_roundw
           case rel => exact ⟨k' + 1, by omega, by go_num, hg, bup hbP.out hb2⟩
           case measure => simp [intOf]; omega
    ·have he : k = b.pairs.length := by omega
     subst he
     have hfin := hide (hgood1.out (AllTo.all hn.out))
     clear hbad2 hn hgood1
     go_wp2_with fail
     go_ret
     exact ⟨ret_int hfin.out.symm, bup hbl hb⟩
theorem ref5_CheckBasin (b : Basin) (vc vp : Value) (w : World) (hc : Sl w 4 Cell.cells vc b.cells) (hp : Sl w 2 pairC vp b.pairs) :
  Calls Tryz.prog 117 #[b.v vc vp] w fun e w' => e = .returned (I (basinE b)) ∧ Below w.heap.size w w' := by
 cases h : b.headOk with
 | false => exact ref5_CheckBasin_head b vc vp w hc hp h
 | true => exact ref5_CheckBasin_valid b vc vp w hc hp h

theorem law_short (no : Int) (vd : Value) (p : List Weather) (w : World) (hv : Sl w 3 Weather.cells vd p) : Calls Tryz.prog 9 #[.agg #[I no, vd]] w fun e w' => Flag e ∧ Below w.heap.size w w' := by
 obtain ⟨A, n, rfl, _, _, hlen, hA⟩ := hv.open_
 clear hA hv
 obtain ⟨m, hm⟩ : ∃ m : Int, (p.length : Int) = m := ⟨_, rfl⟩
 rcases ilt 40 m with q1 | q1
 ·rcases ilt 512 m with q2 | q2
  ·have g1 : decide ((p.length : Int) ≤ 40) = false := decide_eq_false (by omega)
   have g2 : decide ((512 : Int) < p.length) = true := decide_eq_true (by omega)
   clear hm q1 q2
   go_enter Tryz.func9, Tryz.ntmps9
   go_wp2_with fail
   refine bodyPost_ret (v := .bool true) (by simp [results, Tryz.results9, go_sem]) rfl ⟨⟨_, rfl⟩, below1 _ _⟩
  ·have g1 : decide ((p.length : Int) ≤ 40) = false := decide_eq_false (by omega)
   have g2 : decide ((512 : Int) < p.length) = false := decide_eq_false (by omega)
   clear hm q1 q2
   go_enter Tryz.func9, Tryz.ntmps9
   go_wp2_with fail
   refine bodyPost_ret (v := .bool false) (by simp [results, Tryz.results9, go_sem]) rfl ⟨⟨_, rfl⟩, below1 _ _⟩
 ·have g1 : decide ((p.length : Int) ≤ 40) = true := decide_eq_true (by omega)
  clear hm q1
  go_enter Tryz.func9, Tryz.ntmps9
  go_wp2_with fail
  refine bodyPost_ret (v := .bool true) (by simp [results, Tryz.results9, go_sem]) rfl ⟨⟨_, rfl⟩, below1 _ _⟩
theorem law_small (s : Scene) (V : SceneV) (w : World) (hs : SceneAt w s V) : Calls Tryz.prog 47 #[s.v V] w fun e w' => Flag e ∧ Below w.heap.size w w' := by
 obtain ⟨Ac, nc, hc, _⟩ := hs.cells.open_
 obtain ⟨Ap, np, hp, _⟩ := hs.pairs.open_
 obtain ⟨Ad, nd, hd, _⟩ := hs.days.open_
 obtain ⟨As, ns, hsi, _⟩ := hs.sights.open_
 obtain ⟨Ah, nh, hch, _⟩ := hs.changes.open_
 unfold Scene.v
 rw [hc, hp, hd, hsi, hch]
 clear hc hp hd hsi hch hs
 generalize s.basin.cells.length = l1
 generalize s.basin.pairs.length = l2
 generalize s.days.length = l3
 generalize s.sights.length = l4
 generalize s.changes.length = l5
 obtain ⟨m, hm⟩ : ∃ m, IntKind.i64.wrap ((l1 : Int) * (l3 : Int)) = m := ⟨_, rfl⟩
 rcases ilt 12 m with q1 | q1
 ·have g1 : decide (m ≤ 12) = false := decide_eq_false (by omega)
  go_enter Tryz.func47, Tryz.ntmps47
  go_wp2_with fail
  refine bodyPost_ret (v := .bool false) (by simp [results, Tryz.results47, go_sem]) rfl ⟨⟨_, rfl⟩, below1 _ _⟩
 ·have g1 : decide (m ≤ 12) = true := decide_eq_true (by omega)
  rcases ilt 8 (l2 : Int) with q2 | q2
  ·have g2 : decide ((l2 : Int) ≤ 8) = false := decide_eq_false (by omega)
   go_enter Tryz.func47, Tryz.ntmps47
   go_wp2_with fail
   refine bodyPost_ret (v := .bool false) (by simp [results, Tryz.results47, go_sem]) rfl ⟨⟨_, rfl⟩, below1 _ _⟩
  ·have g2 : decide ((l2 : Int) ≤ 8) = true := decide_eq_true (by omega)
   rcases ilt 10 (l4 : Int) with q3 | q3
   ·have g3 : decide ((l4 : Int) ≤ 10) = false := decide_eq_false (by omega)
    go_enter Tryz.func47, Tryz.ntmps47
    go_wp2_with fail
    refine bodyPost_ret (v := .bool false) (by simp [results, Tryz.results47, go_sem]) rfl ⟨⟨_, rfl⟩, below1 _ _⟩
   ·have g3 : decide ((l4 : Int) ≤ 10) = true := decide_eq_true (by omega)
    rcases ilt 10 (l5 : Int) with q4 | q4
    ·have g4 : decide ((l5 : Int) ≤ 10) = false := decide_eq_false (by omega)
     go_enter Tryz.func47, Tryz.ntmps47
     go_wp2_with fail
     refine bodyPost_ret (v := .bool false) (by simp [results, Tryz.results47, go_sem]) rfl ⟨⟨_, rfl⟩, below1 _ _⟩
    ·have g4 : decide ((l5 : Int) ≤ 10) = true := decide_eq_true (by omega)
     go_enter Tryz.func47, Tryz.ntmps47
     go_wp2_with fail
     refine bodyPost_ret (v := .bool true) (by simp [results, Tryz.results47, go_sem]) rfl ⟨⟨_, rfl⟩, below1 _ _⟩
end Go.Proofs.YtoojedjmlcdomaaGreatDoor
