/- The reference's shortest walks: so many passes as there are nodes and one more; they end as the program's do. Conditions stand in the theorems. -/
import Derived.Test.YtgbbljfmngmjeaaGreatReachPack
import Derived.Test.YtgbbljfmngmjeaaGreatBasin3Pack
set_option linter.all false
namespace Go.Proofs.YtgbbljfmngmjeaaGreat
open Go.RowKit

def lenRun (ds : List Diff) : Nat → Wk → Wk × Bool
 | 0, s => (s, false)
 | f + 1, s => if (wkPass ds s).ch < 0 then (wkPass ds s, true) else lenRun ds f (wkPass ds s)
theorem wkIter_snoc (ds : List Diff) (s : Wk) (k : Nat) : wkIter ds s (k + 1) = wkPass ds (wkIter ds s k) := rfl

section
variable {n : Nat} {ds : List Diff}
theorem len_run (hd : ∀ d ∈ ds, 0 ≤ d.frm ∧ d.frm < n ∧ 0 ≤ d.to ∧ d.to < n) (frm : List Int) : ∀ (f j : Nat), f + 1 + j = n → (wkRun ds (f + 1) (wkIter ds (wkInit n frm) j)).2 < 0 →
  ∀ g, lenRun ds (f + 1 + g) (wkIter ds (wkInit n frm) j) = ((wkRun ds (f + 1) (wkIter ds (wkInit n frm) j)).1, true)
 | f, j, hfj, h, g => by
  have hlen := (wkIter_len ds (wkInit n frm) (j + 1)).2.2.trans (wkInit_len n frm).2.2
  rw [show f + 1 + g = f + g + 1 by omega]
  unfold lenRun
  unfold wkRun at h ⊢
  simp only at h ⊢
  rw [← wkIter_snoc] at h ⊢
  by_cases hc : (wkIter ds (wkInit n frm) (j + 1)).ch < 0
  ·rw [if_pos hc, if_pos hc]
  ·rw [if_neg hc] at h ⊢
   rw [if_neg hc]
   by_cases hb : 0 ≤ loopF (wkIter ds (wkInit n frm) (j + 1)).last ds (wkIter ds (wkInit n frm) (j + 1)).last.length (wkIter ds (wkInit n frm) (j + 1)).ch.toNat
   ·rw [if_pos hb] at h
    simp only at h
    omega
   ·rw [if_neg hb] at h ⊢
    match f, hfj, h with
    | 0, hfj, h =>
     have := grow_last hd frm (k := j) (by omega) (t := wkIter ds (wkInit n frm) (j + 1)) rfl (by omega)
     rw [hlen] at hb
     exact absurd this hb
    | f + 1, hfj, h =>
     exact len_run hd frm f (j + 1) (by omega) h g
theorem len_grow (hd : ∀ d ∈ ds, 0 ≤ d.frm ∧ d.frm < n ∧ 0 ≤ d.to ∧ d.to < n) (frm : List Int) (hn : 0 < n) (h : (growF n ds frm).2 < 0) : lenRun ds (n + 1) (wkInit n frm) = ((growF n ds frm).1, true) := by
 obtain ⟨f, rfl⟩ : ∃ f, n = f + 1 := ⟨n - 1, by omega⟩
 exact len_run hd frm f 0 (by omega) h 1

structure Tree (n : Nat) (ds : List Diff) (π : Nat → Int) (s : Wk) (tm : Nat → Nat) (T : Nat) : Prop where
 old : ∀ v, tm v ≤ T
 par : ∀ v, v < n → 0 ≤ s.last.getD v (-1) → s.last.getD v (-1) < ds.length ∧ s.has.getD (ds.getD (s.last.getD v (-1)).toNat default).frm.toNat false = true ∧
  (s.long.getD (ds.getD (s.last.getD v (-1)).toNat default).frm.toNat 0 - π (ds.getD (s.last.getD v (-1)).toNat default).frm.toNat < s.long.getD v 0 - π v ∨
   (s.long.getD (ds.getD (s.last.getD v (-1)).toNat default).frm.toNat 0 - π (ds.getD (s.last.getD v (-1)).toNat default).frm.toNat = s.long.getD v 0 - π v ∧ tm (ds.getD (s.last.getD v (-1)).toNat default).frm.toNat < tm v))
theorem Tree.step {π : Nat → Int} {s : Wk} {tm : Nat → Nat} {T k : Nat} (hd : ∀ d ∈ ds, 0 ≤ d.frm ∧ d.frm < n ∧ 0 ≤ d.to ∧ d.to < n) (hp : ∀ d ∈ ds, π d.to.toNat ≤ π d.frm.toNat + d.most)
  (hl : s.long.length = n) (hh : s.has.length = n) (ht : s.last.length = n) (hk : k < ds.length) (h : Tree n ds π s tm T) : ∃ tm' T', Tree n ds π (wkStep s k (ds.getD k default)) tm' T' := by
 obtain ⟨d, hdk⟩ : ∃ d, ds.getD k default = d := ⟨_, rfl⟩
 have hdm : d ∈ ds := hdk ▸ getD_mem hk
 obtain ⟨f0, f1, t0, t1⟩ := hd d hdm
 have hw := hp d hdm
 rw [hdk]
 unfold wkStep
 cases hb : wkB s d with
 | false => exact ⟨tm, T, by simpa using h⟩
 | true =>
  rw [if_pos rfl]
  unfold wkB at hb
  simp only [Bool.and_eq_true, Bool.or_eq_true, Bool.not_eq_true', decide_eq_true_eq] at hb
  obtain ⟨b1, b2⟩ := hb
  have hun : d.frm.toNat < n := by omega
  have hvn : d.to.toNat < n := by omega
  obtain ⟨u, hu⟩ : ∃ u, d.frm.toNat = u := ⟨_, rfl⟩
  obtain ⟨v, hv⟩ : ∃ v, d.to.toNat = v := ⟨_, rfl⟩
  simp only [hu, hv] at hw b1 b2 hun hvn ⊢
  have huv : v ≠ u := by
   intro e
   subst e
   rcases b2 with b2 | b2
   ·rw [b1] at b2; cases b2
   ·omega
  have hlow : s.has.getD v false = true → s.long.getD u 0 + d.most - π v < s.long.getD v 0 - π v := fun hvt => by
   rcases b2 with b2 | b2
   ·rw [hvt] at b2; cases b2
   ·omega
  refine ⟨fun x => if x = v then T + 1 else tm x, T + 1, fun x => ?_, fun x hx hlx => ?_⟩
  ·split
   ·exact Nat.le_refl _
   ·have := h.old x; omega
  ·by_cases ex : x = v
   ·subst ex
    simp only at hlx ⊢
    rw [getD_set_same (by omega)] at hlx ⊢
    have e1 : ((k : Int)).toNat = k := by omega
    rw [e1, hdk, hu]
    rw [getD_set_same (by omega), getD_set_other huv, getD_set_other huv]
    refine ⟨by omega, b1, ?_⟩
    have := h.old u
    simp only [if_pos, if_neg (Ne.symm huv)]
    omega
   ·simp only at hlx ⊢
    rw [getD_set_other (Ne.symm ex)] at hlx ⊢
    obtain ⟨p1, p2, p3⟩ := h.par x hx hlx
    obtain ⟨y, hy⟩ : ∃ y, (ds.getD (s.last.getD x (-1)).toNat default).frm.toNat = y := ⟨_, rfl⟩
    rw [hy] at p2 p3 ⊢
    rw [getD_set_other (Ne.symm ex)]
    by_cases ey : y = v
    ·subst ey
     rw [getD_set_same (by omega), getD_set_same (by omega)]
     refine ⟨p1, rfl, .inl ?_⟩
     have := hlow p2
     omega
    ·rw [getD_set_other (Ne.symm ey), getD_set_other (Ne.symm ey)]
     refine ⟨p1, p2, ?_⟩
     simp only [if_neg ex, if_neg ey]
     exact p3
theorem Tree.to {π : Nat → Int} {s : Wk} {tm : Nat → Nat} {T : Nat} (hd : ∀ d ∈ ds, 0 ≤ d.frm ∧ d.frm < n ∧ 0 ≤ d.to ∧ d.to < n) (hp : ∀ d ∈ ds, π d.to.toNat ≤ π d.frm.toNat + d.most)
  (hl : s.long.length = n) (hh : s.has.length = n) (ht : s.last.length = n) (h : Tree n ds π s tm T) : ∀ k, k ≤ ds.length → ∃ tm' T', Tree n ds π (wkTo ds s k) tm' T'
 | 0, _ => ⟨tm, T, h.old, h.par⟩
 | k + 1, hk => by
  obtain ⟨tm', T', h'⟩ := Tree.to hd hp hl hh ht h k (by omega)
  have hlen := wkTo_len ds s k
  exact h'.step hd hp (hlen.1.trans hl) (hlen.2.1.trans hh) (hlen.2.2.trans ht) (by omega)
theorem Tree.iter {π : Nat → Int} (hd : ∀ d ∈ ds, 0 ≤ d.frm ∧ d.frm < n ∧ 0 ≤ d.to ∧ d.to < n) (hp : ∀ d ∈ ds, π d.to.toNat ≤ π d.frm.toNat + d.most) (frm : List Int) : ∀ k, ∃ tm T, Tree n ds π (wkIter ds (wkInit n frm) k) tm T
 | 0 => by
  refine ⟨fun _ => 0, 0, fun _ => Nat.le_refl _, fun v hv h0 => ?_⟩
  simp only [wkIter, wkInit, List.getD_eq_getElem?_getD, List.getElem?_replicate, if_pos hv, Option.getD_some] at h0
  omega
 | k + 1 => by
  obtain ⟨tm, T, h⟩ := Tree.iter hd hp frm k
  have h1 := wkIter_len ds (wkInit n frm) k
  have h2 := wkInit_len n frm
  exact h.to hd hp (h1.1.trans h2.1) (h1.2.1.trans h2.2.1) (h1.2.2.trans h2.2.2) ds.length (Nat.le_refl _)
theorem count_lt {p q : Nat → Bool} : ∀ {l : List Nat} {x : Nat}, (∀ y ∈ l, p y = true → q y = true) → x ∈ l → q x = true → p x = false → l.countP p < l.countP q
 | [], x, _, hx, _, _ => by simp at hx
 | y :: l, x, h, hx, hq, hp => by
  have hle : ∀ l' : List Nat, (∀ z ∈ l', p z = true → q z = true) → l'.countP p ≤ l'.countP q := fun l' h' => List.countP_mono_left h'
  rw [List.countP_cons, List.countP_cons]
  rcases List.mem_cons.1 hx with rfl | hx
  ·have := hle l fun z hz => h z (by simp [hz])
   rw [hq, hp]
   simp
   omega
  ·have := count_lt (fun z hz => h z (by simp [hz])) hx hq hp
   have hy := h y (by simp)
   cases hpy : p y with
   | false => simp; cases q y <;> simp <;> omega
   | true => rw [hy hpy]; simp; omega
def ahead (n : Nat) (π : Nat → Int) (s : Wk) (tm : Nat → Nat) (v : Nat) : Nat :=
 (List.range n).countP fun y => decide (s.long.getD y 0 - π y < s.long.getD v 0 - π v) || (decide (s.long.getD y 0 - π y = s.long.getD v 0 - π v) && decide (tm y < tm v))
theorem ahead_lt {π : Nat → Int} {s : Wk} {tm : Nat → Nat} {v u : Nat} (hu : u < n) (h : s.long.getD u 0 - π u < s.long.getD v 0 - π v ∨ (s.long.getD u 0 - π u = s.long.getD v 0 - π v ∧ tm u < tm v)) : ahead n π s tm u < ahead n π s tm v := by
 refine count_lt (x := u) (fun y _ hy => ?_) (List.mem_range.2 hu) ?_ ?_
 ·simp only [Bool.or_eq_true, Bool.and_eq_true, decide_eq_true_eq] at hy ⊢
  omega
 ·simp only [Bool.or_eq_true, Bool.and_eq_true, decide_eq_true_eq]
  omega
 ·simp
theorem ahead_n {π : Nat → Int} {s : Wk} {tm : Nat → Nat} {v : Nat} (hv : v < n) : ahead n π s tm v < n := by
 have h := count_lt (p := fun y => decide (s.long.getD y 0 - π y < s.long.getD v 0 - π v) || (decide (s.long.getD y 0 - π y = s.long.getD v 0 - π v) && decide (tm y < tm v))) (q := fun _ => true) (l := List.range n) (x := v) (fun _ _ _ => rfl) (List.mem_range.2 hv) rfl (by simp)
 simpa [ahead] using h
theorem Tree.noloop {π : Nat → Int} {s : Wk} {tm : Nat → Nat} {T : Nat} (hd : ∀ d ∈ ds, 0 ≤ d.frm ∧ d.frm < n ∧ 0 ≤ d.to ∧ d.to < n) (h : Tree n ds π s tm T) : ∀ (k v : Nat), v < n → 0 ≤ loopF s.last ds k v → k ≤ ahead n π s tm v
 | 0, v, _, _ => Nat.zero_le _
 | k + 1, v, hv, hl => by
  unfold loopF at hl
  by_cases h0 : s.last.getD v (-1) < 0
  ·rw [if_pos h0] at hl; omega
  ·rw [if_neg h0] at hl
   obtain ⟨p1, _, p3⟩ := h.par v hv (by omega)
   have hm := hd _ (getD_mem (ds := ds) (i := (s.last.getD v (-1)).toNat) (by omega))
   have hu : (ds.getD (s.last.getD v (-1)).toNat default).frm.toNat < n := by omega
   have := h.noloop hd k _ hu hl
   have := ahead_lt (tm := tm) hu p3
   omega
theorem run_fine {π : Nat → Int} (hd : ∀ d ∈ ds, 0 ≤ d.frm ∧ d.frm < n ∧ 0 ≤ d.to ∧ d.to < n) (hp : ∀ d ∈ ds, π d.to.toNat ≤ π d.frm.toNat + d.most) (frm : List Int) : ∀ (f j : Nat), (wkRun ds f (wkIter ds (wkInit n frm) j)).2 < 0
 | 0, j => by simp [wkRun]
 | f + 1, j => by
  have hlen := (wkIter_len ds (wkInit n frm) (j + 1)).2.2.trans (wkInit_len n frm).2.2
  unfold wkRun
  simp only
  rw [← wkIter_snoc]
  by_cases hc : (wkIter ds (wkInit n frm) (j + 1)).ch < 0
  ·rw [if_pos hc]; simp
  ·rw [if_neg hc]
   have hch := wkTo_ch (ds := ds) (n := n) (s := wkIter ds (wkInit n frm) j) (fun d hd' => ⟨(hd d hd').2.2.1, (hd d hd').2.2.2⟩) ds.length (Nat.le_refl _)
   have e : wkIter ds (wkInit n frm) (j + 1) = wkTo ds (wkIter ds (wkInit n frm) j) ds.length := rfl
   rw [← e] at hch
   obtain ⟨tm, T, ht⟩ := Tree.iter hd hp frm (j + 1)
   have hb : ¬ 0 ≤ loopF (wkIter ds (wkInit n frm) (j + 1)).last ds (wkIter ds (wkInit n frm) (j + 1)).last.length (wkIter ds (wkInit n frm) (j + 1)).ch.toNat := fun hb => by
    rw [hlen] at hb
    have h1 := ht.noloop hd n _ (by omega) hb
    have h2 := ahead_n (n := n) (π := π) (s := wkIter ds (wkInit n frm) (j + 1)) (tm := tm) (v := (wkIter ds (wkInit n frm) (j + 1)).ch.toNat) (by omega)
    omega
   rw [if_neg hb]
   exact run_fine hd hp frm f (j + 1)
theorem grow_fine {π : Nat → Int} (hd : ∀ d ∈ ds, 0 ≤ d.frm ∧ d.frm < n ∧ 0 ≤ d.to ∧ d.to < n) (hp : ∀ d ∈ ds, π d.to.toNat ≤ π d.frm.toNat + d.most) (frm : List Int) : (growF n ds frm).2 < 0 := run_fine hd hp frm n 0
theorem len_still {s : Wk} : ∀ (f : Nat) (j : Nat), (lenRun ds f (wkIter ds s j)).2 = true → ∃ i, (wkPass ds (wkIter ds s i)).ch < 0
 | 0, _, h => by simp [lenRun] at h
 | f + 1, j, h => by
  unfold lenRun at h
  by_cases hc : (wkPass ds (wkIter ds s j)).ch < 0
  ·exact ⟨j, hc⟩
  ·rw [if_neg hc] at h
   exact len_still f (j + 1) h
theorem allHas_init : AllHas n (wkInit n (allF n)) := by
 refine ⟨(wkInit_len n _).2.1, fun i hi => ?_⟩
 refine foldl_set n (allF n) _ (by simp) (fun i hi => .inr (by simp [allF]; exact ⟨i, hi, rfl⟩)) (fun x hx => ?_) i hi
 simp [allF] at hx
 obtain ⟨a, _, rfl⟩ := hx
 omega
theorem AllHas.step {s : Wk} {k : Nat} {d : Diff} (h : AllHas n s) : AllHas n (wkStep s k d) := by
 unfold wkStep
 split
 ·refine ⟨by simp [h.1], fun i hi => ?_⟩
  simp only
  rw [List.getD_eq_getElem?_getD, List.getElem?_set]
  split
  ·split
   ·rfl
   ·rename_i h1 h2; have := h.1; omega
  ·have := h.2 i hi; rwa [List.getD_eq_getElem?_getD] at this
 ·exact h
theorem AllHas.to {s : Wk} (h : AllHas n s) : ∀ k, AllHas n (wkTo ds s k)
 | 0 => h
 | k + 1 => (AllHas.to h k).step
theorem AllHas.iter {s : Wk} (h : AllHas n s) : ∀ k, AllHas n (wkIter ds s k)
 | 0 => h
 | k + 1 => (AllHas.iter h k).to _
theorem len_potential (hd : ∀ d ∈ ds, 0 ≤ d.frm ∧ d.frm < n ∧ 0 ≤ d.to ∧ d.to < n) {f : Nat} (h : (lenRun ds f (wkInit n (allF n))).2 = true) : ∃ π : Nat → Int, ∀ d ∈ ds, π d.to.toNat ≤ π d.frm.toNat + d.most := by
 obtain ⟨i, hi⟩ := len_still f 0 h
 obtain ⟨_, h2⟩ := pass_still (fun d hd' => (hd d hd').2.2.1) ds.length (Nat.le_refl _) hi
 have ha := (allHas_init (n := n)).iter (ds := ds) i
 refine ⟨fun v => (wkIter ds (wkInit n (allF n)) i).long.getD v 0, fun d hd' => ?_⟩
 obtain ⟨k, hk, rfl⟩ := List.getElem_of_mem hd'
 have h3 := h2 k hk
 rw [show ds.getD k default = ds[k] by simp [List.getD_eq_getElem?_getD, List.getElem?_eq_getElem hk]] at h3
 have hb := hd _ hd'
 exact (h3 (ha.2 _ (by omega))).2
theorem len_solvable (hd : ∀ d ∈ ds, 0 ≤ d.frm ∧ d.frm < n ∧ 0 ≤ d.to ∧ d.to < n) (hn : 0 < n) : (lenRun ds (n + 1) (wkInit n (allF n))).2 = decide ((growF n ds (allF n)).2 < 0) := by
 by_cases h : (growF n ds (allF n)).2 < 0
 ·rw [len_grow hd _ hn h, decide_eq_true h]
 ·rw [decide_eq_false h]
  cases hb : (lenRun ds (n + 1) (wkInit n (allF n))).2 with
  | false => rfl
  | true =>
   obtain ⟨π, hp⟩ := len_potential hd hb
   exact absurd (grow_fine hd hp _) h
theorem len_top (hd : ∀ d ∈ ds, 0 ≤ d.frm ∧ d.frm < n ∧ 0 ≤ d.to ∧ d.to < n) (hn : 0 < n) (h : (growF n ds (allF n)).2 < 0) : (lenRun ds (n + 1) (wkInit n [0])) = ((growF n ds [0]).1, true) := by
 obtain ⟨π, hp⟩ := potential hd hn h
 exact len_grow hd _ hn (grow_fine hd hp _)
end

theorem scene7_basin {s : Scene} (h : sceneE s = 0) : basinOk s.basin = true := by
 cases hb : basinOk s.basin with
 | true => rfl
 | false => simp [sceneE, hb] at h
section
variable {n : Nat} {ds : List Diff}
def Fed (n : Nat) (ds : List Diff) : Prop := ∀ v : Nat, v < n → v ≠ 0 → ∃ a, (⟨0, (v : Int), a⟩ : Diff) ∈ ds
theorem fed_has (hn : 0 < n) (hd : ∀ d ∈ ds, 0 ≤ d.frm ∧ d.frm < n ∧ 0 ≤ d.to ∧ d.to < n) (hf : Fed n ds) : ∀ v, v < n → (growF n ds [0]).1.has.getD v false = true := by
 intro v hv
 have hu := up_grow (ds := ds) hn hd
 by_cases h0 : v = 0
 ·subst h0; exact hu.2.2.1
 ·obtain ⟨a, ha⟩ := hf v hv h0
  obtain ⟨i, hi⟩ := List.mem_iff_getElem?.1 ha
  have hil := (List.getElem?_eq_some_iff.1 hi).1
  have hg : ds.getD i default = ⟨0, (v : Int), a⟩ := by rw [List.getD_eq_getElem?_getD, hi]; rfl
  have h3 := (hu.2.2.2.2 i hil (by rw [hg])).1
  rw [hg] at h3
  simpa using h3
theorem fed_any (hn : 0 < n) (hd : ∀ d ∈ ds, 0 ≤ d.frm ∧ d.frm < n ∧ 0 ≤ d.to ∧ d.to < n) (hf : Fed n ds) : (growF n ds [0]).1.has.any (fun x => x == false) = false := by
 have hu := up_grow (ds := ds) hn hd
 rw [Bool.eq_false_iff]
 intro h
 obtain ⟨x, hx, hxf⟩ := List.any_eq_true.1 h
 obtain ⟨i, hi⟩ := List.mem_iff_getElem?.1 hx
 have hil := (List.getElem?_eq_some_iff.1 hi).1
 have hlen : (growF n ds [0]).1.has.length = n := hu.2.1
 have := fed_has hn hd hf i (by omega)
 rw [List.getD_eq_getElem?_getD, hi] at this
 simp at this hxf
 rw [this] at hxf
 cases hxf
theorem fed_cases (hn : 0 < n) (hd : ∀ d ∈ ds, 0 ≤ d.frm ∧ d.frm < n ∧ 0 ≤ d.to ∧ d.to < n) (hf : Fed n ds) : endsE n ds = 0 ∨ endsE n ds = 41 := by
 unfold endsE
 rw [fed_any hn hd hf]
 split
 ·exact .inr rfl
 ·exact .inl rfl
theorem fed_pot (hn : 0 < n) (hd : ∀ d ∈ ds, 0 ≤ d.frm ∧ d.frm < n ∧ 0 ≤ d.to ∧ d.to < n) (hf : Fed n ds) : endsE n ds = 0 ↔ ∃ π : Nat → Int, ∀ d ∈ ds, π d.to.toNat ≤ π d.frm.toNat + d.most := by
 constructor
 ·exact fun h => potential hd hn (endsE_neg h)
 ·rintro ⟨π, hπ⟩
  unfold endsE
  rw [fed_any hn hd hf, if_neg (by have := grow_fine hd hπ (allF n); omega)]
  rfl
theorem fed_top (hn : 0 < n) (hd : ∀ d ∈ ds, 0 ≤ d.frm ∧ d.frm < n ∧ 0 ≤ d.to ∧ d.to < n) (hf : Fed n ds) (h : endsE n ds = 0) : (∀ d ∈ ds, (endsL n ds).getD d.to.toNat 0 ≤ (endsL n ds).getD d.frm.toNat 0 + d.most) ∧ (endsL n ds).getD 0 0 = 0 ∧
  ∀ π : Nat → Int, (∀ d ∈ ds, π d.to.toNat ≤ π d.frm.toNat + d.most) → ∀ i, i < n → π i - π 0 ≤ (endsL n ds).getD i 0 := by
 obtain ⟨π, hπ⟩ := (fed_pot hn hd hf).1 h
 have hl : ∀ π : Nat → Int, (∀ d ∈ ds, π d.to.toNat ≤ π d.frm.toNat + d.most) → ∀ i, i < n → π i - π 0 ≤ (endsL n ds).getD i 0 := fun π hπ i hi => low_grow hπ hd i (fed_has hn hd hf i hi)
 refine ⟨fun d hdm => ?_, ?_, hl⟩
 ·have hb := hd d hdm
  exact (grow_still hd [0] hn (grow_fine hd hπ [0]) d hdm (fed_has hn hd hf d.frm.toNat (by omega))).2
 ·have h1 := hl π hπ 0 hn
  have h2 : (endsL n ds).getD 0 0 ≤ 0 := (up_grow (ds := ds) hn hd).2.2.2.1
  omega
end
section
variable {s : Scene}
theorem lay_fed (hs : SceneOk s) : Fed (nodesN s) (layD s) ∧ Fed (nodesN s) ((layD s).map turnD) := by
 have h : ∀ v : Nat, v < nodesN s → v ≠ 0 → (⟨0, (v : Int), s.basin.deep⟩ : Diff) ∈ layD s ∧ (⟨(v : Int), 0, 0⟩ : Diff) ∈ layD s := fun v hv h0 => by
  obtain ⟨v, rfl⟩ : ∃ u, v = u + 1 := ⟨v - 1, by omega⟩
  have hC := hs.basin.hc1
  have hv3 : v < s.days.length * s.basin.cells.length := by unfold nodesN at hv; omega
  have hd : v / s.basin.cells.length < s.days.length := Nat.div_lt_of_lt_mul (by rw [Nat.mul_comm]; exact hv3)
  have hc : v % s.basin.cells.length < s.basin.cells.length := Nat.mod_lt _ hC
  have hm := cellD_mem hd hc
  have e : nodeF s.basin.cells.length ((v % s.basin.cells.length : Nat) : Int) ((v / s.basin.cells.length : Nat) : Int) = ((v + 1 : Nat) : Int) := by
   unfold nodeF
   have h3 := Nat.div_add_mod v s.basin.cells.length
   have h4 : v / s.basin.cells.length * s.basin.cells.length = s.basin.cells.length * (v / s.basin.cells.length) := Nat.mul_comm _ _
   have h5 : ((v / s.basin.cells.length : Nat) : Int) * (s.basin.cells.length : Int) = ((v / s.basin.cells.length * s.basin.cells.length : Nat) : Int) := by push_cast; rfl
   first
    | (rw [h5]; omega)
    | (have h6 : ((s.basin.cells.length : Nat) : Int) * ((v / s.basin.cells.length : Nat) : Int) = ((v / s.basin.cells.length * s.basin.cells.length : Nat) : Int) := by rw [h4]; push_cast; rfl
       rw [h6]; omega)
  rw [← e]
  exact ⟨hm _ (by simp [cellD]), hm _ (by simp [cellD])⟩
 refine ⟨fun v hv h0 => ⟨_, (h v hv h0).1⟩, fun v hv h0 => ⟨0, ?_⟩⟩
 exact List.mem_map.2 ⟨_, (h v hv h0).2, rfl⟩
theorem nodes_pos (hs : SceneOk s) : 0 < nodesN s := by have := hs.net.h1; omega
theorem great_is (h : sceneE s = 0) : greatE s = endsE (nodesN s) (layD s) := by simp [greatE, h]
theorem least_is (h : sceneE s = 0) : leastE s = endsE (nodesN s) ((layD s).map turnD) := by simp [leastE, h]
theorem great_cases (h : sceneE s = 0) : greatE s = 0 ∨ greatE s = 41 := by
 have hs := SceneOk.of h
 rw [great_is h]
 exact fed_cases (nodes_pos hs) hs.net.hds (lay_fed hs).1
theorem great_pot (h : sceneE s = 0) : greatE s = 0 ↔ ∃ π : Nat → Int, ∀ d ∈ layD s, π d.to.toNat ≤ π d.frm.toNat + d.most := by
 have hs := SceneOk.of h
 rw [great_is h]
 exact fed_pot (nodes_pos hs) hs.net.hds (lay_fed hs).1
theorem least_great (h : sceneE s = 0) : leastE s = greatE s := by
 have hs := SceneOk.of h
 have c1 := fed_cases (nodes_pos hs) hs.net.turn.hds (lay_fed hs).2
 have c2 := great_cases h
 have p1 := fed_pot (nodes_pos hs) hs.net.turn.hds (lay_fed hs).2
 have p2 := great_pot h
 rw [← least_is h] at c1 p1
 have hiff : leastE s = 0 ↔ greatE s = 0 := by
  rw [p1, p2]
  constructor
  ·rintro ⟨π, hπ⟩
   refine ⟨fun i => - π i, fun d hd => ?_⟩
   have := hπ (turnD d) (List.mem_map.2 ⟨d, hd, rfl⟩)
   simp only [turnD] at this
   show -π d.to.toNat ≤ -π d.frm.toNat + d.most
   omega
  ·rintro ⟨π, hπ⟩
   refine ⟨fun i => - π i, fun d hd => ?_⟩
   obtain ⟨e, he, rfl⟩ := List.mem_map.1 hd
   have := hπ e he
   simp only [turnD]
   omega
 omega
theorem rows_at {n m : Nat} {l : List Int} {d c : Nat} (hd : d < m) (hc : c < n) : ((rowsF n m l).getD d []).getD c 0 = l.getD (1 + d * n + c) 0 := by
 have h1 : (rowsF n m l).getD d [] = (l.drop (1 + d * n)).take n := by
  unfold rowsF
  simp [List.getD_eq_getElem?_getD, hd]
 rw [h1]
 simp [List.getD_eq_getElem?_getD, List.getElem?_take, hc, List.getElem?_drop]
theorem rows_in {s : Scene} {d c : Nat} (hd : d < s.days.length) (hc : c < s.basin.cells.length) : 1 + d * s.basin.cells.length + c < nodesN s := by
 unfold nodesN
 have := Nat.mul_le_mul_right s.basin.cells.length (show d + 1 ≤ s.days.length by omega)
 rw [Nat.add_mul, Nat.one_mul] at this
 omega
theorem great_top (h : sceneE s = 0) (hg : greatE s = 0) {π : Nat → Int} (hπ : ∀ d ∈ layD s, π d.to.toNat ≤ π d.frm.toNat + d.most) {d c : Nat} (hd : d < s.days.length) (hc : c < s.basin.cells.length) :
  π (1 + d * s.basin.cells.length + c) - π 0 ≤ ((greatF s).getD d []).getD c 0 := by
 have hs := SceneOk.of h
 rw [great_is h] at hg
 unfold greatF
 rw [rows_at hd hc]
 exact (fed_top (nodes_pos hs) hs.net.hds (lay_fed hs).1 hg).2.2 π hπ _ (rows_in hd hc)
end
end Go.Proofs.YtgbbljfmngmjeaaGreat
