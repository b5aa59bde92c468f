/- Shortest walks: where no round is found, the lengths are a potential; so the least and the greatest water of a scene lie within its bounds. Conditions stand in the theorems. -/
import Derived.Test.YtmjfdobjnnfafaaGreatDoorSolvePack
import Derived.Test.YtmjfdobjnnfafaaGreatDoorPlugPack
set_option linter.all false
namespace Go.Proofs.YtmjfdobjnnfafaaGreatDoor
open Go.RowKit

theorem getD_mem {ds : List Diff} {i : Nat} (h : i < ds.length) : ds.getD i default ∈ ds := by
  rw [List.getD_eq_getElem?_getD, List.getElem?_eq_getElem h]; exact List.getElem_mem _
/-- A pass without a change leaves everything as it is, and all is satisfied. -/
theorem pass_still {ds : List Diff} (hd : ∀ d ∈ ds, 0 ≤ d.to) {s : Wk} : ∀ k, k ≤ ds.length → (wkTo ds s k).ch < 0 → wkTo ds s k = { s with ch := -1 } ∧ ∀ i, i < k → Sat { s with ch := -1 } (ds.getD i default)
  | 0, _, _ => ⟨rfl, fun i hi => absurd hi (Nat.not_lt_zero _)⟩
  | k + 1, hk, hc => by
    simp only [wkTo] at hc ⊢
    unfold wkStep at hc ⊢
    split at hc
    · have := hd _ (getD_mem (ds := ds) (i := k) (by omega)); dsimp only at hc; omega
    · rename_i hb
      obtain ⟨h1, h2⟩ := pass_still hd k (by omega) hc
      rw [if_neg hb]
      refine ⟨h1, fun i hi => ?_⟩
      rcases Nat.lt_or_ge i k with h | h
      · exact h2 i h
      · have : i = k := by omega
        subst this
        rw [h1] at hb
        exact sat_of_not (by simpa using hb)
theorem run_still {n : Nat} {ds : List Diff} (hd : ∀ d ∈ ds, 0 ≤ d.frm ∧ d.frm < n ∧ 0 ≤ d.to ∧ d.to < n) (frm : List Int) : ∀ (f j : Nat), f + j = n → 0 < f → (wkRun ds f (wkIter ds (wkInit n frm) j)).2 < 0 → ∀ d ∈ ds, Sat (wkRun ds f (wkIter ds (wkInit n frm) j)).1 d
  | 0, _, _, h0, _ => absurd h0 (Nat.lt_irrefl 0)
  | f + 1, j, hfj, _, h => by
    have hlen := wkIter_len ds (wkInit n frm) (j + 1)
    have hlen2 := wkInit_len n frm
    have hll : (wkPass ds (wkIter ds (wkInit n frm) j)).last.length = n := hlen.2.2.trans hlen2.2.2
    simp only [wkRun] at h ⊢
    by_cases hc : (wkPass ds (wkIter ds (wkInit n frm) j)).ch < 0
    · rw [if_pos hc]
      obtain ⟨h1, h2⟩ := pass_still (fun d hd' => (hd d hd').2.2.1) ds.length (Nat.le_refl _) hc
      intro d hdm
      obtain ⟨i, hi⟩ := List.mem_iff_getElem?.1 hdm
      have hil := (List.getElem?_eq_some_iff.1 hi).1
      have h3 := h2 i hil
      rw [show ds.getD i default = d by rw [List.getD_eq_getElem?_getD, hi]; rfl] at h3
      show Sat (wkPass ds (wkIter ds (wkInit n frm) j)) d
      unfold wkPass
      rw [h1]
      exact h3
    · rw [if_neg hc] at h ⊢
      by_cases hb : 0 ≤ loopF (wkPass ds (wkIter ds (wkInit n frm) j)).last ds (wkPass ds (wkIter ds (wkInit n frm) j)).last.length (wkPass ds (wkIter ds (wkInit n frm) j)).ch.toNat
      · rw [if_pos hb] at h; exact absurd h (by simp only; omega)
      · rw [if_neg hb] at h ⊢
        rcases Nat.eq_zero_or_pos f with h0 | h0
        · subst h0
          exfalso
          have := grow_last hd frm (k := j) (by omega) (t := wkPass ds (wkIter ds (wkInit n frm) j)) rfl (by omega)
          rw [hll] at hb
          exact hb this
        · exact run_still hd frm f (j + 1) (by omega) h0 h
theorem grow_still {n : Nat} {ds : List Diff} (hd : ∀ d ∈ ds, 0 ≤ d.frm ∧ d.frm < n ∧ 0 ≤ d.to ∧ d.to < n) (frm : List Int) (hn : 0 < n) (h : (growF n ds frm).2 < 0) : ∀ d ∈ ds, Sat (growF n ds frm).1 d :=
  run_still hd frm n 0 (by omega) hn h

/-- What holds of a state and of each step holds behind a run. -/
theorem run_inv {ds : List Diff} {P : Wk → Prop} (hch : ∀ s c, P s → P { s with ch := c }) (hstep : ∀ s k, k < ds.length → P s → P (wkStep s k (ds.getD k default))) : ∀ (f : Nat) (s : Wk), P s → P (wkRun ds f s).1
  | 0, s, h => h
  | f + 1, s, h => by
    have hto : ∀ k, k ≤ ds.length → P (wkTo ds s k) := fun k => by
      induction k with
      | zero => intro _; exact hch _ _ h
      | succ k ih => intro hk; exact hstep _ _ (by omega) (ih (by omega))
    have hp : P (wkPass ds s) := hto _ (Nat.le_refl _)
    simp only [wkRun]
    split
    · exact hp
    · split
      · exact hp
      · exact run_inv hch hstep f _ hp

/-- Everything is reached from everywhere. -/
def AllHas (n : Nat) (s : Wk) : Prop := s.has.length = n ∧ ∀ i, i < n → s.has.getD i false = true
theorem foldl_set (n : Nat) : ∀ (l : List Int) (h : List Bool), h.length = n → (∀ i, i < n → h.getD i false = true ∨ (i : Int) ∈ l) → (∀ x ∈ l, 0 ≤ x) → ∀ i, i < n → (l.foldl (fun h i => h.set i.toNat true) h).getD i false = true
  | [], h, _, h1, _, i, hi => by rcases h1 i hi with h | h; exact h; cases h
  | x :: l, h, hl, h1, h2, i, hi => by
    refine foldl_set n l (h.set x.toNat true) (by simp [hl]) (fun j hj => ?_) (fun y hy => h2 y (List.mem_cons_of_mem _ hy)) i hi
    by_cases hx : x.toNat = j
    · subst hx; exact .inl (getD_set_same (by omega) _ _)
    · rw [getD_set_other hx]
      rcases h1 j hj with h | h
      · exact .inl h
      · rcases List.mem_cons.1 h with h | h
        · subst h; simp at hx
        · exact .inr h
theorem allHas_grow {n : Nat} {ds : List Diff} : AllHas n (growF n ds (allF n)).1 := by
  refine run_inv (P := AllHas n) (fun s c h => h) (fun s k hk h => ?_) n _ ?_
  · unfold wkStep
    split
    · refine ⟨by simp [h.1], fun i hi => ?_⟩
      by_cases hx : (ds.getD k default).to.toNat = i
      · subst hx; exact getD_set_same (by rw [h.1]; exact hi) _ _
      · rw [getD_set_other hx]; exact h.2 i hi
    · exact h
  · refine ⟨(wkInit_len n _).2.1, fun i hi => ?_⟩
    simp only [wkInit]
    refine foldl_set n (allF n) _ (by simp) (fun j hj => .inr ?_) (fun x hx => ?_) i hi
    · simp only [allF, List.mem_map, List.mem_range]; exact ⟨j, hj, rfl⟩
    · simp only [allF, List.mem_map] at hx; obtain ⟨a, _, rfl⟩ := hx; omega
/-- A potential. -/
theorem potential {n : Nat} {ds : List Diff} (hd : ∀ d ∈ ds, 0 ≤ d.frm ∧ d.frm < n ∧ 0 ≤ d.to ∧ d.to < n) (hn : 0 < n) (h : (growF n ds (allF n)).2 < 0) : ∃ π : Nat → Int, ∀ d ∈ ds, π d.to.toNat ≤ π d.frm.toNat + d.most := by
  refine ⟨fun i => (growF n ds (allF n)).1.long.getD i 0, fun d hdm => ?_⟩
  have hb := hd d hdm
  exact (grow_still hd _ hn h d hdm (allHas_grow.2 _ (by omega))).2
/-- What holds of the lengths from node 0. -/
def Low (π : Nat → Int) (s : Wk) : Prop := ∀ i, s.has.getD i false = true → π i - π 0 ≤ s.long.getD i 0
theorem low_grow {n : Nat} {ds : List Diff} {π : Nat → Int} (hp : ∀ d ∈ ds, π d.to.toNat ≤ π d.frm.toNat + d.most) (hd : ∀ d ∈ ds, 0 ≤ d.frm ∧ d.frm < n ∧ 0 ≤ d.to ∧ d.to < n) : Low π (growF n ds [0]).1 := by
  have H : (fun s : Wk => Low π s ∧ s.long.length = n ∧ s.has.length = n) (growF n ds [0]).1 := by
    refine run_inv (P := fun s : Wk => Low π s ∧ s.long.length = n ∧ s.has.length = n) (fun s c h => h) (fun s k hk h => ?_) n _ ?_
    · unfold wkStep
      split
      · rename_i hb
        have hm := getD_mem hk
        have hpd := hp _ hm
        have hbd := hd _ hm
        refine ⟨fun i hi => ?_, by simp [h.2.1], by simp [h.2.2]⟩
        simp only at hi ⊢
        by_cases hx : (ds.getD k default).to.toNat = i
        · subst hx
          rw [getD_set_same (by rw [h.2.1]; omega)]
          have hfh : s.has.getD (ds.getD k default).frm.toNat false = true := by
            unfold wkB at hb; simp only [Bool.and_eq_true] at hb; exact hb.1
          have := h.1 _ hfh
          omega
        · rw [getD_set_other hx] at hi ⊢
          exact h.1 i hi
      · exact h
    · refine ⟨fun i hi => ?_, (wkInit_len n _).1, (wkInit_len n _).2.1⟩
      simp only [wkInit, List.foldl_cons, List.foldl_nil] at hi ⊢
      have h0 : i = 0 := by
        by_cases hx : (0 : Int).toNat = i
        · omega
        · rw [getD_set_other hx] at hi
          simp [List.getD_eq_getElem?_getD, List.getElem?_replicate] at hi
          split at hi <;> simp_all
      subst h0
      simp [List.getD_eq_getElem?_getD, List.getElem?_replicate]
      split <;> simp
  exact H.1
/-- The differences from node 0 that have been looked at bound their nodes. -/
def Up (n : Nat) (ds : List Diff) (m : Nat) (s : Wk) : Prop := s.long.length = n ∧ s.has.length = n ∧ s.has.getD 0 false = true ∧ s.long.getD 0 0 ≤ 0 ∧ ∀ i, i < m → (ds.getD i default).frm = 0 → s.has.getD (ds.getD i default).to.toNat false = true ∧ s.long.getD (ds.getD i default).to.toNat 0 ≤ (ds.getD i default).most
theorem up_step {n : Nat} {ds : List Diff} (hd : ∀ d ∈ ds, 0 ≤ d.frm ∧ d.frm < n ∧ 0 ≤ d.to ∧ d.to < n) {m k : Nat} {s : Wk} (hk : k < ds.length) (h : Up n ds m s) : Up n ds m (wkStep s k (ds.getD k default)) := by
  obtain ⟨h1, h2, h3, h4, h5⟩ := h
  have hm := hd _ (getD_mem hk)
  unfold wkStep
  split
  · rename_i hb
    have hmono : ∀ i, s.has.getD i false = true → (s.has.set (ds.getD k default).to.toNat true).getD i false = true ∧ (s.long.set (ds.getD k default).to.toNat (s.long.getD (ds.getD k default).frm.toNat 0 + (ds.getD k default).most)).getD i 0 ≤ s.long.getD i 0 := by
      intro i hi
      by_cases hx : (ds.getD k default).to.toNat = i
      · subst hx
        rw [getD_set_same (by omega), getD_set_same (by omega)]
        refine ⟨rfl, ?_⟩
        unfold wkB at hb
        rw [hi] at hb
        simp at hb
        have := hb.2
        simp only [List.getD_eq_getElem?_getD]
        omega
      · rw [getD_set_other hx, getD_set_other hx]; exact ⟨hi, Int.le_refl _⟩
    refine ⟨by simp [h1], by simp [h2], (hmono 0 h3).1, Int.le_trans (hmono 0 h3).2 h4, fun i hi hf => ?_⟩
    obtain ⟨a, b⟩ := h5 i hi hf
    exact ⟨(hmono _ a).1, Int.le_trans (hmono _ a).2 b⟩
  · exact ⟨h1, h2, h3, h4, h5⟩
theorem up_now {n : Nat} {ds : List Diff} (hd : ∀ d ∈ ds, 0 ≤ d.frm ∧ d.frm < n ∧ 0 ≤ d.to ∧ d.to < n) {k : Nat} {s : Wk} (hk : k < ds.length) (h : Up n ds k s) : Up n ds (k + 1) (wkStep s k (ds.getD k default)) := by
  obtain ⟨h1, h2, h3, h4, h5⟩ := up_step hd hk h
  obtain ⟨g1, g2, g3, g4, g5⟩ := h
  have hm := hd _ (getD_mem hk)
  refine ⟨h1, h2, h3, h4, fun i hi hf => ?_⟩
  rcases Nat.lt_or_ge i k with hlt | hge
  · exact h5 i hlt hf
  · have : i = k := by omega
    subst this
    unfold wkStep
    split
    · simp only
      rw [getD_set_same (by omega), getD_set_same (by omega), hf]
      exact ⟨rfl, by simpa using (show s.long.getD 0 0 + (ds.getD i default).most ≤ (ds.getD i default).most by omega)⟩
    · rename_i hb
      have := sat_of_not (by simpa using hb : wkB s (ds.getD i default) = false) (by rw [hf]; exact g3)
      rw [hf] at this
      exact ⟨this.1, Int.le_trans this.2 (by show s.long.getD 0 0 + _ ≤ _; omega)⟩
theorem up_grow {n : Nat} {ds : List Diff} (hn : 0 < n) (hd : ∀ d ∈ ds, 0 ≤ d.frm ∧ d.frm < n ∧ 0 ≤ d.to ∧ d.to < n) : Up n ds ds.length (growF n ds [0]).1 := by
  have h0 : Up n ds 0 (wkInit n [0]) := by
    refine ⟨(wkInit_len n _).1, (wkInit_len n _).2.1, ?_, ?_, fun i hi => absurd hi (Nat.not_lt_zero _)⟩
    · simp only [wkInit, List.foldl_cons, List.foldl_nil]
      exact getD_set_same (by simpa using hn) _ _
    · simp only [wkInit, List.getD_eq_getElem?_getD, List.getElem?_replicate]
      split <;> simp
  have hto : ∀ k, k ≤ ds.length → Up n ds k (wkTo ds (wkInit n [0]) k) := fun k => by
    induction k with
    | zero => intro _; exact h0
    | succ k ih => intro hk; exact up_now hd (by omega) (ih (by omega))
  have hp : Up n ds ds.length (wkPass ds (wkInit n [0])) := hto _ (Nat.le_refl _)
  obtain ⟨m, rfl⟩ : ∃ m, n = m + 1 := ⟨n - 1, by omega⟩
  unfold growF
  simp only [wkRun]
  split
  · exact hp
  · split
    · exact hp
    · exact run_inv (P := Up (m + 1) ds ds.length) (fun s c h => h) (fun s k hk h => up_step hd hk h) m _ hp
/-- A node that is bound by node 0 on both sides. -/
theorem grow_bound {n : Nat} {ds : List Diff} (hn : 0 < n) (hd : ∀ d ∈ ds, 0 ≤ d.frm ∧ d.frm < n ∧ 0 ≤ d.to ∧ d.to < n) (h : (growF n ds (allF n)).2 < 0) {v : Nat} {a b : Int} (h1 : (⟨0, (v : Int), a⟩ : Diff) ∈ ds) (h2 : (⟨(v : Int), 0, b⟩ : Diff) ∈ ds) :
    -b ≤ (growF n ds [0]).1.long.getD v 0 ∧ (growF n ds [0]).1.long.getD v 0 ≤ a := by
  obtain ⟨π, hπ⟩ := potential hd hn h
  have hl := low_grow hπ hd
  have hu := up_grow hn hd
  obtain ⟨i, hi⟩ := List.mem_iff_getElem?.1 h1
  have hil := (List.getElem?_eq_some_iff.1 hi).1
  have hg : ds.getD i default = ⟨0, (v : Int), a⟩ := by rw [List.getD_eq_getElem?_getD, hi]; rfl
  have h3 := hu.2.2.2.2 i hil (by rw [hg])
  rw [hg] at h3
  simp only [Int.toNat_natCast] at h3
  have h4 := hl v h3.1
  have h5 := hπ _ h2
  simp only [Int.toNat_natCast, Int.toNat_zero] at h5
  exact ⟨by omega, h3.2⟩
theorem endsE_neg {n : Nat} {ds : List Diff} (h : endsE n ds = 0) : (growF n ds (allF n)).2 < 0 := by
  unfold endsE at h
  split at h
  · cases h
  · omega
theorem cellD_mem {s : Scene} {d c : Nat} (hd : d < s.days.length) (hc : c < s.basin.cells.length) : ∀ x ∈ cellD s.basin d c, x ∈ layD s := by
  intro x hx
  unfold layD
  refine List.mem_append_left _ (List.mem_append_left _ ?_)
  exact List.mem_flatMap.2 ⟨d, List.mem_range.2 hd, List.mem_append_left _ (List.mem_flatMap.2 ⟨c, List.mem_range.2 hc, hx⟩)⟩
theorem rows_mem {n m : Nat} {l : List Int} (hl : l.length = 1 + m * n) {P : Int → Prop} (h : ∀ d c, d < m → c < n → P (l.getD (1 + d * n + c) 0)) : ∀ row ∈ rowsF n m l, ∀ u ∈ row, P u := by
  intro row hr u hu
  simp only [rowsF, List.mem_map, List.mem_range] at hr
  obtain ⟨d, hd, rfl⟩ := hr
  obtain ⟨c, hc⟩ := List.mem_iff_getElem?.1 hu
  have hcl := (List.getElem?_eq_some_iff.1 hc).1
  have hcn : c < n := by simp at hcl; omega
  rw [List.getElem?_take_of_lt hcn, List.getElem?_drop] at hc
  have := h d c hd hcn
  rwa [List.getD_eq_getElem?_getD, hc] at this
theorem greatF_bd {s : Scene} (hs : SceneOk s) (h : greatE s = 0) : ∀ row ∈ greatF s, ∀ u ∈ row, 0 ≤ u ∧ u ≤ 65536 := by
  have hN := hs.net
  have he : endsE (nodesN s) (layD s) = 0 := by
    unfold greatE at h
    split at h
    · rename_i h0; exact absurd h h0
    · exact h
  refine rows_mem (by rw [endsL]; exact (growF_len _ _ _).1) (fun d c hd hc => ?_)
  have hm := cellD_mem hd hc
  have e : nodeF s.basin.cells.length (c : Int) (d : Int) = ((1 + d * s.basin.cells.length + c : Nat) : Int) := by unfold nodeF; push_cast; rfl
  have hb := grow_bound (v := 1 + d * s.basin.cells.length + c) (a := s.basin.deep) (b := 0) (by have := hN.h1; omega) hN.hds (endsE_neg he) (hm _ (by simp [cellD, e])) (hm _ (by simp [cellD, e]))
  have hdp := hs.basin.deep
  unfold endsL
  omega
theorem leastF_bd {s : Scene} (hs : SceneOk s) (h : leastE s = 0) : ∀ row ∈ leastF s, ∀ u ∈ row, 0 ≤ u ∧ u ≤ 65536 := by
  have hN := hs.net.turn
  have he : endsE (nodesN s) ((layD s).map turnD) = 0 := by
    unfold leastE at h
    split at h
    · rename_i h0; exact absurd h h0
    · exact h
  have hlen : (botL (nodesN s) (layD s)).length = nodesN s := by rw [botL, List.length_map, endsL]; exact (growF_len _ _ _).1
  refine rows_mem hlen (fun d c hd hc => ?_)
  have hm := cellD_mem hd hc
  have e : nodeF s.basin.cells.length (c : Int) (d : Int) = ((1 + d * s.basin.cells.length + c : Nat) : Int) := by unfold nodeF; push_cast; rfl
  have hb := grow_bound (v := 1 + d * s.basin.cells.length + c) (a := 0) (b := s.basin.deep) (by have := hN.h1; omega) hN.hds (endsE_neg he)
    (List.mem_map.2 ⟨_, hm ⟨nodeF s.basin.cells.length c d, 0, 0⟩ (by simp [cellD]), by simp [turnD, e]⟩) (List.mem_map.2 ⟨_, hm ⟨0, nodeF s.basin.cells.length c d, s.basin.deep⟩ (by simp [cellD]), by simp [turnD, e]⟩)
  have hdp := hs.basin.deep
  have hg : (botL (nodesN s) (layD s)).getD (1 + d * s.basin.cells.length + c) 0 = -((growF (nodesN s) ((layD s).map turnD) [0]).1.long.getD (1 + d * s.basin.cells.length + c) 0) := by
    unfold botL endsL
    rw [List.getD_eq_getElem?_getD, List.getD_eq_getElem?_getD, List.getElem?_map]
    cases (growF (nodesN s) ((layD s).map turnD) [0]).1.long[1 + d * s.basin.cells.length + c]? <;> simp
  rw [hg]
  omega
end Go.Proofs.YtmjfdobjnnfafaaGreatDoor
/- The package basin: its small functions. Conditions stand in the theorems. -/
namespace Go.Proofs.YtmjfdobjnnfafaaGreatDoor
open Go.RowKit

theorem basin_from (n lo hi : Int) (w : World) : Calls Tryz.prog 138 #[I n, I lo, I hi] w fun e w' => e = .returned (.bool (inB n lo hi)) ∧ w = w' := by
  by_cases h : lo ≤ n
  · go_enter Tryz.func138, Tryz.ntmps138
    go_wp2
    go_ret
    exact ⟨by simp [inB, h], rfl⟩
  · go_enter Tryz.func138, Tryz.ntmps138
    go_wp2
    go_ret
    exact ⟨ret_bool (by simp only [inB]; symm; simp; omega), rfl⟩
theorem basin_right (c : Cell) (w : World) : Calls Tryz.prog 139 #[.agg #[I c.no, I c.height, I c.aspect, I c.area]] w fun e w' => e = .returned (.bool (cellOk c)) ∧ Below w.heap.size w w' := by
  go_enter Tryz.func139, Tryz.ntmps139
  go_wp2_with (first | (go_at_call 138; refine (basin_from _ _ _ _).mono ?_; rintro e w' ⟨rfl, rfl⟩))
  all_goals (go_ret; exact ⟨ret_bool (by simp_all [cellOk]), below1 _ _⟩)

def Basin.v (b : Basin) (vc vp : Value) : Value := .agg #[vc, vp, I b.gain, I b.slack, I b.deep]

theorem index1_gives (no : Int) (B : Nat) (w : World) (hc : w.cell? ⟨B, 0, none⟩ = some (I no)) (hB : B < w.heap.size) (xs : List Cell) :
    Gives Tryz.prog 231 #[.pointer (some ⟨B, 0, none⟩)] (fun x => .agg #[I x.no, I x.height, I x.aspect, I x.area]) (fun s => s.no == no) w xs := by
  intro W x _ hb
  have hc' := (hb.cell (p := ⟨B, 0, none⟩) hB).trans hc
  have hB' : B < W.heap.size := Nat.lt_of_lt_of_le hB hb.size
  clear hc hb hB
  go_enter Tryz.func231, Tryz.ntmps231
  go_wp2
  go_ret
  exact ⟨rfl, below1 _ _⟩
theorem basin_index (vc vp : Value) (cs : List Cell) (x y z no : Int) (w : World) (hs : Sl w 4 Cell.cells vc cs) :
    Calls Tryz.prog 198 #[.agg #[vc, vp, I x, I y, I z], I no] w fun e w' => e = .returned (I (placeC cs no)) ∧ Below w.heap.size w w' := by
  replace hs := hide hs
  go_enter Tryz.func198, Tryz.ntmps198
  go_wp2_with fail
  refine (indexFunc_Cell _ cs _ _ _ _ ((unhide hs).mono (below2 _ _ _)) (enters_of Tryz.func231 (by kernel_rfl) rfl) (index1_gives no _ _ (by simp [go_sem]) (by simp) _)).mono ?_
  rintro e w' ⟨rfl, hb⟩
  go_wp2
  go_ret
  exact ⟨rfl, bup (below2 _ _ _) hb⟩

theorem likeB_eq (a b : Cell) : likeB a b = (decide ((a.aspect - b.aspect) % 8 ≤ 1) || decide ((a.aspect - b.aspect) % 8 = 7)) := by
  have e : (a.aspect - b.aspect + 8) % 8 = (a.aspect - b.aspect) % 8 := by omega
  simp only [likeB, e]
theorem basin_like (a b : Cell) (w : World) (ha : 0 ≤ a.aspect ∧ a.aspect ≤ 7) (hb : 0 ≤ b.aspect ∧ b.aspect ≤ 7) :
    Calls Tryz.prog 195 #[.agg #[I a.no, I a.height, I a.aspect, I a.area], .agg #[I b.no, I b.height, I b.aspect, I b.area]] w fun e w' => e = .returned (.bool (likeB a b)) ∧ Below w.heap.size w w' := by
  have w1 : IntKind.i64.wrap (a.aspect - b.aspect) = a.aspect - b.aspect := IntWalk.i64_in _ (by omega)
  have w2 : IntKind.i64.wrap (a.aspect - b.aspect + 8) = a.aspect - b.aspect + 8 := IntWalk.i64_in _ (by omega)
  rw [likeB_eq]
  rcases ilt 1 ((a.aspect - b.aspect) % 8) with h1 | h1
  · by_cases h7 : (a.aspect - b.aspect) % 8 = 7
    · have e1 : ((a.aspect - b.aspect) % 8 == 7) = true := by simpa using h7
      have hfin : (decide ((a.aspect - b.aspect) % 8 ≤ 1) || decide ((a.aspect - b.aspect) % 8 = 7)) = true := by simp [h7]
      rw [hfin]
      clear hfin
      replace h7 := hide h7
      go_enter Tryz.func195, Tryz.ntmps195
      go_wp2_with fail
      go_ret
      exact ⟨ret_bool (by first | (simp; done) | (simp; omega)), below2 _ _ _⟩
    · have e1 : ((a.aspect - b.aspect) % 8 == 7) = false := by simpa using h7
      have hfin : (decide ((a.aspect - b.aspect) % 8 ≤ 1) || decide ((a.aspect - b.aspect) % 8 = 7)) = false := by simp [h7]; omega
      rw [hfin]
      clear hfin
      go_enter Tryz.func195, Tryz.ntmps195
      go_wp2_with fail
      go_ret
      exact ⟨ret_bool (by first | (simp; done) | (simp; omega)), below2 _ _ _⟩
  · have hfin : (decide ((a.aspect - b.aspect) % 8 ≤ 1) || decide ((a.aspect - b.aspect) % 8 = 7)) = true := by simp [h1]
    rw [hfin]
    clear hfin
    go_enter Tryz.func195, Tryz.ntmps195
    go_wp2_with fail
    go_ret
    exact ⟨ret_bool (by first | (simp; done) | (simp; omega)), below2 _ _ _⟩

theorem AllTo.mono {p : Nat → Bool} {m n : Nat} (h : AllTo p n) (hm : m ≤ n) : AllTo p m := fun i hi => h i (by omega)
theorem risesAt_pos {l : List Int} {k : Nat} {x y : Int} (hk : 1 ≤ k) (hx : l[k]? = some x) (hy : l[k - 1]? = some y) : risesAt l k = decide (y < x) := by
  have : (k == 0) = false := by simp; omega
  simp [risesAt, this, hx, hy]
set_option maxRecDepth 100000 in
set_option maxHeartbeats 1000000 in
theorem basin_rising (v : Value) (l : List Int) (w : World) (hv : Sl w 1 intC v l) : Calls Tryz.prog 174 #[v] w fun e w' => e = .returned (.bool (risingB l)) ∧ Below w.heap.size w w' := by
  obtain ⟨A, n, rfl, _, _, hlen, hA⟩ := hv.open_
  replace hv := hide hv
  replace hA := hide hA
  have hbad : ∀ k, k < l.length → risesAt l k = false → risingB l = false := fun k hk h => all_of_not hk h
  replace hbad := hide hbad
  go_enter Tryz.func174, Tryz.ntmps174
  go_wp2_with fail
  go_loopw [3] (fun i wr => ∃ k : Nat, 1 ≤ k ∧ (k ≤ l.length ∨ k = 1) ∧ i = I k ∧ Hid (AllTo (risesAt l) k) ∧ Below w.heap.size w wr) (fun i _ => l.length + 1 - (intOf i).toNat)
  case atStart =>
    have h0 : AllTo (risesAt l) 1 := fun i hi => by
      have h0 : i = 0 := by omega
      subst h0
      simp [risesAt]
    exact ⟨1, Nat.le_refl _, .inr rfl, rfl, hide h0, Below.refl _ _⟩
  case round =>
    obtain ⟨k, hk1, hk2, rfl, hn, hb⟩ := hrel
    by_cases hlt : k < l.length
    · obtain ⟨b, off, rfl, hbw⟩ := hA.out k hlt
      obtain ⟨x, hx⟩ := getElem?_of_lt hlt
      obtain ⟨y, hy⟩ := getElem?_of_lt (xs := l) (k := k - 1) (by omega)
      obtain ⟨_, e0⟩ := ((unhide hv).mono hb).int_at hx
      obtain ⟨_, p0⟩ := ((unhide hv).mono hb).int_at hy
      have hpos := risesAt_pos hk1 hx hy
      clear hA
      rcases ilt y x with hd | hd
      · have hg := hide (hn.out.succ (show risesAt l k = true by rw [hpos]; simpa using hd))
        have hyd : decide (x ≤ y) = false := by simp; omega
        clear hbad hx hn hpos hy
        go_wp2_with fail
        (refine wp_region_grow (by kernel_rfl) (by kernel_rfl) ?_; (repeat (first | go_big_quiet_skip | (go_big_quiet_want; go_big_quiet_op; first | go_big_quiet_on | (apply Exists.intro; refine ⟨fun _ => ?_, ?_⟩; (focus (fail)); go_big_quiet_on)))); refine wpQuiet_nil ?_; rintro W1 ⟨⟨_, hW1⟩, rfl⟩)
        go_wp2_with fail
        go_roundw
        case rel => exact ⟨k + 1, by omega, .inl (by omega), by go_num, hg, bup hb hW1⟩
        case measure => simp [intOf]; omega
      · have hfin := hide (hbad.out k hlt (by rw [hpos]; simp; omega))
        have hyd : decide (x ≤ y) = true := by simp; omega
        clear hbad hx hn hpos hy
        go_wp2_with fail
        (refine wp_region_grow (by kernel_rfl) (by kernel_rfl) ?_; (repeat (first | go_big_quiet_skip | (go_big_quiet_want; go_big_quiet_op; first | go_big_quiet_on | (apply Exists.intro; refine ⟨fun _ => ?_, ?_⟩; (focus (fail)); go_big_quiet_on)))); refine wpQuiet_nil ?_; rintro W1 ⟨⟨_, hW1⟩, rfl⟩)
        go_wp2_with fail
        go_ret
        exact ⟨ret_bool hfin.out.symm, bup hb hW1⟩
    · have hfin := hide (show risingB l = true from AllTo.all (hn.out.mono (by omega)))
      clear hbad hn hA
      go_wp2_with fail
      go_ret
      exact ⟨ret_bool hfin.out.symm, hb⟩

/-- A scene as a walk has it. -/
structure SceneV where
  cells : Value
  pairs : Value
  days : Value
  sights : Value
  changes : Value
def Scene.v (s : Scene) (V : SceneV) : Value := .agg #[V.cells, V.pairs, I s.basin.gain, I s.basin.slack, I s.basin.deep, V.days, V.sights, V.changes]
structure SceneAt (w : World) (s : Scene) (V : SceneV) : Prop where
  cells : Sl w 4 Cell.cells V.cells s.basin.cells
  pairs : Sl w 2 pairC V.pairs s.basin.pairs
  days : Sl w 1 intC V.days s.days
  sights : Sl w 5 Sight.cells V.sights s.sights
  changes : Sl w 5 Change.cells V.changes s.changes
theorem SceneAt.mono {w w' : World} {s : Scene} {V : SceneV} (h : SceneAt w s V) (hb : Below w.heap.size w w') : SceneAt w' s V := ⟨h.cells.mono hb, h.pairs.mono hb, h.days.mono hb, h.sights.mono hb, h.changes.mono hb⟩

set_option maxRecDepth 100000 in
set_option maxHeartbeats 4000000 in
theorem basin_sighted (s : Scene) (V : SceneV) (x : Sight) (w : World) (hs : SceneAt w s V) :
    Calls Tryz.prog 175 #[s.v V, .agg #[I x.no, I x.cell, I x.day, I x.lo, I x.hi]] w fun e w' => e = .returned (.bool (sightOk s x)) ∧ Below w.heap.size w w' := by
  obtain ⟨Ac, nc, hc, _⟩ := hs.cells.open_
  obtain ⟨Ap, np, hp, _⟩ := hs.pairs.open_
  obtain ⟨Ad, nd, hd, _⟩ := hs.days.open_
  obtain ⟨As, ns, hsi, _⟩ := hs.sights.open_
  obtain ⟨Ah, nh, hch, _⟩ := hs.changes.open_
  have H1 := hide (fun w hv => basin_index V.cells V.pairs s.basin.cells s.basin.gain s.basin.slack s.basin.deep x.cell w hv)
  have H2 := hide (fun w hv => contains_int V.days s.days x.day w hv)
  have hs1 := hide hs.cells
  have hs2 := hide hs.days
  unfold Scene.v
  have hP : sightOk s x = (inB x.no 0 8191 && decide (0 ≤ placeC s.basin.cells x.cell) && hasD s.days x.day && decide (0 ≤ x.lo) && decide (x.lo ≤ x.hi) && decide (x.hi ≤ 65536)) := rfl
  rw [hP]
  have hQ : hasD s.days x.day = s.days.any fun y => y == x.day := rfl
  rw [hQ]
  obtain ⟨pl, hpl⟩ : ∃ pl, placeC s.basin.cells x.cell = pl := ⟨_, rfl⟩
  obtain ⟨hd', hhd⟩ : ∃ hd', (s.days.any fun y => y == x.day) = hd' := ⟨_, rfl⟩
  rw [hpl, hhd]
  rw [hpl] at H1
  rw [hhd] at H2
  replace hpl := hide hpl
  replace hhd := hide hhd
  clear hs hP hQ
  rw [hc, hp] at H1
  rw [hd] at H2
  rw [hc] at hs1
  rw [hd] at hs2
  rw [hc, hp, hd, hsi, hch]
  clear hc hp hd hsi hch
  go_enter Tryz.func175, Tryz.ntmps175
  go_wp2_with (first | (go_at_call 138; refine (basin_from _ _ _ _).mono ?_; rintro e w' ⟨rfl, rfl⟩) | (go_at_call 198; refine (H1.out _ (hs1.out.mono (below2 _ _ _))).mono ?_; rintro e w1 ⟨rfl, hb1⟩; have hc1 := fun o => (bcell hb1).1 w.heap.size o (by simp <;> omega); have hc2 := fun o => (bcell hb1).1 (w.heap.size + 1) o (by simp <;> omega)) | (go_at_call 85; refine (H2.out _ (hs2.out.mono (bup (below2 _ _ _) hb1))).mono ?_; rintro e w' ⟨rfl, rfl⟩))
  all_goals (go_ret; first | exact ⟨ret_bool (by simp_all <;> omega), below2 _ _ _⟩ | exact ⟨ret_bool (by simp_all <;> omega), bup (below2 _ _ _) hb1⟩)
end Go.Proofs.YtmjfdobjnnfafaaGreatDoor
/- The package basin: changed. Conditions stand in the theorems. -/
namespace Go.Proofs.YtmjfdobjnnfafaaGreatDoor
open Go.RowKit

set_option maxRecDepth 100000 in
set_option maxHeartbeats 4000000 in
theorem basin_changed (s : Scene) (V : SceneV) (x : Change) (w : World) (hs : SceneAt w s V) :
    Calls Tryz.prog 176 #[s.v V, .agg #[I x.cell, I x.frm, I x.to, I x.lo, I x.hi]] w fun e w' => e = .returned (.bool (changeOk s x)) ∧ Below w.heap.size w w' := by
  obtain ⟨Ac, nc, hc, _⟩ := hs.cells.open_
  obtain ⟨Ap, np, hp, _⟩ := hs.pairs.open_
  obtain ⟨Ad, nd, hd, _⟩ := hs.days.open_
  obtain ⟨As, ns, hsi, _⟩ := hs.sights.open_
  obtain ⟨Ah, nh, hch, _⟩ := hs.changes.open_
  have H1 := hide (fun w hv => basin_index V.cells V.pairs s.basin.cells s.basin.gain s.basin.slack s.basin.deep x.cell w hv)
  have H2 := hide (fun w hv => contains_int V.days s.days x.frm w hv)
  have H3 := hide (fun w hv => contains_int V.days s.days x.to w hv)
  have hs1 := hide hs.cells
  have hs2 := hide hs.days
  unfold Scene.v
  have hP : changeOk s x = (decide (x.frm < x.to) && (s.days.any fun y => y == x.frm) && (s.days.any fun y => y == x.to) && decide (0 ≤ placeC s.basin.cells x.cell) && decide (-65536 ≤ x.lo) && decide (x.lo ≤ x.hi) && decide (x.hi ≤ 65536)) := rfl
  rw [hP]
  obtain ⟨pl, hpl⟩ : ∃ pl, placeC s.basin.cells x.cell = pl := ⟨_, rfl⟩
  obtain ⟨hd', hhd⟩ : ∃ hd', (s.days.any fun y => y == x.frm) = hd' := ⟨_, rfl⟩
  obtain ⟨hd2, hhd2⟩ : ∃ hd2, (s.days.any fun y => y == x.to) = hd2 := ⟨_, rfl⟩
  rw [hpl, hhd, hhd2]
  rw [hpl] at H1
  rw [hhd] at H2
  rw [hhd2] at H3
  replace hpl := hide hpl
  replace hhd := hide hhd
  replace hhd2 := hide hhd2
  clear hs hP
  rw [hc, hp] at H1
  rw [hd] at H2 H3
  rw [hc] at hs1
  rw [hd] at hs2
  rw [hc, hp, hd, hsi, hch]
  clear hc hp hd hsi hch
  go_enter Tryz.func176, Tryz.ntmps176
  go_wp2_with (first | (go_at_call 198; refine (H1.out _ (hs1.out.mono (below2 _ _ _))).mono ?_; rintro e w1 ⟨rfl, hb1⟩; have hc1 := fun o => (bcell hb1).1 w.heap.size o (by simp <;> omega); have hc2 := fun o => (bcell hb1).1 (w.heap.size + 1) o (by simp <;> omega)) | (go_at_call 85; refine (H2.out _ (hs2.out.mono (below2 _ _ _))).mono ?_; rintro e w' ⟨rfl, rfl⟩) | (go_at_call 85; refine (H3.out _ (hs2.out.mono (below2 _ _ _))).mono ?_; rintro e w' ⟨rfl, rfl⟩))
  all_goals (go_ret; first | exact ⟨ret_bool (by simp_all <;> omega), below2 _ _ _⟩ | exact ⟨ret_bool (by simp_all <;> omega), bup (below2 _ _ _) hb1⟩)
end Go.Proofs.YtmjfdobjnnfafaaGreatDoor
/- The package basin: CheckBasin. Conditions stand in the theorems. -/
namespace Go.Proofs.YtmjfdobjnnfafaaGreatDoor
open Go.RowKit

def Basin.headOk (b : Basin) : Bool := inB b.cells.length 1 12 && decide (b.pairs.length ≤ 24) && inB b.gain 0 65536 && inB b.slack 0 65536 && inB b.deep 0 65536
theorem basinOk_head {b : Basin} (h : b.headOk = false) : basinE b = 50 := by
  have : basinOk b = false := by
    show (b.headOk && _ && _) = false
    simp [h]
  simp [basinE, this]
theorem basinOk_cell {b : Basin} (h : (List.range b.cells.length).all (cellGood b.cells) = false) : basinE b = 50 := by
  have : basinOk b = false := by
    show (b.headOk && _ && _) = false
    simp only [h, Bool.and_false, Bool.false_and]
  simp [basinE, this]
theorem basinOk_pair {b : Basin} (h : (List.range b.pairs.length).all (pairGood b.cells b.pairs) = false) : basinE b = 50 := by
  have : basinOk b = false := by
    show (b.headOk && _ && _) = false
    simp only [h, Bool.and_false]
  simp [basinE, this]
theorem basinOk_all {b : Basin} (h1 : b.headOk = true) (h2 : (List.range b.cells.length).all (cellGood b.cells) = true) (h3 : (List.range b.pairs.length).all (pairGood b.cells b.pairs) = true) : basinE b = 0 := by
  have : basinOk b = true := by
    show (b.headOk && _ && _) = true
    simp only [h1, h2, h3, Bool.and_self]
  simp [basinE, this]

/-- The box of a basin, and what a walk reads in it. -/
structure BasAt (w : World) (B : Nat) (b : Basin) (vc vp : Value) : Prop where
  lt : B < w.heap.size
  c0 : w.cell? ⟨B, 0, none⟩ = some vc
  c1 : w.cell? ⟨B, 1, none⟩ = some vp
  c2 : w.cell? ⟨B, 2, none⟩ = some (I b.gain)
  c3 : w.cell? ⟨B, 3, none⟩ = some (I b.slack)
  c4 : w.cell? ⟨B, 4, none⟩ = some (I b.deep)
theorem BasAt.grow {w w' : World} {B : Nat} {b : Basin} {vc vp : Value} (h : BasAt w B b vc vp) (hb : Below w.heap.size w w') : BasAt w' B b vc vp := by
  have e := fun o => hb.cell (p := ⟨B, o, none⟩) h.lt
  exact ⟨Nat.lt_of_lt_of_le h.lt hb.size, (e 0).trans h.c0, (e 1).trans h.c1, (e 2).trans h.c2, (e 3).trans h.c3, (e 4).trans h.c4⟩
theorem BasAt.new (w : World) (b : Basin) (vc vp : Value) (t : Nat) : BasAt (w.alloc (.cells #[vc, vp, I b.gain, I b.slack, I b.deep] t)) w.heap.size b vc vp := by
  refine ⟨by simp, ?_, ?_, ?_, ?_, ?_⟩ <;> simp [go_sem]

theorem cellGood_head {cs : List Cell} {k : Nat} {x : Cell} (hx : cs[k]? = some x) (h : cellOk x = false) : cellGood cs k = false := by simp [cellGood, hx, h]
theorem cellGood_zero {cs : List Cell} {x : Cell} (hx : cs[0]? = some x) (h : cellOk x = true) : cellGood cs 0 = true := by simp [cellGood, hx, h]
theorem cellGood_pos {cs : List Cell} {k : Nat} {x y : Cell} (hk : 0 < k) (hx : cs[k]? = some x) (hy : cs[k - 1]? = some y) (h : cellOk x = true) : cellGood cs k = decide (y.no < x.no) := by
  have : (k == 0) = false := by simp; omega
  simp [cellGood, hx, hy, h, this]

def HeadFacts (b : Basin) : Prop := (1 ≤ b.cells.length ∧ b.cells.length ≤ 12) ∧ b.pairs.length ≤ 24 ∧ inB b.gain 0 65536 = true ∧ inB b.slack 0 65536 = true ∧ inB b.deep 0 65536 = true
theorem Basin.headOk_of {b : Basin} (h : b.headOk = true) : HeadFacts b := by
  simp only [Basin.headOk, Bool.and_eq_true, decide_eq_true_eq] at h
  obtain ⟨⟨⟨⟨h1, h2⟩, h3⟩, h4⟩, h5⟩ := h
  have := inB_true.1 h1
  exact ⟨⟨by omega, by omega⟩, h2, h3, h4, h5⟩

set_option maxRecDepth 100000 in
set_option maxHeartbeats 4000000 in
theorem basin_CheckBasin_head (b : Basin) (vc vp : Value) (w : World) (hc : Sl w 4 Cell.cells vc b.cells) (hp : Sl w 2 pairC vp b.pairs) (hh : b.headOk = false) :
    Calls Tryz.prog 60 #[b.v vc vp] w fun e w' => e = .returned (I (basinE b)) ∧ Below w.heap.size w w' := by
  obtain ⟨Ac, nc, rfl, _, _, hlc, hAc⟩ := hc.open_
  obtain ⟨Ap, np, rfl, _, _, hlp, hAp⟩ := hp.open_
  clear hc hp hAc hAp
  rw [basinOk_head hh]
  unfold Basin.v
  simp only [Basin.headOk] at hh
  have e1 : decide (b.pairs.length ≤ 24) = decide ((b.pairs.length : Int) ≤ 24) := by congr 1; simp; omega
  rw [e1] at hh
  clear e1
  cases h1 : inB b.cells.length 1 12 with
  | false =>
    clear hh
    go_enter Tryz.func60, Tryz.ntmps60
    go_wp2_with (first | (go_at_call 138; refine (basin_from _ _ _ _).mono ?_; rintro e w' ⟨rfl, rfl⟩))
    go_ret
    exact ⟨rfl, below1 _ _⟩
  | true =>
    cases h2 : decide ((b.pairs.length : Int) ≤ 24) with
    | false =>
      clear hh
      go_enter Tryz.func60, Tryz.ntmps60
      go_wp2_with (first | (go_at_call 138; refine (basin_from _ _ _ _).mono ?_; rintro e w' ⟨rfl, rfl⟩))
      go_ret
      exact ⟨rfl, below1 _ _⟩
    | true =>
      cases h3 : inB b.gain 0 65536 with
      | false =>
        clear hh
        go_enter Tryz.func60, Tryz.ntmps60
        go_wp2_with (first | (go_at_call 138; refine (basin_from _ _ _ _).mono ?_; rintro e w' ⟨rfl, rfl⟩))
        go_ret
        exact ⟨rfl, below1 _ _⟩
      | true =>
        cases h4 : inB b.slack 0 65536 with
        | false =>
          clear hh
          go_enter Tryz.func60, Tryz.ntmps60
          go_wp2_with (first | (go_at_call 138; refine (basin_from _ _ _ _).mono ?_; rintro e w' ⟨rfl, rfl⟩))
          go_ret
          exact ⟨rfl, below1 _ _⟩
        | true =>
          cases h5 : inB b.deep 0 65536 with
          | false =>
            clear hh
            go_enter Tryz.func60, Tryz.ntmps60
            go_wp2_with (first | (go_at_call 138; refine (basin_from _ _ _ _).mono ?_; rintro e w' ⟨rfl, rfl⟩))
            go_ret
            exact ⟨rfl, below1 _ _⟩
          | true => simp [h1, h2, h3, h4, h5] at hh
end Go.Proofs.YtmjfdobjnnfafaaGreatDoor
/- The package basin: CheckBasin. Conditions stand in the theorems. -/
namespace Go.Proofs.YtmjfdobjnnfafaaGreatDoor
open Go.RowKit

theorem pairGood_bad {cs : List Cell} {ps : List (Int × Int)} {k : Nat} {p : Int × Int} (hx : ps[k]? = some p) (h : pairOk cs p = false) : pairGood cs ps k = false := by simp [pairGood, hx, h]
theorem pairGood_at {cs : List Cell} {ps : List (Int × Int)} {k : Nat} {p : Int × Int} (hx : ps[k]? = some p) (h : pairOk cs p = true) : pairGood cs ps k = !(((ps.take k).map bothP).any fun q => q == bothP p) := by
  rw [List.any_map]
  simp only [pairGood, getD_of hx, h, Bool.true_and]
  rfl
theorem pairOk_eq (cs : List Cell) (a c : Int) : pairOk cs (a, c) = (inB a 0 (cs.length - 1) && inB c 0 (cs.length - 1) && !(a == c) && decide ((cs.getD a.toNat default).height ≤ (cs.getD c.toNat default).height)) := rfl
theorem bothP_lt {a c : Int} (h : c < a) : bothP (a, c) = (c, a) := by simp only [bothP]; rw [Int.min_eq_right (by omega), Int.max_eq_left (by omega)]
theorem bothP_ge {a c : Int} (h : a ≤ c) : bothP (a, c) = (a, c) := by simp only [bothP]; rw [Int.min_eq_left (by omega), Int.max_eq_right (by omega)]
theorem take_map_succ {α β : Type} (f : α → β) {l : List α} {k : Nat} {x : α} (h : l[k]? = some x) : (l.take (k + 1)).map f = (l.take k).map f ++ [f x] := by
  rw [List.take_add_one, h]; simp

set_option maxRecDepth 100000 in
set_option maxHeartbeats 4000000 in
theorem basin_CheckBasin_valid (b : Basin) (vc vp : Value) (w : World) (hc : Sl w 4 Cell.cells vc b.cells) (hp : Sl w 2 pairC vp b.pairs) (hh : b.headOk = true) :
    Calls Tryz.prog 60 #[b.v vc vp] w fun e w' => e = .returned (I (basinE b)) ∧ Below w.heap.size w w' := by
  obtain ⟨A, n, rfl, _, _, hlc, hA⟩ := hc.open_
  obtain ⟨D, m, rfl, _, _, hlp, hD⟩ := hp.open_
  replace hc := hide hc
  replace hp := hide hp
  replace hA := hide hA
  replace hD := hide hD
  have hbad1 := hide (fun k (hk : k < b.cells.length) (h : cellGood b.cells k = false) => basinOk_cell (b := b) (all_of_not hk h))
  have hbad2 := hide (fun k (hk : k < b.pairs.length) (h : pairGood b.cells b.pairs k = false) => basinOk_pair (b := b) (all_of_not hk h))
  have hgood := hide (fun h2 h3 => basinOk_all (b := b) hh h2 h3)
  obtain ⟨⟨hl1, hl2⟩, hp2, h3, h4, h5⟩ := Basin.headOk_of hh
  clear hh
  have h1 : inB b.cells.length 1 12 = true := inB_true.2 ⟨by omega, by omega⟩
  have h2 : decide ((b.pairs.length : Int) ≤ 24) = true := by simp; omega
  obtain ⟨E, hE⟩ : ∃ E, basinE b = E := ⟨_, rfl⟩
  rw [hE] at hbad1 hbad2 hgood ⊢
  clear hE
  have hmm := @run_makeMap Tryz.prog
  unfold Basin.v
  go_enter Tryz.func60, Tryz.ntmps60
  go_wp2_with (first | (go_at_call 138; refine (basin_from _ _ _ _).mono ?_; rintro e w' ⟨rfl, rfl⟩))
  clear h1 h2 h3 h4 h5
  obtain ⟨W0, hW0⟩ : ∃ W0, W0 = w.alloc (.cells #[.slice A b.cells.length n, .slice D b.pairs.length m, I b.gain, I b.slack, I b.deep] 58) := ⟨_, rfl⟩
  have hK : BasAt W0 w.heap.size b (.slice A b.cells.length n) (.slice D b.pairs.length m) := by rw [hW0]; exact BasAt.new _ _ _ _ _
  have hbl : Below w.heap.size w W0 := by rw [hW0]; exact below1 _ _
  rw [← hW0]
  clear hW0
  replace hK := hide hK
  go_loopw [41] (fun i wr => ∃ k : Nat, k ≤ b.cells.length ∧ i = I k ∧ Hid (AllTo (cellGood b.cells) k) ∧ Below W0.heap.size W0 wr) (fun i _ => b.cells.length - (intOf i).toNat)
  case atStart => exact ⟨0, Nat.zero_le _, rfl, hide (AllTo.zero _), Below.refl _ _⟩
  case round =>
    obtain ⟨k, hk, rfl, hn, hb⟩ := hrel
    obtain ⟨hg0, q0, q1, q2, q3, q4⟩ := hK.out.grow hb
    by_cases hlt : k < b.cells.length
    · obtain ⟨g, off, rfl, hbw⟩ := hA.out k hlt
      obtain ⟨x, hx⟩ := getElem?_of_lt hlt
      obtain ⟨hbx, e0, e1, e2, e3⟩ := ((unhide hc).mono (bup hbl hb)).cell_at hx
      have HR := fun w => basin_right x w
      cases hok : cellOk x with
      | false =>
        have hfin := hide (hbad1.out k hlt (cellGood_head hx hok))
        rw [hok] at HR
        replace HR := hide HR
        clear hbad1 hbad2 hgood hx hn hok q1 q2 q3 q4
        go_wp2_with fail
        (refine wp_region_grow (by kernel_rfl) (by kernel_rfl) ?_; (repeat (first | go_big_quiet_skip | (go_big_quiet_want; go_big_quiet_op; first | go_big_quiet_on | (apply Exists.intro; refine ⟨fun _ => ?_, ?_⟩; (focus ((go_at_call 139; exact calls_grew (HR.out _)))); go_big_quiet_on)))); refine wpQuiet_nil ?_; rintro W1 ⟨⟨_, hW1⟩, rfl⟩)
        go_wp2_with fail
        go_ret
        exact ⟨ret_int hfin.out.symm, bup (bup hbl hb) (bup (below1 _ _) hW1)⟩
      | true =>
        rw [hok] at HR
        replace HR := hide HR
        rcases Nat.lt_or_ge 0 k with hk0 | hk0
        · obtain ⟨y, hy⟩ := getElem?_of_lt (xs := b.cells) (k := k - 1) (by omega)
          obtain ⟨_, p0, p1, p2, p3⟩ := ((unhide hc).mono (bup hbl hb)).cell_at hy
          have hpos := cellGood_pos hk0 hx hy hok
          clear hok
          rcases ilt y.no x.no with hd | hd
          · have hyd : decide (x.no ≤ y.no) = false := by simp; omega
            have hg := hide (hn.out.succ (show cellGood b.cells k = true by rw [hpos]; simpa using hd))
            clear hbad1 hbad2 hgood hx hn hy hpos q1 q2 q3 q4
            go_wp2_with fail
            (refine wp_region_grow (by kernel_rfl) (by kernel_rfl) ?_; (repeat (first | go_big_quiet_skip | (go_big_quiet_want; go_big_quiet_op; first | go_big_quiet_on | (apply Exists.intro; refine ⟨fun _ => ?_, ?_⟩; (focus ((go_at_call 139; exact calls_grew (HR.out _)))); go_big_quiet_on)))); refine wpQuiet_nil ?_; rintro W1 ⟨⟨_, hW1⟩, rfl⟩)
            go_wp2_with fail
            go_roundw
            case rel => exact ⟨k + 1, by omega, by go_num, hg, bup hb (bup (below1 _ _) hW1)⟩
            case measure => simp [intOf]; omega
          · have hfin := hide (hbad1.out k hlt (by rw [hpos]; simp; omega))
            have hyd : decide (x.no ≤ y.no) = true := by simp; omega
            clear hbad1 hbad2 hgood hx hn hy hpos q1 q2 q3 q4
            go_wp2_with fail
            (refine wp_region_grow (by kernel_rfl) (by kernel_rfl) ?_; (repeat (first | go_big_quiet_skip | (go_big_quiet_want; go_big_quiet_op; first | go_big_quiet_on | (apply Exists.intro; refine ⟨fun _ => ?_, ?_⟩; (focus ((go_at_call 139; exact calls_grew (HR.out _)))); go_big_quiet_on)))); refine wpQuiet_nil ?_; rintro W1 ⟨⟨_, hW1⟩, rfl⟩)
            go_wp2_with fail
            go_ret
            exact ⟨ret_int hfin.out.symm, bup (bup hbl hb) (bup (below1 _ _) hW1)⟩
        · have hkd : decide (0 < k) = false := by simp; omega
          have hg := hide (hn.out.succ (show cellGood b.cells k = true by
            have hk00 : k = 0 := by omega
            subst hk00; exact cellGood_zero hx hok))
          clear hok
          clear hbad1 hbad2 hgood hx hn q1 q2 q3 q4
          go_wp2_with fail
          (refine wp_region_grow (by kernel_rfl) (by kernel_rfl) ?_; (repeat (first | go_big_quiet_skip | (go_big_quiet_want; go_big_quiet_op; first | go_big_quiet_on | (apply Exists.intro; refine ⟨fun _ => ?_, ?_⟩; (focus ((go_at_call 139; exact calls_grew (HR.out _)))); go_big_quiet_on)))); refine wpQuiet_nil ?_; rintro W1 ⟨⟨_, hW1⟩, rfl⟩)
          go_wp2_with fail
          go_roundw
          case rel => exact ⟨k + 1, by omega, by go_num, hg, bup hb (bup (below1 _ _) hW1)⟩
          case measure => simp [intOf]; omega
    · have he : k = b.cells.length := by omega
      subst he
      have hgood1 := hide (hgood.out (AllTo.all hn.out))
      clear hbad1 hn hgood
      go_wp2_with fail
      obtain ⟨W2, hW2⟩ : ∃ W2, W2 = wr.alloc (.map #[] 0) := ⟨_, rfl⟩
      obtain ⟨M, hM⟩ : ∃ M, M = wr.heap.size := ⟨_, rfl⟩
      have hS0 := hide (show SetP W2 M [] by rw [hW2, hM]; exact SetP.new wr)
      have hW02 : Below W0.heap.size W0 W2 := by rw [hW2]; exact hb.alloc hb.size _
      have hM0 : W0.heap.size ≤ M := by rw [hM]; exact hb.size
      rw [← hW2, ← hM]
      clear hW2 hM hg0 q0 q1 q2 q3 q4 hb
      go_loopw [70] (fun i wr => ∃ k : Nat, k ≤ b.pairs.length ∧ i = I k ∧ Hid (AllTo (pairGood b.cells b.pairs) k) ∧ Below W0.heap.size W0 wr ∧ Hid (SetP wr M ((b.pairs.take k).map bothP))) (fun i _ => b.pairs.length - (intOf i).toNat)
      case atStart => exact ⟨0, Nat.zero_le _, rfl, hide (AllTo.zero _), hW02, hS0⟩
      case round =>
        clear hW02 hS0
        obtain ⟨k, hk, rfl, hn, hb, hS⟩ := hrel
        obtain ⟨hg0, q0, q1, q2, q3, q4⟩ := hK.out.grow hb
        have hSlt := hS.out.lt
        by_cases hlt : k < b.pairs.length
        · obtain ⟨g, off, rfl, hbw⟩ := hD.out k hlt
          obtain ⟨⟨a, c⟩, hx⟩ := getElem?_of_lt hlt
          obtain ⟨hbx, e0, e1⟩ := ((unhide hp).mono (bup hbl hb)).pair_at hx
          simp only at e0 e1
          have hwl : IntKind.i64.wrap ((b.cells.length : Int) - 1) = (b.cells.length : Int) - 1 := IntWalk.i64_in _ (by omega)
          cases f1 : inB a 0 (b.cells.length - 1) with
          | false =>
            have hfin := hide (hbad2.out k hlt (pairGood_bad hx (by simp [pairOk_eq, f1])))
            clear hbad2 hgood1 hx hn q1 q2 q3 q4 hS
            go_wp2_with fail
            (refine wp_region_grow (by kernel_rfl) (by kernel_rfl) ?_; (repeat (first | go_big_quiet_skip | (go_big_quiet_want; go_big_quiet_op; first | go_big_quiet_on | (apply Exists.intro; refine ⟨fun _ => ?_, ?_⟩; (focus ((go_at_call 138; exact calls_grew_same (basin_from _ _ _ _)))); go_big_quiet_on)))); refine wpQuiet_nil ?_; rintro W1 ⟨⟨_, hW1⟩, rfl⟩)
            go_wp2_with fail
            go_ret
            exact ⟨ret_int hfin.out.symm, bup (bup hbl hb) (bup (below1 _ _) hW1)⟩
          | true =>
            cases f2 : inB c 0 (b.cells.length - 1) with
            | false =>
              have hfin := hide (hbad2.out k hlt (pairGood_bad hx (by simp [pairOk_eq, f2])))
              clear hbad2 hgood1 hx hn q1 q2 q3 q4 hS
              go_wp2_with fail
              (refine wp_region_grow (by kernel_rfl) (by kernel_rfl) ?_; (repeat (first | go_big_quiet_skip | (go_big_quiet_want; go_big_quiet_op; first | go_big_quiet_on | (apply Exists.intro; refine ⟨fun _ => ?_, ?_⟩; (focus ((go_at_call 138; exact calls_grew_same (basin_from _ _ _ _)))); go_big_quiet_on)))); refine wpQuiet_nil ?_; rintro W1 ⟨⟨_, hW1⟩, rfl⟩)
              go_wp2_with fail
              go_ret
              exact ⟨ret_int hfin.out.symm, bup (bup hbl hb) (bup (below1 _ _) hW1)⟩
            | true =>
              cases f3 : a == c with
              | true =>
                have hfin := hide (hbad2.out k hlt (pairGood_bad hx (by simp only [pairOk_eq, f3]; simp)))
                clear hbad2 hgood1 hx hn q1 q2 q3 q4 hS
                go_wp2_with fail
                (refine wp_region_grow (by kernel_rfl) (by kernel_rfl) ?_; (repeat (first | go_big_quiet_skip | (go_big_quiet_want; go_big_quiet_op; first | go_big_quiet_on | (apply Exists.intro; refine ⟨fun _ => ?_, ?_⟩; (focus ((go_at_call 138; exact calls_grew_same (basin_from _ _ _ _)))); go_big_quiet_on)))); refine wpQuiet_nil ?_; rintro W1 ⟨⟨_, hW1⟩, rfl⟩)
                go_wp2_with fail
                go_ret
                exact ⟨ret_int hfin.out.symm, bup (bup hbl hb) (bup (below1 _ _) hW1)⟩
              | false =>
                obtain ⟨i, rfl⟩ : ∃ i : Nat, a = i := ⟨a.toNat, by have := inB_true.1 f1; omega⟩
                obtain ⟨j, rfl⟩ : ∃ j : Nat, c = j := ⟨c.toNat, by have := inB_true.1 f2; omega⟩
                have hil : i < b.cells.length := by have := inB_true.1 f1; omega
                have hjl : j < b.cells.length := by have := inB_true.1 f2; omega
                obtain ⟨x, hxi⟩ := getElem?_of_lt hil
                obtain ⟨y, hyj⟩ := getElem?_of_lt hjl
                obtain ⟨gc, oc, rfl, hcw⟩ := hA.out i hil
                obtain ⟨_, _, u1, _, _⟩ := ((unhide hc).mono (bup hbl hb)).cell_at hxi
                obtain ⟨_, _, v1, _, _⟩ := ((unhide hc).mono (bup hbl hb)).cell_at hyj
                have hgc := ((unhide hc).mono (bup hbl hb)).cell_at hxi |>.1
                have hok : pairOk b.cells ((i : Int), (j : Int)) = decide (x.height ≤ y.height) := by
                  simp only [pairOk_eq, f1, f2, f3, Int.toNat_natCast, getD_of hxi, getD_of hyj]; rfl
                clear hxi hyj
                rcases ilt y.height x.height with hd | hd
                · have hfin := hide (hbad2.out k hlt (pairGood_bad hx (by rw [hok]; simp; omega)))
                  have hyd : decide (y.height < x.height) = true := by simpa using hd
                  clear hbad2 hgood1 hx hn q1 q2 q3 q4 hS hok
                  go_wp2_with fail
                  (refine wp_region_grow (by kernel_rfl) (by kernel_rfl) ?_; (repeat (first | go_big_quiet_skip | (go_big_quiet_want; go_big_quiet_op; first | go_big_quiet_on | (apply Exists.intro; refine ⟨fun _ => ?_, ?_⟩; (focus ((go_at_call 138; exact calls_grew_same (basin_from _ _ _ _)))); go_big_quiet_on)))); refine wpQuiet_nil ?_; rintro W1 ⟨⟨_, hW1⟩, rfl⟩)
                  go_wp2_with fail
                  go_ret
                  exact ⟨ret_int hfin.out.symm, bup (bup hbl hb) (bup (below1 _ _) hW1)⟩
                · have hpos := pairGood_at hx (hok.trans (by simpa using hd))
                  have hyd : decide (y.height < x.height) = false := by simp; omega
                  have htk := take_map_succ bothP hx
                  have hgo : ∀ lo hi : Int, bothP ((i : Int), (j : Int)) = (lo, hi) → True := fun _ _ _ => trivial
                  rcases ilt (j : Int) (i : Int) with hm | hm
                  · rw [bothP_lt hm] at hpos htk
                    have hm1 : decide (j < i) = true := by simp; omega
                    have hm2 : decide (i < j) = false := by simp; omega
                    clear hgo hok
                    obtain ⟨q, hq⟩ : ∃ q, (((b.pairs.take k).map bothP).any fun r => r == ((j : Int), (i : Int))) = q := ⟨_, rfl⟩
                    rw [hq] at hpos
                    cases q with
                    | true =>
                      have hfin := hide (hbad2.out k hlt hpos)
                      clear hbad2 hgood1 hx hn q1 q2 q3 q4 htk hpos
                      go_wp2_with fail
                      (refine wp_region_grow (by kernel_rfl) (by kernel_rfl) ?_; (repeat (first | go_big_quiet_skip | (go_big_quiet_want; go_big_quiet_op; first | go_big_quiet_on | (apply Exists.intro; refine ⟨fun _ => ?_, ?_⟩; (focus ((go_at_call 138; exact calls_grew_same (basin_from _ _ _ _)))); go_big_quiet_on)))); refine wpQuiet_nil ?_; rintro W1 ⟨⟨_, hW1⟩, rfl⟩)
                      have hS2 := ((hS.out.below (below1 wr _) hSlt).below hW1 (by simp; omega)).below (below1 W1 (.cells #[I j, I i] 77)) (Nat.lt_of_lt_of_le hSlt (Nat.le_trans (below1 wr _).size hW1.size))
                      have hlk := hS2.lookup (t := 163) rfl (j, i)
                      rw [hq] at hlk
                      simp only [kP] at hlk
                      have hcp := fun o => (bcell hW1).1 wr.heap.size o (by simp)
                      go_wp2_with fail
                      go_ret
                      exact ⟨ret_int hfin.out.symm, (bup (bup hbl hb) (bup (below1 _ _) (bup hW1 (below1 _ _))))⟩
                    | false =>
                      have hg := hide (hn.out.succ (show pairGood b.cells b.pairs k = true from hpos))
                      clear hbad2 hgood1 hx hn q1 q2 q3 q4 hpos
                      go_wp2_with fail
                      (refine wp_region_grow (by kernel_rfl) (by kernel_rfl) ?_; (repeat (first | go_big_quiet_skip | (go_big_quiet_want; go_big_quiet_op; first | go_big_quiet_on | (apply Exists.intro; refine ⟨fun _ => ?_, ?_⟩; (focus ((go_at_call 138; exact calls_grew_same (basin_from _ _ _ _)))); go_big_quiet_on)))); refine wpQuiet_nil ?_; rintro W1 ⟨⟨_, hW1⟩, rfl⟩)
                      have hS2 := ((hS.out.below (below1 wr _) hSlt).below hW1 (by simp; omega)).below (below1 W1 (.cells #[I j, I i] 77)) (Nat.lt_of_lt_of_le hSlt (Nat.le_trans (below1 wr _).size hW1.size))
                      have hlk := hS2.lookup (t := 163) rfl (j, i)
                      rw [hq] at hlk
                      simp only [kP] at hlk
                      have hcp := fun o => (bcell hW1).1 wr.heap.size o (by simp)
                      obtain ⟨o, hput, hS3⟩ := hS2.put (t := 163) rfl (j, i) hq
                      rw [← htk] at hS3
                      simp only [kP] at hput
                      replace hS3 := hide hS3
                      go_wp2_with fail
                      go_roundw
                      case rel => exact ⟨k + 1, by omega, by go_num, hg, Below.mapped (bup hb (bup (below1 _ _) (bup hW1 (below1 _ _)))) hM0 o, hS3⟩
                      case measure => simp [intOf]; omega
                  · rw [bothP_ge hm] at hpos htk
                    have hm1 : decide (j < i) = false := by simp; omega
                    have hm3 : i < j := by
                      have : (i : Int) ≠ j := by simpa using f3
                      omega
                    clear hgo hok
                    obtain ⟨q, hq⟩ : ∃ q, (((b.pairs.take k).map bothP).any fun r => r == ((i : Int), (j : Int))) = q := ⟨_, rfl⟩
                    rw [hq] at hpos
                    cases q with
                    | true =>
                      have hfin := hide (hbad2.out k hlt hpos)
                      clear hbad2 hgood1 hx hn q1 q2 q3 q4 htk hpos
                      go_wp2_with fail
                      (refine wp_region_grow (by kernel_rfl) (by kernel_rfl) ?_; (repeat (first | go_big_quiet_skip | (go_big_quiet_want; go_big_quiet_op; first | go_big_quiet_on | (apply Exists.intro; refine ⟨fun _ => ?_, ?_⟩; (focus ((go_at_call 138; exact calls_grew_same (basin_from _ _ _ _)))); go_big_quiet_on)))); refine wpQuiet_nil ?_; rintro W1 ⟨⟨_, hW1⟩, rfl⟩)
                      have hS2 := ((hS.out.below (below1 wr _) hSlt).below hW1 (by simp; omega)).below (below1 W1 (.cells #[I i, I j] 77)) (Nat.lt_of_lt_of_le hSlt (Nat.le_trans (below1 wr _).size hW1.size))
                      have hlk := hS2.lookup (t := 163) rfl (i, j)
                      rw [hq] at hlk
                      simp only [kP] at hlk
                      have hcp := fun o => (bcell hW1).1 wr.heap.size o (by simp)
                      go_wp2_with fail
                      go_ret
                      exact ⟨ret_int hfin.out.symm, (bup (bup hbl hb) (bup (below1 _ _) (bup hW1 (below1 _ _))))⟩
                    | false =>
                      have hg := hide (hn.out.succ (show pairGood b.cells b.pairs k = true from hpos))
                      clear hbad2 hgood1 hx hn q1 q2 q3 q4 hpos
                      go_wp2_with fail
                      (refine wp_region_grow (by kernel_rfl) (by kernel_rfl) ?_; (repeat (first | go_big_quiet_skip | (go_big_quiet_want; go_big_quiet_op; first | go_big_quiet_on | (apply Exists.intro; refine ⟨fun _ => ?_, ?_⟩; (focus ((go_at_call 138; exact calls_grew_same (basin_from _ _ _ _)))); go_big_quiet_on)))); refine wpQuiet_nil ?_; rintro W1 ⟨⟨_, hW1⟩, rfl⟩)
                      have hS2 := ((hS.out.below (below1 wr _) hSlt).below hW1 (by simp; omega)).below (below1 W1 (.cells #[I i, I j] 77)) (Nat.lt_of_lt_of_le hSlt (Nat.le_trans (below1 wr _).size hW1.size))
                      have hlk := hS2.lookup (t := 163) rfl (i, j)
                      rw [hq] at hlk
                      simp only [kP] at hlk
                      have hcp := fun o => (bcell hW1).1 wr.heap.size o (by simp)
                      obtain ⟨o, hput, hS3⟩ := hS2.put (t := 163) rfl (i, j) hq
                      rw [← htk] at hS3
                      simp only [kP] at hput
                      replace hS3 := hide hS3
                      go_wp2_with fail
                      go_roundw
                      case rel => exact ⟨k + 1, by omega, by go_num, hg, Below.mapped (bup hb (bup (below1 _ _) (bup hW1 (below1 _ _)))) hM0 o, hS3⟩
                      case measure => simp [intOf]; omega
        · have he : k = b.pairs.length := by omega
          subst he
          have hfin := hide (hgood1.out (AllTo.all hn.out))
          clear hbad2 hn hgood1 hS
          go_wp2_with fail
          go_ret
          exact ⟨ret_int hfin.out.symm, bup hbl hb⟩
end Go.Proofs.YtmjfdobjnnfafaaGreatDoor
