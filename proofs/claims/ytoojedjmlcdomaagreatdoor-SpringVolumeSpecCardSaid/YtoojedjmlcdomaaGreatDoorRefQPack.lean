/- Plain laws: the chosen cells as the reference walks them; Least answers exactly if Greatest does. -/
import Derived.Test.YtoojedjmlcdomaaGreatDoorRefNetPack
import Derived.Test.YtoojedjmlcdomaaGreatDoorRefPPack
import Derived.Test.YtoojedjmlcdomaaGreatDoorSpring23Pack
set_option linter.all false
namespace Go.Proofs.YtoojedjmlcdomaaGreatDoor
open Go.RowKit

theorem pw_adj {α : Type} (f : α → Int) : ∀ xs : List α, (∀ (k : Nat) x y, xs[k]? = some x → xs[k + 1]? = some y → f x < f y) → xs.Pairwise (fun a b => f a < f b)
 | [], _ => .nil
 | [a], _ => by simp
 | a :: b :: r, h => by
  have ih := pw_adj f (b :: r) fun k x y hx hy => h (k + 1) x y (by simpa using hx) (by simpa using hy)
  have hab := h 0 a b rfl rfl
  refine List.pairwise_cons.2 ⟨fun c hc => ?_, ih⟩
  rcases List.mem_cons.1 hc with rfl | hc
  ·exact hab
  ·have := (List.pairwise_cons.1 ih).1 c hc
   omega
def sumF (T : Cell → Int → Int) : List Cell → List Int → Int
 | x :: cs, u :: ws => T x u + sumF T cs ws
 | _, _ => 0
theorem sumF_came (c : Climate) (p : List Weather) (f a b : Int) : ∀ (cs : List Cell) (ws : List Int),
  sumF (fun x u => x.area * ((relF c x.height f b p (0, u)).1 - (relF c x.height f a p (0, u)).1)) cs ws = cameF c p f b cs ws - cameF c p f a cs ws
 | [], _ => rfl
 | _ :: _, [] => rfl
 | x :: cs, u :: ws => by
  simp only [sumF, cameF]
  rw [sumF_came c p f a b cs ws, Int.mul_sub]
  omega
def atCell (T : Cell → Int → Int) (cs : List Cell) (ws : List Int) (n : Int) : Int := T (cs.getD (placeC cs n).toNat default) (ws.getD (placeC cs n).toNat 0)
theorem at_zero (T : Cell → Int → Int) (x : Cell) (cs : List Cell) (u : Int) (ws : List Int) : atCell T (x :: cs) (u :: ws) x.no = T x u := by
 have : placeC (x :: cs) x.no = 0 := by simp [placeC, idxBy]
 simp [atCell, this]
theorem at_succ (T : Cell → Int → Int) {x : Cell} {cs : List Cell} (u : Int) (ws : List Int) {n : Int} (h : x.no ≠ n) (hm : ∃ y ∈ cs, y.no = n) : atCell T (x :: cs) (u :: ws) n = atCell T cs ws n := by
 have h0 : 0 ≤ placeC cs n := by
  obtain ⟨y, hy, hn⟩ := hm
  have h1 : (cs.any fun c => c.no == n) = true := List.any_eq_true.2 ⟨y, hy, by simpa using hn⟩
  rw [anyC_eq] at h1
  exact of_decide_eq_true h1
 have h2 : placeC (x :: cs) n = placeC cs n + 1 := by
  unfold placeC at h0 ⊢
  simp only [idxBy]
  rw [if_neg (by simpa using h), if_neg (by omega)]
 have h3 : (placeC cs n + 1).toNat = (placeC cs n).toNat + 1 := by omega
 simp [atCell, h2, h3]
theorem pick_drop {x : Cell} {cs : List Cell} {u : Int} {ws l : List Int} (h : (l.any fun y => y == x.no) = false) : pickC (x :: cs) l = pickC cs l ∧ pickW (x :: cs) (u :: ws) l = pickW cs ws l := by
 simp [pickC, pickW, pickP, List.filter_cons, h]
theorem pick_take {x : Cell} {cs : List Cell} {u : Int} {ws l : List Int} (h : (l.any fun y => y == x.no) = true) : pickC (x :: cs) l = x :: pickC cs l ∧ pickW (x :: cs) (u :: ws) l = u :: pickW cs ws l := by
 simp [pickC, pickW, pickP, List.filter_cons, h]
theorem pick_tail {y : Int} {cs : List Cell} {ws l : List Int} (h : ∀ x ∈ cs, y ≠ x.no) : pickC cs (y :: l) = pickC cs l ∧ pickW cs ws (y :: l) = pickW cs ws l := by
 constructor
 ·unfold pickC
  refine List.filter_congr fun x hx => ?_
  have : (y == x.no) = false := by simpa using h x hx
  rw [List.any_cons, this, Bool.false_or]
 ·unfold pickW pickP
  congr 1
  refine List.filter_congr fun q hq => ?_
  have : (y == q.1.no) = false := by simpa using h q.1 (List.of_mem_zip hq).1
  rw [List.any_cons, this, Bool.false_or]
theorem pick_sum (T : Cell → Int → Int) : ∀ (cs : List Cell) (ws l : List Int), cs.Pairwise (fun a b => a.no < b.no) → l.Pairwise (fun a b : Int => a < b) → (∀ n ∈ l, ∃ x ∈ cs, x.no = n) → ws.length = cs.length →
  sumF T (pickC cs l) (pickW cs ws l) = (l.map (atCell T cs ws)).foldr (· + ·) 0 ∧ l.length ≤ cs.length
 | [], ws, l, _, _, hm, _ => by
  cases l with
  | nil => exact ⟨rfl, Nat.le_refl _⟩
  | cons y l =>
   obtain ⟨x, hx, _⟩ := hm y (List.mem_cons_self ..)
   cases hx
 | x :: cs, [], l, _, _, _, hlen => by simp at hlen
 | x :: cs, u :: ws, l, hc, hl, hm, hlen => by
  obtain ⟨hc1, hc2⟩ := List.pairwise_cons.1 hc
  have hlen' : ws.length = cs.length := by simpa using hlen
  cases l with
  | nil =>
   have e1 : pickC (x :: cs) [] = [] := by unfold pickC; exact List.filter_eq_nil_iff.2 (by simp)
   rw [e1]
   exact ⟨by simp [sumF], Nat.zero_le _⟩
  | cons y l =>
   obtain ⟨hl1, hl2⟩ := List.pairwise_cons.1 hl
   by_cases hy : y = x.no
   ·subst hy
    have hm' : ∀ n ∈ l, ∃ z ∈ cs, z.no = n := fun n hn => by
     obtain ⟨z, hz, hzn⟩ := hm n (List.mem_cons_of_mem _ hn)
     rcases List.mem_cons.1 hz with rfl | hz
     ·have := hl1 n hn; omega
     ·exact ⟨z, hz, hzn⟩
    obtain ⟨i1, i2⟩ := pick_sum T cs ws l hc2 hl2 hm' hlen'
    obtain ⟨k1, k2⟩ := pick_take (x := x) (cs := cs) (u := u) (ws := ws) (l := x.no :: l) (by simp)
    obtain ⟨k3, k4⟩ := pick_tail (y := x.no) (cs := cs) (ws := ws) (l := l) fun z hz => by have := hc1 z hz; omega
    rw [k1, k2, k3, k4]
    refine ⟨?_, by simp; omega⟩
    simp only [sumF, List.map_cons, List.foldr_cons]
    rw [i1, at_zero]
    have : l.map (atCell T (x :: cs) (u :: ws)) = l.map (atCell T cs ws) := List.map_congr_left fun n hn => at_succ T u ws (by have := hl1 n hn; omega) (hm' n hn)
    rw [this]
   ·have hxy : x.no < y := by
     obtain ⟨z, hz, hzn⟩ := hm y (List.mem_cons_self ..)
     rcases List.mem_cons.1 hz with rfl | hz
     ·omega
     ·have := hc1 z hz; omega
    have hall : ∀ n ∈ y :: l, x.no < n := fun n hn => by
     rcases List.mem_cons.1 hn with rfl | hn
     ·exact hxy
     ·have := hl1 n hn; omega
    have hm' : ∀ n ∈ y :: l, ∃ z ∈ cs, z.no = n := fun n hn => by
     obtain ⟨z, hz, hzn⟩ := hm n hn
     rcases List.mem_cons.1 hz with rfl | hz
     ·have := hall n hn; omega
     ·exact ⟨z, hz, hzn⟩
    obtain ⟨i1, i2⟩ := pick_sum T cs ws (y :: l) hc2 hl hm' hlen'
    obtain ⟨k1, k2⟩ := pick_drop (x := x) (cs := cs) (u := u) (ws := ws) (l := y :: l) (by
     rw [List.any_eq_false]
     intro n hn
     have := hall n hn
     simp; omega)
    rw [k1, k2, i1]
    refine ⟨?_, by simp only [List.length_cons] at i2 ⊢; omega⟩
    have : (y :: l).map (atCell T (x :: cs) (u :: ws)) = (y :: l).map (atCell T cs ws) := List.map_congr_left fun n hn => at_succ T u ws (by have := hall n hn; omega) (hm' n hn)
    rw [this]
theorem fold_sum (xs : List Int) (a : Int) : xs.foldl (· + ·) a = a + xs.foldr (· + ·) 0 := by
 induction xs generalizing a with
 | nil => simp
 | cons x xs ih => simp only [List.foldl_cons, List.foldr_cons]; rw [ih]; omega
theorem cells_rise {b : Basin} (h : basinOk b = true) : b.cells.Pairwise (fun x y => x.no < y.no) := by
 simp only [basinOk, Bool.and_eq_true, inB_true, decide_eq_true_eq, List.all_eq_true, List.mem_range] at h
 obtain ⟨⟨_, h6⟩, _⟩ := h
 refine pw_adj (fun x : Cell => x.no) _ fun k x y hx hy => ?_
 have hk := (List.getElem?_eq_some_iff.1 hy).1
 have h1 := h6 (k + 1) hk
 simp only [cellGood, Bool.and_eq_true] at h1
 have h2 := h1.2
 have hx' : b.cells.getD (k + 1 - 1) default = x := by simp [hx]
 have hy' : b.cells.getD (k + 1) default = y := by simp [hy]
 simp [hx, hy] at h2
 exact h2
theorem scene_basin {s : Scene} (h : sceneE s = 0) : basinOk s.basin = true := by
 cases hb : basinOk s.basin with
 | true => rfl
 | false => rw [sceneE_basin hb] at h; cases h
theorem chosen_is {s : Scene} {l : List Int} (h : chosenB s l = true) : l.Pairwise (fun a b : Int => a < b) ∧ (∀ n ∈ l, ∃ x ∈ s.basin.cells, x.no = n) ∧ 0 < l.length := by
 simp only [chosenB, Bool.and_eq_true, decide_eq_true_eq, List.all_eq_true, List.mem_range] at h
 obtain ⟨h1, h2⟩ := h
 refine ⟨pw_adj (fun x : Int => x) _ fun k x y hx hy => ?_, fun n hn => ?_, h2⟩
 ·have hk := (List.getElem?_eq_some_iff.1 hy).1
  have h3 := h1 (k + 1) hk
  simp only [chosenAt, Bool.and_eq_true] at h3
  have h4 := h3.1
  simp [risesAt, hx, hy] at h4
  exact h4
 ·obtain ⟨k, hk⟩ := List.mem_iff_getElem?.1 hn
  have hk' := (List.getElem?_eq_some_iff.1 hk).1
  have h3 := h1 k hk'
  simp only [chosenAt, Bool.and_eq_true, getD_of hk, List.any_eq_true] at h3
  obtain ⟨_, x, hx, hxn⟩ := h3
  exact ⟨x, hx, by simpa [hk] using hxn⟩
theorem comes_sum {c : Climate} {p : List Weather} {s : Scene} {l row : List Int} (hs : sceneE s = 0) (hch : chosenB s l = true) (hr : row.length = s.basin.cells.length) (f a b : Int) :
  (l.map (atCell (fun x u => x.area * ((relF c x.height f b p (0, u)).1 - (relF c x.height f a p (0, u)).1)) s.basin.cells row)).foldl (· + ·) 0 = cameF c p f b (pickC s.basin.cells l) (pickW s.basin.cells row l) - cameF c p f a (pickC s.basin.cells l) (pickW s.basin.cells row l) ∧ l.length ≤ 12 := by
 obtain ⟨h1, h2, _⟩ := chosen_is hch
 obtain ⟨h3, h4⟩ := pick_sum (fun x u => x.area * ((relF c x.height f b p (0, u)).1 - (relF c x.height f a p (0, u)).1)) _ row l (cells_rise (scene_basin hs)) h1 h2 hr
 rw [fold_sum, ← h3, sumF_came, Int.zero_add]
 exact ⟨rfl, Nat.le_trans h4 (SceneOk.of hs).basin.hc2⟩

theorem great_of_least {s : Scene} (hs : sceneE s = 0) (h : leastE s = 0) : greatE s = 0 := by
 have hv := SceneOk.of hs
 have hN := hv.net
 have hN2 := hv.net.turn
 have he : endsE (nodesN s) ((layD s).map turnD) = 0 := by
  unfold leastE at h
  rw [if_neg (by simpa using hs)] at h
  exact h
 have hn : 0 < nodesN s := by have := hN.h1; omega
 obtain ⟨π, hπ⟩ := potential hN2.hds hn (endsE_neg he)
 have hf : ∀ frm, (growF (nodesN s) (layD s) frm).2 < 0 := fun frm => grow_fine (π := fun i => - π i) hN.hds (fun d hd => by
  have := hπ (turnD d) (List.mem_map.2 ⟨d, hd, rfl⟩)
  simp only [turnD] at this
  omega) frm
 have hu := up_grow (ds := layD s) hn hN.hds
 have hall : ∀ v, v < nodesN s → (growF (nodesN s) (layD s) [0]).1.has.getD v false = true := fun v hv2 => by
  cases v with
  | zero => exact hu.2.2.1
  | succ v =>
   have hC := hv.basin.hc1
   have hv3 : v < s.days.length * s.basin.cells.length := by unfold nodesN at hv2; omega
   have hd : v / s.basin.cells.length < s.days.length := Nat.div_lt_of_lt_mul (by rw [Nat.mul_comm]; exact hv3)
   have hc : v % s.basin.cells.length < s.basin.cells.length := Nat.mod_lt _ hC
   have hm := cellD_mem hd hc
   have e : nodeF s.basin.cells.length ((v % s.basin.cells.length : Nat) : Int) ((v / s.basin.cells.length : Nat) : Int) = ((v + 1 : Nat) : Int) := by
    unfold nodeF
    have h3 := Nat.div_add_mod v s.basin.cells.length
    have h4 : v / s.basin.cells.length * s.basin.cells.length = s.basin.cells.length * (v / s.basin.cells.length) := Nat.mul_comm _ _
    have h5 : ((v / s.basin.cells.length : Nat) : Int) * (s.basin.cells.length : Int) = ((v / s.basin.cells.length * s.basin.cells.length : Nat) : Int) := by push_cast; rfl
    first
     | (rw [h5]; omega)
     | (have h6 : ((s.basin.cells.length : Nat) : Int) * ((v / s.basin.cells.length : Nat) : Int) = ((v / s.basin.cells.length * s.basin.cells.length : Nat) : Int) := by rw [h4]; push_cast; rfl
        rw [h6]; omega)
   have hm1 : (⟨0, ((v + 1 : Nat) : Int), s.basin.deep⟩ : Diff) ∈ layD s := by rw [← e]; exact hm ⟨0, nodeF s.basin.cells.length ((v % s.basin.cells.length : Nat) : Int) ((v / s.basin.cells.length : Nat) : Int), s.basin.deep⟩ (by simp [cellD])
   obtain ⟨i, hi⟩ := List.mem_iff_getElem?.1 hm1
   have hil := (List.getElem?_eq_some_iff.1 hi).1
   have hg : (layD s).getD i default = ⟨0, ((v + 1 : Nat) : Int), s.basin.deep⟩ := by rw [List.getD_eq_getElem?_getD, hi]; rfl
   have h3 := (hu.2.2.2.2 i hil (by rw [hg])).1
   rw [hg] at h3
   simpa using h3
 unfold greatE endsE
 rw [if_neg (by simpa using hs), if_neg (by have := hf (allF (nodesN s)); omega), if_neg]
 rw [List.any_eq_true]
 rintro ⟨x, hx, hxf⟩
 obtain ⟨i, hi⟩ := List.mem_iff_getElem?.1 hx
 have hil := (List.getElem?_eq_some_iff.1 hi).1
 have hlen : (growF (nodesN s) (layD s) [0]).1.has.length = nodesN s := hu.2.1
 have := hall i (by omega)
 rw [List.getD_eq_getElem?_getD, hi] at this
 simp at this hxf
 rw [this] at hxf
 cases hxf
theorem pools_least {s : Scene} (hs : sceneE s = 0) : poolsE s = leastE s := by
 unfold poolsE
 split
 ·rfl
 ·rename_i h
  have h1 : leastE s = 0 := Classical.byContradiction h
  rw [h1, great_of_least hs h1]

def LeL : List Int → List Int → Prop
 | [], [] => True
 | u :: us, v :: vs => u ≤ v ∧ LeL us vs
 | _, _ => False
theorem LeL.of : ∀ {l m : List Int}, l.length = m.length → (∀ i, i < l.length → l.getD i 0 ≤ m.getD i 0) → LeL l m
 | [], [], _, _ => trivial
 | [], _ :: _, h, _ => by simp at h
 | _ :: _, [], h, _ => by simp at h
 | x :: xs, y :: ys, h, g => ⟨by simpa using g 0 (by simp), LeL.of (by simpa using h) fun i hi => by simpa using g (i + 1) (by simpa using hi)⟩
theorem LeL.drop : ∀ {l m : List Int} (n : Nat), LeL l m → LeL (l.drop n) (m.drop n)
 | _, _, 0, h => h
 | [], [], _ + 1, h => h
 | [], _ :: _, _, h => h.elim
 | _ :: _, [], _, h => h.elim
 | _ :: _, _ :: _, n + 1, h => LeL.drop n h.2
theorem LeL.take : ∀ {l m : List Int} (n : Nat), LeL l m → LeL (l.take n) (m.take n)
 | _, _, 0, _ => trivial
 | [], [], _ + 1, _ => trivial
 | [], _ :: _, _, h => h.elim
 | _ :: _, [], _, h => h.elim
 | _ :: _, _ :: _, n + 1, h => ⟨h.1, LeL.take n h.2⟩
theorem LeL.pick (l : List Int) : ∀ {cs : List Cell} {r q : List Int}, LeL r q → LeL (pickW cs r l) (pickW cs q l)
 | [], r, q, _ => by
  simp [pickW, pickP, LeL]
 | x :: cs, [], [], _ => by simp [pickW, pickP, LeL]
 | _ :: _, [], _ :: _, h => h.elim
 | _ :: _, _ :: _, [], h => h.elim
 | x :: cs, u :: r, v :: q, h => by
  have ih := LeL.pick l (cs := cs) h.2
  unfold pickW pickP at ih ⊢
  simp only [List.zip_cons_cons, List.filter_cons]
  cases (l.any fun y => y == x.no)
  ·exact ih
  ·exact ⟨h.1, ih⟩
theorem bot_top {n : Nat} {ds : List Diff} (hn : 0 < n) (hd : ∀ d ∈ ds, 0 ≤ d.frm ∧ d.frm < n ∧ 0 ≤ d.to ∧ d.to < n) (h1 : endsE n ds = 0) (h2 : endsE n (ds.map turnD) = 0) : ∀ i, i < n → (botL n ds).getD i 0 ≤ (endsL n ds).getD i 0 := by
 have hd2 : ∀ d ∈ ds.map turnD, 0 ≤ d.frm ∧ d.frm < n ∧ 0 ≤ d.to ∧ d.to < n := fun d hdm => by
  obtain ⟨e, he, rfl⟩ := List.mem_map.1 hdm
  have := hd e he
  simp only [turnD]
  omega
 have has : ∀ {ds : List Diff}, (∀ d ∈ ds, 0 ≤ d.frm ∧ d.frm < n ∧ 0 ≤ d.to ∧ d.to < n) → endsE n ds = 0 → ∀ i, i < n → (growF n ds [0]).1.has.getD i false = true := fun {ds} hd h i hi => by
  have hl := (up_grow hn hd).2.1
  unfold endsE at h
  split at h
  ·cases h
  split at h
  ·cases h
  rename_i h3
  cases hb : (growF n ds [0]).1.has.getD i false with
  | true => rfl
  | false =>
   exfalso
   apply h3
   rw [List.any_eq_true]
   have hg : (growF n ds [0]).1.has[i]? = some false := by
    obtain ⟨x, hx⟩ := getElem?_of_lt (xs := (growF n ds [0]).1.has) (k := i) (by omega)
    rw [List.getD_eq_getElem?_getD, hx] at hb
    simp at hb
    rw [hx, hb]
   exact ⟨false, List.mem_of_getElem? hg, rfl⟩
 obtain ⟨π, hπ⟩ := potential hd hn (endsE_neg h1)
 intro i hi
 have l1 := low_grow hπ hd i (has hd h1 i hi)
 have l2 := low_grow (π := fun i => -π i) (fun d hdm => by
  obtain ⟨e, he, rfl⟩ := List.mem_map.1 hdm
  have := hπ e he
  simp only [turnD]
  omega) hd2 i (has hd2 h2 i hi)
 have hg : (botL n ds).getD i 0 = -((growF n (ds.map turnD) [0]).1.long.getD i 0) := by
  unfold botL endsL
  rw [List.getD_eq_getElem?_getD, List.getD_eq_getElem?_getD, List.getElem?_map]
  cases (growF n (ds.map turnD) [0]).1.long[i]? <;> simp
 rw [hg]
 unfold endsL
 simp only at l2
 omega
theorem low_high {s : Scene} (hs : SceneOk s) (h1 : leastE s = 0) (h2 : greatE s = 0) (l : List Int) : LeL (lowW s l) (highW s l) := by
 have hN := hs.net
 have e1 : endsE (nodesN s) ((layD s).map turnD) = 0 := by
  unfold leastE at h1
  split at h1
  ·rename_i h0; exact absurd h1 h0
  ·exact h1
 have e2 : endsE (nodesN s) (layD s) = 0 := by
  unfold greatE at h2
  split at h2
  ·rename_i h0; exact absurd h2 h0
  ·exact h2
 have hp : 0 < nodesN s := by have := hN.h1; omega
 have hlen1 : (botL (nodesN s) (layD s)).length = nodesN s := by rw [botL, List.length_map, endsL]; exact (growF_len _ _ _).1
 have hlen2 : (endsL (nodesN s) (layD s)).length = nodesN s := by rw [endsL]; exact (growF_len _ _ _).1
 have hL : LeL (botL (nodesN s) (layD s)) (endsL (nodesN s) (layD s)) := LeL.of (by rw [hlen1, hlen2]) fun i hi => bot_top hp hN.hds e2 e1 i (by rw [hlen1] at hi; exact hi)
 have hm := hs.hd1
 unfold lowW highW
 refine LeL.pick l ?_
 have hr : ∀ q : List Int, q.length = nodesN s → lastRow (rowsF s.basin.cells.length s.days.length q) = (q.drop (1 + (s.days.length - 1) * s.basin.cells.length)).take s.basin.cells.length := fun q hq => by
  have h3 := (rowsF_last (n := s.basin.cells.length) (m := s.days.length) (l := q) (by omega) (by rw [hq]; rfl)).1
  have h4 : (rowsF s.basin.cells.length s.days.length q)[s.days.length - 1]? = some ((q.drop (1 + (s.days.length - 1) * s.basin.cells.length)).take s.basin.cells.length) := by
   simp [rowsF, List.getElem?_range (show s.days.length - 1 < s.days.length by omega)]
  exact Option.some.inj (h3.symm.trans h4)
 unfold leastF greatF
 rw [hr _ hlen1, hr _ hlen2]
 exact (hL.drop _).take _

theorem rel_later {c : Climate} {h f e e2 : Int} (hc : ClimOk c) (hh : 0 ≤ h ∧ h ≤ 9000) (hf : 0 ≤ f ∧ f ≤ 2000) (he : e ≤ e2) : ∀ (l : List Weather) (a b : Int), (∀ x ∈ l, WeaOk c x) → 0 ≤ b → (relF c h f e l (a, b)).1 ≤ (relF c h f e2 l (a, b)).1
 | [], a, b, _, _ => by simp [relF]
 | x :: xs, a, b, hl, hb => by
  rcases ilt x.day e with g | g
  ·rw [relF_go g, relF_go (by omega)]
   exact rel_later hc hh hf he xs _ _ (fun y hy => hl y (List.mem_cons_of_mem _ hy)) (by omega)
  ·rw [relF_stop g]
   exact (relF_bd (e := e2) hc hh hf (x :: xs) a b hl hb).1
section
variable {c : Climate} {l : List Weather}
theorem came_later {f d e : Int} (hc : ClimOk c) (hl : ∀ x ∈ l, WeaOk c x) (hf : 0 ≤ f ∧ f ≤ 2000) (hd : d ≤ e) : ∀ (cs : List Cell) (ws : List Int), (∀ x ∈ cs, cellOk x = true) → (∀ u ∈ ws, 0 ≤ u ∧ u ≤ 65536) → cameF c l f d cs ws ≤ cameF c l f e cs ws
 | [], _, _, _ => by simp [cameF]
 | x :: cs, [], _, _ => by simp [cameF]
 | x :: cs, u :: ws, hcs, hws => by
  have ih := came_later hc hl hf hd cs ws (fun y hy => hcs y (List.mem_cons_of_mem _ hy)) (fun y hy => hws y (List.mem_cons_of_mem _ hy))
  have hx := cellOk_bd (hcs x (List.mem_cons_self ..))
  have hr := rel_later hc hx.1 hf hd l 0 u hl (hws u (List.mem_cons_self ..)).1
  have := Int.mul_le_mul_of_nonneg_left hr (show 0 ≤ x.area by omega)
  simp only [cameF]
  omega
end
theorem fold_min (g : Int → Int) : ∀ (L : List Int) (m : Int), (∀ x ∈ L, L.foldl (fun m f => min m (g f)) m ≤ g x) ∧ L.foldl (fun m f => min m (g f)) m ≤ m ∧ (L.foldl (fun m f => min m (g f)) m = m ∨ ∃ x ∈ L, L.foldl (fun m f => min m (g f)) m = g x)
 | [], m => ⟨fun _ h => by simp at h, Int.le_refl _, .inl rfl⟩
 | x :: L, m => by
  obtain ⟨h1, h2, h3⟩ := fold_min g L (min m (g x))
  rw [List.foldl_cons]
  refine ⟨fun y hy => ?_, by omega, ?_⟩
  ·rcases List.mem_cons.1 hy with rfl | hy
   ·omega
   ·exact h1 y hy
  ·rcases h3 with h3 | ⟨y, hy, h3⟩
   ·rcases ilt m (g x) with k | k
    ·exact .inl (by omega)
    ·exact .inr ⟨x, List.mem_cons_self .., by omega⟩
   ·exact .inr ⟨y, List.mem_cons_of_mem _ hy, h3⟩
theorem fold_max (g : Int → Int) : ∀ (L : List Int) (m : Int), (∀ x ∈ L, g x ≤ L.foldl (fun m f => max m (g f)) m) ∧ m ≤ L.foldl (fun m f => max m (g f)) m ∧ (L.foldl (fun m f => max m (g f)) m = m ∨ ∃ x ∈ L, L.foldl (fun m f => max m (g f)) m = g x)
 | [], m => ⟨fun _ h => by simp at h, Int.le_refl _, .inl rfl⟩
 | x :: L, m => by
  obtain ⟨h1, h2, h3⟩ := fold_max g L (max m (g x))
  rw [List.foldl_cons]
  refine ⟨fun y hy => ?_, by omega, ?_⟩
  ·rcases List.mem_cons.1 hy with rfl | hy
   ·omega
   ·exact h1 y hy
  ·rcases h3 with h3 | ⟨y, hy, h3⟩
   ·rcases ilt (g x) m with k | k
    ·exact .inl (by omega)
    ·exact .inr ⟨x, List.mem_cons_self .., by omega⟩
   ·exact .inr ⟨y, List.mem_cons_of_mem _ hy, h3⟩
theorem mem_facL {c : Climate} {f : Int} : f ∈ facL c ↔ c.flo ≤ f ∧ f ≤ c.fhi := by
 unfold facL nFac
 rw [List.mem_map]
 constructor
 ·rintro ⟨i, hi, rfl⟩
  have := List.mem_range.1 hi
  omega
 ·intro h
  exact ⟨(f - c.flo).toNat, List.mem_range.2 (by omega), by omega⟩
section
variable {c : Climate} {p : List Weather} {cs : List Cell} {ws : List Int} {frm til : Int}
end
structure PoolIs (c : Climate) (p : Spring) (s : Scene) (l : List Int) : Prop where
 spr : SprOk c p
 cells : ∀ x ∈ pickC s.basin.cells l, cellOk x = true
 n12 : (pickC s.basin.cells l).length ≤ 12
 low : ∀ u ∈ lowW s l, 0 ≤ u ∧ u ≤ 65536
 high : ∀ u ∈ highW s l, 0 ≤ u ∧ u ≤ 65536
 le : LeL (lowW s l) (highW s l)
theorem pool_is {c : Climate} {p : Spring} {s : Scene} {l : List Int} (h1 : springE c p = 0) (h2 : sceneE s = 0) (h3 : leastE s = 0) (h4 : greatE s = 0) : PoolIs c p s l := by
 have hs := SceneOk.of h2
 refine ⟨.of h1, fun x hx => ?_, Nat.le_trans (List.length_filter_le ..) hs.basin.hc2, lowW_bd hs h3 l, highW_bd hs h4 l, low_high hs h3 h4 l⟩
 have hm := (List.mem_filter.1 hx).1
 obtain ⟨i, hi⟩ := List.mem_iff_getElem?.1 hm
 exact hs.basin.cell i x hi
theorem PoolIs.came {c : Climate} {p : Spring} {s : Scene} {l : List Int} (h : PoolIs c p s l) {f : Int} (hf : f ∈ facL c) (d : Int) : (0 ≤ cameF c p.days f d (pickC s.basin.cells l) (lowW s l) ∧ cameF c p.days f d (pickC s.basin.cells l) (lowW s l) ≤ 30000000000) ∧ 0 ≤ cameF c p.days f d (pickC s.basin.cells l) (highW s l) ∧ cameF c p.days f d (pickC s.basin.cells l) (highW s l) ≤ 30000000000 := by
 have hm := mem_facL.1 hf
 have hc := h.spr.clim
 have hf2 : 0 ≤ f ∧ f ≤ 2000 := by have := hc.flo; have := hc.fhi; omega
 have h1 := cameF_bd (d := d) hc h.spr.mem h.spr.n2 hf2 _ _ h.cells h.low
 have h2 := cameF_bd (d := d) hc h.spr.mem h.spr.n2 hf2 _ _ h.cells h.high
 have := h.n12
 omega
end Go.Proofs.YtoojedjmlcdomaaGreatDoor
