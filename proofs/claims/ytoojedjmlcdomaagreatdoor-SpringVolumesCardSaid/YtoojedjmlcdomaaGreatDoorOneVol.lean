/- What a volume grants: by day, by water, by factor; the least field is below the greatest. Conditions stand in the theorems. -/
import Derived.Test.YtoojedjmlcdomaaGreatDoorSpring23Pack
set_option linter.all false
namespace Go.Proofs.YtoojedjmlcdomaaGreatDoor
open Go.RowKit

def LeL : List Int → List Int → Prop
 | [], [] => True
 | u :: us, v :: vs => u ≤ v ∧ LeL us vs
 | _, _ => False
theorem LeL.of : ∀ {l m : List Int}, l.length = m.length → (∀ i, i < l.length → l.getD i 0 ≤ m.getD i 0) → LeL l m
 | [], [], _, _ => trivial
 | [], _ :: _, h, _ => by simp at h
 | _ :: _, [], h, _ => by simp at h
 | x :: xs, y :: ys, h, g => ⟨by simpa using g 0 (by simp), LeL.of (by simpa using h) fun i hi => by simpa using g (i + 1) (by simpa using hi)⟩
theorem LeL.drop : ∀ {l m : List Int} (n : Nat), LeL l m → LeL (l.drop n) (m.drop n)
 | _, _, 0, h => h
 | [], [], _ + 1, h => h
 | [], _ :: _, _, h => h.elim
 | _ :: _, [], _, h => h.elim
 | _ :: _, _ :: _, n + 1, h => LeL.drop n h.2
theorem LeL.take : ∀ {l m : List Int} (n : Nat), LeL l m → LeL (l.take n) (m.take n)
 | _, _, 0, _ => trivial
 | [], [], _ + 1, _ => trivial
 | [], _ :: _, _, h => h.elim
 | _ :: _, [], _, h => h.elim
 | _ :: _, _ :: _, n + 1, h => ⟨h.1, LeL.take n h.2⟩
theorem LeL.pick (l : List Int) : ∀ {cs : List Cell} {r q : List Int}, LeL r q → LeL (pickW cs r l) (pickW cs q l)
 | [], r, q, _ => by
  simp [pickW, pickP, LeL]
 | x :: cs, [], [], _ => by simp [pickW, pickP, LeL]
 | _ :: _, [], _ :: _, h => h.elim
 | _ :: _, _ :: _, [], h => h.elim
 | x :: cs, u :: r, v :: q, h => by
  have ih := LeL.pick l (cs := cs) h.2
  unfold pickW pickP at ih ⊢
  simp only [List.zip_cons_cons, List.filter_cons]
  cases (l.any fun y => y == x.no)
  ·exact ih
  ·exact ⟨h.1, ih⟩
theorem bot_top {n : Nat} {ds : List Diff} (hn : 0 < n) (hd : ∀ d ∈ ds, 0 ≤ d.frm ∧ d.frm < n ∧ 0 ≤ d.to ∧ d.to < n) (h1 : endsE n ds = 0) (h2 : endsE n (ds.map turnD) = 0) : ∀ i, i < n → (botL n ds).getD i 0 ≤ (endsL n ds).getD i 0 := by
 have hd2 : ∀ d ∈ ds.map turnD, 0 ≤ d.frm ∧ d.frm < n ∧ 0 ≤ d.to ∧ d.to < n := fun d hdm => by
  obtain ⟨e, he, rfl⟩ := List.mem_map.1 hdm
  have := hd e he
  simp only [turnD]
  omega
 have has : ∀ {ds : List Diff}, (∀ d ∈ ds, 0 ≤ d.frm ∧ d.frm < n ∧ 0 ≤ d.to ∧ d.to < n) → endsE n ds = 0 → ∀ i, i < n → (growF n ds [0]).1.has.getD i false = true := fun {ds} hd h i hi => by
  have hl := (up_grow hn hd).2.1
  unfold endsE at h
  split at h
  ·cases h
  split at h
  ·cases h
  rename_i h3
  cases hb : (growF n ds [0]).1.has.getD i false with
  | true => rfl
  | false =>
   exfalso
   apply h3
   rw [List.any_eq_true]
   have hg : (growF n ds [0]).1.has[i]? = some false := by
    obtain ⟨x, hx⟩ := getElem?_of_lt (xs := (growF n ds [0]).1.has) (k := i) (by omega)
    rw [List.getD_eq_getElem?_getD, hx] at hb
    simp at hb
    rw [hx, hb]
   exact ⟨false, List.mem_of_getElem? hg, rfl⟩
 obtain ⟨π, hπ⟩ := potential hd hn (endsE_neg h1)
 intro i hi
 have l1 := low_grow hπ hd i (has hd h1 i hi)
 have l2 := low_grow (π := fun i => -π i) (fun d hdm => by
  obtain ⟨e, he, rfl⟩ := List.mem_map.1 hdm
  have := hπ e he
  simp only [turnD]
  omega) hd2 i (has hd2 h2 i hi)
 have hg : (botL n ds).getD i 0 = -((growF n (ds.map turnD) [0]).1.long.getD i 0) := by
  unfold botL endsL
  rw [List.getD_eq_getElem?_getD, List.getD_eq_getElem?_getD, List.getElem?_map]
  cases (growF n (ds.map turnD) [0]).1.long[i]? <;> simp
 rw [hg]
 unfold endsL
 simp only at l2
 omega
theorem low_high {s : Scene} (hs : SceneOk s) (h1 : leastE s = 0) (h2 : greatE s = 0) (l : List Int) : LeL (lowW s l) (highW s l) := by
 have hN := hs.net
 have e1 : endsE (nodesN s) ((layD s).map turnD) = 0 := by
  unfold leastE at h1
  split at h1
  ·rename_i h0; exact absurd h1 h0
  ·exact h1
 have e2 : endsE (nodesN s) (layD s) = 0 := by
  unfold greatE at h2
  split at h2
  ·rename_i h0; exact absurd h2 h0
  ·exact h2
 have hp : 0 < nodesN s := by have := hN.h1; omega
 have hlen1 : (botL (nodesN s) (layD s)).length = nodesN s := by rw [botL, List.length_map, endsL]; exact (growF_len _ _ _).1
 have hlen2 : (endsL (nodesN s) (layD s)).length = nodesN s := by rw [endsL]; exact (growF_len _ _ _).1
 have hL : LeL (botL (nodesN s) (layD s)) (endsL (nodesN s) (layD s)) := LeL.of (by rw [hlen1, hlen2]) fun i hi => bot_top hp hN.hds e2 e1 i (by rw [hlen1] at hi; exact hi)
 have hm := hs.hd1
 unfold lowW highW
 refine LeL.pick l ?_
 have hr : ∀ q : List Int, q.length = nodesN s → lastRow (rowsF s.basin.cells.length s.days.length q) = (q.drop (1 + (s.days.length - 1) * s.basin.cells.length)).take s.basin.cells.length := fun q hq => by
  have h3 := (rowsF_last (n := s.basin.cells.length) (m := s.days.length) (l := q) (by omega) (by rw [hq]; rfl)).1
  have h4 : (rowsF s.basin.cells.length s.days.length q)[s.days.length - 1]? = some ((q.drop (1 + (s.days.length - 1) * s.basin.cells.length)).take s.basin.cells.length) := by
   simp [rowsF, List.getElem?_range (show s.days.length - 1 < s.days.length by omega)]
  exact Option.some.inj (h3.symm.trans h4)
 unfold leastF greatF
 rw [hr _ hlen1, hr _ hlen2]
 exact (hL.drop _).take _

theorem rel_more {c : Climate} {h f e : Int} : ∀ (l : List Weather) (a b a2 b2 : Int), b ≤ b2 → (relF c h f e l (a, b)).1 - a ≤ (relF c h f e l (a2, b2)).1 - a2
 | [], a, b, a2, b2, _ => by simp [relF]
 | x :: xs, a, b, a2, b2, hb => by
  rcases ilt x.day e with g | g
  ·rw [relF_go g, relF_go g]
   have ih := rel_more (c := c) (h := h) (f := f) (e := e) xs (a + ((fallF c x h).2 + b + (fallF c x h).1 - max 0 (b + (fallF c x h).1 - meltF c x h f))) (max 0 (b + (fallF c x h).1 - meltF c x h f)) (a2 + ((fallF c x h).2 + b2 + (fallF c x h).1 - max 0 (b2 + (fallF c x h).1 - meltF c x h f))) (max 0 (b2 + (fallF c x h).1 - meltF c x h f)) (by omega)
   omega
  ·rw [relF_stop g, relF_stop g]
   simp
theorem rel_between {c : Climate} {h f e e2 : Int} (hc : ClimOk c) (hh : 0 ≤ h ∧ h ≤ 9000) (hf : 0 ≤ f ∧ f ≤ 2000) (he : e ≤ e2) : ∀ (l : List Weather) (a b a2 b2 : Int), (∀ x ∈ l, WeaOk c x) → b ≤ b2 → (relF c h f e2 l (a, b)).1 - (relF c h f e l (a, b)).1 ≤ (relF c h f e2 l (a2, b2)).1 - (relF c h f e l (a2, b2)).1
 | [], a, b, a2, b2, _, _ => by simp [relF]
 | x :: xs, a, b, a2, b2, hl, hb => by
  rcases ilt x.day e with g | g
  ·rw [relF_go g, relF_go (e := e2) (by omega), relF_go g, relF_go (e := e2) (by omega)]
   exact rel_between hc hh hf he xs _ _ _ _ (fun y hy => hl y (List.mem_cons_of_mem _ hy)) (by omega)
  ·rw [relF_stop (p := (a, b)) g, relF_stop (p := (a2, b2)) g]
   exact rel_more (x :: xs) a b a2 b2 hb
section
variable {c : Climate} {l : List Weather}
theorem came_between {f d e : Int} (hc : ClimOk c) (hl : ∀ x ∈ l, WeaOk c x) (hf : 0 ≤ f ∧ f ≤ 2000) (hd : d ≤ e) : ∀ (cs : List Cell) (ws vs : List Int), (∀ x ∈ cs, cellOk x = true) → LeL ws vs → cameF c l f e cs ws - cameF c l f d cs ws ≤ cameF c l f e cs vs - cameF c l f d cs vs
 | [], _, _, _, _ => by simp [cameF]
 | x :: cs, [], [], _, _ => by simp [cameF]
 | x :: cs, [], _ :: _, _, h => h.elim
 | x :: cs, _ :: _, [], _, h => h.elim
 | x :: cs, u :: ws, v :: vs, hcs, h => by
  have ih := came_between hc hl hf hd cs ws vs (fun y hy => hcs y (List.mem_cons_of_mem _ hy)) h.2
  have hx := cellOk_bd (hcs x (List.mem_cons_self ..))
  have hr := rel_between hc hx.1 hf hd l 0 u 0 v hl h.1
  have := Int.mul_le_mul_of_nonneg_left hr (show 0 ≤ x.area by omega)
  rw [Int.mul_sub, Int.mul_sub] at this
  simp only [cameF]
  omega
end
theorem fold_min (g : Int → Int) : ∀ (L : List Int) (m : Int), (∀ x ∈ L, L.foldl (fun m f => min m (g f)) m ≤ g x) ∧ L.foldl (fun m f => min m (g f)) m ≤ m ∧ (L.foldl (fun m f => min m (g f)) m = m ∨ ∃ x ∈ L, L.foldl (fun m f => min m (g f)) m = g x)
 | [], m => ⟨fun _ h => by simp at h, Int.le_refl _, .inl rfl⟩
 | x :: L, m => by
  obtain ⟨h1, h2, h3⟩ := fold_min g L (min m (g x))
  rw [List.foldl_cons]
  refine ⟨fun y hy => ?_, by omega, ?_⟩
  ·rcases List.mem_cons.1 hy with rfl | hy
   ·omega
   ·exact h1 y hy
  ·rcases h3 with h3 | ⟨y, hy, h3⟩
   ·rcases ilt m (g x) with k | k
    ·exact .inl (by omega)
    ·exact .inr ⟨x, List.mem_cons_self .., by omega⟩
   ·exact .inr ⟨y, List.mem_cons_of_mem _ hy, h3⟩
theorem fold_max (g : Int → Int) : ∀ (L : List Int) (m : Int), (∀ x ∈ L, g x ≤ L.foldl (fun m f => max m (g f)) m) ∧ m ≤ L.foldl (fun m f => max m (g f)) m ∧ (L.foldl (fun m f => max m (g f)) m = m ∨ ∃ x ∈ L, L.foldl (fun m f => max m (g f)) m = g x)
 | [], m => ⟨fun _ h => by simp at h, Int.le_refl _, .inl rfl⟩
 | x :: L, m => by
  obtain ⟨h1, h2, h3⟩ := fold_max g L (max m (g x))
  rw [List.foldl_cons]
  refine ⟨fun y hy => ?_, by omega, ?_⟩
  ·rcases List.mem_cons.1 hy with rfl | hy
   ·omega
   ·exact h1 y hy
  ·rcases h3 with h3 | ⟨y, hy, h3⟩
   ·rcases ilt (g x) m with k | k
    ·exact .inl (by omega)
    ·exact .inr ⟨x, List.mem_cons_self .., by omega⟩
   ·exact .inr ⟨y, List.mem_cons_of_mem _ hy, h3⟩
theorem mem_facL {c : Climate} {f : Int} : f ∈ facL c ↔ c.flo ≤ f ∧ f ≤ c.fhi := by
 unfold facL nFac
 rw [List.mem_map]
 constructor
 ·rintro ⟨i, hi, rfl⟩
  have := List.mem_range.1 hi
  omega
 ·intro h
  exact ⟨(f - c.flo).toNat, List.mem_range.2 (by omega), by omega⟩
section
variable {c : Climate} {p : List Weather} {cs : List Cell} {ws : List Int} {frm til : Int}
theorem loF_is (hc : c.flo ≤ c.fhi) (hb : ∀ f, f ∈ facL c → cameF c p f til cs ws - cameF c p f frm cs ws ≤ 1000000000000) :
  (∀ f, f ∈ facL c → loF c p cs ws frm til ≤ cameF c p f til cs ws - cameF c p f frm cs ws) ∧ ∃ f, f ∈ facL c ∧ loF c p cs ws frm til = cameF c p f til cs ws - cameF c p f frm cs ws := by
 obtain ⟨h1, h2, h3⟩ := fold_min (fun f => cameF c p f til cs ws - cameF c p f frm cs ws) (facL c) 1152921504606846976
 refine ⟨h1, ?_⟩
 rcases h3 with h3 | ⟨f, hf, h3⟩
 ·have hm := mem_facL.2 ⟨Int.le_refl c.flo, hc⟩
  have := h1 _ hm
  have := hb _ hm
  (try simp only at *)
  omega
 ·exact ⟨f, hf, h3⟩
theorem hiF_is (hc : c.flo ≤ c.fhi) (hb : ∀ f, f ∈ facL c → -1000000000000 ≤ cameF c p f til cs ws - cameF c p f frm cs ws) :
  (∀ f, f ∈ facL c → cameF c p f til cs ws - cameF c p f frm cs ws ≤ hiF c p cs ws frm til) ∧ ∃ f, f ∈ facL c ∧ hiF c p cs ws frm til = cameF c p f til cs ws - cameF c p f frm cs ws := by
 obtain ⟨h1, h2, h3⟩ := fold_max (fun f => cameF c p f til cs ws - cameF c p f frm cs ws) (facL c) (-1152921504606846976)
 refine ⟨h1, ?_⟩
 rcases h3 with h3 | ⟨f, hf, h3⟩
 ·have hm := mem_facL.2 ⟨Int.le_refl c.flo, hc⟩
  have := h1 _ hm
  have := hb _ hm
  (try simp only at *)
  omega
 ·exact ⟨f, hf, h3⟩
end
structure PoolIs (c : Climate) (p : Spring) (s : Scene) (l : List Int) : Prop where
 spr : SprOk c p
 cells : ∀ x ∈ pickC s.basin.cells l, cellOk x = true
 n12 : (pickC s.basin.cells l).length ≤ 12
 low : ∀ u ∈ lowW s l, 0 ≤ u ∧ u ≤ 65536
 high : ∀ u ∈ highW s l, 0 ≤ u ∧ u ≤ 65536
 le : LeL (lowW s l) (highW s l)
theorem pool_is {c : Climate} {p : Spring} {s : Scene} {l : List Int} (h1 : springE c p = 0) (h2 : sceneE s = 0) (h3 : leastE s = 0) (h4 : greatE s = 0) : PoolIs c p s l := by
 have hs := SceneOk.of h2
 refine ⟨.of h1, fun x hx => ?_, Nat.le_trans (List.length_filter_le ..) hs.basin.hc2, lowW_bd hs h3 l, highW_bd hs h4 l, low_high hs h3 h4 l⟩
 have hm := (List.mem_filter.1 hx).1
 obtain ⟨i, hi⟩ := List.mem_iff_getElem?.1 hm
 exact hs.basin.cell i x hi
theorem PoolIs.came {c : Climate} {p : Spring} {s : Scene} {l : List Int} (h : PoolIs c p s l) {f : Int} (hf : f ∈ facL c) (d : Int) : (0 ≤ cameF c p.days f d (pickC s.basin.cells l) (lowW s l) ∧ cameF c p.days f d (pickC s.basin.cells l) (lowW s l) ≤ 30000000000) ∧ 0 ≤ cameF c p.days f d (pickC s.basin.cells l) (highW s l) ∧ cameF c p.days f d (pickC s.basin.cells l) (highW s l) ≤ 30000000000 := by
 have hm := mem_facL.1 hf
 have hc := h.spr.clim
 have hf2 : 0 ≤ f ∧ f ≤ 2000 := by have := hc.flo; have := hc.fhi; omega
 have h1 := cameF_bd (d := d) hc h.spr.mem h.spr.n2 hf2 _ _ h.cells h.low
 have h2 := cameF_bd (d := d) hc h.spr.mem h.spr.n2 hf2 _ _ h.cells h.high
 have := h.n12
 omega
end Go.Proofs.YtoojedjmlcdomaaGreatDoor
