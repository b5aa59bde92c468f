/- The volumes of a list of springs: a field that is allowed lies between, both ends are attained. Conditions stand in the theorems. -/
import Derived.Test.YtoojedjmlcdomaaGreatDoorOneField2Pack
import Derived.Test.YtoojedjmlcdomaaGreatDoorOneVols
import Derived.Test.YtoojedjmlcdomaaGreatDoorOneVol
set_option linter.all false
namespace Go.Proofs.YtoojedjmlcdomaaGreatDoor
open Go.RowKit

theorem ends_has {n : Nat} {ds : List Diff} (hn : 0 < n) (hd : ∀ d ∈ ds, 0 ≤ d.frm ∧ d.frm < n ∧ 0 ≤ d.to ∧ d.to < n) (h : endsE n ds = 0) : ∀ i, i < n → (growF n ds [0]).1.has.getD i false = true := fun i hi => by
 have hl := (up_grow hn hd).2.1
 unfold endsE at h
 split at h
 ·cases h
 split at h
 ·cases h
 rename_i h3
 cases hb : (growF n ds [0]).1.has.getD i false with
 | true => rfl
 | false =>
  exfalso
  apply h3
  rw [List.any_eq_true]
  have hg : (growF n ds [0]).1.has[i]? = some false := by
   obtain ⟨x, hx⟩ := getElem?_of_lt (xs := (growF n ds [0]).1.has) (k := i) (by omega)
   rw [List.getD_eq_getElem?_getD, hx] at hb
   simp at hb
   rw [hx, hb]
  exact ⟨false, List.mem_of_getElem? hg, rfl⟩
theorem holds_all {ds : List Diff} {x : List Int} (h : holdsB ds x = true) : x.getD 0 0 = 0 ∧ ∀ d ∈ ds, x.getD d.to.toNat 0 ≤ x.getD d.frm.toNat 0 + d.most := by
 simp only [holdsB, Bool.and_eq_true, decide_eq_true_eq, Bool.not_eq_true', List.any_eq_false] at h
 refine ⟨h.1, fun d hd => ?_⟩
 have := h.2 d hd
 have h3 : diffB x d = true := by simpa using this
 have h4 := of_decide_eq_true h3
 omega
theorem hold_betw {n : Nat} {ds : List Diff} {x : List Int} (hn : 0 < n) (hd : ∀ d ∈ ds, 0 ≤ d.frm ∧ d.frm < n ∧ 0 ≤ d.to ∧ d.to < n) (hx : x.length = n) (h : holdsB ds x = true) (h1 : endsE n ds = 0) (h2 : endsE n (ds.map turnD) = 0) :
  LeL (botL n ds) x ∧ LeL x (endsL n ds) := by
 have hd2 : ∀ d ∈ ds.map turnD, 0 ≤ d.frm ∧ d.frm < n ∧ 0 ≤ d.to ∧ d.to < n := fun d hdm => by
  obtain ⟨e, he, rfl⟩ := List.mem_map.1 hdm
  have := hd e he
  simp only [turnD]
  omega
 obtain ⟨h0, hp⟩ := holds_all h
 have l1 := low_grow (π := fun i => x.getD i 0) hp hd
 have l2 := low_grow (π := fun i => -x.getD i 0) (fun d hdm => by
  obtain ⟨e, he, rfl⟩ := List.mem_map.1 hdm
  have := hp e he
  simp only [turnD]
  omega) hd2
 have hlen1 : (botL n ds).length = n := by rw [botL, List.length_map, endsL]; exact (growF_len _ _ _).1
 have hlen2 : (endsL n ds).length = n := by rw [endsL]; exact (growF_len _ _ _).1
 refine ⟨LeL.of (by omega) fun i hi => ?_, LeL.of (by omega) fun i hi => ?_⟩
 ·have := l2 i (ends_has hn hd2 h2 i (by omega))
  have hg : (botL n ds).getD i 0 = -((growF n (ds.map turnD) [0]).1.long.getD i 0) := by
   unfold botL endsL
   rw [List.getD_eq_getElem?_getD, List.getD_eq_getElem?_getD, List.getElem?_map]
   cases (growF n (ds.map turnD) [0]).1.long[i]? <;> simp
  rw [hg]
  simp only at this
  omega
 ·have := l1 i (ends_has hn hd h1 i (by omega))
  unfold endsL
  simp only at this
  omega
theorem flat_part {n : Nat} : ∀ {f : List RowL} {k : Nat} {r : RowL}, (∀ r ∈ f, r.l.length = n) → f[k]? = some r → ((f.flatMap RowL.l).drop (k * n)).take n = r.l
 | [], k, r, _, h => by simp at h
 | a :: f, 0, r, hl, h => by
  simp at h
  subst h
  have := hl a (List.mem_cons_self ..)
  rw [List.flatMap_cons, Nat.zero_mul, List.drop_zero, ← this, List.take_left']
  rfl
 | a :: f, k + 1, r, hl, h => by
  have ha := hl a (List.mem_cons_self ..)
  have ih := flat_part (f := f) (k := k) (r := r) (fun x hx => hl x (List.mem_cons_of_mem _ hx)) (by simpa using h)
  rw [List.flatMap_cons, ← ih, Nat.add_mul, Nat.one_mul, Nat.add_comm, ← ha, List.drop_append]
  congr 1
  simp
theorem field_is {s : Scene} {f : List RowL} (h : fieldE s f = 0) : sceneE s = 0 ∧ f.length = s.days.length ∧ (∀ r ∈ f, r.l.length = s.basin.cells.length) ∧ holdsB (layD s) (fieldL f) = true := by
 unfold fieldE at h
 split at h
 ·rename_i g; exact absurd h g
 rename_i g1
 split at h
 ·cases h
 rename_i g2
 split at h
 ·cases h
 rename_i g3
 split at h
 ·rename_i g4
  refine ⟨Classical.byContradiction g1, Classical.byContradiction g2, fun r hr => ?_, ?_⟩
  ·have := List.all_eq_true.1 (by simpa using g3 : rowsB s f = true) r hr
   simpa using this
  ·simp only [fitsB, Bool.and_eq_true] at g4
   exact g4.2
 ·cases h
theorem field_last {s : Scene} {f : List RowL} (h : fieldE s f = 0) (h1 : leastE s = 0) (h2 : greatE s = 0) {r : RowL} (hr : f[f.length - 1]? = some r) :
  r.l.length = s.basin.cells.length ∧ LeL (lastRow (leastF s)) r.l ∧ LeL r.l (lastRow (greatF s)) := by
 obtain ⟨hse, hfl, hrl, hh⟩ := field_is h
 have hs := SceneOk.of hse
 have hN := hs.net
 have e1 : endsE (nodesN s) ((layD s).map turnD) = 0 := by
  unfold leastE at h1
  split at h1
  ·rename_i h0; exact absurd h1 h0
  ·exact h1
 have e2 : endsE (nodesN s) (layD s) = 0 := by
  unfold greatE at h2
  split at h2
  ·rename_i h0; exact absurd h2 h0
  ·exact h2
 have hp : 0 < nodesN s := by have := hN.h1; omega
 have hlen : (fieldL f).length = nodesN s := by
  rw [fieldL, List.length_cons, flat_rows hrl, hfl, nodesN]
  omega
 obtain ⟨b1, b2⟩ := hold_betw hp hN.hds hlen hh e2 e1
 have hlen1 : (botL (nodesN s) (layD s)).length = nodesN s := by rw [botL, List.length_map, endsL]; exact (growF_len _ _ _).1
 have hlen2 : (endsL (nodesN s) (layD s)).length = nodesN s := by rw [endsL]; exact (growF_len _ _ _).1
 have hm := hs.hd1
 have hq : ∀ q : List Int, q.length = nodesN s → lastRow (rowsF s.basin.cells.length s.days.length q) = (q.drop (1 + (s.days.length - 1) * s.basin.cells.length)).take s.basin.cells.length := fun q hq => by
  have h3 := (rowsF_last (n := s.basin.cells.length) (m := s.days.length) (l := q) (by omega) (by rw [hq]; rfl)).1
  have h4 : (rowsF s.basin.cells.length s.days.length q)[s.days.length - 1]? = some ((q.drop (1 + (s.days.length - 1) * s.basin.cells.length)).take s.basin.cells.length) := by
   simp [rowsF, List.getElem?_range (show s.days.length - 1 < s.days.length by omega)]
  exact Option.some.inj (h3.symm.trans h4)
 have hr2 : r.l = ((fieldL f).drop (1 + (s.days.length - 1) * s.basin.cells.length)).take s.basin.cells.length := by
  rw [← flat_part hrl hr, hfl, fieldL, Nat.add_comm 1, List.drop_succ_cons]
 refine ⟨hrl r (List.mem_of_getElem? hr), ?_, ?_⟩
 ·unfold leastF
  rw [hq _ hlen1, hr2]
  exact (b1.drop _).take _
 ·unfold greatF
  rw [hq _ hlen2, hr2]
  exact (b2.drop _).take _
theorem LeL.refl : ∀ l : List Int, LeL l l
 | [] => trivial
 | x :: l => ⟨Int.le_refl x, LeL.refl l⟩
theorem LeL.bd {lo hi : Int} : ∀ {l m q : List Int}, LeL l m → LeL m q → (∀ u ∈ l, lo ≤ u) → (∀ u ∈ q, u ≤ hi) → ∀ u ∈ m, lo ≤ u ∧ u ≤ hi
 | [], [], _, _, _, _, _ => fun u hu => by simp at hu
 | [], _ :: _, _, h, _, _, _ => h.elim
 | _ :: _, [], _, h, _, _, _ => h.elim
 | _ :: _, _ :: _, [], _, h, _, _ => h.elim
 | a :: l, b :: m, c :: q, h, g, hl, hq => fun u hu => by
  rcases List.mem_cons.1 hu with rfl | hu
  ·have h1 := hl a (List.mem_cons_self ..)
   have h2 := hq c (List.mem_cons_self ..)
   have h3 := h.1
   have h4 := g.1
   omega
  ·exact LeL.bd h.2 g.2 (fun u hu => hl u (List.mem_cons_of_mem _ hu)) (fun u hu => hq u (List.mem_cons_of_mem _ hu)) u hu

theorem vols_is {c : Climate} {xs : List SprL} {s : Scene} {l : List Int} {frm til : Int} (h : volsE c xs s l frm til = 0) :
  climateE c = 0 ∧ (∀ x ∈ xs, springE c x.spring = 0) ∧ sceneE s = 0 ∧ 0 < xs.length ∧ chosenB s l = true ∧ (∀ x ∈ xs, spellB x.spring frm til = true) ∧ (leastE s = 0 ∧ greatE s = 0) ∧ volsV c xs s l frm til = (volsLo c xs s l frm til, volsHi c xs s l frm til) := by
 have h0 := h
 unfold volsE at h
 split at h
 ·rename_i g; exact absurd h g
 rename_i g1
 split at h
 ·rename_i g; exact absurd h g
 rename_i g2
 split at h
 ·rename_i g; exact absurd h g
 rename_i g3
 split at h
 ·cases h
 rename_i g4
 split at h
 ·cases h
 rename_i g5
 split at h
 ·cases h
 rename_i g6
 have g2' : sprsE c xs = 0 := Classical.byContradiction g2
 refine ⟨Classical.byContradiction g1, fun x hx => ?_, Classical.byContradiction g3, by omega, by simpa using g5, fun x hx => ?_, poolsE_zero h, by rw [volsV, if_pos h0]⟩
 ·unfold sprsE at g2'
  split at g2'
  ·cases g2'
  rename_i g
  have := List.all_eq_true.1 (by simpa using g : xs.all (fun x => decide (springE c x.spring = 0)) = true) x hx
  exact of_decide_eq_true this
 ·have := List.all_eq_true.1 (by simpa using g6 : xs.all (fun x => beginsB s x.spring && spellB x.spring frm til) = true) x hx
  simp only [Bool.and_eq_true] at this
  exact this.2
def comeF (c : Climate) (s : Scene) (l row : List Int) (k frm til : Int) (x : SprL) : Int := cameF c x.days k til (pickC s.basin.cells l) (pickW s.basin.cells row l) - cameF c x.days k frm (pickC s.basin.cells l) (pickW s.basin.cells row l)
theorem fold_lo {α : Type} (g : α → Int) (L : List α) (m : Int) : (∀ x ∈ L, L.foldl (fun m x => min m (g x)) m ≤ g x) ∧ (L.foldl (fun m x => min m (g x)) m = m ∨ ∃ x ∈ L, L.foldl (fun m x => min m (g x)) m = g x) := by
 have h := fold_min id (L.map g) m
 simp only [List.foldl_map, id] at h
 refine ⟨fun x hx => h.1 _ (List.mem_map_of_mem hx), ?_⟩
 rcases h.2.2 with h | ⟨y, hy, h⟩
 ·exact .inl h
 ·obtain ⟨x, hx, rfl⟩ := List.mem_map.1 hy
  exact .inr ⟨x, hx, h⟩
theorem fold_hi {α : Type} (g : α → Int) (L : List α) (m : Int) : (∀ x ∈ L, g x ≤ L.foldl (fun m x => max m (g x)) m) ∧ (L.foldl (fun m x => max m (g x)) m = m ∨ ∃ x ∈ L, L.foldl (fun m x => max m (g x)) m = g x) := by
 have h := fold_max id (L.map g) m
 simp only [List.foldl_map, id] at h
 refine ⟨fun x hx => h.1 _ (List.mem_map_of_mem hx), ?_⟩
 rcases h.2.2 with h | ⟨y, hy, h⟩
 ·exact .inl h
 ·obtain ⟨x, hx, rfl⟩ := List.mem_map.1 hy
  exact .inr ⟨x, hx, h⟩
section
variable {c : Climate} {xs : List SprL} {s : Scene} {l : List Int} {frm til : Int} (h : volsE c xs s l frm til = 0)
include h
theorem vols_one {x : SprL} (hx : x ∈ xs) {k : Int} (hk : k ∈ facL c) {row : List Int} (h1 : LeL (lastRow (leastF s)) row) (h2 : LeL row (lastRow (greatF s))) :
  volsLo c xs s l frm til ≤ comeF c s l row k frm til x ∧ comeF c s l row k frm til x ≤ volsHi c xs s l frm til := by
 obtain ⟨a1, a2, a3, a4, a5, a6, ⟨a7, a8⟩, _⟩ := vols_is h
 have hP : PoolIs c x.spring s l := pool_is (a2 x hx) a3 a7 a8
 have hc := hP.spr.clim
 have hB := fun f hf d => hP.came (f := f) hf d
 have hF : 0 ≤ k ∧ k ≤ 2000 := by have := mem_facL.1 hk; have := hc.flo; have := hc.fhi; omega
 have hft : frm ≤ til := by
  have := a6 x hx
  simp only [spellB, Bool.and_eq_true, decide_eq_true_eq] at this
  omega
 obtain ⟨x1, _⟩ := loF_is (p := x.spring.days) (cs := pickC s.basin.cells l) (ws := lowW s l) (frm := frm) (til := til) hc.fl (fun f hf => by have := hB f hf frm; have := hB f hf til; omega)
 obtain ⟨u1, _⟩ := hiF_is (p := x.spring.days) (cs := pickC s.basin.cells l) (ws := highW s l) (frm := frm) (til := til) hc.fl (fun f hf => by have := hB f hf frm; have := hB f hf til; omega)
 have y1 := x1 k hk
 have y2 := u1 k hk
 have z1 := came_between (d := frm) (e := til) hc hP.spr.mem hF hft _ _ _ hP.cells (show LeL (lowW s l) (pickW s.basin.cells row l) from h1.pick l)
 have z2 := came_between (d := frm) (e := til) hc hP.spr.mem hF hft _ _ _ hP.cells (show LeL (pickW s.basin.cells row l) (highW s l) from h2.pick l)
 have w1 := (fold_lo (fun x : SprL => (volP c x.days s l frm til).1) xs 1152921504606846976).1 x hx
 have w2 := (fold_hi (fun x : SprL => (volP c x.days s l frm til).2) xs (-1152921504606846976)).1 x hx
 have hpe : poolsE s = 0 := by simp [poolsE, a7, a8]
 simp only [volP, if_pos hpe] at w1 w2
 unfold volsLo volsHi comeF
 simp only [volP, if_pos hpe]
 simp only [SprL.spring] at y1 y2 z1 z2
 omega
theorem vols_att : (∃ k ∈ facL c, ∃ x ∈ xs, comeF c s l (lastRow (leastF s)) k frm til x = volsLo c xs s l frm til) ∧ ∃ k ∈ facL c, ∃ x ∈ xs, comeF c s l (lastRow (greatF s)) k frm til x = volsHi c xs s l frm til := by
 obtain ⟨a1, a2, a3, a4, a5, a6, ⟨a7, a8⟩, _⟩ := vols_is h
 have hpe : poolsE s = 0 := by simp [poolsE, a7, a8]
 have hone : ∀ x ∈ xs, (∃ k ∈ facL c, (volP c x.days s l frm til).1 = comeF c s l (lastRow (leastF s)) k frm til x) ∧ (∃ k ∈ facL c, (volP c x.days s l frm til).2 = comeF c s l (lastRow (greatF s)) k frm til x) ∧
   (volP c x.days s l frm til).1 ≤ 30000000000 ∧ -30000000000 ≤ (volP c x.days s l frm til).2 := fun x hx => by
  have hP : PoolIs c x.spring s l := pool_is (a2 x hx) a3 a7 a8
  have hc := hP.spr.clim
  have hB := fun f hf d => hP.came (f := f) hf d
  obtain ⟨x1, k1, y1, z1⟩ := loF_is (p := x.spring.days) (cs := pickC s.basin.cells l) (ws := lowW s l) (frm := frm) (til := til) hc.fl (fun f hf => by have := hB f hf frm; have := hB f hf til; omega)
  obtain ⟨u1, k2, m1, t1⟩ := hiF_is (p := x.spring.days) (cs := pickC s.basin.cells l) (ws := highW s l) (frm := frm) (til := til) hc.fl (fun f hf => by have := hB f hf frm; have := hB f hf til; omega)
  have b1 := hB k1 y1 frm
  have b2 := hB k1 y1 til
  have b3 := hB k2 m1 frm
  have b4 := hB k2 m1 til
  simp only [volP, if_pos hpe]
  simp only [SprL.spring] at x1 z1 u1 t1 b1 b2 b3 b4
  refine ⟨⟨k1, y1, z1⟩, ⟨k2, m1, t1⟩, ?_, ?_⟩ <;> omega
 obtain ⟨x0, hx0⟩ := List.exists_mem_of_length_pos a4
 have w1 := fold_lo (fun x : SprL => (volP c x.days s l frm til).1) xs 1152921504606846976
 have w2 := fold_hi (fun x : SprL => (volP c x.days s l frm til).2) xs (-1152921504606846976)
 have h0 := hone x0 hx0
 refine ⟨?_, ?_⟩
 ·rcases w1.2 with w | ⟨x, hx, w⟩
  ·have := w1.1 x0 hx0
   omega
  ·obtain ⟨⟨k, hk, hk2⟩, _⟩ := hone x hx
   exact ⟨k, hk, x, hx, by rw [← hk2, ← w]; rfl⟩
 ·rcases w2.2 with w | ⟨x, hx, w⟩
  ·have := w2.1 x0 hx0
   omega
  ·obtain ⟨_, ⟨k, hk, hk2⟩, _⟩ := hone x hx
   exact ⟨k, hk, x, hx, by rw [← hk2, ← w]; rfl⟩
end
theorem least_great {s : Scene} (h : sceneE s = 0) (h1 : leastE s = 0) (h2 : greatE s = 0) : LeL (lastRow (leastF s)) (lastRow (greatF s)) := by
 have hs := SceneOk.of h
 have hN := hs.net
 have e1 : endsE (nodesN s) ((layD s).map turnD) = 0 := by
  unfold leastE at h1
  split at h1
  ·rename_i h0; exact absurd h1 h0
  ·exact h1
 have e2 : endsE (nodesN s) (layD s) = 0 := by
  unfold greatE at h2
  split at h2
  ·rename_i h0; exact absurd h2 h0
  ·exact h2
 have hp : 0 < nodesN s := by have := hN.h1; omega
 have hlen1 : (botL (nodesN s) (layD s)).length = nodesN s := by rw [botL, List.length_map, endsL]; exact (growF_len _ _ _).1
 have hlen2 : (endsL (nodesN s) (layD s)).length = nodesN s := by rw [endsL]; exact (growF_len _ _ _).1
 have hL : LeL (botL (nodesN s) (layD s)) (endsL (nodesN s) (layD s)) := LeL.of (by rw [hlen1, hlen2]) fun i hi => bot_top hp hN.hds e2 e1 i (by rw [hlen1] at hi; exact hi)
 have hm := hs.hd1
 have hr : ∀ q : List Int, q.length = nodesN s → lastRow (rowsF s.basin.cells.length s.days.length q) = (q.drop (1 + (s.days.length - 1) * s.basin.cells.length)).take s.basin.cells.length := fun q hq => by
  have h3 := (rowsF_last (n := s.basin.cells.length) (m := s.days.length) (l := q) (by omega) (by rw [hq]; rfl)).1
  have h4 : (rowsF s.basin.cells.length s.days.length q)[s.days.length - 1]? = some ((q.drop (1 + (s.days.length - 1) * s.basin.cells.length)).take s.basin.cells.length) := by
   simp [rowsF, List.getElem?_range (show s.days.length - 1 < s.days.length by omega)]
  exact Option.some.inj (h3.symm.trans h4)
 unfold leastF greatF
 rw [hr _ hlen1, hr _ hlen2]
 exact (hL.drop _).take _
def gotB (q : Int → SprL → Bool) (c : Climate) (xs : List SprL) (j i : Nat) : Bool := ((facL c).take j).any (fun k => xs.any (q k)) || (xs.take i).any (q (c.flo + j))
theorem got_zero (q : Int → SprL → Bool) (c : Climate) (xs : List SprL) : gotB q c xs 0 0 = false := by simp [gotB]
theorem got_step (q : Int → SprL → Bool) (c : Climate) {xs : List SprL} (j : Nat) {i : Nat} {x : SprL} (h : xs[i]? = some x) : gotB q c xs j (i + 1) = (gotB q c xs j i || q (c.flo + j) x) := by
 unfold gotB
 rw [take_succ_of h, List.any_append, ← Bool.or_assoc]
 simp
theorem facL_at {c : Climate} {j : Nat} (h : j < nFac c) : (facL c)[j]? = some (c.flo + j) := by simp [facL, List.getElem?_range h]
theorem got_next (q : Int → SprL → Bool) {c : Climate} (xs : List SprL) {j : Nat} (h : j < nFac c) : gotB q c xs j xs.length = gotB q c xs (j + 1) 0 := by
 unfold gotB
 rw [take_succ_of (facL_at h), List.any_append, List.take_length]
 simp
theorem got_all {q : Int → SprL → Bool} {c : Climate} {xs : List SprL} {k : Int} (hk : k ∈ facL c) {x : SprL} (hx : x ∈ xs) (h : q k x = true) : gotB q c xs (nFac c) 0 = true := by
 have hl : (facL c).length = nFac c := by simp [facL]
 unfold gotB
 rw [← hl, List.take_length]
 simp only [List.take_zero, List.any_nil, Bool.or_false, List.any_eq_true]
 exact ⟨k, hk, x, hx, h⟩
end Go.Proofs.YtoojedjmlcdomaaGreatDoor
