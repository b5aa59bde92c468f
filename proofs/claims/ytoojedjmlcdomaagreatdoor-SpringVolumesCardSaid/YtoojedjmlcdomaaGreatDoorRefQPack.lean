/- Plain laws: the chosen cells as the reference walks them; Least answers exactly if Greatest does. -/
import Derived.Test.YtoojedjmlcdomaaGreatDoorOneHoldPack
import Derived.Test.YtoojedjmlcdomaaGreatDoorRefI
import Derived.Test.YtoojedjmlcdomaaGreatDoorSpring23Pack
import Derived.Test.YtoojedjmlcdomaaGreatDoorSpring9Pack
set_option linter.all false
set_option maxHeartbeats 4000000
set_option maxRecDepth 100000
namespace Go.Proofs.YtoojedjmlcdomaaGreatDoor
open Go.RowKit

theorem pw_adj {α : Type} (f : α → Int) : ∀ xs : List α, (∀ (k : Nat) x y, xs[k]? = some x → xs[k + 1]? = some y → f x < f y) → xs.Pairwise (fun a b => f a < f b)
 | [], _ => .nil
 | [a], _ => by simp
 | a :: b :: r, h => by
  have ih := pw_adj f (b :: r) fun k x y hx hy => h (k + 1) x y (by simpa using hx) (by simpa using hy)
  have hab := h 0 a b rfl rfl
  refine List.pairwise_cons.2 ⟨fun c hc => ?_, ih⟩
  rcases List.mem_cons.1 hc with rfl | hc
  ·exact hab
  ·have := (List.pairwise_cons.1 ih).1 c hc
   omega
def sumF (T : Cell → Int → Int) : List Cell → List Int → Int
 | x :: cs, u :: ws => T x u + sumF T cs ws
 | _, _ => 0
theorem sumF_came (c : Climate) (p : List Weather) (f a b : Int) : ∀ (cs : List Cell) (ws : List Int),
  sumF (fun x u => x.area * ((relF c x.height f b p (0, u)).1 - (relF c x.height f a p (0, u)).1)) cs ws = cameF c p f b cs ws - cameF c p f a cs ws
 | [], _ => rfl
 | _ :: _, [] => rfl
 | x :: cs, u :: ws => by
  simp only [sumF, cameF]
  rw [sumF_came c p f a b cs ws, Int.mul_sub]
  omega
def atCell (T : Cell → Int → Int) (cs : List Cell) (ws : List Int) (n : Int) : Int := T (cs.getD (placeC cs n).toNat default) (ws.getD (placeC cs n).toNat 0)
theorem at_zero (T : Cell → Int → Int) (x : Cell) (cs : List Cell) (u : Int) (ws : List Int) : atCell T (x :: cs) (u :: ws) x.no = T x u := by
 have : placeC (x :: cs) x.no = 0 := by simp [placeC, idxBy]
 simp [atCell, this]
theorem at_succ (T : Cell → Int → Int) {x : Cell} {cs : List Cell} (u : Int) (ws : List Int) {n : Int} (h : x.no ≠ n) (hm : ∃ y ∈ cs, y.no = n) : atCell T (x :: cs) (u :: ws) n = atCell T cs ws n := by
 have h0 : 0 ≤ placeC cs n := by
  obtain ⟨y, hy, hn⟩ := hm
  have h1 : (cs.any fun c => c.no == n) = true := List.any_eq_true.2 ⟨y, hy, by simpa using hn⟩
  rw [anyC_eq] at h1
  exact of_decide_eq_true h1
 have h2 : placeC (x :: cs) n = placeC cs n + 1 := by
  unfold placeC at h0 ⊢
  simp only [idxBy]
  rw [if_neg (by simpa using h), if_neg (by omega)]
 have h3 : (placeC cs n + 1).toNat = (placeC cs n).toNat + 1 := by omega
 simp [atCell, h2, h3]
theorem pick_drop {x : Cell} {cs : List Cell} {u : Int} {ws l : List Int} (h : (l.any fun y => y == x.no) = false) : pickC (x :: cs) l = pickC cs l ∧ pickW (x :: cs) (u :: ws) l = pickW cs ws l := by
 simp [pickC, pickW, pickP, List.filter_cons, h]
theorem pick_take {x : Cell} {cs : List Cell} {u : Int} {ws l : List Int} (h : (l.any fun y => y == x.no) = true) : pickC (x :: cs) l = x :: pickC cs l ∧ pickW (x :: cs) (u :: ws) l = u :: pickW cs ws l := by
 simp [pickC, pickW, pickP, List.filter_cons, h]
theorem pick_tail {y : Int} {cs : List Cell} {ws l : List Int} (h : ∀ x ∈ cs, y ≠ x.no) : pickC cs (y :: l) = pickC cs l ∧ pickW cs ws (y :: l) = pickW cs ws l := by
 constructor
 ·unfold pickC
  refine List.filter_congr fun x hx => ?_
  have : (y == x.no) = false := by simpa using h x hx
  rw [List.any_cons, this, Bool.false_or]
 ·unfold pickW pickP
  congr 1
  refine List.filter_congr fun q hq => ?_
  have : (y == q.1.no) = false := by simpa using h q.1 (List.of_mem_zip hq).1
  rw [List.any_cons, this, Bool.false_or]
theorem pick_sum (T : Cell → Int → Int) : ∀ (cs : List Cell) (ws l : List Int), cs.Pairwise (fun a b => a.no < b.no) → l.Pairwise (fun a b : Int => a < b) → (∀ n ∈ l, ∃ x ∈ cs, x.no = n) → ws.length = cs.length →
  sumF T (pickC cs l) (pickW cs ws l) = (l.map (atCell T cs ws)).foldr (· + ·) 0 ∧ l.length ≤ cs.length
 | [], ws, l, _, _, hm, _ => by
  cases l with
  | nil => exact ⟨rfl, Nat.le_refl _⟩
  | cons y l =>
   obtain ⟨x, hx, _⟩ := hm y (List.mem_cons_self ..)
   cases hx
 | x :: cs, [], l, _, _, _, hlen => by simp at hlen
 | x :: cs, u :: ws, l, hc, hl, hm, hlen => by
  obtain ⟨hc1, hc2⟩ := List.pairwise_cons.1 hc
  have hlen' : ws.length = cs.length := by simpa using hlen
  cases l with
  | nil =>
   have e1 : pickC (x :: cs) [] = [] := by unfold pickC; exact List.filter_eq_nil_iff.2 (by simp)
   rw [e1]
   exact ⟨by simp [sumF], Nat.zero_le _⟩
  | cons y l =>
   obtain ⟨hl1, hl2⟩ := List.pairwise_cons.1 hl
   by_cases hy : y = x.no
   ·subst hy
    have hm' : ∀ n ∈ l, ∃ z ∈ cs, z.no = n := fun n hn => by
     obtain ⟨z, hz, hzn⟩ := hm n (List.mem_cons_of_mem _ hn)
     rcases List.mem_cons.1 hz with rfl | hz
     ·have := hl1 n hn; omega
     ·exact ⟨z, hz, hzn⟩
    obtain ⟨i1, i2⟩ := pick_sum T cs ws l hc2 hl2 hm' hlen'
    obtain ⟨k1, k2⟩ := pick_take (x := x) (cs := cs) (u := u) (ws := ws) (l := x.no :: l) (by simp)
    obtain ⟨k3, k4⟩ := pick_tail (y := x.no) (cs := cs) (ws := ws) (l := l) fun z hz => by have := hc1 z hz; omega
    rw [k1, k2, k3, k4]
    refine ⟨?_, by simp; omega⟩
    simp only [sumF, List.map_cons, List.foldr_cons]
    rw [i1, at_zero]
    have : l.map (atCell T (x :: cs) (u :: ws)) = l.map (atCell T cs ws) := List.map_congr_left fun n hn => at_succ T u ws (by have := hl1 n hn; omega) (hm' n hn)
    rw [this]
   ·have hxy : x.no < y := by
     obtain ⟨z, hz, hzn⟩ := hm y (List.mem_cons_self ..)
     rcases List.mem_cons.1 hz with rfl | hz
     ·omega
     ·have := hc1 z hz; omega
    have hall : ∀ n ∈ y :: l, x.no < n := fun n hn => by
     rcases List.mem_cons.1 hn with rfl | hn
     ·exact hxy
     ·have := hl1 n hn; omega
    have hm' : ∀ n ∈ y :: l, ∃ z ∈ cs, z.no = n := fun n hn => by
     obtain ⟨z, hz, hzn⟩ := hm n hn
     rcases List.mem_cons.1 hz with rfl | hz
     ·have := hall n hn; omega
     ·exact ⟨z, hz, hzn⟩
    obtain ⟨i1, i2⟩ := pick_sum T cs ws (y :: l) hc2 hl hm' hlen'
    obtain ⟨k1, k2⟩ := pick_drop (x := x) (cs := cs) (u := u) (ws := ws) (l := y :: l) (by
     rw [List.any_eq_false]
     intro n hn
     have := hall n hn
     simp; omega)
    rw [k1, k2, i1]
    refine ⟨?_, by simp only [List.length_cons] at i2 ⊢; omega⟩
    have : (y :: l).map (atCell T (x :: cs) (u :: ws)) = (y :: l).map (atCell T cs ws) := List.map_congr_left fun n hn => at_succ T u ws (by have := hall n hn; omega) (hm' n hn)
    rw [this]
theorem fold_sum (xs : List Int) (a : Int) : xs.foldl (· + ·) a = a + xs.foldr (· + ·) 0 := by
 induction xs generalizing a with
 | nil => simp
 | cons x xs ih => simp only [List.foldl_cons, List.foldr_cons]; rw [ih]; omega
theorem cells_rise {b : Basin} (h : basinOk b = true) : b.cells.Pairwise (fun x y => x.no < y.no) := by
 simp only [basinOk, Bool.and_eq_true, inB_true, decide_eq_true_eq, List.all_eq_true, List.mem_range] at h
 obtain ⟨⟨_, h6⟩, _⟩ := h
 refine pw_adj (fun x : Cell => x.no) _ fun k x y hx hy => ?_
 have hk := (List.getElem?_eq_some_iff.1 hy).1
 have h1 := h6 (k + 1) hk
 simp only [cellGood, Bool.and_eq_true] at h1
 have h2 := h1.2
 have hx' : b.cells.getD (k + 1 - 1) default = x := by simp [hx]
 have hy' : b.cells.getD (k + 1) default = y := by simp [hy]
 simp [hx, hy] at h2
 exact h2
theorem scene_basin {s : Scene} (h : sceneE s = 0) : basinOk s.basin = true := by
 cases hb : basinOk s.basin with
 | true => rfl
 | false => rw [sceneE_basin hb] at h; cases h
theorem chosen_is {s : Scene} {l : List Int} (h : chosenB s l = true) : l.Pairwise (fun a b : Int => a < b) ∧ (∀ n ∈ l, ∃ x ∈ s.basin.cells, x.no = n) ∧ 0 < l.length := by
 simp only [chosenB, Bool.and_eq_true, decide_eq_true_eq, List.all_eq_true, List.mem_range] at h
 obtain ⟨h1, h2⟩ := h
 refine ⟨pw_adj (fun x : Int => x) _ fun k x y hx hy => ?_, fun n hn => ?_, h2⟩
 ·have hk := (List.getElem?_eq_some_iff.1 hy).1
  have h3 := h1 (k + 1) hk
  simp only [chosenAt, Bool.and_eq_true] at h3
  have h4 := h3.1
  simp [risesAt, hx, hy] at h4
  exact h4
 ·obtain ⟨k, hk⟩ := List.mem_iff_getElem?.1 hn
  have hk' := (List.getElem?_eq_some_iff.1 hk).1
  have h3 := h1 k hk'
  simp only [chosenAt, Bool.and_eq_true, getD_of hk, List.any_eq_true] at h3
  obtain ⟨_, x, hx, hxn⟩ := h3
  exact ⟨x, hx, by simpa [hk] using hxn⟩
theorem comes_sum {c : Climate} {p : List Weather} {s : Scene} {l row : List Int} (hs : sceneE s = 0) (hch : chosenB s l = true) (hr : row.length = s.basin.cells.length) (f a b : Int) :
  (l.map (atCell (fun x u => x.area * ((relF c x.height f b p (0, u)).1 - (relF c x.height f a p (0, u)).1)) s.basin.cells row)).foldl (· + ·) 0 = cameF c p f b (pickC s.basin.cells l) (pickW s.basin.cells row l) - cameF c p f a (pickC s.basin.cells l) (pickW s.basin.cells row l) ∧ l.length ≤ 12 := by
 obtain ⟨h1, h2, _⟩ := chosen_is hch
 obtain ⟨h3, h4⟩ := pick_sum (fun x u => x.area * ((relF c x.height f b p (0, u)).1 - (relF c x.height f a p (0, u)).1)) _ row l (cells_rise (scene_basin hs)) h1 h2 hr
 rw [fold_sum, ← h3, sumF_came, Int.zero_add]
 exact ⟨rfl, Nat.le_trans h4 (SceneOk.of hs).basin.hc2⟩


theorem comes1_gives (no : Int) (B : Nat) (w : World) (hc : w.cell? ⟨B, 0, none⟩ = some (I no)) (hB : B < w.heap.size) (xs : List Cell) :
  Gives Tryz.prog 70 #[.pointer (some ⟨B, 0, none⟩)] (fun x => .agg #[I x.no, I x.height, I x.aspect, I x.area]) (fun s => s.no == no) w xs := by
 intro W x _ hb
 have hc' := (hb.cell (p := ⟨B, 0, none⟩) hB).trans hc
 have hB' : B < W.heap.size := Nat.lt_of_lt_of_le hB hb.size
 clear hc hb hB
 go_enter Tryz.func70, Tryz.ntmps70
 go_wp2
 go_ret
 exact ⟨rfl, below1 _ _⟩
theorem rel_asked {c : Climate} {no : Int} {vd : Value} {p : List Weather} {h W f e : Int} (hsp : springE c ⟨no, p⟩ = 0) (hh : 0 ≤ h ∧ h ≤ 9000) (hW : 0 ≤ W ∧ W ≤ 65536) (hf : 0 ≤ f ∧ f ≤ 2000) (he : inB e (beginF ⟨no, p⟩) (endF ⟨no, p⟩) = true) (w : World) (hv : Sl w 3 Weather.cells vd p) :
  Calls Tryz.prog 42 #[c.v, .agg #[I no, vd], I h, I W, I f, I e] w fun en w' => en = .returned (.tuple #[I (relF c h f e p (0, W)).1, I (relF c h f e p (0, W)).2, I 0]) ∧ Below w.heap.size w w' := by
 have hcl : climateOk c = true := by
  unfold springE at hsp
  split at hsp
  ·cases hsp
  ·rename_i g; simpa using g
 have h1 : heightB h = true := inB_true.2 hh
 have h2 : inB W 0 65536 = true := inB_true.2 hW
 have h3 : inB f 0 2000 = true := inB_true.2 hf
 have h0 : relE c ⟨no, p⟩ h W f e = 0 := by simp [relE, hsp, askedE, hcl, h1, h2, h3, he]
 have hV : relV c ⟨no, p⟩ h W f e = relF c h f e p (0, W) := by rw [relV, if_pos h0]
 have H := spring_Release c no vd p h W f e w hv
 rwa [hV, h0] at H

theorem term_bd2 {x : Cell} {c : Climate} {p : List Weather} {f a b u : Int} (hc : ClimOk c) (hp : ∀ x ∈ p, WeaOk c x) (hn : p.length ≤ 512) (hf : 0 ≤ f ∧ f ≤ 2000) (hx : cellOk x = true) (hu : 0 ≤ u ∧ u ≤ 65536) :
  (0 ≤ (relF c x.height f a p (0, u)).1 ∧ (relF c x.height f a p (0, u)).1 ≤ 577536) ∧ (0 ≤ (relF c x.height f b p (0, u)).1 ∧ (relF c x.height f b p (0, u)).1 ≤ 577536) ∧
  -2400000000 ≤ x.area * ((relF c x.height f b p (0, u)).1 - (relF c x.height f a p (0, u)).1) ∧ x.area * ((relF c x.height f b p (0, u)).1 - (relF c x.height f a p (0, u)).1) ≤ 2400000000 := by
 obtain ⟨h1, h2, h3⟩ := cellOk_bd hx
 have ha := relF_bd (e := a) hc h1 hf p 0 u hp hu.1
 have hb := relF_bd (e := b) hc h1 hf p 0 u hp hu.1
 refine ⟨by omega, by omega, ?_, ?_⟩
 ·have h4 : x.area * (-577536) ≤ x.area * ((relF c x.height f b p (0, u)).1 - (relF c x.height f a p (0, u)).1) := Int.mul_le_mul_of_nonneg_left (by omega) (by omega)
  omega
 ·have h4 : x.area * ((relF c x.height f b p (0, u)).1 - (relF c x.height f a p (0, u)).1) ≤ x.area * 577536 := Int.mul_le_mul_of_nonneg_left (by omega) (by omega)
  omega

theorem law_comes (c : Climate) (no : Int) (vd : Value) (p : List Weather) (s : Scene) (V : SceneV) (vr : Value) (row : List Int) (vl : Value) (l : List Int) (f a b : Int) (w : World)
  (hc : ClimOk c) (hp : ∀ x ∈ p, WeaOk c x) (hpn : p.length ≤ 512) (hs : SceneAt w s V) (hr : Sl w 1 intC vr row) (hl : Sl w 1 intC vl l) (hd : Sl w 3 Weather.cells vd p)
  (h2 : sceneE s = 0) (hch : chosenB s l = true) (hrl : row.length = s.basin.cells.length) (hrb : ∀ u ∈ row, 0 ≤ u ∧ u ≤ 65536) (hf : 0 ≤ f ∧ f ≤ 2000) (hsp : springE c ⟨no, p⟩ = 0) (ha : inB a (beginF ⟨no, p⟩) (endF ⟨no, p⟩) = true) (hb' : inB b (beginF ⟨no, p⟩) (endF ⟨no, p⟩) = true) :
  Calls Tryz.prog 17 #[c.v, .agg #[I no, vd], s.v V, vr, vl, I f, I a, I b] w fun e w' => e = .returned (.tuple #[I (cameF c p f b (pickC s.basin.cells l) (pickW s.basin.cells row l) - cameF c p f a (pickC s.basin.cells l) (pickW s.basin.cells row l)), .bool true]) ∧ Below w.heap.size w w' := by
 obtain ⟨hsum, hl12⟩ := comes_sum (c := c) (p := p) h2 hch hrl f a b
 rw [← hsum]
 have hv := SceneOk.of h2
 obtain ⟨_, hmem, _⟩ := chosen_is hch
 obtain ⟨vc, vp, vD, vs, vh⟩ := V
 have k1 : Sl w 4 Cell.cells vc s.basin.cells := hs.cells
 have k2 : Sl w 2 pairC vp s.basin.pairs := hs.pairs
 have HP := fun (n : Int) B w' (hb : Below w.heap.size w w') hc hB => indexFunc_Cell vc s.basin.cells _ _ (fun x => x.no == n) w' (k1.mono hb) (enters_of Tryz.func70 (by kernel_rfl) rfl) (comes1_gives n B w' hc hB s.basin.cells)
 have HR := fun h W e (hh : 0 ≤ h ∧ h ≤ 9000) (hW : 0 ≤ W ∧ W ≤ 65536) (he : inB e (beginF ⟨no, p⟩) (endF ⟨no, p⟩) = true) w' (hb : Below w.heap.size w w') => rel_asked (c := c) (no := no) (vd := vd) (p := p) hsp hh hW hf he w' (hd.mono hb)
 obtain ⟨Ac, nc, rfl, _, _, _, hAc⟩ := k1.open_
 obtain ⟨Ap, np, rfl, _⟩ := k2.open_
 obtain ⟨Aw, nw, rfl, _⟩ := hd.open_
 obtain ⟨Ar, nr, rfl, _, _, _, hAr⟩ := hr.open_
 obtain ⟨Al, nl, rfl, _, _, _, hAl⟩ := hl.open_
 have HX : ∀ n, n ∈ l → ∃ (q : Nat) (x : Cell) (u : Int), placeC s.basin.cells n = (q : Int) ∧ s.basin.cells[q]? = some x ∧ row[q]? = some u ∧ q < s.basin.cells.length ∧ cellOk x = true ∧ (0 ≤ u ∧ u ≤ 65536) ∧
   atCell (fun x u => x.area * ((relF c x.height f b p (0, u)).1 - (relF c x.height f a p (0, u)).1)) s.basin.cells row n = x.area * ((relF c x.height f b p (0, u)).1 - (relF c x.height f a p (0, u)).1) := fun n hn => by
  obtain ⟨z, hz, hzn⟩ := hmem n hn
  have h0 : 0 ≤ placeC s.basin.cells n := by
   have h1 : (s.basin.cells.any fun c => c.no == n) = true := List.any_eq_true.2 ⟨z, hz, by simpa using hzn⟩
   rw [anyC_eq] at h1
   exact of_decide_eq_true h1
  have h1 := placeC_lt h0
  obtain ⟨x, hx⟩ := getElem?_of_lt (xs := s.basin.cells) (k := (placeC s.basin.cells n).toNat) (by omega)
  obtain ⟨u, hu⟩ := getElem?_of_lt (xs := row) (k := (placeC s.basin.cells n).toNat) (by omega)
  refine ⟨(placeC s.basin.cells n).toNat, x, u, by omega, hx, hu, by omega, hv.basin.cell _ _ hx, hrb u (List.mem_of_getElem? hu), ?_⟩
  simp [atCell, hx, hu]
 obtain ⟨g, hg⟩ : ∃ g, atCell (fun x u => x.area * ((relF c x.height f b p (0, u)).1 - (relF c x.height f a p (0, u)).1)) s.basin.cells row = g := ⟨_, rfl⟩
 rw [hg] at HX
 obtain ⟨S, hS⟩ : ∃ S : Nat → Int, ∀ k, S k = ((l.take k).map g).foldl (· + ·) 0 := ⟨_, fun _ => rfl⟩
 have S0 : S 0 = 0 := by rw [hS]; simp
 have S1 : ∀ k d, l[k]? = some d → S (k + 1) = S k + g d := fun k d hd => by
  have hk := (List.getElem?_eq_some_iff.1 hd).1
  rw [hS, hS, List.take_succ, hd]
  simp
 have S2 : (l.map g).foldl (· + ·) 0 = S l.length := by rw [hS, List.take_length]
 rw [hg, S2]
 have HB := fun x u hx hu => term_bd2 (x := x) (a := a) (b := b) (u := u) hc hp hpn hf hx hu
 clear S2 hS hg hsum hmem hv hch hrb h2 hc hp hpn hf hd k2 hsp
 obtain ⟨Ad, nd, rfl, _⟩ := (show Sl w 1 intC vD s.days from hs.days).open_
 obtain ⟨As, ns, rfl, _⟩ := (show Sl w 5 Sight.cells vs s.sights from hs.sights).open_
 obtain ⟨Ah, nh, rfl, _⟩ := (show Sl w 5 Change.cells vh s.changes from hs.changes).open_
 clear hs
 unfold Climate.v Scene.v at *
 simp only at *
 replace k1 := hide k1
 replace HP := hide HP
 replace HR := hide HR
 replace HX := hide HX
 replace HB := hide HB
 replace S1 := hide S1
 replace hAc := hide hAc
 replace hAr := hide hAr
 replace hAl := hide hAl
 replace hr := hide hr
 replace hl := hide hl
 replace hrl := hide hrl
 go_enter Tryz.func17, Tryz.ntmps17
 go_wp2_with fail
 obtain ⟨W0, hW0⟩ : ∃ W0, W0 = ((w.alloc (.cells (c8 c) 25)).alloc (.cells #[I no, .slice Aw p.length nw] 28)).alloc (.cells (s8 s Ac nc Ap np Ad nd As ns Ah nh) 38) := ⟨_, rfl⟩
 have kC : ClimAt c w.heap.size W0 := by rw [hW0]; exact ((ClimAt.new c w _).grow (below1 _ _)).grow (below1 _ _)
 have kP : Blk W0 (w.heap.size + 1) 28 #[I no, .slice Aw p.length nw] := by rw [hW0]; exact (blk21 w _ _ _).alloc _
 have kS : Blk W0 (w.heap.size + 1 + 1) 38 (s8 s Ac nc Ap np Ad nd As ns Ah nh) := by rw [hW0]; exact blk32 w _ _ _ _
 have B0 : Below w.heap.size w W0 := by rw [hW0]; exact below3 _ _ _ _
 rw [← hW0]
 clear hW0
 replace kC := hide kC
 replace kP := hide kP
 replace kS := hide kS
 replace B0 := hide B0
 go_loopw [18, 20, 21, 22, 23, 24, 25, 26, 27, 30] (fun sm _ _ _ _ _ _ _ _ i wr => ∃ k : Nat, k ≤ l.length ∧ i = I k ∧ sm = I (S k) ∧ Hid (-2400000000 * k ≤ S k ∧ S k ≤ 2400000000 * k) ∧ Hid (Below W0.heap.size W0 wr)) (fun _ _ _ _ _ _ _ _ _ i _ => l.length - (intOf i).toNat)
 case atStart => exact ⟨0, Nat.zero_le _, rfl, by rw [S0], hide (by rw [S0]; simp), hide (Below.refl _ _)⟩
 case round =>
  obtain ⟨k, hkl, rfl, rfl, hsb, hbw⟩ := hrel
  have B2 := hide (bup B0.out hbw.out)
  by_cases hlt : k < l.length
  case pos =>
   replace kC := kC.out.grow hbw.out
   replace kP := kP.out.grow hbw.out
   replace kS := kS.out.grow hbw.out
   obtain ⟨d, hd⟩ := getElem?_of_lt hlt
   obtain ⟨ga, oa, rfl, _⟩ := hAl.out k hlt
   obtain ⟨zd, e0⟩ := (hl.out.mono B2.out).int_at hd
   obtain ⟨q, x, u, x1, x2, x3, x4, x5, x6, x7⟩ := HX.out d (List.mem_of_getElem? hd)
   obtain ⟨gc, oc, rfl, _⟩ := hAc.out q x4
   obtain ⟨gr, or_, rfl, _⟩ := hAr.out q (by rw [hrl.out]; exact x4)
   have hs1 := S1.out k d hd
   rw [x7] at hs1
   obtain ⟨⟨b1, b2⟩, ⟨b3, b4⟩, b5, b6⟩ := HB.out x u x5 x6
   have HP1 := fun B w' hb hc hB => HP.out d B w' hb hc hB
   have x1' : idxBy (fun x : Cell => x.no == d) s.basin.cells = (q : Int) := x1
   simp only [x1'] at HP1
   clear x1'
   obtain ⟨hh, ha1, ha2⟩ := cellOk_bd x5
   have HR1 := fun e he w' hb => HR.out x.height u e hh x6 he w' hb
   obtain ⟨R1, hR1⟩ : ∃ r, (relF c x.height f a p (0, u)).1 = r := ⟨_, rfl⟩
   obtain ⟨R2, hR2⟩ : ∃ r, (relF c x.height f b p (0, u)).1 = r := ⟨_, rfl⟩
   have HRa := hide (HR1 a ha)
   have HRb := hide (HR1 b hb')
   rw [hR1] at HRa b1 b2 b5 b6 hs1
   rw [hR2] at HRb b3 b4 b5 b6 hs1
   replace HP1 := hide HP1
   obtain ⟨T, hT⟩ : ∃ t, x.area * (R2 - R1) = t := ⟨_, rfl⟩
   rw [hT] at b5 b6 hs1
   have hsb1 := hsb.out
   have y1 : IntKind.i64.wrap (R2 - R1) = R2 - R1 := IntWalk.i64_in _ (by omega)
   have y2 : IntKind.i64.wrap (x.area * (R2 - R1)) = T := by rw [hT]; exact IntWalk.i64_in _ (by omega)
   have y3 : IntKind.i64.wrap (S k + T) = S (k + 1) := by rw [hs1]; exact IntWalk.i64_in _ (by omega)
   have hsb2 := hide (show -2400000000 * ((k + 1 : Nat) : Int) ≤ S (k + 1) ∧ S (k + 1) ≤ 2400000000 * ((k + 1 : Nat) : Int) by rw [hs1]; push_cast; omega)
   have z1 : (0 : Int) ≤ (q : Int) := by omega
   have z2 : (q : Int) < (s.basin.cells.length : Int) := by omega
   have z3 : (q : Int) < (row.length : Int) := by rw [hrl.out]; omega
   have z4 : (0 : Int) ≤ (k : Int) := by omega
   have z5 : (k : Int) < (l.length : Int) := by omega
   have z6 : (l.length : Int) ≤ 12 := by omega
   clear hR1 hR2 hT HR1 x1 x5 x6 x7 hs1 hsb1 hsb b1 b2 b3 b4 b5 b6 hh ha1 ha2 HP HR HX HB S1 S0
   replace hd := hide hd
   replace x4 := hide x4
   replace x2 := hide x2
   replace x3 := hide x3
   replace kC := hide kC
   replace kP := hide kP
   replace kS := hide kS
   obtain ⟨zc, c0, c1, c2, c3, c4, c5, c6, c7⟩ := kC.out
   obtain ⟨zP, p0, p1, _, _⟩ := blk_box kP.out
   obtain ⟨s0, s1, s2, s3, s4, s5, s6, s7⟩ := kS.out.cells8
   have zS := kS.out.lt
   obtain ⟨zx, t0, t1, t2, t3⟩ := (k1.out.mono B2.out).cell_at x2.out
   obtain ⟨zu, u0⟩ := (hr.out.mono B2.out).int_at x3.out
   go_wp2_with fail
   go_at_call 69
   refine (HP1.out _ _ (bup B2.out (below1 _ _)) ((Blk.new wr 3 #[I d]).cell 0) (Blk.new wr 3 #[I d]).lt).mono ?_
   rintro e Wa ⟨rfl, hbn⟩
   have hW1 := bup (below1 wr (.cells #[I d] 3)) hbn
   replace kC := hide (kC.out.grow hW1)
   replace kP := hide (kP.out.grow hW1)
   replace kS := hide (kS.out.grow hW1)
   have B3 := hide (bup B2.out hW1)
   replace hbw := hide (bup hbw.out hW1)
   clear hW1 hbn
   clear c0 c1 c2 c3 c4 c5 c6 c7 zc p0 p1 zP s0 s1 s2 s3 s4 s5 s6 s7 zS zx t0 t1 t2 t3 zu u0
   obtain ⟨zc, c0, c1, c2, c3, c4, c5, c6, c7⟩ := kC.out
   obtain ⟨zP, p0, p1, _, _⟩ := blk_box kP.out
   obtain ⟨s0, s1, s2, s3, s4, s5, s6, s7⟩ := kS.out.cells8
   have zS := kS.out.lt
   obtain ⟨zx, t0, t1, t2, t3⟩ := (k1.out.mono B3.out).cell_at x2.out
   obtain ⟨zu, u0⟩ := (hr.out.mono B3.out).int_at x3.out
   go_wp2_with fail
   (refine wp_grow ?_; (repeat go_big_quiet_step ((go_at_call 42; exact calls_grew (HRa.out _ (bup B3.out (Grew.below _)))))); refine wp_grow0 ?_; intro W1 hW1)
   obtain ⟨Wb, hWb⟩ : ∃ W, W = W1 := ⟨_, rfl⟩
   rw [← hWb] at hW1 ⊢
   clear hWb W1
   replace kC := hide (kC.out.grow hW1)
   replace kP := hide (kP.out.grow hW1)
   replace kS := hide (kS.out.grow hW1)
   have B4 := hide (bup B3.out hW1)
   replace hbw := hide (bup hbw.out hW1)
   clear hW1
   clear c0 c1 c2 c3 c4 c5 c6 c7 zc p0 p1 zP s0 s1 s2 s3 s4 s5 s6 s7 zS zx t0 t1 t2 t3 zu u0
   obtain ⟨zc, c0, c1, c2, c3, c4, c5, c6, c7⟩ := kC.out
   obtain ⟨zP, p0, p1, _, _⟩ := blk_box kP.out
   obtain ⟨s0, s1, s2, s3, s4, s5, s6, s7⟩ := kS.out.cells8
   have zS := kS.out.lt
   obtain ⟨zx, t0, t1, t2, t3⟩ := (k1.out.mono B4.out).cell_at x2.out
   obtain ⟨zu, u0⟩ := (hr.out.mono B4.out).int_at x3.out
   go_wp2_with fail
   (refine wp_grow ?_; (repeat go_big_quiet_step ((go_at_call 42; exact calls_grew (HRb.out _ (bup B4.out (Grew.below _)))))); refine wp_grow0 ?_; intro W1 hW1)
   obtain ⟨Wc, hWc⟩ : ∃ W, W = W1 := ⟨_, rfl⟩
   rw [← hWc] at hW1 ⊢
   clear hWc W1
   replace kC := hide (kC.out.grow hW1)
   replace kP := hide (kP.out.grow hW1)
   replace kS := hide (kS.out.grow hW1)
   have B5 := hide (bup B4.out hW1)
   replace hbw := hide (bup hbw.out hW1)
   clear hW1
   clear c0 c1 c2 c3 c4 c5 c6 c7 zc p0 p1 zP s0 s1 s2 s3 s4 s5 s6 s7 zS zx t0 t1 t2 t3 zu u0
   obtain ⟨zc, c0, c1, c2, c3, c4, c5, c6, c7⟩ := kC.out
   obtain ⟨zP, p0, p1, _, _⟩ := blk_box kP.out
   obtain ⟨s0, s1, s2, s3, s4, s5, s6, s7⟩ := kS.out.cells8
   have zS := kS.out.lt
   obtain ⟨zx, t0, t1, t2, t3⟩ := (k1.out.mono B5.out).cell_at x2.out
   obtain ⟨zu, u0⟩ := (hr.out.mono B5.out).int_at x3.out
   go_wp2_with fail
   go_roundw
   case rel => exact ⟨k + 1, by omega, by go_num, by go_num, hsb2, hbw⟩
   case measure => simp [intOf]; omega
  case neg =>
   have he : k = l.length := by omega
   subst he
   clear HP HR HX HB S1 S0 k1
   go_wp2_with fail
   go_ret2
   exact ⟨rfl, B2.out⟩
end Go.Proofs.YtoojedjmlcdomaaGreatDoor
