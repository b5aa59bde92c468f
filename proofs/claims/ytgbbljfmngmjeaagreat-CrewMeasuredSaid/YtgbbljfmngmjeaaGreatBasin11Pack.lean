/- The package basin: (*laid).field. Conditions stand in the theorems. -/
import Derived.Test.YtgbbljfmngmjeaaGreatBasin10
import Derived.Test.YtgbbljfmngmjeaaGreatIndexFuncPack
set_option linter.all false
set_option maxHeartbeats 4000000
set_option maxRecDepth 100000
namespace Go.Proofs.YtgbbljfmngmjeaaGreat
open Go.RowKit

structure SlV where
 addr : Option Addr
 n : Nat
 c : Nat
def SlV.v (s : SlV) : Value := .slice s.addr s.n s.c
def oneC (s : SlV) : List Value := [s.v]
theorem oneC_len (s : SlV) : (oneC s).length = 1 := rfl
theorem oneC_one (s : SlV) : ∀ u ∈ oneC s, u.oneCell' = true := by intro u hu; simp [oneC] at hu; subst hu; rfl
theorem el_Ints : ElemOk Tryz.prog 107 38 1 24 (.slice none 0 0) := ⟨Tryz.underlying107, by kernel_rfl, rfl, by omega⟩

def RowsAt (w : World) (base : Nat) (v : Value) (xss : List (List Int)) : Prop :=
 ∃ vs : List SlV, vs.length = xss.length ∧ Own w base 38 1 oneC v vs ∧ ∀ (i : Nat) (l : List Int), xss[i]? = some l → ∃ u : SlV, vs[i]? = some u ∧ Own w base 3 1 intC u.v l
theorem RowsAt.below {w w' : World} {base : Nat} {v : Value} {xss : List (List Int)} (h : RowsAt w base v xss) (hb : Below w.heap.size w w') : RowsAt w' base v xss := by
 obtain ⟨vs, h1, h2, h3⟩ := h
 refine ⟨vs, h1, h2.below hb, fun i l hl => ?_⟩
 obtain ⟨u, hu, ho⟩ := h3 i l hl
 exact ⟨u, hu, ho.below hb⟩
theorem RowsAt.push {w w' : World} {base : Nat} {v v' : Value} {u : SlV} {xss : List (List Int)} {l : List Int} {vs : List SlV} (h1 : vs.length = xss.length) (h2 : Own w base 38 1 oneC v vs)
  (h3 : ∀ (i : Nat) (l : List Int), xss[i]? = some l → ∃ u : SlV, vs[i]? = some u ∧ Own w base 3 1 intC u.v l) (hu : Own w base 3 1 intC u.v l) (hg : w.grownBy w' v.ownBlock) (hn : Own w' base 38 1 oneC v' (vs ++ [u])) : RowsAt w' base v' (xss ++ [l]) := by
 refine ⟨vs ++ [u], by simp [h1], hn, fun i l' hl => ?_⟩
 rcases Nat.lt_trichotomy i xss.length with hi | hi | hi
 ·rw [List.getElem?_append_left hi] at hl
  obtain ⟨u', hu', ho⟩ := h3 i l' hl
  exact ⟨u', by rw [List.getElem?_append_left (by omega)]; exact hu', Own.other ho h2 (by decide) hg⟩
 ·subst hi
  rw [List.getElem?_append_right (Nat.le_refl _)] at hl
  simp at hl
  subst hl
  exact ⟨u, by rw [List.getElem?_append_right (by omega)]; simp [h1], Own.other hu h2 (by decide) hg⟩
 ·rw [List.getElem?_eq_none (by simp; omega)] at hl
  cases hl

theorem rowsF_succ (n k : Nat) (l : List Int) : rowsF n (k + 1) l = rowsF n k l ++ [(l.drop (1 + k * n)).take n] := by
 simp [rowsF, List.range_succ]
theorem Sl.part {w : World} {g N c : Nat} {l : List Int} (h : Sl w 1 intC (.slice (some ⟨g, 0, none⟩) N c) l) (hN : l.length = N) {a n : Nat} (ha : a + n ≤ N) {c' : Nat} (hc : n ≤ c') (hc2 : c' ≤ maxLen) : Sl w 1 intC (.slice (some ⟨g, a, none⟩) n c') ((l.drop a).take n) := by
 subst hN
 have hlen : ((l.drop a).take n).length = n := by simp; omega
 rw [show Value.slice (some ⟨g, a, none⟩) n c' = .slice (some ⟨g, a, none⟩) ((l.drop a).take n).length c' by rw [hlen]]
 obtain ⟨A', c0, hv, h1, ⟨h2, h3⟩, hr⟩ := h
 cases hv
 refine ⟨_, c', rfl, by rw [hlen]; exact hc, ⟨hc2, by rw [hlen]; omega⟩, fun h0 => ?_⟩
 rw [hlen] at h0
 obtain ⟨b, off, hA, hbw, hcell⟩ := hr (by omega)
 cases hA
 refine ⟨g, a, rfl, hbw, fun i x hx j u hu => ?_⟩
 have hx' : l[a + i]? = some x := by
  have hi := (List.getElem?_eq_some_iff.1 hx).1
  rw [hlen] at hi
  rw [List.getElem?_take_of_lt hi, List.getElem?_drop] at hx
  exact hx
 have := hcell (a + i) x hx' j u hu
 rw [← this]
 congr 2
 omega

theorem laid_field (X g n m nc nd N : Nat) (A B : Option Addr) (l : List Int) (w : World) (h0 : w.cell? ⟨X, 0, none⟩ = some (.slice A n nc)) (h5 : w.cell? ⟨X, 5, none⟩ = some (.slice B m nd)) (hX : X < w.heap.size)
  (hl : Sl w 1 intC (.slice (some ⟨g, 0, none⟩) N N) l) (hlN : l.length = N) (hN : N = 1 + m * n) (hn1 : 1 ≤ n) (hn : n ≤ 12) (hm : m ≤ 16) :
  Calls Tryz.prog 186 #[.pointer (some ⟨X, 0, none⟩), .slice (some ⟨g, 0, none⟩) N N] w fun e w' => ∃ v, e = .returned v ∧ RowsAt w' w.heap.size v (rowsF n m l) ∧ Below w.heap.size w w' := by
 replace hl := hide hl
 have hN3 : N ≤ 193 := by have := Nat.mul_le_mul hm hn; omega
 replace hN := hide hN
 go_enter Tryz.func186, Tryz.ntmps186
 go_wp2_with fail
 go_loopw [20, 4] (fun i v wr => ∃ k : Nat, k ≤ m ∧ i = I k ∧ Hid (RowsAt wr w.heap.size v (rowsF n k l)) ∧ Below w.heap.size w wr) (fun i _ _ => m - (intOf i).toNat)
 case atStart => exact ⟨0, Nat.zero_le _, rfl, hide ⟨[], rfl, Own.nil_ _ _ _ _ _, fun i l h => by simp [rowsF] at h⟩, Below.refl _ _⟩
 case round =>
  obtain ⟨k, hk, rfl, hR, hb⟩ := hrel
  have c0 := (hb.cell (p := ⟨X, 0, none⟩) hX).trans h0
  have c5 := (hb.cell (p := ⟨X, 5, none⟩) hX).trans h5
  by_cases hlt : k < m
  ·obtain ⟨kn, hkn⟩ : ∃ q : Nat, k * n = q := ⟨_, rfl⟩
   have h1 : (k : Int) * (n : Int) = (kn : Int) := by rw [← hkn]; simp
   have h2 : ((k : Int) + 1) * (n : Int) = (kn : Int) + n := by rw [Int.add_mul, h1]; simp
   have h3 : kn + n ≤ m * n := by
    have := Nat.mul_le_mul_right n (show k + 1 ≤ m from hlt)
    rw [Nat.add_mul, hkn] at this
    omega
   have h4 : m * n ≤ 16 * 12 := Nat.mul_le_mul hm hn
   have w1 : IntKind.i64.wrap (kn : Int) = kn := IntWalk.i64_in _ (by omega)
   have w2 : IntKind.i64.wrap (1 + (kn : Int)) = 1 + kn := IntWalk.i64_in _ (by omega)
   have w3 : IntKind.i64.wrap ((kn : Int) + n) = kn + n := IntWalk.i64_in _ (by omega)
   have w4 : IntKind.i64.wrap (1 + ((kn : Int) + n)) = 1 + (kn + n) := IntWalk.i64_in _ (by omega)
   have hs1 : 1 + (kn + n) - (1 + kn) = n := by omega
   have hp1 : 1 + (kn + n) ≤ N := by have := hN.out; omega
   have hp2 : 1 + kn ≤ 1 + (kn + n) := by omega
   have hp3 : 1 + kn ≤ N := by omega
   obtain ⟨vs, g1, g2, g3⟩ := hR.out
   have hvl : vs.length ≤ 16 := by rw [g1]; simp [rowsF]; omega
   replace g2 := hide g2
   replace g3 := hide g3
   go_wp2_with (first | (go_at_call 68; refine (clone_int _ ((l.drop (1 + kn)).take n) _ (Sl.part (hl.out.mono hb) hlN (a := 1 + kn) (n := n) (by omega) (by omega) (by unfold maxLen; omega)) (by simp; omega)).mono ?_; rintro e w1 ⟨u, rfl, hu, _, hb1⟩; obtain ⟨uA, un, uc, rfl⟩ := hu.shape) | (at_builtin; refine wp_push_by el_Ints oneC_len oneC_one rfl (.tmp 23) (.tmp 36) rfl w.heap.size rfl ((g2.out.below hb1).alloc _) ⟨uA, un, uc⟩ rfl ?c1 ?c2 ?c3 ?c4 ?_))
   case c1 => exact new_cells rfl _ (oneC ⟨uA, un, uc⟩)
   case c2 => omega
   case c3 => omega
   case c4 => have := hb1.size; have := hb.size; simp; omega
   intro v' w2 hown hgr
   have z1 : w.heap.size ≤ w1.heap.size := Nat.le_trans hb.size hb1.size
   have hP := hide (RowsAt.push (l := (l.drop (1 + kn)).take n) (u := ⟨uA, un, uc⟩) g1 ((g2.out.below hb1).alloc _) (fun i l hl => by obtain ⟨u, a, b⟩ := g3.out i l hl; exact ⟨u, a, (b.below hb1).alloc _⟩) ((hu.mono hb.size).alloc _) hgr hown)
   have hb2 := hide (((bup hb hb1).alloc z1 (.cells #[.slice uA un uc] 38)).grown hgr (by simp; omega) (fun g e => (ownBlock_lt g2.out g e).1))
   have hrs := hide (rowsF_succ n k l)
   rw [hkn] at hrs
   clear hgr hown hu g2 g3 hb1
   go_wp2_with fail
   go_roundw
   case rel => exact ⟨k + 1, by omega, by go_num, hide (by rw [hrs.out]; exact hP.out), hb2.out⟩
   case measure => simp [intOf]; omega
  ·have he : k = m := by omega
   subst he
   go_wp2_with fail
   go_ret
   exact ⟨_, rfl, hR.out, hb⟩

theorem blk_sl {w : World} {g : Nat} {l : List Int} {n : Nat} (h : Blk w g 3 (l.map I).toArray) (hn : l.length = n) (hb : n ≤ 140737488355328) : Sl w 1 intC (.slice (some ⟨g, 0, none⟩) n n) l := by
 subst hn
 refine ⟨_, l.length, rfl, Nat.le_refl _, ⟨by unfold maxLen; omega, hb⟩, fun _ => ⟨g, 0, rfl, h.lt, fun i x hx j u hu => ?_⟩⟩
 have hj : j = 0 := by
  have := (List.getElem?_eq_some_iff.1 hu).1
  simp [intC] at this
  exact this
 subst hj
 simp [intC] at hu
 subst hu
 rw [h.cell]
 simp [hx]

theorem extreme_Top_bad (s : Scene) (V : SceneV) (w : World) (hs : SceneAt w s V) (h : sceneE s ≠ 0) :
  Calls Tryz.prog 146 #[s.v V, .func (.func 147) #[] #[]] w fun e w' => e = .returned (.tuple #[.slice none 0 0, I (sceneE s)]) ∧ Below w.heap.size w w' := by
 obtain ⟨vc, vp, vd, vs, vh⟩ := V
 have hs1 : Sl w 4 Cell.cells vc s.basin.cells := hs.cells
 have hs2 : Sl w 2 pairC vp s.basin.pairs := hs.pairs
 have hs3 : Sl w 1 intC vd s.days := hs.days
 have hs4 : Sl w 5 Sight.cells vs s.sights := hs.sights
 have hs5 : Sl w 5 Change.cells vh s.changes := hs.changes
 obtain ⟨Ac, nc, rfl, _, _, hlc, hAc⟩ := hs1.open_
 obtain ⟨Ap, np, rfl, _, _, hlp, hAp⟩ := hs2.open_
 obtain ⟨Ad, nd, rfl, _, _, hld, hAd⟩ := hs3.open_
 obtain ⟨As, ns, rfl, _, _, hls, hAs⟩ := hs4.open_
 obtain ⟨Ah, nh, rfl, _, _, hlh, hAh⟩ := hs5.open_
 clear hAc hAp hAd hAs hAh hs1 hs2 hs3 hs4 hs5
 have HC := fun w h => basin_Check s ⟨.slice Ac s.basin.cells.length nc, .slice Ap s.basin.pairs.length np, .slice Ad s.days.length nd, .slice As s.sights.length ns, .slice Ah s.changes.length nh⟩ w h
 have HL := fun w h hv => basin_lay s ⟨.slice Ac s.basin.cells.length nc, .slice Ap s.basin.pairs.length np, .slice Ad s.days.length nd, .slice As s.sights.length ns, .slice Ah s.changes.length nh⟩ w h hv
 unfold Scene.v
 simp only [Scene.v] at HC HL
 replace hs := hide hs
 obtain ⟨E, hE⟩ : ∃ E, sceneE s = E := ⟨_, rfl⟩
 rw [hE] at HC h ⊢
 clear hE HL
 have hne : (E != 0) = true := by simpa using h
 replace HC := hide HC
 go_enter Tryz.func146, Tryz.ntmps146
 go_wp2_with (first | (go_at_call 55; refine (HC.out _ (hs.out.mono (below1 _ _))).mono ?_; rintro e w1 ⟨rfl, hb1⟩))
 go_ret2
 exact ⟨rfl, bup (below1 _ _) hb1⟩

theorem extreme_Bottom_bad (s : Scene) (V : SceneV) (w : World) (hs : SceneAt w s V) (h : sceneE s ≠ 0) :
  Calls Tryz.prog 146 #[s.v V, .func (.func 196) #[] #[]] w fun e w' => e = .returned (.tuple #[.slice none 0 0, I (sceneE s)]) ∧ Below w.heap.size w w' := by
 obtain ⟨vc, vp, vd, vs, vh⟩ := V
 have hs1 : Sl w 4 Cell.cells vc s.basin.cells := hs.cells
 have hs2 : Sl w 2 pairC vp s.basin.pairs := hs.pairs
 have hs3 : Sl w 1 intC vd s.days := hs.days
 have hs4 : Sl w 5 Sight.cells vs s.sights := hs.sights
 have hs5 : Sl w 5 Change.cells vh s.changes := hs.changes
 obtain ⟨Ac, nc, rfl, _, _, hlc, hAc⟩ := hs1.open_
 obtain ⟨Ap, np, rfl, _, _, hlp, hAp⟩ := hs2.open_
 obtain ⟨Ad, nd, rfl, _, _, hld, hAd⟩ := hs3.open_
 obtain ⟨As, ns, rfl, _, _, hls, hAs⟩ := hs4.open_
 obtain ⟨Ah, nh, rfl, _, _, hlh, hAh⟩ := hs5.open_
 clear hAc hAp hAd hAs hAh hs1 hs2 hs3 hs4 hs5
 have HC := fun w h => basin_Check s ⟨.slice Ac s.basin.cells.length nc, .slice Ap s.basin.pairs.length np, .slice Ad s.days.length nd, .slice As s.sights.length ns, .slice Ah s.changes.length nh⟩ w h
 have HL := fun w h hv => basin_lay s ⟨.slice Ac s.basin.cells.length nc, .slice Ap s.basin.pairs.length np, .slice Ad s.days.length nd, .slice As s.sights.length ns, .slice Ah s.changes.length nh⟩ w h hv
 unfold Scene.v
 simp only [Scene.v] at HC HL
 replace hs := hide hs
 obtain ⟨E, hE⟩ : ∃ E, sceneE s = E := ⟨_, rfl⟩
 rw [hE] at HC h ⊢
 clear hE HL
 have hne : (E != 0) = true := by simpa using h
 replace HC := hide HC
 go_enter Tryz.func146, Tryz.ntmps146
 go_wp2_with (first | (go_at_call 55; refine (HC.out _ (hs.out.mono (below1 _ _))).mono ?_; rintro e w1 ⟨rfl, hb1⟩))
 go_ret2
 exact ⟨rfl, bup (below1 _ _) hb1⟩

theorem extreme_Top_none (s : Scene) (V : SceneV) (w : World) (hs : SceneAt w s V) (h : sceneE s = 0) (he : endsE (nodesN s) (layD s) ≠ 0) :
  Calls Tryz.prog 146 #[s.v V, .func (.func 147) #[] #[]] w fun e w' => e = .returned (.tuple #[.slice none 0 0, I (endsE (nodesN s) (layD s))]) ∧ Below w.heap.size w w' := by
 obtain ⟨vc, vp, vd, vs, vh⟩ := V
 have hs1 : Sl w 4 Cell.cells vc s.basin.cells := hs.cells
 have hs2 : Sl w 2 pairC vp s.basin.pairs := hs.pairs
 have hs3 : Sl w 1 intC vd s.days := hs.days
 have hs4 : Sl w 5 Sight.cells vs s.sights := hs.sights
 have hs5 : Sl w 5 Change.cells vh s.changes := hs.changes
 obtain ⟨Ac, nc, rfl, _, _, hlc, hAc⟩ := hs1.open_
 obtain ⟨Ap, np, rfl, _, _, hlp, hAp⟩ := hs2.open_
 obtain ⟨Ad, nd, rfl, _, _, hld, hAd⟩ := hs3.open_
 obtain ⟨As, ns, rfl, _, _, hls, hAs⟩ := hs4.open_
 obtain ⟨Ah, nh, rfl, _, _, hlh, hAh⟩ := hs5.open_
 clear hAc hAp hAd hAs hAh hs1 hs2 hs3 hs4 hs5
 have HC := fun w h => basin_Check s ⟨.slice Ac s.basin.cells.length nc, .slice Ap s.basin.pairs.length np, .slice Ad s.days.length nd, .slice As s.sights.length ns, .slice Ah s.changes.length nh⟩ w h
 have HL := fun w h hv => basin_lay s ⟨.slice Ac s.basin.cells.length nc, .slice Ap s.basin.pairs.length np, .slice Ad s.days.length nd, .slice As s.sights.length ns, .slice Ah s.changes.length nh⟩ w h hv
 unfold Scene.v
 simp only [Scene.v] at HC HL
 replace hs := hide hs
 have hv := SceneOk.of h
 rw [h] at HC
 have HT := hide (fun v w hd => diffs_Top v (nodesN s) (layD s) w hv.net hd)
 have hll := hide hv.lay_len
 obtain ⟨E, hE⟩ : ∃ E, endsE (nodesN s) (layD s) = E := ⟨_, rfl⟩
 rw [hE] at HT he ⊢
 clear hE h
 have hne : (E != 0) = true := by simpa using he
 replace HC := hide HC
 replace HL := hide (fun w h => HL w h hv)
 replace hv := hide hv
 go_enter Tryz.func146, Tryz.ntmps146
 go_wp2_with (first | (go_at_call 55; refine (HC.out _ (hs.out.mono (below1 _ _))).mono ?_; rintro e w1 ⟨rfl, hb1⟩; have hc1 := fun o => (bcell hb1).1 w.heap.size o (by simp)) | (go_at_call 145; refine (HL.out _ (hs.out.mono (bup (below1 _ _) hb1))).mono ?_; rintro e w2 ⟨rfl, hL⟩; have hb2 := hL.below; obtain ⟨v, r, rs, k1, k2, k3, k4⟩ := hL.laid; have zX := k1.lt; have x8 : w2.cell? ⟨w1.heap.size + 2, 8, none⟩ = some (I (nodesN s)) := k1.cell 8; have x9 : w2.cell? ⟨w1.heap.size + 2, 9, none⟩ = some v := k1.cell 9; have hd := hide (k2.sl Diff.cells_len (by have := hll.out; omega))) | (go_at_call 147; refine (HT.out v _ hd.out).mono ?_; rintro e w3 ⟨vl, rfl, _, hbad, hb3⟩))
 go_ret2
 exact ⟨rfl, bup (bup (bup (below1 _ _) hb1) hb2) hb3⟩

theorem extreme_Bottom_none (s : Scene) (V : SceneV) (w : World) (hs : SceneAt w s V) (h : sceneE s = 0) (he : endsE (nodesN s) ((layD s).map turnD) ≠ 0) :
  Calls Tryz.prog 146 #[s.v V, .func (.func 196) #[] #[]] w fun e w' => e = .returned (.tuple #[.slice none 0 0, I (endsE (nodesN s) ((layD s).map turnD))]) ∧ Below w.heap.size w w' := by
 obtain ⟨vc, vp, vd, vs, vh⟩ := V
 have hs1 : Sl w 4 Cell.cells vc s.basin.cells := hs.cells
 have hs2 : Sl w 2 pairC vp s.basin.pairs := hs.pairs
 have hs3 : Sl w 1 intC vd s.days := hs.days
 have hs4 : Sl w 5 Sight.cells vs s.sights := hs.sights
 have hs5 : Sl w 5 Change.cells vh s.changes := hs.changes
 obtain ⟨Ac, nc, rfl, _, _, hlc, hAc⟩ := hs1.open_
 obtain ⟨Ap, np, rfl, _, _, hlp, hAp⟩ := hs2.open_
 obtain ⟨Ad, nd, rfl, _, _, hld, hAd⟩ := hs3.open_
 obtain ⟨As, ns, rfl, _, _, hls, hAs⟩ := hs4.open_
 obtain ⟨Ah, nh, rfl, _, _, hlh, hAh⟩ := hs5.open_
 clear hAc hAp hAd hAs hAh hs1 hs2 hs3 hs4 hs5
 have HC := fun w h => basin_Check s ⟨.slice Ac s.basin.cells.length nc, .slice Ap s.basin.pairs.length np, .slice Ad s.days.length nd, .slice As s.sights.length ns, .slice Ah s.changes.length nh⟩ w h
 have HL := fun w h hv => basin_lay s ⟨.slice Ac s.basin.cells.length nc, .slice Ap s.basin.pairs.length np, .slice Ad s.days.length nd, .slice As s.sights.length ns, .slice Ah s.changes.length nh⟩ w h hv
 unfold Scene.v
 simp only [Scene.v] at HC HL
 replace hs := hide hs
 have hv := SceneOk.of h
 rw [h] at HC
 have HT := hide (fun v w hd => diffs_Bottom v (nodesN s) (layD s) w hv.net hd)
 have hll := hide hv.lay_len
 obtain ⟨E, hE⟩ : ∃ E, endsE (nodesN s) ((layD s).map turnD) = E := ⟨_, rfl⟩
 rw [hE] at HT he ⊢
 clear hE h
 have hne : (E != 0) = true := by simpa using he
 replace HC := hide HC
 replace HL := hide (fun w h => HL w h hv)
 replace hv := hide hv
 go_enter Tryz.func146, Tryz.ntmps146
 go_wp2_with (first | (go_at_call 55; refine (HC.out _ (hs.out.mono (below1 _ _))).mono ?_; rintro e w1 ⟨rfl, hb1⟩; have hc1 := fun o => (bcell hb1).1 w.heap.size o (by simp)) | (go_at_call 145; refine (HL.out _ (hs.out.mono (bup (below1 _ _) hb1))).mono ?_; rintro e w2 ⟨rfl, hL⟩; have hb2 := hL.below; obtain ⟨v, r, rs, k1, k2, k3, k4⟩ := hL.laid; have zX := k1.lt; have x8 : w2.cell? ⟨w1.heap.size + 2, 8, none⟩ = some (I (nodesN s)) := k1.cell 8; have x9 : w2.cell? ⟨w1.heap.size + 2, 9, none⟩ = some v := k1.cell 9; have hd := hide (k2.sl Diff.cells_len (by have := hll.out; omega))) | (go_at_call 196; refine (HT.out v _ hd.out).mono ?_; rintro e w3 ⟨vl, rfl, _, hbad, hb3⟩))
 go_ret2
 exact ⟨rfl, bup (bup (bup (below1 _ _) hb1) hb2) hb3⟩

theorem RowsAt.le {w : World} {b b' : Nat} {v : Value} {xss : List (List Int)} (h : RowsAt w b v xss) (hb : b' ≤ b) : RowsAt w b' v xss := by
 obtain ⟨vs, h1, h2, h3⟩ := h
 refine ⟨vs, h1, h2.mono hb, fun i l hl => ?_⟩
 obtain ⟨u, hu, ho⟩ := h3 i l hl
 exact ⟨u, hu, ho.mono hb⟩

theorem extreme_Top_ok (s : Scene) (V : SceneV) (w : World) (hs : SceneAt w s V) (h : sceneE s = 0) (he : endsE (nodesN s) (layD s) = 0) :
  Calls Tryz.prog 146 #[s.v V, .func (.func 147) #[] #[]] w fun e w' => ∃ v, e = .returned (.tuple #[v, I 0]) ∧ RowsAt w' w.heap.size v (rowsF s.basin.cells.length s.days.length (endsL (nodesN s) (layD s))) ∧ Below w.heap.size w w' := by
 obtain ⟨vc, vp, vd, vs, vh⟩ := V
 have hs1 : Sl w 4 Cell.cells vc s.basin.cells := hs.cells
 have hs2 : Sl w 2 pairC vp s.basin.pairs := hs.pairs
 have hs3 : Sl w 1 intC vd s.days := hs.days
 have hs4 : Sl w 5 Sight.cells vs s.sights := hs.sights
 have hs5 : Sl w 5 Change.cells vh s.changes := hs.changes
 obtain ⟨Ac, nc, rfl, _, _, hlc, hAc⟩ := hs1.open_
 obtain ⟨Ap, np, rfl, _, _, hlp, hAp⟩ := hs2.open_
 obtain ⟨Ad, nd, rfl, _, _, hld, hAd⟩ := hs3.open_
 obtain ⟨As, ns, rfl, _, _, hls, hAs⟩ := hs4.open_
 obtain ⟨Ah, nh, rfl, _, _, hlh, hAh⟩ := hs5.open_
 clear hAc hAp hAd hAs hAh hs1 hs2 hs3 hs4 hs5
 have HC := fun w h => basin_Check s ⟨.slice Ac s.basin.cells.length nc, .slice Ap s.basin.pairs.length np, .slice Ad s.days.length nd, .slice As s.sights.length ns, .slice Ah s.changes.length nh⟩ w h
 have HL := fun w h hv => basin_lay s ⟨.slice Ac s.basin.cells.length nc, .slice Ap s.basin.pairs.length np, .slice Ad s.days.length nd, .slice As s.sights.length ns, .slice Ah s.changes.length nh⟩ w h hv
 unfold Scene.v
 simp only [Scene.v] at HC HL
 replace hs := hide hs
 have hv := SceneOk.of h
 rw [h] at HC
 have HT := hide (fun v w hd => diffs_Top v (nodesN s) (layD s) w hv.net hd)
 have hll := hide hv.lay_len
 have hLl : (endsL (nodesN s) (layD s)).length = nodesN s := by rw [endsL]; exact (growF_len _ _ _).1
 have hNm : nodesN s ≤ 256 := hv.net.hn
 have hnn : nodesN s = 1 + s.days.length * s.basin.cells.length := rfl
 have hm16 : s.days.length ≤ 16 := hv.hd2
 have hn12 : 1 ≤ s.basin.cells.length ∧ s.basin.cells.length ≤ 12 := ⟨hv.basin.hc1, hv.basin.hc2⟩
 obtain ⟨E, hE⟩ : ∃ E, endsE (nodesN s) (layD s) = E := ⟨_, rfl⟩
 rw [hE] at HT he
 obtain ⟨L, hL0⟩ : ∃ L, endsL (nodesN s) (layD s) = L := ⟨_, rfl⟩
 rw [hL0] at HT hLl ⊢
 clear hE h hL0
 subst he
 replace HC := hide HC
 replace HL := hide (fun w h => HL w h hv)
 replace hv := hide hv
 obtain ⟨N, hN⟩ : ∃ N, nodesN s = N := ⟨_, rfl⟩
 rw [hN] at HT HL hLl hNm hnn
 clear hN
 replace hnn := hide hnn
 replace hLl := hide hLl
 go_enter Tryz.func146, Tryz.ntmps146
 go_wp2_with (first | (go_at_call 55; refine (HC.out _ (hs.out.mono (below1 _ _))).mono ?_; rintro e w1 ⟨rfl, hb1⟩; have hc1 := fun o => (bcell hb1).1 w.heap.size o (by simp); clear HC) | (go_at_call 145; refine (HL.out _ (hs.out.mono (bup (below1 _ _) hb1))).mono ?_; rintro e w2 ⟨rfl, hL⟩; have hb2 := hL.below; obtain ⟨v, r, rs, k1, k2, k3, k4⟩ := hL.laid; have zX := k1.lt; have x8 : w2.cell? ⟨w1.heap.size + 2, 8, none⟩ = some (I N) := k1.cell 8; have x9 : w2.cell? ⟨w1.heap.size + 2, 9, none⟩ = some v := k1.cell 9; have hd := hide (k2.sl Diff.cells_len (by have := hll.out; omega)); clear HL) | (go_at_call 147; refine (HT.out v _ hd.out).mono ?_; rintro e w3 ⟨vl, rfl, hok, _, hb3⟩; obtain ⟨g, rfl, hg, hgb⟩ := hok trivial; clear HT) | (go_at_call 186; refine (laid_field (w1.heap.size + 2) g _ _ _ _ N _ _ L w3 (((hb3.cell (p := ⟨w1.heap.size + 2, 0, none⟩) zX)).trans (k1.cell 0)) (((hb3.cell (p := ⟨w1.heap.size + 2, 5, none⟩) zX)).trans (k1.cell 5)) (Nat.lt_of_lt_of_le zX hb3.size) (blk_sl hgb hLl.out (by omega)) hLl.out hnn.out hn12.1 hn12.2 hm16).mono ?_; rintro e w4 ⟨vr, rfl, hR, hb4⟩))
 go_ret2
 have hs1 := hb1.size
 have hs2 := hb2.size
 have hs3 := hb3.size
 simp at hs1
 exact ⟨vr, rfl, RowsAt.le hR (by omega), bup (bup (bup (bup (below1 _ _) hb1) hb2) hb3) hb4⟩

theorem extreme_Bottom_ok (s : Scene) (V : SceneV) (w : World) (hs : SceneAt w s V) (h : sceneE s = 0) (he : endsE (nodesN s) ((layD s).map turnD) = 0) :
  Calls Tryz.prog 146 #[s.v V, .func (.func 196) #[] #[]] w fun e w' => ∃ v, e = .returned (.tuple #[v, I 0]) ∧ RowsAt w' w.heap.size v (rowsF s.basin.cells.length s.days.length (botL (nodesN s) (layD s))) ∧ Below w.heap.size w w' := by
 obtain ⟨vc, vp, vd, vs, vh⟩ := V
 have hs1 : Sl w 4 Cell.cells vc s.basin.cells := hs.cells
 have hs2 : Sl w 2 pairC vp s.basin.pairs := hs.pairs
 have hs3 : Sl w 1 intC vd s.days := hs.days
 have hs4 : Sl w 5 Sight.cells vs s.sights := hs.sights
 have hs5 : Sl w 5 Change.cells vh s.changes := hs.changes
 obtain ⟨Ac, nc, rfl, _, _, hlc, hAc⟩ := hs1.open_
 obtain ⟨Ap, np, rfl, _, _, hlp, hAp⟩ := hs2.open_
 obtain ⟨Ad, nd, rfl, _, _, hld, hAd⟩ := hs3.open_
 obtain ⟨As, ns, rfl, _, _, hls, hAs⟩ := hs4.open_
 obtain ⟨Ah, nh, rfl, _, _, hlh, hAh⟩ := hs5.open_
 clear hAc hAp hAd hAs hAh hs1 hs2 hs3 hs4 hs5
 have HC := fun w h => basin_Check s ⟨.slice Ac s.basin.cells.length nc, .slice Ap s.basin.pairs.length np, .slice Ad s.days.length nd, .slice As s.sights.length ns, .slice Ah s.changes.length nh⟩ w h
 have HL := fun w h hv => basin_lay s ⟨.slice Ac s.basin.cells.length nc, .slice Ap s.basin.pairs.length np, .slice Ad s.days.length nd, .slice As s.sights.length ns, .slice Ah s.changes.length nh⟩ w h hv
 unfold Scene.v
 simp only [Scene.v] at HC HL
 replace hs := hide hs
 have hv := SceneOk.of h
 rw [h] at HC
 have HT := hide (fun v w hd => diffs_Bottom v (nodesN s) (layD s) w hv.net hd)
 have hll := hide hv.lay_len
 have hLl : (botL (nodesN s) (layD s)).length = nodesN s := by rw [botL, List.length_map, endsL]; exact (growF_len _ _ _).1
 have hNm : nodesN s ≤ 256 := hv.net.hn
 have hnn : nodesN s = 1 + s.days.length * s.basin.cells.length := rfl
 have hm16 : s.days.length ≤ 16 := hv.hd2
 have hn12 : 1 ≤ s.basin.cells.length ∧ s.basin.cells.length ≤ 12 := ⟨hv.basin.hc1, hv.basin.hc2⟩
 obtain ⟨E, hE⟩ : ∃ E, endsE (nodesN s) ((layD s).map turnD) = E := ⟨_, rfl⟩
 rw [hE] at HT he
 obtain ⟨L, hL0⟩ : ∃ L, botL (nodesN s) (layD s) = L := ⟨_, rfl⟩
 rw [hL0] at HT hLl ⊢
 clear hE h hL0
 subst he
 replace HC := hide HC
 replace HL := hide (fun w h => HL w h hv)
 replace hv := hide hv
 obtain ⟨N, hN⟩ : ∃ N, nodesN s = N := ⟨_, rfl⟩
 rw [hN] at HT HL hLl hNm hnn
 clear hN
 replace hnn := hide hnn
 replace hLl := hide hLl
 go_enter Tryz.func146, Tryz.ntmps146
 go_wp2_with (first | (go_at_call 55; refine (HC.out _ (hs.out.mono (below1 _ _))).mono ?_; rintro e w1 ⟨rfl, hb1⟩; have hc1 := fun o => (bcell hb1).1 w.heap.size o (by simp); clear HC) | (go_at_call 145; refine (HL.out _ (hs.out.mono (bup (below1 _ _) hb1))).mono ?_; rintro e w2 ⟨rfl, hL⟩; have hb2 := hL.below; obtain ⟨v, r, rs, k1, k2, k3, k4⟩ := hL.laid; have zX := k1.lt; have x8 : w2.cell? ⟨w1.heap.size + 2, 8, none⟩ = some (I N) := k1.cell 8; have x9 : w2.cell? ⟨w1.heap.size + 2, 9, none⟩ = some v := k1.cell 9; have hd := hide (k2.sl Diff.cells_len (by have := hll.out; omega)); clear HL) | (go_at_call 196; refine (HT.out v _ hd.out).mono ?_; rintro e w3 ⟨vl, rfl, hok, _, hb3⟩; obtain ⟨g, rfl, hg, hgb⟩ := hok trivial; clear HT) | (go_at_call 186; refine (laid_field (w1.heap.size + 2) g _ _ _ _ N _ _ L w3 (((hb3.cell (p := ⟨w1.heap.size + 2, 0, none⟩) zX)).trans (k1.cell 0)) (((hb3.cell (p := ⟨w1.heap.size + 2, 5, none⟩) zX)).trans (k1.cell 5)) (Nat.lt_of_lt_of_le zX hb3.size) (blk_sl hgb hLl.out (by omega)) hLl.out hnn.out hn12.1 hn12.2 hm16).mono ?_; rintro e w4 ⟨vr, rfl, hR, hb4⟩))
 go_ret2
 have hs1 := hb1.size
 have hs2 := hb2.size
 have hs3 := hb3.size
 simp at hs1
 exact ⟨vr, rfl, RowsAt.le hR (by omega), bup (bup (bup (bup (below1 _ _) hb1) hb2) hb3) hb4⟩

theorem RowsAt.nil (w : World) (b : Nat) : RowsAt w b (.slice none 0 0) [] := ⟨[], rfl, Own.nil_ _ _ _ _ _, fun i l h => by simp at h⟩

theorem extreme_Top (s : Scene) (V : SceneV) (w : World) (hs : SceneAt w s V) :
  Calls Tryz.prog 146 #[s.v V, .func (.func 147) #[] #[]] w fun e w' => ∃ v, e = .returned (.tuple #[v, I (greatE s)]) ∧ (greatE s = 0 → RowsAt w' w.heap.size v (greatF s)) ∧ (greatE s ≠ 0 → v = .slice none 0 0) ∧ Below w.heap.size w w' := by
 by_cases h : sceneE s = 0
 ·by_cases he : endsE (nodesN s) (layD s) = 0
  ·have hE : greatE s = 0 := by simp [greatE, h, he]
   rw [hE]
   exact (extreme_Top_ok s V w hs h he).mono fun e w' ⟨v, h1, h2, h3⟩ => ⟨v, h1, fun _ => h2, fun h => absurd rfl h, h3⟩
  ·have hE : greatE s = endsE (nodesN s) (layD s) := by simp [greatE, h]
   rw [hE]
   exact (extreme_Top_none s V w hs h he).mono fun e w' ⟨h1, h3⟩ => ⟨_, h1, fun h => absurd h he, fun _ => rfl, h3⟩
 ·have hE : greatE s = sceneE s := by simp [greatE, h]
  rw [hE]
  exact (extreme_Top_bad s V w hs h).mono fun e w' ⟨h1, h3⟩ => ⟨_, h1, fun h' => absurd h' h, fun _ => rfl, h3⟩

theorem basin_Greatest (s : Scene) (V : SceneV) (w : World) (hs : SceneAt w s V) :
  Calls Tryz.prog 71 #[s.v V] w fun e w' => ∃ v, e = .returned (.tuple #[v, I (greatE s)]) ∧ (greatE s = 0 → RowsAt w' w.heap.size v (greatF s)) ∧ (greatE s ≠ 0 → v = .slice none 0 0) ∧ Below w.heap.size w w' := by
 obtain ⟨Ac, nc, hc, _⟩ := hs.cells.open_
 obtain ⟨Ap, np, hp, _⟩ := hs.pairs.open_
 obtain ⟨Ad, nd, hd, _⟩ := hs.days.open_
 obtain ⟨As, ns, hsi, _⟩ := hs.sights.open_
 obtain ⟨Ah, nh, hch, _⟩ := hs.changes.open_
 have H := hide (fun w h => extreme_Top s V w h)
 obtain ⟨E, hE⟩ : ∃ E, greatE s = E := ⟨_, rfl⟩
 obtain ⟨F, hF⟩ : ∃ F, greatF s = F := ⟨_, rfl⟩
 rw [hE, hF] at H ⊢
 clear hE hF
 replace hs := hide hs
 unfold Scene.v at *
 rw [hc, hp, hd, hsi, hch] at H ⊢
 clear hc hp hd hsi hch
 go_enter Tryz.func71, Tryz.ntmps71
 go_wp2_with (go_at_call 146; refine (H.out _ (hs.out.mono (below1 _ _))).mono ?_; rintro e w1 ⟨v, rfl, h1, h2, hb1⟩)
 go_ret2
 exact ⟨v, rfl, fun h => (h1 h).le (by simp), h2, bup (below1 _ _) hb1⟩

theorem extreme_Bottom (s : Scene) (V : SceneV) (w : World) (hs : SceneAt w s V) :
  Calls Tryz.prog 146 #[s.v V, .func (.func 196) #[] #[]] w fun e w' => ∃ v, e = .returned (.tuple #[v, I (leastE s)]) ∧ (leastE s = 0 → RowsAt w' w.heap.size v (leastF s)) ∧ (leastE s ≠ 0 → v = .slice none 0 0) ∧ Below w.heap.size w w' := by
 by_cases h : sceneE s = 0
 ·by_cases he : endsE (nodesN s) ((layD s).map turnD) = 0
  ·have hE : leastE s = 0 := by simp [leastE, h, he]
   rw [hE]
   exact (extreme_Bottom_ok s V w hs h he).mono fun e w' ⟨v, h1, h2, h3⟩ => ⟨v, h1, fun _ => h2, fun h => absurd rfl h, h3⟩
  ·have hE : leastE s = endsE (nodesN s) ((layD s).map turnD) := by simp [leastE, h]
   rw [hE]
   exact (extreme_Bottom_none s V w hs h he).mono fun e w' ⟨h1, h3⟩ => ⟨_, h1, fun h => absurd h he, fun _ => rfl, h3⟩
 ·have hE : leastE s = sceneE s := by simp [leastE, h]
  rw [hE]
  exact (extreme_Bottom_bad s V w hs h).mono fun e w' ⟨h1, h3⟩ => ⟨_, h1, fun h' => absurd h' h, fun _ => rfl, h3⟩

theorem basin_Least (s : Scene) (V : SceneV) (w : World) (hs : SceneAt w s V) :
  Calls Tryz.prog 174 #[s.v V] w fun e w' => ∃ v, e = .returned (.tuple #[v, I (leastE s)]) ∧ (leastE s = 0 → RowsAt w' w.heap.size v (leastF s)) ∧ (leastE s ≠ 0 → v = .slice none 0 0) ∧ Below w.heap.size w w' := by
 obtain ⟨Ac, nc, hc, _⟩ := hs.cells.open_
 obtain ⟨Ap, np, hp, _⟩ := hs.pairs.open_
 obtain ⟨Ad, nd, hd, _⟩ := hs.days.open_
 obtain ⟨As, ns, hsi, _⟩ := hs.sights.open_
 obtain ⟨Ah, nh, hch, _⟩ := hs.changes.open_
 have H := hide (fun w h => extreme_Bottom s V w h)
 obtain ⟨E, hE⟩ : ∃ E, leastE s = E := ⟨_, rfl⟩
 obtain ⟨F, hF⟩ : ∃ F, leastF s = F := ⟨_, rfl⟩
 rw [hE, hF] at H ⊢
 clear hE hF
 replace hs := hide hs
 unfold Scene.v at *
 rw [hc, hp, hd, hsi, hch] at H ⊢
 clear hc hp hd hsi hch
 go_enter Tryz.func174, Tryz.ntmps174
 go_wp2_with (go_at_call 146; refine (H.out _ (hs.out.mono (below1 _ _))).mono ?_; rintro e w1 ⟨v, rfl, h1, h2, hb1⟩)
 go_ret2
 exact ⟨v, rfl, fun h => (h1 h).le (by simp), h2, bup (below1 _ _) hb1⟩
end Go.Proofs.YtgbbljfmngmjeaaGreat
