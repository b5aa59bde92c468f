/- The reference's ends and Comes. Conditions stand in the theorems. -/
import Derived.Test.YtoojedjmlcdomaaGreatDoorRefQPack
import Derived.Test.YtoojedjmlcdomaaGreatDoorRefH
import Derived.Test.YtoojedjmlcdomaaGreatDoorGrowTail
set_option linter.all false
set_option maxHeartbeats 4000000
set_option maxRecDepth 100000
namespace Go.Proofs.YtoojedjmlcdomaaGreatDoor
open Go.RowKit

theorem RowsAt.sl_at {w : World} {base : Nat} {v : Value} {xss : List (List Int)} (h : RowsAt w base v xss) {d : Nat} {row : List Int} (hd : xss[d]? = some row) (hr : 0 < row.length) (hn : row.length ≤ 140737488355328) :
  ∃ g m g2 c2, v = .slice (some ⟨g, 0, none⟩) xss.length m ∧ base ≤ g ∧ g < w.heap.size ∧ w.cell? ⟨g, d, none⟩ = some (.slice (some ⟨g2, 0, none⟩) row.length c2) ∧ Sl w 1 intC (.slice (some ⟨g2, 0, none⟩) row.length c2) row := by
 obtain ⟨vs, h1, h2, h3⟩ := h
 obtain ⟨u, hu, ho⟩ := h3 d row hd
 have hdl : d < vs.length := (List.getElem?_eq_some_iff.1 hu).1
 obtain ⟨g, m, rfl, hg1, hg2⟩ := World.ownsRow.form h2 (by omega)
 obtain ⟨g2, c2, huv, k1, k2⟩ := World.ownsRow.form ho hr
 refine ⟨g, m, g2, c2, by rw [h1], hg1, hg2, ?_, ?_⟩
 ·have hf := flat_at oneC_len vs d u hu 0 u.v rfl
  have hc := World.ownsRow.cellAt h2 d (by omega)
  rw [hc, ← huv]
  simpa using hf
 ·rw [← huv]
  exact ho.sl intC_len hn

theorem ref_ends (s : Scene) (V : SceneV) (w : World) (hs : SceneAt w s V) (h : sceneE s = 0) :
  Calls Tryz.prog 60 #[s.v V] w fun e w' => ∃ va vb, e = .returned (.tuple #[va, vb, I (poolsE s)]) ∧ (poolsE s = 0 → Sl w' 1 intC va (lastRow (leastF s)) ∧ Sl w' 1 intC vb (lastRow (greatF s))) ∧ Below w.heap.size w w' := by
 have HL := hide (fun w' (hb : Below w.heap.size w w') => ref5_Least s V w' (hs.mono hb))
 have HG := hide (fun w' (hb : Below w.heap.size w w') => ref5_Greatest s V w' (hs.mono hb))
 have hv := SceneOk.of h
 have hgl := great_of_least h
 obtain ⟨l1, l2, l3⟩ := leastF_last hv
 obtain ⟨g1, g2, g3⟩ := greatF_last hv
 have n1 := hv.basin.hc1
 have n2 := hv.basin.hc2
 have n3 := hv.hd1
 have n4 := hv.hd2
 rw [pools_least h]
 obtain ⟨vc, vp, vd, vs, vh⟩ := V
 obtain ⟨Ac, nc, rfl, _⟩ := (show Sl w 4 Cell.cells vc s.basin.cells from hs.cells).open_
 obtain ⟨Ap, np, rfl, _⟩ := (show Sl w 2 pairC vp s.basin.pairs from hs.pairs).open_
 obtain ⟨Ad, nd, rfl, _⟩ := (show Sl w 1 intC vd s.days from hs.days).open_
 obtain ⟨As, ns, rfl, _⟩ := (show Sl w 5 Sight.cells vs s.sights from hs.sights).open_
 obtain ⟨Ah, nh, rfl, _⟩ := (show Sl w 5 Change.cells vh s.changes from hs.changes).open_
 unfold Scene.v at *
 simp only at *
 obtain ⟨E, hE⟩ : ∃ E, leastE s = E := ⟨_, rfl⟩
 obtain ⟨EG, hEG⟩ : ∃ E, greatE s = E := ⟨_, rfl⟩
 rw [hE, hEG] at hgl
 rw [hE] at HL ⊢
 rw [hEG] at HG
 obtain ⟨rl, hrl⟩ : ∃ r, lastRow (leastF s) = r := ⟨_, rfl⟩
 obtain ⟨rg, hrg⟩ : ∃ r, lastRow (greatF s) = r := ⟨_, rfl⟩
 rw [hrl] at l1 l2 ⊢
 rw [hrg] at g1 g2 ⊢
 obtain ⟨LL, hLL⟩ : ∃ r, leastF s = r := ⟨_, rfl⟩
 obtain ⟨GG, hGG⟩ : ∃ r, greatF s = r := ⟨_, rfl⟩
 rw [hLL] at l1 l3 HL
 rw [hGG] at g1 g3 HG
 clear hrl hrg hLL hGG hE hEG hv h hs
 obtain ⟨m, hm⟩ : ∃ m, s.days.length = m := ⟨_, rfl⟩
 rw [hm] at l1 l3 g1 g3 n3 n4
 replace hm := hide hm
 have w3_ : IntKind.i64.wrap ((m : Int) - 1) = ((m - 1 : Nat) : Int) := by rw [IntWalk.i64_in _ (by omega)]; omega
 have w4_ : (0 : Int) ≤ ((m - 1 : Nat) : Int) := by omega
 have w5_ : ((m - 1 : Nat) : Int) < (m : Int) := by omega
 have n5 : 0 < rl.length := by omega
 have n6 : rl.length ≤ 140737488355328 := by omega
 have n7 : 0 < rg.length := by omega
 have n8 : rg.length ≤ 140737488355328 := by omega
 replace l2 := hide l2
 replace g2 := hide g2
 replace l1 := hide l1
 replace g1 := hide g1
 replace l3 := hide l3
 replace g3 := hide g3
 go_enter Tryz.func60, Tryz.ntmps60
 go_wp2_with fail
 obtain ⟨W0, hW0⟩ : ∃ W0, W0 = w.alloc (.cells (s8 s Ac nc Ap np Ad nd As ns Ah nh) 38) := ⟨_, rfl⟩
 obtain ⟨kS, B0⟩ := blkw hW0
 rw [← hW0]
 clear hW0
 go_at_call 124
 refine (HL.out W0 B0).mono ?_
 rintro e w1 ⟨v1, rfl, r1, r2, hb1⟩
 have B1 := hide (bup B0 hb1)
 replace kS := kS.grow hb1
 by_cases hE0 : E = 0
 case neg =>
  have hne : (E != 0) = true := by simpa using hE0
  have r3 := r2 hE0
  subst r3
  have hE1 := hide hE0
  clear r1 r2 hE0 hgl kS
  go_wp2_with fail
  go_ret3
  exact ⟨_, _, rfl, fun h' => absurd h' hE1.out, B1.out⟩
 subst hE0
 have hEG0 := hgl rfl
 subst hEG0
 have q1 := r1 rfl
 clear r1 r2 hgl
 obtain ⟨s0, s1, s2, s3, s4, s5, s6, s7⟩ := kS.cells8
 have zS := kS.lt
 replace q1 := hide q1
 go_wp2_with fail
 go_at_call 125
 refine (HG.out w1 B1.out).mono ?_
 rintro e w2 ⟨v2, rfl, r1, r2, hb2⟩
 have q2 : RowsAt w2 w1.heap.size v2 GG := by first | exact r1 rfl | exact r1 trivial | exact r1
 have q3 := q1.out.below hb2
 have B2 := hide (bup B1.out hb2)
 clear r1 r2 s0 s1 s2 s3 s4 s5 s6 s7 zS hb2 hb1 q1
 obtain ⟨ga, ma, gb, cb, rfl, _, za, a1, a2⟩ := q3.sl_at l1.out n5 n6
 obtain ⟨gc, mc, gd, cd, rfl, _, zc, a3, a4⟩ := q2.sl_at g1.out n7 n8
 have l4 := l3.out
 have g4 := g3.out
 rw [l4, g4]
 clear l4 g4
 replace a2 := hide a2
 replace a4 := hide a4
 clear q2 q3
 go_wp2_with fail
 (refine wp_grow ?_; (repeat go_big_quiet_step (fail)); refine wp_grow0 ?_; intro W1 hW1)
 go_wp2_with fail
 go_ret3
 exact ⟨_, _, rfl, by first | exact ⟨⟨a2.out.mono hW1, a4.out.mono hW1⟩, bup B2.out hW1⟩ | exact ⟨fun _ => ⟨a2.out.mono hW1, a4.out.mono hW1⟩, bup B2.out hW1⟩⟩

theorem term_bd {x : Cell} {c : Climate} {p : List Weather} {f a b u : Int} (hc : ClimOk c) (hp : ∀ x ∈ p, WeaOk c x) (hn : p.length ≤ 512) (hf : 0 ≤ f ∧ f ≤ 2000) (hx : cellOk x = true) (hu : 0 ≤ u ∧ u ≤ 65536) :
  (0 ≤ (relF c x.height f a p (0, u)).1 ∧ (relF c x.height f a p (0, u)).1 ≤ 577536) ∧ (0 ≤ (relF c x.height f b p (0, u)).1 ∧ (relF c x.height f b p (0, u)).1 ≤ 577536) ∧
  -2400000000 ≤ x.area * ((relF c x.height f b p (0, u)).1 - (relF c x.height f a p (0, u)).1) ∧ x.area * ((relF c x.height f b p (0, u)).1 - (relF c x.height f a p (0, u)).1) ≤ 2400000000 := by
 obtain ⟨h1, h2, h3⟩ := cellOk_bd hx
 have ha := relF_bd (e := a) hc h1 hf p 0 u hp hu.1
 have hb := relF_bd (e := b) hc h1 hf p 0 u hp hu.1
 refine ⟨by omega, by omega, ?_, ?_⟩
 ·have h4 : x.area * (-577536) ≤ x.area * ((relF c x.height f b p (0, u)).1 - (relF c x.height f a p (0, u)).1) := Int.mul_le_mul_of_nonneg_left (by omega) (by omega)
  omega
 ·have h4 : x.area * ((relF c x.height f b p (0, u)).1 - (relF c x.height f a p (0, u)).1) ≤ x.area * 577536 := Int.mul_le_mul_of_nonneg_left (by omega) (by omega)
  omega

theorem ref_Comes (c : Climate) (no : Int) (vd : Value) (p : List Weather) (s : Scene) (V : SceneV) (vr : Value) (row : List Int) (vl : Value) (l : List Int) (f a b : Int) (w : World)
  (hc : ClimOk c) (hp : ∀ x ∈ p, WeaOk c x) (hpn : p.length ≤ 512) (hs : SceneAt w s V) (hr : Sl w 1 intC vr row) (hl : Sl w 1 intC vl l) (hd : Sl w 3 Weather.cells vd p)
  (h2 : sceneE s = 0) (hch : chosenB s l = true) (hrl : row.length = s.basin.cells.length) (hrb : ∀ u ∈ row, 0 ≤ u ∧ u ≤ 65536) (hf : 0 ≤ f ∧ f ≤ 2000) :
  Calls Tryz.prog 126 #[c.v, .agg #[I no, vd], s.basin.v V.cells V.pairs, vr, vl, I f, I a, I b] w fun e w' => e = .returned (I (cameF c p f b (pickC s.basin.cells l) (pickW s.basin.cells row l) - cameF c p f a (pickC s.basin.cells l) (pickW s.basin.cells row l))) ∧ Below w.heap.size w w' := by
 obtain ⟨hsum, hl12⟩ := comes_sum (c := c) (p := p) h2 hch hrl f a b
 rw [← hsum]
 have hv := SceneOk.of h2
 obtain ⟨_, hmem, _⟩ := chosen_is hch
 obtain ⟨vc, vp, vD, vs, vh⟩ := V
 have k1 : Sl w 4 Cell.cells vc s.basin.cells := hs.cells
 have k2 : Sl w 2 pairC vp s.basin.pairs := hs.pairs
 have HP := fun no w' (hb : Below w.heap.size w w') => ref5_Place s.basin vc vp no w' (k1.mono hb) (k2.mono hb)
 have HR := fun h W e w' (hb : Below w.heap.size w w') hh hW => ref_release c no vd p h W f e w' hc hp hpn hh hf hW (hd.mono hb)
 obtain ⟨Ac, nc, rfl, _, _, _, hAc⟩ := k1.open_
 obtain ⟨Ap, np, rfl, _⟩ := k2.open_
 obtain ⟨Aw, nw, rfl, _⟩ := hd.open_
 obtain ⟨Ar, nr, rfl, _, _, _, hAr⟩ := hr.open_
 obtain ⟨Al, nl, rfl, _, _, _, hAl⟩ := hl.open_
 have HX : ∀ n, n ∈ l → ∃ (q : Nat) (x : Cell) (u : Int), placeC s.basin.cells n = (q : Int) ∧ s.basin.cells[q]? = some x ∧ row[q]? = some u ∧ q < s.basin.cells.length ∧ cellOk x = true ∧ (0 ≤ u ∧ u ≤ 65536) ∧
   atCell (fun x u => x.area * ((relF c x.height f b p (0, u)).1 - (relF c x.height f a p (0, u)).1)) s.basin.cells row n = x.area * ((relF c x.height f b p (0, u)).1 - (relF c x.height f a p (0, u)).1) := fun n hn => by
  obtain ⟨z, hz, hzn⟩ := hmem n hn
  have h0 : 0 ≤ placeC s.basin.cells n := by
   have h1 : (s.basin.cells.any fun c => c.no == n) = true := List.any_eq_true.2 ⟨z, hz, by simpa using hzn⟩
   rw [anyC_eq] at h1
   exact of_decide_eq_true h1
  have h1 := placeC_lt h0
  obtain ⟨x, hx⟩ := getElem?_of_lt (xs := s.basin.cells) (k := (placeC s.basin.cells n).toNat) (by omega)
  obtain ⟨u, hu⟩ := getElem?_of_lt (xs := row) (k := (placeC s.basin.cells n).toNat) (by omega)
  refine ⟨(placeC s.basin.cells n).toNat, x, u, by omega, hx, hu, by omega, hv.basin.cell _ _ hx, hrb u (List.mem_of_getElem? hu), ?_⟩
  simp [atCell, hx, hu]
 obtain ⟨g, hg⟩ : ∃ g, atCell (fun x u => x.area * ((relF c x.height f b p (0, u)).1 - (relF c x.height f a p (0, u)).1)) s.basin.cells row = g := ⟨_, rfl⟩
 rw [hg] at HX
 obtain ⟨S, hS⟩ : ∃ S : Nat → Int, ∀ k, S k = ((l.take k).map g).foldl (· + ·) 0 := ⟨_, fun _ => rfl⟩
 have S0 : S 0 = 0 := by rw [hS]; simp
 have S1 : ∀ k d, l[k]? = some d → S (k + 1) = S k + g d := fun k d hd => by
  have hk := (List.getElem?_eq_some_iff.1 hd).1
  rw [hS, hS, List.take_succ, hd]
  simp
 have S2 : (l.map g).foldl (· + ·) 0 = S l.length := by rw [hS, List.take_length]
 rw [hg, S2]
 have HB := fun x u hx hu => term_bd (x := x) (a := a) (b := b) (u := u) hc hp hpn hf hx hu
 clear S2 hS hg hsum hmem hv hs hch hrb h2 hc hp hpn hf hd k2
 unfold Climate.v Basin.v at *
 simp only at *
 replace k1 := hide k1
 replace HP := hide HP
 replace HR := hide HR
 replace HX := hide HX
 replace HB := hide HB
 replace S1 := hide S1
 replace hAc := hide hAc
 replace hAr := hide hAr
 replace hAl := hide hAl
 replace hr := hide hr
 replace hl := hide hl
 replace hrl := hide hrl
 go_enter Tryz.func126, Tryz.ntmps126
 go_wp2_with fail
 obtain ⟨W0, hW0⟩ : ∃ W0, W0 = ((w.alloc (.cells (c8 c) 25)).alloc (.cells #[I no, .slice Aw p.length nw] 28)).alloc (.cells #[.slice Ac s.basin.cells.length nc, .slice Ap s.basin.pairs.length np, I s.basin.gain, I s.basin.slack, I s.basin.deep] 33) := ⟨_, rfl⟩
 have kC : ClimAt c w.heap.size W0 := by rw [hW0]; exact ((ClimAt.new c w _).grow (below1 _ _)).grow (below1 _ _)
 have kP : Blk W0 (w.heap.size + 1) 28 #[I no, .slice Aw p.length nw] := by rw [hW0]; exact (blk21 w _ _ _).alloc _
 have kS : Blk W0 (w.heap.size + 1 + 1) 33 #[.slice Ac s.basin.cells.length nc, .slice Ap s.basin.pairs.length np, I s.basin.gain, I s.basin.slack, I s.basin.deep] := by rw [hW0]; exact blk32 w _ _ _ _
 have B0 : Below w.heap.size w W0 := by rw [hW0]; exact below3 _ _ _ _
 rw [← hW0]
 clear hW0
 replace kC := hide kC
 replace kP := hide kP
 replace kS := hide kS
 replace B0 := hide B0
 go_loopw [17, 18, 19, 20, 21, 22, 23] (fun sm i _ _ _ _ _ wr => ∃ k : Nat, k ≤ l.length ∧ i = I k ∧ sm = I (S k) ∧ Hid (-2400000000 * k ≤ S k ∧ S k ≤ 2400000000 * k) ∧ Hid (Below W0.heap.size W0 wr)) (fun _ i _ _ _ _ _ _ => l.length - (intOf i).toNat)
 case atStart => exact ⟨0, Nat.zero_le _, rfl, by rw [S0], hide (by rw [S0]; simp), hide (Below.refl _ _)⟩
 case round =>
  obtain ⟨k, hkl, rfl, rfl, hsb, hbw⟩ := hrel
  have B2 := hide (bup B0.out hbw.out)
  by_cases hlt : k < l.length
  case pos =>
   replace kC := kC.out.grow hbw.out
   replace kP := kP.out.grow hbw.out
   replace kS := kS.out.grow hbw.out
   obtain ⟨d, hd⟩ := getElem?_of_lt hlt
   obtain ⟨ga, oa, rfl, _⟩ := hAl.out k hlt
   obtain ⟨zd, e0⟩ := (hl.out.mono B2.out).int_at hd
   obtain ⟨q, x, u, x1, x2, x3, x4, x5, x6, x7⟩ := HX.out d (List.mem_of_getElem? hd)
   obtain ⟨gc, oc, rfl, _⟩ := hAc.out q x4
   obtain ⟨gr, or_, rfl, _⟩ := hAr.out q (by rw [hrl.out]; exact x4)
   have hs1 := S1.out k d hd
   rw [x7] at hs1
   obtain ⟨⟨b1, b2⟩, ⟨b3, b4⟩, b5, b6⟩ := HB.out x u x5 x6
   have HP1 := HP.out d
   rw [x1] at HP1
   obtain ⟨hh, ha1, ha2⟩ := cellOk_bd x5
   have HR1 := fun e w' hb => HR.out x.height u e w' hb hh ⟨x6.1, by omega⟩
   obtain ⟨R1, hR1⟩ : ∃ r, (relF c x.height f a p (0, u)).1 = r := ⟨_, rfl⟩
   obtain ⟨R2, hR2⟩ : ∃ r, (relF c x.height f b p (0, u)).1 = r := ⟨_, rfl⟩
   have HRa := hide (HR1 a)
   have HRb := hide (HR1 b)
   rw [hR1] at HRa b1 b2 b5 b6 hs1
   rw [hR2] at HRb b3 b4 b5 b6 hs1
   replace HP1 := hide HP1
   obtain ⟨T, hT⟩ : ∃ t, x.area * (R2 - R1) = t := ⟨_, rfl⟩
   rw [hT] at b5 b6 hs1
   have hsb1 := hsb.out
   have y1 : IntKind.i64.wrap (R2 - R1) = R2 - R1 := IntWalk.i64_in _ (by omega)
   have y2 : IntKind.i64.wrap (x.area * (R2 - R1)) = T := by rw [hT]; exact IntWalk.i64_in _ (by omega)
   have y3 : IntKind.i64.wrap (S k + T) = S (k + 1) := by rw [hs1]; exact IntWalk.i64_in _ (by omega)
   have hsb2 := hide (show -2400000000 * ((k + 1 : Nat) : Int) ≤ S (k + 1) ∧ S (k + 1) ≤ 2400000000 * ((k + 1 : Nat) : Int) by rw [hs1]; push_cast; omega)
   have z1 : (0 : Int) ≤ (q : Int) := by omega
   have z2 : (q : Int) < (s.basin.cells.length : Int) := by omega
   have z3 : (q : Int) < (row.length : Int) := by rw [hrl.out]; omega
   have z4 : (0 : Int) ≤ (k : Int) := by omega
   have z5 : (k : Int) < (l.length : Int) := by omega
   have z6 : (l.length : Int) ≤ 12 := by omega
   clear hR1 hR2 hT HR1 x1 x5 x6 x7 hs1 hsb1 hsb b1 b2 b3 b4 b5 b6 hh ha1 ha2 HP HR HX HB S1 S0
   replace hd := hide hd
   replace x4 := hide x4
   replace x2 := hide x2
   replace x3 := hide x3
   replace kC := hide kC
   replace kP := hide kP
   replace kS := hide kS
   obtain ⟨zc, c0, c1, c2, c3, c4, c5, c6, c7⟩ := kC.out
   obtain ⟨zP, p0, p1, _, _⟩ := blk_box kP.out
   obtain ⟨s0, s1, s2, s3, s4⟩ := kS.out.five
   have zS := kS.out.lt
   obtain ⟨zx, t0, t1, t2, t3⟩ := (k1.out.mono B2.out).cell_at x2.out
   obtain ⟨zu, u0⟩ := (hr.out.mono B2.out).int_at x3.out
   go_wp2_with fail
   (refine wp_grow ?_; (repeat go_big_quiet_step ((go_at_call 170; exact calls_grew (HP1.out _ (bup B2.out (Grew.below _)))))); refine wp_grow0 ?_; intro W1 hW1)
   obtain ⟨Wa, hWa⟩ : ∃ W, W = W1 := ⟨_, rfl⟩
   rw [← hWa] at hW1 ⊢
   clear hWa W1
   replace kC := hide (kC.out.grow hW1)
   replace kP := hide (kP.out.grow hW1)
   replace kS := hide (kS.out.grow hW1)
   have B3 := hide (bup B2.out hW1)
   replace hbw := hide (bup hbw.out hW1)
   clear hW1
   clear c0 c1 c2 c3 c4 c5 c6 c7 zc p0 p1 zP s0 s1 s2 s3 s4 zS zx t0 t1 t2 t3 zu u0
   obtain ⟨zc, c0, c1, c2, c3, c4, c5, c6, c7⟩ := kC.out
   obtain ⟨zP, p0, p1, _, _⟩ := blk_box kP.out
   obtain ⟨s0, s1, s2, s3, s4⟩ := kS.out.five
   have zS := kS.out.lt
   obtain ⟨zx, t0, t1, t2, t3⟩ := (k1.out.mono B3.out).cell_at x2.out
   obtain ⟨zu, u0⟩ := (hr.out.mono B3.out).int_at x3.out
   go_wp2_with fail
   (refine wp_grow ?_; (repeat go_big_quiet_step ((go_at_call 176; exact calls_grew (HRa.out _ (bup B3.out (Grew.below _)))))); refine wp_grow0 ?_; intro W1 hW1)
   obtain ⟨Wb, hWb⟩ : ∃ W, W = W1 := ⟨_, rfl⟩
   rw [← hWb] at hW1 ⊢
   clear hWb W1
   replace kC := hide (kC.out.grow hW1)
   replace kP := hide (kP.out.grow hW1)
   replace kS := hide (kS.out.grow hW1)
   have B4 := hide (bup B3.out hW1)
   replace hbw := hide (bup hbw.out hW1)
   clear hW1
   clear c0 c1 c2 c3 c4 c5 c6 c7 zc p0 p1 zP s0 s1 s2 s3 s4 zS zx t0 t1 t2 t3 zu u0
   obtain ⟨zc, c0, c1, c2, c3, c4, c5, c6, c7⟩ := kC.out
   obtain ⟨zP, p0, p1, _, _⟩ := blk_box kP.out
   obtain ⟨s0, s1, s2, s3, s4⟩ := kS.out.five
   have zS := kS.out.lt
   obtain ⟨zx, t0, t1, t2, t3⟩ := (k1.out.mono B4.out).cell_at x2.out
   obtain ⟨zu, u0⟩ := (hr.out.mono B4.out).int_at x3.out
   go_wp2_with fail
   (refine wp_grow ?_; (repeat go_big_quiet_step ((go_at_call 176; exact calls_grew (HRb.out _ (bup B4.out (Grew.below _)))))); refine wp_grow0 ?_; intro W1 hW1)
   obtain ⟨Wc, hWc⟩ : ∃ W, W = W1 := ⟨_, rfl⟩
   rw [← hWc] at hW1 ⊢
   clear hWc W1
   replace kC := hide (kC.out.grow hW1)
   replace kP := hide (kP.out.grow hW1)
   replace kS := hide (kS.out.grow hW1)
   have B5 := hide (bup B4.out hW1)
   replace hbw := hide (bup hbw.out hW1)
   clear hW1
   clear c0 c1 c2 c3 c4 c5 c6 c7 zc p0 p1 zP s0 s1 s2 s3 s4 zS zx t0 t1 t2 t3 zu u0
   obtain ⟨zc, c0, c1, c2, c3, c4, c5, c6, c7⟩ := kC.out
   obtain ⟨zP, p0, p1, _, _⟩ := blk_box kP.out
   obtain ⟨s0, s1, s2, s3, s4⟩ := kS.out.five
   have zS := kS.out.lt
   obtain ⟨zx, t0, t1, t2, t3⟩ := (k1.out.mono B5.out).cell_at x2.out
   obtain ⟨zu, u0⟩ := (hr.out.mono B5.out).int_at x3.out
   go_wp2_with fail
   go_roundw
   case rel => exact ⟨k + 1, by omega, by go_num, by go_num, hsb2, hbw⟩
   case measure => simp [intOf]; omega
  case neg =>
   have he : k = l.length := by omega
   subst he
   clear HP HR HX HB S1 S0 k1
   go_wp2_with fail
   go_ret
   exact ⟨rfl, B2.out⟩

structure VolAt (c : Climate) (n : Int) (va vc vp : Value) (bg bs bd : Int) (g0 : Nat) (w0 : World) (gV : Nat) (a b : Int) (w : World) : Prop where
 clim : Blk w g0 25 (c8 c)
 spr : Blk w (g0 + 1) 28 #[I n, va]
 bas : Blk w (g0 + 1 + 1) 33 #[vc, vp, I bg, I bs, I bd]
 res : Blk w (g0 + 1 + 1 + 1) 23 #[I 0, I 0]
 far : g0 + 1 + 1 + 1 < gV
 vol : Blk w gV 23 #[I a, I b]
 below : Below g0 w0 w
section
variable {c : Climate} {n : Int} {va vc vp : Value} {bg bs bd : Int} {g0 : Nat} {w0 : World} {gV : Nat} {a b : Int} {w : World}
theorem VolAt.grow {W : World} (h : VolAt c n va vc vp bg bs bd g0 w0 gV a b w) (hb : Below w.heap.size w W) : VolAt c n va vc vp bg bs bd g0 w0 gV a b W :=
 ⟨h.clim.grow hb, h.spr.grow hb, h.bas.grow hb, h.res.grow hb, h.far, h.vol.grow hb, h.below.trans (hb.mono (by have := h.clim.lt; omega))⟩
theorem VolAt.set0 (h : VolAt c n va vc vp bg bs bd g0 w0 gV a b w) (u : Int) : VolAt c n va vc vp bg bs bd g0 w0 gV u b (w.setCell ⟨gV, 0, none⟩ (I u)) := by
 have hf := h.far
 exact ⟨h.clim.far (by show _ ≠ gV; omega) _, h.spr.far (by show _ ≠ gV; omega) _, h.bas.far (by show _ ≠ gV; omega) _, h.res.far (by show _ ≠ gV; omega) _, h.far, h.vol.two0 _, h.below.setCell (p := ⟨gV, 0, none⟩) (show g0 ≤ gV by omega) _⟩
theorem VolAt.set1 (h : VolAt c n va vc vp bg bs bd g0 w0 gV a b w) (u : Int) : VolAt c n va vc vp bg bs bd g0 w0 gV a u (w.setCell ⟨gV, 1, none⟩ (I u)) := by
 have hf := h.far
 exact ⟨h.clim.far (by show _ ≠ gV; omega) _, h.spr.far (by show _ ≠ gV; omega) _, h.bas.far (by show _ ≠ gV; omega) _, h.res.far (by show _ ≠ gV; omega) _, h.far, h.vol.two1 _, h.below.setCell (p := ⟨gV, 1, none⟩) (show g0 ≤ gV by omega) _⟩
end
theorem lo_fold {c : Climate} {g : Int → Int} (hc : c.flo ≤ c.fhi) (hg : ∀ f ∈ facL c, g f ≤ 1000000000000) : (facL c).foldl (fun m f => min m (g f)) (g c.flo) = (facL c).foldl (fun m f => min m (g f)) 1152921504606846976 := by
 obtain ⟨a1, _, a3⟩ := fold_min g (facL c) (g c.flo)
 obtain ⟨b1, _, b3⟩ := fold_min g (facL c) 1152921504606846976
 have hm := mem_facL.2 ⟨Int.le_refl c.flo, hc⟩
 have h1 := a1 _ hm
 have h2 := b1 _ hm
 have h3 := hg _ hm
 rcases a3 with a3 | ⟨x, hx, a3⟩ <;> rcases b3 with b3 | ⟨y, hy, b3⟩
 ·omega
 ·have := a1 _ hy; omega
 ·omega
 ·have := a1 _ hy; have := b1 _ hx; omega
theorem hi_fold {c : Climate} {g : Int → Int} (hc : c.flo ≤ c.fhi) (hg : ∀ f ∈ facL c, 0 ≤ g f) : (facL c).foldl (fun m f => max m (g f)) 0 = (facL c).foldl (fun m f => max m (g f)) (-1152921504606846976) := by
 obtain ⟨a1, _, a3⟩ := fold_max g (facL c) 0
 obtain ⟨b1, _, b3⟩ := fold_max g (facL c) (-1152921504606846976)
 have hm := mem_facL.2 ⟨Int.le_refl c.flo, hc⟩
 have h1 := a1 _ hm
 have h2 := b1 _ hm
 have h3 := hg _ hm
 rcases a3 with a3 | ⟨x, hx, a3⟩ <;> rcases b3 with b3 | ⟨y, hy, b3⟩
 ·omega
 ·have := a1 _ hy; have := hg _ hy; omega
 ·omega
 ·have := a1 _ hy; have := b1 _ hx; omega
theorem lo_steps {c : Climate} {g : Int → Int} (hc : c.flo ≤ c.fhi) (hg : ∀ f ∈ facL c, g f ≤ 1000000000000) : ∃ S : Nat → Int, S 0 = g c.flo ∧ (∀ k, S (k + 1) = min (S k) (g (c.flo + k))) ∧ S (nFac c) = (facL c).foldl (fun m f => min m (g f)) 1152921504606846976 := by
 refine ⟨fun k => ((List.range k).map fun (i : Nat) => c.flo + (i : Int)).foldl (fun m f => min m (g f)) (g c.flo), rfl, fun k => ?_, lo_fold hc hg⟩
 simp [List.range_succ]
theorem hi_steps {c : Climate} {g : Int → Int} (hc : c.flo ≤ c.fhi) (hg : ∀ f ∈ facL c, 0 ≤ g f) : ∃ S : Nat → Int, S 0 = 0 ∧ (∀ k, S (k + 1) = max (S k) (g (c.flo + k))) ∧ S (nFac c) = (facL c).foldl (fun m f => max m (g f)) (-1152921504606846976) := by
 refine ⟨fun k => ((List.range k).map fun (i : Nat) => c.flo + (i : Int)).foldl (fun m f => max m (g f)) 0, rfl, fun k => ?_, hi_fold hc hg⟩
 simp [List.range_succ]

theorem ref_volume (c : Climate) (no : Int) (vd : Value) (p : List Weather) (s : Scene) (V : SceneV) (va vb : Value) (vl : Value) (l : List Int) (a b : Int) (w : World)
  (h1 : springE c ⟨no, p⟩ = 0) (h2 : sceneE s = 0) (h3 : leastE s = 0) (hch : chosenB s l = true) (hab : a ≤ b) (hs : SceneAt w s V) (hl : Sl w 1 intC vl l) (hd : Sl w 3 Weather.cells vd p) (hva : Sl w 1 intC va (lastRow (leastF s))) (hvb : Sl w 1 intC vb (lastRow (greatF s))) :
  Calls Tryz.prog 61 #[c.v, .agg #[I no, vd], s.basin.v V.cells V.pairs, va, vb, vl, I a, I b] w fun e w' => e = .returned (.agg #[I (loF c p (pickC s.basin.cells l) (lowW s l) a b), I (hiF c p (pickC s.basin.cells l) (highW s l) a b)]) ∧ Below w.heap.size w w' := by
 have h4 := great_of_least h2 h3
 have hv := SceneOk.of h2
 have hpool := pool_is (c := c) (p := ⟨no, p⟩) (s := s) (l := l) h1 h2 h3 h4
 have hspr := hpool.spr
 have hc := hspr.clim
 have hfl := hc.fl
 have hf1 := hc.flo
 have hf2 := hc.fhi
 have HF : ∀ f ∈ facL c, 0 ≤ f ∧ f ≤ 2000 := fun f hf => by have := mem_facL.1 hf; omega
 have HA := fun f (hf : f ∈ facL c) w' (hb : Below w.heap.size w w') => ref_Comes c no vd p s V va _ vl l f a b w' hc hspr.mem hspr.n2 (hs.mono hb) (hva.mono hb) (hl.mono hb) (hd.mono hb) h2 hch (leastF_last hv).2.1 (leastF_bd hv h3 _ (lastRow_mem (leastF_last hv).1)) (HF f hf)
 have HB := fun f (hf : f ∈ facL c) w' (hb : Below w.heap.size w w') => ref_Comes c no vd p s V vb _ vl l f a b w' hc hspr.mem hspr.n2 (hs.mono hb) (hvb.mono hb) (hl.mono hb) (hd.mono hb) h2 hch (greatF_last hv).2.1 (greatF_bd hv h4 _ (lastRow_mem (greatF_last hv).1)) (HF f hf)
 have hcA : ∀ f ∈ facL c, cameF c p f b (pickC s.basin.cells l) (lowW s l) - cameF c p f a (pickC s.basin.cells l) (lowW s l) ≤ 1000000000000 := fun f hf => by
  have := (hpool.came hf a).1; have := (hpool.came hf b).1
  simp only at *
  omega
 have hcB : ∀ f ∈ facL c, 0 ≤ cameF c p f b (pickC s.basin.cells l) (highW s l) - cameF c p f a (pickC s.basin.cells l) (highW s l) := fun f hf => by
  have := came_later hc hspr.mem (HF f hf) hab _ _ hpool.cells hpool.high
  simp only at *
  omega
 obtain ⟨SA, SA0, SA1, SA2⟩ := lo_steps hfl hcA
 obtain ⟨SB, SB0, SB1, SB2⟩ := hi_steps hfl hcB
 unfold loF hiF
 rw [← SA2, ← SB2]
 unfold lowW highW at *
 obtain ⟨XA, hXA⟩ : ∃ X : Int → Int, ∀ f, cameF c p f b (pickC s.basin.cells l) (pickW s.basin.cells (lastRow (leastF s)) l) - cameF c p f a (pickC s.basin.cells l) (pickW s.basin.cells (lastRow (leastF s)) l) = X f := ⟨_, fun _ => rfl⟩
 obtain ⟨XB, hXB⟩ : ∃ X : Int → Int, ∀ f, cameF c p f b (pickC s.basin.cells l) (pickW s.basin.cells (lastRow (greatF s)) l) - cameF c p f a (pickC s.basin.cells l) (pickW s.basin.cells (lastRow (greatF s)) l) = X f := ⟨_, fun _ => rfl⟩
 simp only [hXA, hXB] at HA HB SA0 SA1 SB1
 have HM : ∀ k : Nat, k < nFac c → c.flo + (k : Int) ∈ facL c := fun k hk => mem_facL.2 (by unfold nFac at hk; omega)
 have hM0 : c.flo ∈ facL c := mem_facL.2 ⟨Int.le_refl _, hfl⟩
 have hnn : (nFac c : Int) = c.fhi - c.flo + 1 := by unfold nFac; omega
 obtain ⟨N, hN⟩ : ∃ N, nFac c = N := ⟨_, rfl⟩
 rw [hN] at HM hnn ⊢
 obtain ⟨vc, vp, vD, vs, vh⟩ := V
 clear hXA hXB hcA hcB SA2 SB2 HF hN hpool hspr hv hs hl hd hva hvb h1 h2 h3 h4 hch hc hab
 unfold Climate.v Basin.v at *
 simp only at *
 replace HA := hide HA
 replace HB := hide HB
 replace HM := hide HM
 replace hM0 := hide hM0
 replace SA1 := hide SA1
 replace SB1 := hide SB1
 replace hnn := hide hnn
 replace hfl := hide hfl
 go_enter Tryz.func61, Tryz.ntmps61
 go_wp2_with fail
 obtain ⟨W0, hW0⟩ : ∃ W0, W0 = (((w.alloc (.cells (c8 c) 25)).alloc (.cells #[I no, vd] 28)).alloc (.cells #[vc, vp, I s.basin.gain, I s.basin.slack, I s.basin.deep] 33)).alloc (.cells #[I 0, I 0] 23) := ⟨_, rfl⟩
 have kC : Blk W0 w.heap.size 25 (c8 c) := by rw [hW0]; exact (((Blk.new w _ _).alloc _).alloc _).alloc _
 have kP : Blk W0 (w.heap.size + 1) 28 #[I no, vd] := by rw [hW0]; exact ((blk21 w _ _ _).alloc _).alloc _
 have kS : Blk W0 (w.heap.size + 1 + 1) 33 #[vc, vp, I s.basin.gain, I s.basin.slack, I s.basin.deep] := by rw [hW0]; exact (blk32 w _ _ _ _).alloc _
 have kR : Blk W0 (w.heap.size + 1 + 1 + 1) 23 #[I 0, I 0] := by
  have h := Blk.new (((w.alloc (.cells (c8 c) 25)).alloc (.cells #[I no, vd] 28)).alloc (.cells #[vc, vp, I s.basin.gain, I s.basin.slack, I s.basin.deep] 33)) 23 #[I 0, I 0]
  rw [hW0]
  simpa only [World.size_alloc] using h
 have B0 : Below w.heap.size w W0 := by rw [hW0]; exact below4 _ _ _ _ _
 rw [← hW0]
 clear hW0
 go_at_call 126
 refine (HA.out c.flo hM0.out W0 B0).mono ?_
 rintro e w1 ⟨rfl, hb1⟩
 replace kC := kC.grow hb1
 replace kP := kP.grow hb1
 replace kS := kS.grow hb1
 replace kR := kR.grow hb1
 have B1 := bup B0 hb1
 obtain ⟨zc, c0, c1, c2, c3, c4, c5, c6, c7⟩ := kC.clim
 replace kC := hide kC
 replace kP := hide kP
 replace kS := hide kS
 replace kR := hide kR
 go_wp2_with fail
 obtain ⟨W2, hW2⟩ : ∃ W, W = w1.alloc (.cells #[I (XA c.flo), I 0] 23) := ⟨_, rfl⟩
 obtain ⟨kV, hb2⟩ := blkw hW2
 rw [← hW2]
 clear hW2
 obtain ⟨gV, hgV⟩ : ∃ g, w1.heap.size = g := ⟨_, rfl⟩
 rw [hgV] at kV ⊢
 have hbig : w.heap.size + 1 + 1 + 1 < gV := by rw [← hgV]; exact kR.out.lt
 have hI : VolAt c no vd vc vp s.basin.gain s.basin.slack s.basin.deep w.heap.size w gV (SA 0) (SB 0) W2 := by
  rw [SA0, SB0]
  exact ⟨kC.out.grow hb2, kP.out.grow hb2, kS.out.grow hb2, kR.out.grow hb2, hbig, kV, bup B1 hb2⟩
 clear kC kP kS kR kV hb2 hb1 B0 B1 zc c0 c1 c2 c3 c4 c5 c6 c7 hgV SA0 SB0
 have hbig2 := hide hbig
 clear hbig
 replace hI := hide hI
 obtain ⟨g0, hg0⟩ : ∃ g, w.heap.size = g := ⟨_, rfl⟩
 rw [hg0] at hbig2 hI ⊢
 replace hg0 := hide hg0
 go_loopw [18] (fun i wr => ∃ k : Nat, k ≤ N ∧ i = I (c.flo + k) ∧ Hid (VolAt c no vd vc vp s.basin.gain s.basin.slack s.basin.deep g0 w gV (SA k) (SB k) wr)) (fun i _ => N - (intOf i - c.flo).toNat)
 case atStart => exact ⟨0, Nat.zero_le _, by simp, hI⟩
 case round =>
  obtain ⟨k, hkl, rfl, hJ⟩ := hrel
  clear hI
  obtain ⟨zc, c0, c1, c2, c3, c4, c5, c6, c7⟩ := hJ.out.clim.clim
  have Bw := hide (show Below w.heap.size w wr by rw [hg0.out]; exact hJ.out.below)
  have hn1 := hnn.out
  by_cases hlt : k < N
  case pos =>
   have hle : c.flo + (k : Int) ≤ c.fhi := by omega
   have hm := hide (HM.out k hlt)
   have a1 := SA1.out k
   have a2 := SB1.out k
   obtain ⟨sa, hsa⟩ : ∃ v, SA k = v := ⟨_, rfl⟩
   obtain ⟨sb, hsb⟩ : ∃ v, SB k = v := ⟨_, rfl⟩
   obtain ⟨ta, hta⟩ : ∃ v, SA (k + 1) = v := ⟨_, rfl⟩
   obtain ⟨tb, htb⟩ : ∃ v, SB (k + 1) = v := ⟨_, rfl⟩
   rw [hsa, hta] at a1
   rw [hsb, htb] at a2
   rw [hsa, hsb] at hJ
   have HA1 := HA.out _ hm.out
   have HB1 := HB.out _ hm.out
   obtain ⟨xa, hxa⟩ : ∃ v, XA (c.flo + (k : Int)) = v := ⟨_, rfl⟩
   obtain ⟨xb, hxb⟩ : ∃ v, XB (c.flo + (k : Int)) = v := ⟨_, rfl⟩
   rw [hxa] at HA1 a1
   rw [hxb] at HB1 a2
   obtain ⟨f, hf⟩ : ∃ f, c.flo + (k : Int) = f := ⟨_, rfl⟩
   have hfb : 0 ≤ f ∧ f ≤ 2000 := by omega
   obtain ⟨f1, f2⟩ := hfb
   have hf3 := hide hf
   rw [hf] at HA1 HB1 hle ⊢
   have y1 : IntKind.i64.wrap (f + 1) = f + 1 := IntWalk.i64_in _ (by omega)
   replace HA1 := hide HA1
   replace HB1 := hide HB1
   replace hta := hide hta
   replace htb := hide htb
   clear hf hsa hsb hxa hxb SA1 SB1 HA HB HM hm hn1
   rcases ilt xa sa with m1 | m1 <;> rcases ilt sb xb with m2 | m2
   case inl.inl =>
    have e1 : ta = xa := by omega
    have e2 : tb = xb := by omega
    subst e1
    subst e2
    clear a1 a2
    obtain ⟨zP, p0, p1, _, _⟩ := blk_box hJ.out.spr
    obtain ⟨s0, s1, s2, s3, s4⟩ := hJ.out.bas.five
    obtain ⟨zV, v0, v1, fv0, fv1⟩ := blk_box hJ.out.vol
    have zS := hJ.out.bas.lt
    go_wp2_with fail
    (refine wp_region_grow_tail 11 (by kernel_rfl) (by kernel_rfl) ?_; simp only [List.take_succ_cons, List.take_zero, List.drop_succ_cons, List.drop_zero]; (repeat go_big_quiet_step (((go_at_call 126; exact calls_grew (HA1.out _ (bup Bw.out (Grew.below _))))))); refine wpQuiet_nil ?_; rintro W1 ⟨⟨_, hW1⟩, rfl⟩)
    replace hJ := hide (hJ.out.grow hW1)
    clear hW1
    clear zc c0 c1 c2 c3 c4 c5 c6 c7 zP p0 p1 s0 s1 s2 s3 s4 zV v0 v1 fv0 fv1 zS
    obtain ⟨zc, c0, c1, c2, c3, c4, c5, c6, c7⟩ := hJ.out.clim.clim
    obtain ⟨zP, p0, p1, _, _⟩ := blk_box hJ.out.spr
    obtain ⟨s0, s1, s2, s3, s4⟩ := hJ.out.bas.five
    obtain ⟨zV, v0, v1, fv0, fv1⟩ := blk_box hJ.out.vol
    have zS := hJ.out.bas.lt
    go_wp2_with fail
    replace hJ := hide (hJ.out.set0 ta)
    obtain ⟨Wa, hWa⟩ : ∃ W, W = W1.setCell ⟨gV, 0, none⟩ (I ta) := ⟨_, rfl⟩
    rw [← hWa] at hJ ⊢
    clear hWa
    replace Bw := hide (show Below w.heap.size w Wa by rw [hg0.out]; exact hJ.out.below)
    clear zc c0 c1 c2 c3 c4 c5 c6 c7 zP p0 p1 s0 s1 s2 s3 s4 zV v0 v1 fv0 fv1 zS
    obtain ⟨zc, c0, c1, c2, c3, c4, c5, c6, c7⟩ := hJ.out.clim.clim
    obtain ⟨zP, p0, p1, _, _⟩ := blk_box hJ.out.spr
    obtain ⟨s0, s1, s2, s3, s4⟩ := hJ.out.bas.five
    obtain ⟨zV, v0, v1, fv0, fv1⟩ := blk_box hJ.out.vol
    have zS := hJ.out.bas.lt
    (refine wp_region_grow_tail 11 (by kernel_rfl) (by kernel_rfl) ?_; simp only [List.take_succ_cons, List.take_zero, List.drop_succ_cons, List.drop_zero]; (repeat go_big_quiet_step (((go_at_call 126; exact calls_grew (HB1.out _ (bup Bw.out (Grew.below _))))))); refine wpQuiet_nil ?_; rintro W1 ⟨⟨_, hW1⟩, rfl⟩)
    replace hJ := hide (hJ.out.grow hW1)
    clear hW1
    clear zc c0 c1 c2 c3 c4 c5 c6 c7 zP p0 p1 s0 s1 s2 s3 s4 zV v0 v1 fv0 fv1 zS
    obtain ⟨zc, c0, c1, c2, c3, c4, c5, c6, c7⟩ := hJ.out.clim.clim
    obtain ⟨zP, p0, p1, _, _⟩ := blk_box hJ.out.spr
    obtain ⟨s0, s1, s2, s3, s4⟩ := hJ.out.bas.five
    obtain ⟨zV, v0, v1, fv0, fv1⟩ := blk_box hJ.out.vol
    have zS := hJ.out.bas.lt
    go_wp2_with fail
    go_roundw
    case rel =>
     have hf4 := hf3.out
     exact ⟨k + 1, by omega, by go_num, by rw [hta.out, htb.out]; exact hide (hJ.out.set1 tb)⟩
    case measure => have hf4 := hf3.out; simp [intOf]; omega
   case inl.inr =>
    have e1 : ta = xa := by omega
    have e2 : tb = sb := by omega
    subst e1
    subst e2
    clear a1 a2
    obtain ⟨zP, p0, p1, _, _⟩ := blk_box hJ.out.spr
    obtain ⟨s0, s1, s2, s3, s4⟩ := hJ.out.bas.five
    obtain ⟨zV, v0, v1, fv0, fv1⟩ := blk_box hJ.out.vol
    have zS := hJ.out.bas.lt
    go_wp2_with fail
    (refine wp_region_grow_tail 11 (by kernel_rfl) (by kernel_rfl) ?_; simp only [List.take_succ_cons, List.take_zero, List.drop_succ_cons, List.drop_zero]; (repeat go_big_quiet_step (((go_at_call 126; exact calls_grew (HA1.out _ (bup Bw.out (Grew.below _))))))); refine wpQuiet_nil ?_; rintro W1 ⟨⟨_, hW1⟩, rfl⟩)
    replace hJ := hide (hJ.out.grow hW1)
    clear hW1
    clear zc c0 c1 c2 c3 c4 c5 c6 c7 zP p0 p1 s0 s1 s2 s3 s4 zV v0 v1 fv0 fv1 zS
    obtain ⟨zc, c0, c1, c2, c3, c4, c5, c6, c7⟩ := hJ.out.clim.clim
    obtain ⟨zP, p0, p1, _, _⟩ := blk_box hJ.out.spr
    obtain ⟨s0, s1, s2, s3, s4⟩ := hJ.out.bas.five
    obtain ⟨zV, v0, v1, fv0, fv1⟩ := blk_box hJ.out.vol
    have zS := hJ.out.bas.lt
    go_wp2_with fail
    replace hJ := hide (hJ.out.set0 ta)
    obtain ⟨Wa, hWa⟩ : ∃ W, W = W1.setCell ⟨gV, 0, none⟩ (I ta) := ⟨_, rfl⟩
    rw [← hWa] at hJ ⊢
    clear hWa
    replace Bw := hide (show Below w.heap.size w Wa by rw [hg0.out]; exact hJ.out.below)
    clear zc c0 c1 c2 c3 c4 c5 c6 c7 zP p0 p1 s0 s1 s2 s3 s4 zV v0 v1 fv0 fv1 zS
    obtain ⟨zc, c0, c1, c2, c3, c4, c5, c6, c7⟩ := hJ.out.clim.clim
    obtain ⟨zP, p0, p1, _, _⟩ := blk_box hJ.out.spr
    obtain ⟨s0, s1, s2, s3, s4⟩ := hJ.out.bas.five
    obtain ⟨zV, v0, v1, fv0, fv1⟩ := blk_box hJ.out.vol
    have zS := hJ.out.bas.lt
    (refine wp_region_grow_tail 11 (by kernel_rfl) (by kernel_rfl) ?_; simp only [List.take_succ_cons, List.take_zero, List.drop_succ_cons, List.drop_zero]; (repeat go_big_quiet_step (((go_at_call 126; exact calls_grew (HB1.out _ (bup Bw.out (Grew.below _))))))); refine wpQuiet_nil ?_; rintro W1 ⟨⟨_, hW1⟩, rfl⟩)
    replace hJ := hide (hJ.out.grow hW1)
    clear hW1
    clear zc c0 c1 c2 c3 c4 c5 c6 c7 zP p0 p1 s0 s1 s2 s3 s4 zV v0 v1 fv0 fv1 zS
    obtain ⟨zc, c0, c1, c2, c3, c4, c5, c6, c7⟩ := hJ.out.clim.clim
    obtain ⟨zP, p0, p1, _, _⟩ := blk_box hJ.out.spr
    obtain ⟨s0, s1, s2, s3, s4⟩ := hJ.out.bas.five
    obtain ⟨zV, v0, v1, fv0, fv1⟩ := blk_box hJ.out.vol
    have zS := hJ.out.bas.lt
    go_wp2_with fail
    go_roundw
    case rel =>
     have hf4 := hf3.out
     exact ⟨k + 1, by omega, by go_num, by rw [hta.out, htb.out]; exact hide (hJ.out.set1 tb)⟩
    case measure => have hf4 := hf3.out; simp [intOf]; omega
   case inr.inl =>
    have e1 : ta = sa := by omega
    have e2 : tb = xb := by omega
    subst e1
    subst e2
    clear a1 a2
    obtain ⟨zP, p0, p1, _, _⟩ := blk_box hJ.out.spr
    obtain ⟨s0, s1, s2, s3, s4⟩ := hJ.out.bas.five
    obtain ⟨zV, v0, v1, fv0, fv1⟩ := blk_box hJ.out.vol
    have zS := hJ.out.bas.lt
    go_wp2_with fail
    (refine wp_region_grow_tail 11 (by kernel_rfl) (by kernel_rfl) ?_; simp only [List.take_succ_cons, List.take_zero, List.drop_succ_cons, List.drop_zero]; (repeat go_big_quiet_step (((go_at_call 126; exact calls_grew (HA1.out _ (bup Bw.out (Grew.below _))))))); refine wpQuiet_nil ?_; rintro W1 ⟨⟨_, hW1⟩, rfl⟩)
    replace hJ := hide (hJ.out.grow hW1)
    clear hW1
    clear zc c0 c1 c2 c3 c4 c5 c6 c7 zP p0 p1 s0 s1 s2 s3 s4 zV v0 v1 fv0 fv1 zS
    obtain ⟨zc, c0, c1, c2, c3, c4, c5, c6, c7⟩ := hJ.out.clim.clim
    obtain ⟨zP, p0, p1, _, _⟩ := blk_box hJ.out.spr
    obtain ⟨s0, s1, s2, s3, s4⟩ := hJ.out.bas.five
    obtain ⟨zV, v0, v1, fv0, fv1⟩ := blk_box hJ.out.vol
    have zS := hJ.out.bas.lt
    go_wp2_with fail
    replace hJ := hide (hJ.out.set0 ta)
    obtain ⟨Wa, hWa⟩ : ∃ W, W = W1.setCell ⟨gV, 0, none⟩ (I ta) := ⟨_, rfl⟩
    rw [← hWa] at hJ ⊢
    clear hWa
    replace Bw := hide (show Below w.heap.size w Wa by rw [hg0.out]; exact hJ.out.below)
    clear zc c0 c1 c2 c3 c4 c5 c6 c7 zP p0 p1 s0 s1 s2 s3 s4 zV v0 v1 fv0 fv1 zS
    obtain ⟨zc, c0, c1, c2, c3, c4, c5, c6, c7⟩ := hJ.out.clim.clim
    obtain ⟨zP, p0, p1, _, _⟩ := blk_box hJ.out.spr
    obtain ⟨s0, s1, s2, s3, s4⟩ := hJ.out.bas.five
    obtain ⟨zV, v0, v1, fv0, fv1⟩ := blk_box hJ.out.vol
    have zS := hJ.out.bas.lt
    (refine wp_region_grow_tail 11 (by kernel_rfl) (by kernel_rfl) ?_; simp only [List.take_succ_cons, List.take_zero, List.drop_succ_cons, List.drop_zero]; (repeat go_big_quiet_step (((go_at_call 126; exact calls_grew (HB1.out _ (bup Bw.out (Grew.below _))))))); refine wpQuiet_nil ?_; rintro W1 ⟨⟨_, hW1⟩, rfl⟩)
    replace hJ := hide (hJ.out.grow hW1)
    clear hW1
    clear zc c0 c1 c2 c3 c4 c5 c6 c7 zP p0 p1 s0 s1 s2 s3 s4 zV v0 v1 fv0 fv1 zS
    obtain ⟨zc, c0, c1, c2, c3, c4, c5, c6, c7⟩ := hJ.out.clim.clim
    obtain ⟨zP, p0, p1, _, _⟩ := blk_box hJ.out.spr
    obtain ⟨s0, s1, s2, s3, s4⟩ := hJ.out.bas.five
    obtain ⟨zV, v0, v1, fv0, fv1⟩ := blk_box hJ.out.vol
    have zS := hJ.out.bas.lt
    go_wp2_with fail
    go_roundw
    case rel =>
     have hf4 := hf3.out
     exact ⟨k + 1, by omega, by go_num, by rw [hta.out, htb.out]; exact hide (hJ.out.set1 tb)⟩
    case measure => have hf4 := hf3.out; simp [intOf]; omega
   case inr.inr =>
    have e1 : ta = sa := by omega
    have e2 : tb = sb := by omega
    subst e1
    subst e2
    clear a1 a2
    obtain ⟨zP, p0, p1, _, _⟩ := blk_box hJ.out.spr
    obtain ⟨s0, s1, s2, s3, s4⟩ := hJ.out.bas.five
    obtain ⟨zV, v0, v1, fv0, fv1⟩ := blk_box hJ.out.vol
    have zS := hJ.out.bas.lt
    go_wp2_with fail
    (refine wp_region_grow_tail 11 (by kernel_rfl) (by kernel_rfl) ?_; simp only [List.take_succ_cons, List.take_zero, List.drop_succ_cons, List.drop_zero]; (repeat go_big_quiet_step (((go_at_call 126; exact calls_grew (HA1.out _ (bup Bw.out (Grew.below _))))))); refine wpQuiet_nil ?_; rintro W1 ⟨⟨_, hW1⟩, rfl⟩)
    replace hJ := hide (hJ.out.grow hW1)
    clear hW1
    clear zc c0 c1 c2 c3 c4 c5 c6 c7 zP p0 p1 s0 s1 s2 s3 s4 zV v0 v1 fv0 fv1 zS
    obtain ⟨zc, c0, c1, c2, c3, c4, c5, c6, c7⟩ := hJ.out.clim.clim
    obtain ⟨zP, p0, p1, _, _⟩ := blk_box hJ.out.spr
    obtain ⟨s0, s1, s2, s3, s4⟩ := hJ.out.bas.five
    obtain ⟨zV, v0, v1, fv0, fv1⟩ := blk_box hJ.out.vol
    have zS := hJ.out.bas.lt
    go_wp2_with fail
    replace hJ := hide (hJ.out.set0 ta)
    obtain ⟨Wa, hWa⟩ : ∃ W, W = W1.setCell ⟨gV, 0, none⟩ (I ta) := ⟨_, rfl⟩
    rw [← hWa] at hJ ⊢
    clear hWa
    replace Bw := hide (show Below w.heap.size w Wa by rw [hg0.out]; exact hJ.out.below)
    clear zc c0 c1 c2 c3 c4 c5 c6 c7 zP p0 p1 s0 s1 s2 s3 s4 zV v0 v1 fv0 fv1 zS
    obtain ⟨zc, c0, c1, c2, c3, c4, c5, c6, c7⟩ := hJ.out.clim.clim
    obtain ⟨zP, p0, p1, _, _⟩ := blk_box hJ.out.spr
    obtain ⟨s0, s1, s2, s3, s4⟩ := hJ.out.bas.five
    obtain ⟨zV, v0, v1, fv0, fv1⟩ := blk_box hJ.out.vol
    have zS := hJ.out.bas.lt
    (refine wp_region_grow_tail 11 (by kernel_rfl) (by kernel_rfl) ?_; simp only [List.take_succ_cons, List.take_zero, List.drop_succ_cons, List.drop_zero]; (repeat go_big_quiet_step (((go_at_call 126; exact calls_grew (HB1.out _ (bup Bw.out (Grew.below _))))))); refine wpQuiet_nil ?_; rintro W1 ⟨⟨_, hW1⟩, rfl⟩)
    replace hJ := hide (hJ.out.grow hW1)
    clear hW1
    clear zc c0 c1 c2 c3 c4 c5 c6 c7 zP p0 p1 s0 s1 s2 s3 s4 zV v0 v1 fv0 fv1 zS
    obtain ⟨zc, c0, c1, c2, c3, c4, c5, c6, c7⟩ := hJ.out.clim.clim
    obtain ⟨zP, p0, p1, _, _⟩ := blk_box hJ.out.spr
    obtain ⟨s0, s1, s2, s3, s4⟩ := hJ.out.bas.five
    obtain ⟨zV, v0, v1, fv0, fv1⟩ := blk_box hJ.out.vol
    have zS := hJ.out.bas.lt
    go_wp2_with fail
    go_roundw
    case rel =>
     have hf4 := hf3.out
     exact ⟨k + 1, by omega, by go_num, by rw [hta.out, htb.out]; exact hide (hJ.out.set1 tb)⟩
    case measure => have hf4 := hf3.out; simp [intOf]; omega
  case neg =>
   have he : k = N := by omega
   subst he
   have hgt : ¬ (c.flo + (k : Int) ≤ c.fhi) := by omega
   have hgt2 : c.fhi < c.flo + (k : Int) := by omega
   obtain ⟨f, hf⟩ : ∃ f, c.flo + (k : Int) = f := ⟨_, rfl⟩
   rw [hf] at hgt hgt2 ⊢
   clear hf SA1 SB1 HA HB HM hn1 hgt
   obtain ⟨zV, v0, v1, fv0, fv1⟩ := blk_box hJ.out.vol
   obtain ⟨zR, r0, r1, fr0, fr1⟩ := blk_box hJ.out.res
   go_wp2_with fail
   have kR := (hJ.out.res.two0 (I (SA k))).two1 (I (SB k))
   have B9 : Below w.heap.size w ((wr.setCell ⟨g0 + 1 + 1 + 1, 0, none⟩ (I (SA k))).setCell ⟨g0 + 1 + 1 + 1, 1, none⟩ (I (SB k))) := bset (bset Bw.out _ _ (by rw [hg0.out]; omega) _) _ _ (by rw [hg0.out]; omega) _
   obtain ⟨Wz, hWz⟩ : ∃ W, W = (wr.setCell ⟨g0 + 1 + 1 + 1, 0, none⟩ (I (SA k))).setCell ⟨g0 + 1 + 1 + 1, 1, none⟩ (I (SB k)) := ⟨_, rfl⟩
   rw [← hWz] at kR B9 ⊢
   clear hWz
   obtain ⟨_, x0, x1, _, _⟩ := blk_box kR
   refine bodyPost_ret (v := .agg #[I (SA k), I (SB k)]) (by simp [results, Tryz.results61, go_sem, x0, x1]) rfl ⟨rfl, B9⟩

theorem QAt.reads {c : Climate} {n : Int} {va : Value} {w0 w : World} {x0 x1 x2 x3 x4 x5 x6 x7 : Value} (h : QAt c n va #[x0, x1, x2, x3, x4, x5, x6, x7] w0 w) : w.cell? ⟨w0.heap.size, 0, none⟩ = some (I c.base) ∧ w.cell? ⟨w0.heap.size, 1, none⟩ = some (I c.lapse) ∧ w.cell? ⟨w0.heap.size, 2, none⟩ = some (I c.swing) ∧ w.cell? ⟨w0.heap.size, 3, none⟩ = some (I c.wettest) ∧ w.cell? ⟨w0.heap.size, 4, none⟩ = some (I c.coldest) ∧ w.cell? ⟨w0.heap.size, 5, none⟩ = some (I c.warmest) ∧ w.cell? ⟨w0.heap.size, 6, none⟩ = some (I c.flo) ∧ w.cell? ⟨w0.heap.size, 7, none⟩ = some (I c.fhi) ∧ w.cell? ⟨w0.heap.size + 1, 0, none⟩ = some (I n) ∧ w.cell? ⟨w0.heap.size + 1, 1, none⟩ = some va ∧ w.cell? ⟨w0.heap.size + 1 + 1, 0, none⟩ = some x0 ∧ w.cell? ⟨w0.heap.size + 1 + 1, 1, none⟩ = some x1 ∧ w.cell? ⟨w0.heap.size + 1 + 1, 2, none⟩ = some x2 ∧ w.cell? ⟨w0.heap.size + 1 + 1, 3, none⟩ = some x3 ∧ w.cell? ⟨w0.heap.size + 1 + 1, 4, none⟩ = some x4 :=
 ⟨h.clim.cell 0, h.clim.cell 1, h.clim.cell 2, h.clim.cell 3, h.clim.cell 4, h.clim.cell 5, h.clim.cell 6, h.clim.cell 7, h.spr.cell 0, h.spr.cell 1, h.scn.cell 0, h.scn.cell 1, h.scn.cell 2, h.scn.cell 3, h.scn.cell 4⟩
theorem spring62 {c : Climate} {p : Spring} (h1 : climateOk c = true) (h : springE c p ≠ 0) : springE c p = 62 := by
 unfold springE at h ⊢
 rw [if_neg (by simp [h1])] at h ⊢
 split <;> simp_all
theorem clim61 {c : Climate} {p : Spring} (h1 : climateOk c = false) : springE c p = 61 ∧ climateE c = 61 := by simp [springE, climateE, h1]
theorem clim0 {c : Climate} (h1 : climateOk c = true) : climateE c = 0 := by simp [climateE, h1]

theorem ref_Volume (c : Climate) (no : Int) (vd : Value) (p : List Weather) (s : Scene) (V : SceneV) (vl : Value) (l : List Int) (a b : Int) (w : World) (hs : SceneAt w s V) (hl : Sl w 1 intC vl l) (hd : Sl w 3 Weather.cells vd p) :
  Calls Tryz.prog 11 #[c.v, .agg #[I no, vd], s.v V, vl, I a, I b] w fun e w' => e = .returned (.tuple #[.agg #[I (volV c ⟨no, p⟩ s l a b).1, I (volV c ⟨no, p⟩ s l a b).2], I (volE c ⟨no, p⟩ s l a b)]) ∧ Below w.heap.size w w' := by
 have H1 := hide (fun w' => ref_CheckClimate c w')
 have H2 := hide (fun w' (hb : Below w.heap.size w w') => ref_CheckSpring c no vd p w' (hd.mono hb))
 have H3 := hide (fun w' (hb : Below w.heap.size w w') => ref5_Check s V w' (hs.mono hb))
 have H4 := hide (fun (h1 : springE c ⟨no, p⟩ = 0) (h2 : sceneE s = 0) w' (hb : Below w.heap.size w w') => ref_begins no vd p s V vl l w' (SprOk.of h1).n1 (SceneOk.of h2).hd1 (hd.mono hb) (hs.mono hb) (hl.mono hb))
 have H5 := hide (fun (h1 : springE c ⟨no, p⟩ = 0) w' (hb : Below w.heap.size w w') => ref_days no vd p a b w' (SprOk.of h1).n1 (SprOk.of h1).beg (SprOk.of h1).n2 (hd.mono hb))
 have H6 := hide (fun (h2 : sceneE s = 0) w' (hb : Below w.heap.size w w') => ref_ends s V w' (hs.mono hb) h2)
 have H7 := hide (fun (h1 : springE c ⟨no, p⟩ = 0) (h2 : sceneE s = 0) (h3 : leastE s = 0) (hch : chosenB s l = true) (hab : a ≤ b) va vb w' (hb : Below w.heap.size w w') hva hvb => ref_volume c no vd p s V va vb vl l a b w' h1 h2 h3 hch hab (hs.mono hb) (hl.mono hb) (hd.mono hb) hva hvb)
 have hdef : volE c ⟨no, p⟩ s l a b = if springE c ⟨no, p⟩ ≠ 0 then springE c ⟨no, p⟩ else if sceneE s ≠ 0 then sceneE s else if beginsB s ⟨no, p⟩ = false then 1 else if chosenB s l = false then 1 else if spellB ⟨no, p⟩ a b = false then 1 else poolsE s := rfl
 have hab : spellB ⟨no, p⟩ a b = true → a ≤ b := fun h => by
  simp only [spellB, Bool.and_eq_true, decide_eq_true_eq] at h
  exact h.1.2
 have hgood : volE c ⟨no, p⟩ s l a b = 0 → poolsE s = 0 → volV c ⟨no, p⟩ s l a b = (loF c p (pickC s.basin.cells l) (lowW s l) a b, hiF c p (pickC s.basin.cells l) (highW s l) a b) := fun h h' => by rw [volV, if_pos h, volP, if_pos h']
 obtain ⟨E, hE⟩ : ∃ E, volE c ⟨no, p⟩ s l a b = E := ⟨_, rfl⟩
 obtain ⟨X, hX⟩ : ∃ E, (volV c ⟨no, p⟩ s l a b).1 = E := ⟨_, rfl⟩
 obtain ⟨Y, hY⟩ : ∃ E, (volV c ⟨no, p⟩ s l a b).2 = E := ⟨_, rfl⟩
 have hbad : ∀ e, E = e → e ≠ 0 → E = e ∧ X = 0 ∧ Y = 0 := fun e h h' => by
  have : volV c ⟨no, p⟩ s l a b = (0, 0) := by rw [volV, if_neg (by rw [hE, h]; exact h')]
  rw [← hX, ← hY, this]
  exact ⟨h, rfl, rfl⟩
 replace hgood : E = 0 → poolsE s = 0 → X = loF c p (pickC s.basin.cells l) (lowW s l) a b ∧ Y = hiF c p (pickC s.basin.cells l) (highW s l) a b := fun h h' => by
  rw [← hX, ← hY, hgood (by rw [hE]; exact h) h']
  exact ⟨rfl, rfl⟩
 rw [hE] at hdef
 rw [hE, hX, hY]
 clear hE hX hY
 replace hdef := hide hdef
 replace hbad := hide hbad
 replace hgood := hide hgood
 replace hab := hide hab
 obtain ⟨vc, vp, vD, vs, vh⟩ := V
 obtain ⟨Ac, nc, rfl, _⟩ := (show Sl w 4 Cell.cells vc s.basin.cells from hs.cells).open_
 obtain ⟨Ap, np, rfl, _⟩ := (show Sl w 2 pairC vp s.basin.pairs from hs.pairs).open_
 obtain ⟨Ad, nd, rfl, _⟩ := (show Sl w 1 intC vD s.days from hs.days).open_
 obtain ⟨As, ns, rfl, _⟩ := (show Sl w 5 Sight.cells vs s.sights from hs.sights).open_
 obtain ⟨Ah, nh, rfl, _⟩ := (show Sl w 5 Change.cells vh s.changes from hs.changes).open_
 unfold Scene.v Basin.v Climate.v at *
 simp only at *
 clear hs hl hd
 go_enter Tryz.func11, Tryz.ntmps11
 go_wp2_with fail
 obtain ⟨wq, hwq⟩ : ∃ W, W = (((w.alloc (.cells (c8 c) 25)).alloc (.cells #[I no, vd] 28)).alloc (.cells (s8 s Ac nc Ap np Ad nd As ns Ah nh) 38)).alloc (.cells #[I 0, I 0] 23) := ⟨_, rfl⟩
 have hQ := hide (show QAt c no vd (s8 s Ac nc Ap np Ad nd As ns Ah nh) w wq by rw [hwq]; exact QAt.new _ _ _ _ _)
 rw [← hwq]
 clear hwq
 go_at_call 55
 refine (H1.out _).mono ?_
 rintro e wq ⟨rfl, hbn⟩
 replace hQ := hide (hQ.out.grow hbn)
 clear hbn
 obtain ⟨zc, c0, c1, c2, c3, c4, c5, c6, c7, zP, p0, p1, s0, s1, s2, s3, s4, s5, s6, s7, zS, zR, r0, r1, fr0, fr1⟩ := hQ.out.facts
 cases h1 : climateOk c
 case false =>
  obtain ⟨e1, e2⟩ := clim61 (p := ⟨no, p⟩) h1
  rw [e2]
  obtain ⟨hq1, hq2, hq3⟩ := hbad.out 61 (by rw [hdef.out, e1]; rfl) (by decide)
  subst hq1; subst hq2; subst hq3
  clear e1 e2 hdef hgood
  obtain ⟨x0, x1, B9⟩ := hQ.out.ret (I 0) (I 0)
  go_wp2_with fail
  generalize (wq.setCell ⟨w.heap.size + 1 + 1 + 1, 0, none⟩ (I 0)).setCell ⟨w.heap.size + 1 + 1 + 1, 1, none⟩ (I 0) = Wz at x0 x1 B9 ⊢
  refine bodyPost_ret (v := .tuple #[.agg #[I 0, I 0], I (61)]) (by simp [results, Tryz.results11, go_sem, x0, x1]) rfl ⟨rfl, B9⟩
 rw [clim0 h1]
 go_wp2_with fail
 go_at_call 56
 refine (H2.out _ hQ.out.below).mono ?_
 rintro e wq ⟨rfl, hbn⟩
 replace hQ := hide (hQ.out.grow hbn)
 clear hbn
 clear zc c0 c1 c2 c3 c4 c5 c6 c7 zP p0 p1 s0 s1 s2 s3 s4 s5 s6 s7 zS zR r0 r1 fr0 fr1
 obtain ⟨zc, c0, c1, c2, c3, c4, c5, c6, c7, zP, p0, p1, s0, s1, s2, s3, s4, s5, s6, s7, zS, zR, r0, r1, fr0, fr1⟩ := hQ.out.facts
 by_cases h2 : springE c ⟨no, p⟩ = 0
 case neg =>
  have h3 := spring62 h1 h2
  rw [h3]
  obtain ⟨hq1, hq2, hq3⟩ := hbad.out 62 (by rw [hdef.out, if_pos h2, h3]) (by decide)
  subst hq1; subst hq2; subst hq3
  clear h2 h3 hdef hgood
  obtain ⟨x0, x1, B9⟩ := hQ.out.ret (I 0) (I 0)
  go_wp2_with fail
  generalize (wq.setCell ⟨w.heap.size + 1 + 1 + 1, 0, none⟩ (I 0)).setCell ⟨w.heap.size + 1 + 1 + 1, 1, none⟩ (I 0) = Wz at x0 x1 B9 ⊢
  refine bodyPost_ret (v := .tuple #[.agg #[I 0, I 0], I (62)]) (by simp [results, Tryz.results11, go_sem, x0, x1]) rfl ⟨rfl, B9⟩
 rw [h2]
 go_wp2_with fail
 go_at_call 57
 refine (H3.out _ hQ.out.below).mono ?_
 rintro e wq ⟨rfl, hbn⟩
 replace hQ := hide (hQ.out.grow hbn)
 clear hbn
 clear zc c0 c1 c2 c3 c4 c5 c6 c7 zP p0 p1 s0 s1 s2 s3 s4 s5 s6 s7 zS zR r0 r1 fr0 fr1
 obtain ⟨zc, c0, c1, c2, c3, c4, c5, c6, c7, zP, p0, p1, s0, s1, s2, s3, s4, s5, s6, s7, zS, zR, r0, r1, fr0, fr1⟩ := hQ.out.facts
 by_cases h3 : sceneE s = 0
 case neg =>
  have hne : (sceneE s != 0) = true := by simpa using h3
  obtain ⟨hq1, hq2, hq3⟩ := hbad.out (sceneE s) (by rw [hdef.out, if_neg (by simpa using h2), if_pos h3]) h3
  obtain ⟨F, hF⟩ : ∃ F, sceneE s = F := ⟨_, rfl⟩
  rw [hF] at hq1 hne ⊢
  subst hq1; subst hq2; subst hq3
  clear h2 h3 hF hdef hgood hbad hab H3 H4 H5 H6 H7
  obtain ⟨x0, x1, B9⟩ := hQ.out.ret (I 0) (I 0)
  go_wp2_with fail
  generalize (wq.setCell ⟨w.heap.size + 1 + 1 + 1, 0, none⟩ (I 0)).setCell ⟨w.heap.size + 1 + 1 + 1, 1, none⟩ (I 0) = Wz at x0 x1 B9 ⊢
  refine bodyPost_ret (v := .tuple #[.agg #[I 0, I 0], I (E)]) (by simp [results, Tryz.results11, go_sem, x0, x1]) rfl ⟨rfl, B9⟩
 rw [h3]
 go_wp2_with fail
 go_at_call 58
 refine (H4.out h2 h3 _ hQ.out.below).mono ?_
 rintro e wq ⟨rfl, hbn⟩
 replace hQ := hide (hQ.out.grow hbn)
 clear hbn
 clear zc c0 c1 c2 c3 c4 c5 c6 c7 zP p0 p1 s0 s1 s2 s3 s4 s5 s6 s7 zS zR r0 r1 fr0 fr1
 obtain ⟨zc, c0, c1, c2, c3, c4, c5, c6, c7, zP, p0, p1, s0, s1, s2, s3, s4, s5, s6, s7, zS, zR, r0, r1, fr0, fr1⟩ := hQ.out.facts
 cases h4 : (beginsB s ⟨no, p⟩ && chosenB s l)
 case false =>
  obtain ⟨hq1, hq2, hq3⟩ := hbad.out 1 (by
   rw [hdef.out, if_neg (by simpa using h2), if_neg (by simpa using h3)]
   cases hb1 : beginsB s ⟨no, p⟩ <;> cases hb2 : chosenB s l <;> simp [hb1, hb2] at h4 ⊢) (by decide)
  subst hq1; subst hq2; subst hq3
  clear h2 h3 h4 hdef hgood hbad hab H3 H4 H5 H6 H7
  obtain ⟨x0, x1, B9⟩ := hQ.out.ret (I 0) (I 0)
  go_wp2_with fail
  generalize (wq.setCell ⟨w.heap.size + 1 + 1 + 1, 0, none⟩ (I 0)).setCell ⟨w.heap.size + 1 + 1 + 1, 1, none⟩ (I 0) = Wz at x0 x1 B9 ⊢
  refine bodyPost_ret (v := .tuple #[.agg #[I 0, I 0], I (1)]) (by simp [results, Tryz.results11, go_sem, x0, x1]) rfl ⟨rfl, B9⟩
 obtain ⟨h5, h6⟩ := Bool.and_eq_true_iff.1 h4
 go_wp2_with fail
 go_at_call 59
 refine (H5.out h2 _ hQ.out.below).mono ?_
 rintro e wq ⟨rfl, hbn⟩
 replace hQ := hide (hQ.out.grow hbn)
 clear hbn
 clear zc c0 c1 c2 c3 c4 c5 c6 c7 zP p0 p1 s0 s1 s2 s3 s4 s5 s6 s7 zS zR r0 r1 fr0 fr1
 obtain ⟨zc, c0, c1, c2, c3, c4, c5, c6, c7, zP, p0, p1, s0, s1, s2, s3, s4, s5, s6, s7, zS, zR, r0, r1, fr0, fr1⟩ := hQ.out.facts
 cases h7 : spellB ⟨no, p⟩ a b
 case false =>
  obtain ⟨hq1, hq2, hq3⟩ := hbad.out 1 (by
   rw [hdef.out, if_neg (by simpa using h2), if_neg (by simpa using h3), if_neg (by simp [h5]), if_neg (by simp [h6]), if_pos h7]) (by decide)
  subst hq1; subst hq2; subst hq3
  clear h2 h3 h4 h5 h6 h7 hdef hgood hbad hab H3 H4 H5 H6 H7
  obtain ⟨x0, x1, B9⟩ := hQ.out.ret (I 0) (I 0)
  go_wp2_with fail
  generalize (wq.setCell ⟨w.heap.size + 1 + 1 + 1, 0, none⟩ (I 0)).setCell ⟨w.heap.size + 1 + 1 + 1, 1, none⟩ (I 0) = Wz at x0 x1 B9 ⊢
  refine bodyPost_ret (v := .tuple #[.agg #[I 0, I 0], I (1)]) (by simp [results, Tryz.results11, go_sem, x0, x1]) rfl ⟨rfl, B9⟩
 have hEp := hide (show E = poolsE s by rw [hdef.out, if_neg (by simpa using h2), if_neg (by simpa using h3), if_neg (by simp [h5]), if_neg (by simp [h6]), if_neg (by simp [h7])])
 have hEl := hide (pools_least h3)
 go_wp2_with fail
 go_at_call 60
 refine (H6.out h3 _ hQ.out.below).mono ?_
 rintro e wq ⟨va, vb, rfl, hsl, hbn⟩
 replace hQ := hide (hQ.out.grow hbn)
 clear hbn
 clear zc c0 c1 c2 c3 c4 c5 c6 c7 zP p0 p1 s0 s1 s2 s3 s4 s5 s6 s7 zS zR r0 r1 fr0 fr1
 obtain ⟨zc, c0, c1, c2, c3, c4, c5, c6, c7, zP, p0, p1, s0, s1, s2, s3, s4, s5, s6, s7, zS, zR, r0, r1, fr0, fr1⟩ := hQ.out.facts
 by_cases h8 : poolsE s = 0
 case neg =>
  have hne : (poolsE s != 0) = true := by simpa using h8
  obtain ⟨hq1, hq2, hq3⟩ := hbad.out (poolsE s) hEp.out h8
  obtain ⟨F, hF⟩ : ∃ F, poolsE s = F := ⟨_, rfl⟩
  rw [hF] at hq1 hne ⊢
  subst hq1; subst hq2; subst hq3
  clear h2 h3 h4 h5 h6 h7 h8 hF hdef hgood hbad hab H3 H4 H5 H6 H7 hsl hEp hEl
  obtain ⟨x0, x1, B9⟩ := hQ.out.ret (I 0) (I 0)
  go_wp2_with fail
  generalize (wq.setCell ⟨w.heap.size + 1 + 1 + 1, 0, none⟩ (I 0)).setCell ⟨w.heap.size + 1 + 1 + 1, 1, none⟩ (I 0) = Wz at x0 x1 B9 ⊢
  refine bodyPost_ret (v := .tuple #[.agg #[I 0, I 0], I (E)]) (by simp [results, Tryz.results11, go_sem, x0, x1]) rfl ⟨rfl, B9⟩
 obtain ⟨k1, k2⟩ := hsl h8
 rw [h8]
 have hE0 : E = 0 := by rw [hEp.out, h8]
 obtain ⟨hX, hY⟩ := hgood.out hE0 h8
 have h9 : leastE s = 0 := by rw [← hEl.out]; exact h8
 have HV := hide (fun w' (hb : Below w.heap.size w w') hva hvb => H7.out h2 h3 h9 h6 (hab.out h7) va vb w' hb hva hvb)
 rw [← hX, ← hY] at HV
 subst hE0
 replace k1 := hide k1
 replace k2 := hide k2
 clear hX hY h1 h2 h3 h4 h5 h6 h7 h8 h9 hsl hEp hEl hdef hgood hbad hab H1 H2 H3 H4 H5 H6 H7
 go_wp2_with fail
 go_at_call 61
 refine (HV.out _ hQ.out.below k1.out k2.out).mono ?_
 rintro e wq ⟨rfl, hbn⟩
 replace hQ := hide (hQ.out.grow hbn)
 clear hbn
 clear zc c0 c1 c2 c3 c4 c5 c6 c7 zP p0 p1 s0 s1 s2 s3 s4 s5 s6 s7 zS zR r0 r1 fr0 fr1
 clear k1 k2
 obtain ⟨zc, c0, c1, c2, c3, c4, c5, c6, c7, zP, p0, p1, s0, s1, s2, s3, s4, s5, s6, s7, zS, zR, r0, r1, fr0, fr1⟩ := hQ.out.facts
 obtain ⟨x0, x1, B9⟩ := hQ.out.ret (I X) (I Y)
 go_wp2_with fail
 generalize (wq.setCell ⟨w.heap.size + 1 + 1 + 1, 0, none⟩ (I X)).setCell ⟨w.heap.size + 1 + 1 + 1, 1, none⟩ (I Y) = Wz at x0 x1 B9 ⊢
 refine bodyPost_ret (v := .tuple #[.agg #[I X, I Y], I (0)]) (by simp [results, Tryz.results11, go_sem, x0, x1]) rfl ⟨rfl, B9⟩
end Go.Proofs.YtoojedjmlcdomaaGreatDoor
