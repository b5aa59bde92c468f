/- The package spring: pools. Conditions stand in the theorems. -/
import Derived.Test.YtifeniiefhpadaaGreatDoorPoolLibPack
set_option linter.all false
set_option maxHeartbeats 8000000
set_option maxRecDepth 100000
namespace Go.Proofs.YtifeniiefhpadaaGreatDoor
open Go.RowKit

theorem leastF_last {s : Scene} (h : SceneOk s) : (leastF s)[s.days.length - 1]? = some (lastRow (leastF s)) ∧ (lastRow (leastF s)).length = s.basin.cells.length ∧ (leastF s).length = s.days.length :=
 rowsF_last (by have := h.hd1; omega) (by rw [botL, List.length_map, endsL]; exact (growF_len _ _ _).1)
theorem greatF_last {s : Scene} (h : SceneOk s) : (greatF s)[s.days.length - 1]? = some (lastRow (greatF s)) ∧ (lastRow (greatF s)).length = s.basin.cells.length ∧ (greatF s).length = s.days.length :=
 rowsF_last (by have := h.hd1; omega) (by rw [endsL]; exact (growF_len _ _ _).1)
theorem putAll12 (z0 z1 z2 z3 z4 z5 z6 z7 z8 z9 z10 z11 u0 u1 u2 u3 u4 u5 u6 u7 u8 u9 u10 u11 : Value) : putAll #[z0, z1, z2, z3, z4, z5, z6, z7, z8, z9, z10, z11] 0 [u0, u1, u2, u3, u4, u5, u6, u7, u8, u9, u10, u11] = #[u0, u1, u2, u3, u4, u5, u6, u7, u8, u9, u10, u11] := by simp [putAll]
def nilS : Value := .slice none 0 0
theorem PY.new {W : World} {gl gh : Nat} {c : Climate} {no : Int} {vd : Value} (h1 : Blk W gl 114 (poolC c no vd nilS nilS)) (h2 : Blk W gh 114 (poolC c no vd nilS nilS)) (hn : gl ≠ gh) :
  PY W W W.heap.size gl gh (poolC c no vd nilS nilS) (poolC c no vd nilS nilS) nilS [] nilS [] nilS [] nilS [] :=
 ⟨Nat.le_refl _, h1.lt, h2.lt, hn, Keep.refl _ _ _, h1, h2, Own.nil_ _ _ _ _ _, Own.nil_ _ _ _ _ _, Own.nil_ _ _ _ _ _, Own.nil_ _ _ _ _ _, Apart.nil_l _, Apart.nil_l _⟩

theorem spring_pools_ok (c : Climate) (no : Int) (vd : Value) (p : List Weather) (s : Scene) (V : SceneV) (vl : Value) (l : List Int) (w : World) (hs : SceneAt w s V) (hl : Sl w 1 intC vl l) (hd : Sl w 3 Weather.cells vd p) (hv : SceneOk s) (h1 : leastE s = 0) (h2 : greatE s = 0) :
  Calls Tryz.prog 62 #[c.v, .agg #[I no, vd], s.v V, vl] w fun e w' => ∃ a b a2 b2, e = .returned (.tuple #[poolV c no vd a b, poolV c no vd a2 b2, I 0]) ∧ Own w' w.heap.size 67 4 Cell.cells a (pickC s.basin.cells l) ∧ Own w' w.heap.size 3 1 intC b (pickW s.basin.cells (lastRow (leastF s)) l) ∧
   Own w' w.heap.size 67 4 Cell.cells a2 (pickC s.basin.cells l) ∧ Own w' w.heap.size 3 1 intC b2 (pickW s.basin.cells (lastRow (greatF s)) l) ∧ Below w.heap.size w w' := by
 have hsc := hide hs.cells
 obtain ⟨Ac, nc, hc, _, _, _, hAc⟩ := hs.cells.open_
 obtain ⟨Ap, np, hp, _⟩ := hs.pairs.open_
 obtain ⟨Ad, nd, hdd, _⟩ := hs.days.open_
 obtain ⟨As, ns, hsi, _⟩ := hs.sights.open_
 obtain ⟨Ah, nh, hch, _⟩ := hs.changes.open_
 have HL := hide (fun w' (hb : Below w.heap.size w w') => basin_Least s V w' (hs.mono hb))
 have HG := hide (fun w' (hb : Below w.heap.size w w') => basin_Greatest s V w' (hs.mono hb))
 obtain ⟨Aw, nw, rfl, _⟩ := hd.open_
 obtain ⟨Al, nl, rfl, _⟩ := hl.open_
 have hc1 := hv.basin.hc1
 have hc2 := hv.basin.hc2
 have hm1 := hv.hd1
 have hm2 := hv.hd2
 obtain ⟨rl1, rl2, rl3⟩ := leastF_last hv
 obtain ⟨rg1, rg2, rg3⟩ := greatF_last hv
 simp only [h1, h2] at HL HG
 obtain ⟨FL, hFL⟩ : ∃ FL, leastF s = FL := ⟨_, rfl⟩
 obtain ⟨FG, hFG⟩ : ∃ FG, greatF s = FG := ⟨_, rfl⟩
 rw [hFL] at HL rl1 rl2 rl3 ⊢
 rw [hFG] at HG rg1 rg2 rg3 ⊢
 obtain ⟨rl, hrl⟩ : ∃ r, lastRow FL = r := ⟨_, rfl⟩
 obtain ⟨rg, hrg⟩ : ∃ r, lastRow FG = r := ⟨_, rfl⟩
 rw [hrl] at rl1 rl2 ⊢
 rw [hrg] at rg1 rg2 ⊢
 obtain ⟨m1, hmm⟩ : ∃ m1, s.days.length - 1 = m1 := ⟨_, rfl⟩
 rw [hmm] at rl1 rg1
 have hk : IntKind.i64.wrap ((s.days.length : Int) - 1) = (m1 : Int) := by rw [IntWalk.i64_in _ (by omega)]; omega
 have hml : m1 < s.days.length := by omega
 clear hmm hrl hrg hFL hFG h1 h2 hv
 replace hd := hide hd
 replace hl := hide hl
 replace rl1 := hide rl1
 replace rg1 := hide rg1
 unfold Scene.v at *
 rw [hc] at hsc
 rw [hc, hp, hdd, hsi, hch] at HL HG ⊢
 replace hAc := hide (show ∀ i, i < s.basin.cells.length → ∃ b off, Ac = some ⟨b, off, none⟩ ∧ b < w.heap.size from fun i hi => hAc i hi)
 clear hs hc hp hdd hsi hch
 unfold Climate.v
 unfold poolV
 go_enter Tryz.func62, Tryz.ntmps62
 go_wp2_with fail
 obtain ⟨W1, hW1⟩ : ∃ W1, W1 = ((((w.alloc (.cells (c8 c) 25)).alloc (.cells #[I no, .slice Aw p.length nw] 58)).alloc (.cells (s8 s Ac nc Ap np Ad nd As ns Ah nh) 77)).alloc (.cells #[I 0, I 0, I 0, I 0, I 0, I 0, I 0, I 0, I 0, .slice none 0 0, .slice none 0 0, .slice none 0 0] 114)).alloc (.cells #[I 0, I 0, I 0, I 0, I 0, I 0, I 0, I 0, I 0, .slice none 0 0, .slice none 0 0, .slice none 0 0] 114) := ⟨_, rfl⟩
 have z1 : W1.heap.size = w.heap.size + 5 := by rw [hW1]; simp
 have kB1 : Below w.heap.size w W1 := by rw [hW1]; exact below5 _ _ _ _ _ _
 have kC1 : Blk W1 w.heap.size 25 (c8 c) := by rw [hW1]; exact ((((Blk.new w _ _).alloc _).alloc _).alloc _).alloc _
 have kS1 : Blk W1 (w.heap.size + 1) 58 #[I no, .slice Aw p.length nw] := by rw [hW1]; exact (((blk21 w _ _ _).alloc _).alloc _).alloc _
 have kX1 : Blk W1 (w.heap.size + 2) 77 (s8 s Ac nc Ap np Ad nd As ns Ah nh) := by rw [hW1]; exact ((blk32 w _ _ _ _).alloc _).alloc _
 have kP1 : Blk W1 (w.heap.size + 3) 114 #[I 0, I 0, I 0, I 0, I 0, I 0, I 0, I 0, I 0, .slice none 0 0, .slice none 0 0, .slice none 0 0] := by
  rw [hW1]
  refine Blk.alloc ?_ _
  have := Blk.new (((w.alloc (.cells (c8 c) 25)).alloc (.cells #[I no, .slice Aw p.length nw] 58)).alloc (.cells (s8 s Ac nc Ap np Ad nd As ns Ah nh) 77)) 114 #[I 0, I 0, I 0, I 0, I 0, I 0, I 0, I 0, I 0, .slice none 0 0, .slice none 0 0, .slice none 0 0]
  simpa only [World.size_alloc] using this
 have kQ1 : Blk W1 (w.heap.size + 4) 114 #[I 0, I 0, I 0, I 0, I 0, I 0, I 0, I 0, I 0, .slice none 0 0, .slice none 0 0, .slice none 0 0] := by
  rw [hW1]
  have := Blk.new ((((w.alloc (.cells (c8 c) 25)).alloc (.cells #[I no, .slice Aw p.length nw] 58)).alloc (.cells (s8 s Ac nc Ap np Ad nd As ns Ah nh) 77)).alloc (.cells #[I 0, I 0, I 0, I 0, I 0, I 0, I 0, I 0, I 0, .slice none 0 0, .slice none 0 0, .slice none 0 0] 114)) 114 #[I 0, I 0, I 0, I 0, I 0, I 0, I 0, I 0, I 0, .slice none 0 0, .slice none 0 0, .slice none 0 0]
  simpa only [World.size_alloc] using this
 rw [← hW1]
 clear hW1
 have zX1 := kX1.lt
 obtain ⟨cx0, cx1, cx2, cx3, cx4, cx5, cx6, cx7⟩ := kX1.cells8
 go_at_call 95
 refine (HL.out W1 kB1).mono ?_
 rintro e w2 ⟨v1, rfl, hr1, _, hb1⟩
 replace hr1 := hr1 trivial
 obtain ⟨g1, mm1, u1, cu1, rfl, ga1, gb1, gc1, gd1, ge1, gf1⟩ := hr1.at_ rl1.out (by rw [rl2]; exact hc1)
 have hx2 := fun o => (bcell hb1).1 (w.heap.size + 1 + 1) o zX1
 have kC2 := kC1.grow hb1
 have kS2 := kS1.grow hb1
 have kX2 := kX1.grow hb1
 have kP2 := kP1.grow hb1
 have kQ2 := kQ1.grow hb1
 have kB2 := bup kB1 hb1
 have z2 := hb1.size
 clear hr1 hb1 HL kC1 kS1 kX1 kP1 kQ1 kB1
 rw [rl3]
 rw [rl2] at gc1
 replace gc1 := hide gc1
 replace gf1 := hide gf1
 replace kC2 := hide kC2
 replace kS2 := hide kS2
 replace kX2 := hide kX2
 replace kP2 := hide kP2
 replace kQ2 := hide kQ2
 have zX2 := kX2.out.lt
 go_wp2_with fail
 go_at_call 96
 refine (HG.out w2 kB2).mono ?_
 rintro e w3 ⟨v2, rfl, hr2, _, hb2⟩
 replace hr2 := hr2 trivial
 obtain ⟨g2, mm2, u2, cu2, rfl, ha1, hb1, hc1', hd1, he1, hf1⟩ := hr2.at_ rg1.out (by rw [rg2]; exact hc1)
 have hx3 := fun o => (bcell hb2).1 (w.heap.size + 1 + 1) o zX2
 have kC3 := kC2.out.grow hb2
 have kS3 := kS2.out.grow hb2
 have kX3 := hide (kX2.out.grow hb2)
 have kP3 := hide (kP2.out.grow hb2)
 have kQ3 := hide (kQ2.out.grow hb2)
 have kB3 := bup kB2 hb2
 have z3 := hb2.size
 have gc3 := hide ((hb2.cell (p := ⟨g1, m1, none⟩) gb1).trans gc1.out)
 have gf3 := hide (fun (i : Nat) (x : Int) (hx : rl[i]? = some x) => (hb2.cell (p := ⟨u1, i, none⟩) ge1).trans (gf1.out i x hx))
 clear hr2 hb2 HG kC2 kS2 kX2 kP2 kQ2 kB2 gc1 gf1
 rw [rg3]
 rw [rg2] at hc1'
 replace hc1' := hide hc1'
 replace hf1 := hide hf1
 go_wp2_with fail
 clear hx2 hx3 cx0 cx1 cx2 cx3 cx4 cx5 cx6 cx7
 obtain ⟨q0, q1, q2, q3, q4, q5, q6, q7⟩ := kC3.cells8
 obtain ⟨s0, s1⟩ := kS3.cells2
 have zC := kC3.lt
 have zS := kS3.lt
 clear kC3 kS3
 refine wp_region_zg (S := fun W => (W.cell? ⟨w.heap.size, 0, none⟩ = some (I c.base) ∧ W.cell? ⟨w.heap.size, 1, none⟩ = some (I c.lapse) ∧ W.cell? ⟨w.heap.size, 2, none⟩ = some (I c.swing) ∧ W.cell? ⟨w.heap.size, 3, none⟩ = some (I c.wettest) ∧ W.cell? ⟨w.heap.size, 4, none⟩ = some (I c.coldest) ∧ W.cell? ⟨w.heap.size, 5, none⟩ = some (I c.warmest) ∧ W.cell? ⟨w.heap.size, 6, none⟩ = some (I c.flo) ∧ W.cell? ⟨w.heap.size, 7, none⟩ = some (I c.fhi)) ∧ W.cell? ⟨w.heap.size + 1, 0, none⟩ = some (I no) ∧ W.cell? ⟨w.heap.size + 1, 1, none⟩ = some (.slice Aw p.length nw)) 9 (by kernel_rfl) (by kernel_rfl) ?_
 have hS0 : (fun W : World => (W.cell? ⟨w.heap.size, 0, none⟩ = some (I c.base) ∧ W.cell? ⟨w.heap.size, 1, none⟩ = some (I c.lapse) ∧ W.cell? ⟨w.heap.size, 2, none⟩ = some (I c.swing) ∧ W.cell? ⟨w.heap.size, 3, none⟩ = some (I c.wettest) ∧ W.cell? ⟨w.heap.size, 4, none⟩ = some (I c.coldest) ∧ W.cell? ⟨w.heap.size, 5, none⟩ = some (I c.warmest) ∧ W.cell? ⟨w.heap.size, 6, none⟩ = some (I c.flo) ∧ W.cell? ⟨w.heap.size, 7, none⟩ = some (I c.fhi)) ∧ W.cell? ⟨w.heap.size + 1, 0, none⟩ = some (I no) ∧ W.cell? ⟨w.heap.size + 1, 1, none⟩ = some (.slice Aw p.length nw)) w3.drew := by
  dsimp only
  go_keep
 (refine zg_tk 0 ?_; refine zg_tk 1 ?_; refine zg_tk 2 ?_; refine zg_tk 3 ?_; refine zg_tk 4 ?_; refine zg_tk 5 ?_; (try go_frame))
 obtain ⟨n3, hn3⟩ : ∃ n3, w3.heap.size = n3 := ⟨_, rfl⟩
 replace hn3 := hide hn3
 apply via
 case f =>
  intro key
  refine zg_two (i := 6) (j := 7) (by decide) (by decide) rfl rfl (by kernel_rfl) (fun K_ hK_ => ?_) (fun K_ hK_ => ?_)
  ·go_simp
   refine hK_.out _ _ ?_ (fun hHeld => ?_)
   ·go_keep
   clear hK_ K_
   (try go_frame)
   (refine zg_rd 7 fun K_ hK_ => ?_; go_simp; skip; refine hK_.out _ _ ?_ (fun hHeld => ?_); rotate_left; clear hK_ K_; (try go_frame); rotate_left)
   ·go_keep
   (refine zg_rd 8 fun K_ hK_ => ?_; go_simp; skip; refine hK_.out _ _ ?_ (fun hHeld => ?_); rotate_left; clear hK_ K_; (try go_frame); rotate_left)
   ·go_keep
   (refine zg_ls 9 fun K_ hK_ => ?_; go_simp; skip; refine hK_.out _ _ ?_; clear hK_ K_; (try go_frame))
   have hk1 : Blk ((w3.alloc (.cells #[I c.base, I c.lapse, I c.swing, I c.wettest, I c.coldest, I c.warmest, I c.flo, I c.fhi, I no, .slice Aw p.length nw, .slice none 0 0, .slice none 0 0] 114)).alloc (.cells #[I c.base, I c.lapse, I c.swing, I c.wettest, I c.coldest, I c.warmest, I c.flo, I c.fhi, I no, .slice Aw p.length nw, .slice none 0 0, .slice none 0 0] 114)).drew w3.heap.size 114 (poolC c no (.slice Aw p.length nw) nilS nilS) := ((Blk.new _ _ _).alloc _).drew
   have hk2 : Blk ((w3.alloc (.cells #[I c.base, I c.lapse, I c.swing, I c.wettest, I c.coldest, I c.warmest, I c.flo, I c.fhi, I no, .slice Aw p.length nw, .slice none 0 0, .slice none 0 0] 114)).alloc (.cells #[I c.base, I c.lapse, I c.swing, I c.wettest, I c.coldest, I c.warmest, I c.flo, I c.fhi, I no, .slice Aw p.length nw, .slice none 0 0, .slice none 0 0] 114)).drew (w3.heap.size + 1) 114 (poolC c no (.slice Aw p.length nw) nilS nilS) := by
    have := (Blk.new (w3.alloc (.cells #[I c.base, I c.lapse, I c.swing, I c.wettest, I c.coldest, I c.warmest, I c.flo, I c.fhi, I no, .slice Aw p.length nw, .slice none 0 0, .slice none 0 0] 114)) 114 (poolC c no (.slice Aw p.length nw) nilS nilS)).drew
    rw [World.size_alloc] at this
    exact this
   have hbw : Below n3 w3 ((w3.alloc (.cells #[I c.base, I c.lapse, I c.swing, I c.wettest, I c.coldest, I c.warmest, I c.flo, I c.fhi, I no, .slice Aw p.length nw, .slice none 0 0, .slice none 0 0] 114)).alloc (.cells #[I c.base, I c.lapse, I c.swing, I c.wettest, I c.coldest, I c.warmest, I c.flo, I c.fhi, I no, .slice Aw p.length nw, .slice none 0 0, .slice none 0 0] 114)).drew := by rw [← hn3.out]; exact (below2 _ _ _).drew
   have hPY := PY.new hk1 hk2 (show w3.heap.size ≠ (w3.heap.size + 1) by omega)
   have hg1 : n3 ≤ w3.heap.size := by have := hn3.out; omega
   have hg2 : n3 ≤ (w3.heap.size + 1) := by have := hn3.out; omega
   clear hHeld hk1 hk2
   generalize ((w3.alloc (.cells #[I c.base, I c.lapse, I c.swing, I c.wettest, I c.coldest, I c.warmest, I c.flo, I c.fhi, I no, .slice Aw p.length nw, .slice none 0 0, .slice none 0 0] 114)).alloc (.cells #[I c.base, I c.lapse, I c.swing, I c.wettest, I c.coldest, I c.warmest, I c.flo, I c.fhi, I no, .slice Aw p.length nw, .slice none 0 0, .slice none 0 0] 114)).drew = W8 at hbw hPY ⊢
   revert hbw hPY hg1 hg2
   generalize w3.heap.size + 1 = gh
   generalize w3.heap.size = gl
   revert gh
   revert gl
   revert W8
   exact key.out
  ·go_simp
   refine hK_.out _ _ ?_ (fun hHeld => ?_)
   ·go_keep
   clear hK_ K_
   (try go_frame)
   (refine zg_rd 6 fun K_ hK_ => ?_; go_simp; skip; refine hK_.out _ _ ?_ (fun hHeld => ?_); rotate_left; clear hK_ K_; (try go_frame); rotate_left)
   ·go_keep
   (refine zg_rd 8 fun K_ hK_ => ?_; go_simp; skip; refine hK_.out _ _ ?_ (fun hHeld => ?_); rotate_left; clear hK_ K_; (try go_frame); rotate_left)
   ·go_keep
   (refine zg_ls 9 fun K_ hK_ => ?_; go_simp; skip; refine hK_.out _ _ ?_; clear hK_ K_; (try go_frame))
   have hk1 : Blk ((w3.alloc (.cells #[I c.base, I c.lapse, I c.swing, I c.wettest, I c.coldest, I c.warmest, I c.flo, I c.fhi, I no, .slice Aw p.length nw, .slice none 0 0, .slice none 0 0] 114)).alloc (.cells #[I c.base, I c.lapse, I c.swing, I c.wettest, I c.coldest, I c.warmest, I c.flo, I c.fhi, I no, .slice Aw p.length nw, .slice none 0 0, .slice none 0 0] 114)).drew w3.heap.size 114 (poolC c no (.slice Aw p.length nw) nilS nilS) := ((Blk.new _ _ _).alloc _).drew
   have hk2 : Blk ((w3.alloc (.cells #[I c.base, I c.lapse, I c.swing, I c.wettest, I c.coldest, I c.warmest, I c.flo, I c.fhi, I no, .slice Aw p.length nw, .slice none 0 0, .slice none 0 0] 114)).alloc (.cells #[I c.base, I c.lapse, I c.swing, I c.wettest, I c.coldest, I c.warmest, I c.flo, I c.fhi, I no, .slice Aw p.length nw, .slice none 0 0, .slice none 0 0] 114)).drew (w3.heap.size + 1) 114 (poolC c no (.slice Aw p.length nw) nilS nilS) := by
    have := (Blk.new (w3.alloc (.cells #[I c.base, I c.lapse, I c.swing, I c.wettest, I c.coldest, I c.warmest, I c.flo, I c.fhi, I no, .slice Aw p.length nw, .slice none 0 0, .slice none 0 0] 114)) 114 (poolC c no (.slice Aw p.length nw) nilS nilS)).drew
    rw [World.size_alloc] at this
    exact this
   have hbw : Below n3 w3 ((w3.alloc (.cells #[I c.base, I c.lapse, I c.swing, I c.wettest, I c.coldest, I c.warmest, I c.flo, I c.fhi, I no, .slice Aw p.length nw, .slice none 0 0, .slice none 0 0] 114)).alloc (.cells #[I c.base, I c.lapse, I c.swing, I c.wettest, I c.coldest, I c.warmest, I c.flo, I c.fhi, I no, .slice Aw p.length nw, .slice none 0 0, .slice none 0 0] 114)).drew := by rw [← hn3.out]; exact (below2 _ _ _).drew
   have hPY := PY.new hk2 hk1 (show (w3.heap.size + 1) ≠ w3.heap.size by omega)
   have hg1 : n3 ≤ (w3.heap.size + 1) := by have := hn3.out; omega
   have hg2 : n3 ≤ w3.heap.size := by have := hn3.out; omega
   clear hHeld hk1 hk2
   generalize ((w3.alloc (.cells #[I c.base, I c.lapse, I c.swing, I c.wettest, I c.coldest, I c.warmest, I c.flo, I c.fhi, I no, .slice Aw p.length nw, .slice none 0 0, .slice none 0 0] 114)).alloc (.cells #[I c.base, I c.lapse, I c.swing, I c.wettest, I c.coldest, I c.warmest, I c.flo, I c.fhi, I no, .slice Aw p.length nw, .slice none 0 0, .slice none 0 0] 114)).drew = W8 at hbw hPY ⊢
   revert hbw hPY hg1 hg2
   generalize w3.heap.size + 1 = gl
   generalize w3.heap.size = gh
   revert gh
   revert gl
   revert W8
   exact key.out
 case g =>
  intro W8 gl gh hg1 hg2 hbw hPY
  replace hn3 := hn3.out
  have hbw' : Below w3.heap.size w3 W8 := by rw [hn3]; exact hbw
  have kB8 := bup kB3 hbw'
  have kX8 := kX3.out.grow hbw'
  have kP8 := hide (kP3.out.grow hbw')
  have kQ8 := hide (kQ3.out.grow hbw')
  have gc8 := hide ((hbw'.cell (p := ⟨g1, m1, none⟩) (by show g1 < _; omega)).trans gc3.out)
  have gf8 := hide (fun (i : Nat) (x : Int) (hx : rl[i]? = some x) => (hbw'.cell (p := ⟨u1, i, none⟩) (by show u1 < _; omega)).trans (gf3.out i x hx))
  have hc8 := hide ((hbw'.cell (p := ⟨g2, m1, none⟩) hb1).trans hc1'.out)
  have hf8 := hide (fun (i : Nat) (x : Int) (hx : rg[i]? = some x) => (hbw'.cell (p := ⟨u2, i, none⟩) he1).trans (hf1.out i x hx))
  have z8 := hbw'.size
  obtain ⟨B, hB⟩ : ∃ B, W8.heap.size = B := ⟨_, rfl⟩
  have hPB : PY W8 W8 B gl gh (poolC c no (.slice Aw p.length nw) nilS nilS) (poolC c no (.slice Aw p.length nw) nilS nilS) nilS [] nilS [] nilS [] nilS [] := by rw [← hB]; exact hPY
  have cx0 : W8.cell? ⟨w.heap.size + 1 + 1, 0, none⟩ = some (.slice Ac s.basin.cells.length nc) := kX8.cell 0
  have zx8 := kX8.lt
  have zw8 := kB8.size
  rw [hB] at z8 zw8
  replace hPB := hide hPB
  replace hB := hide hB
  have hgg : ∀ g, g < n3 → g < B ∧ ¬ (g = gl ∨ g = gh) := fun g hg => by omega
  replace hgg := hide hgg
  have hzw : w.heap.size ≤ n3 := by have := kB3.size; omega
  clear hS0 hPY hbw hbw' q0 q1 q2 q3 q4 q5 q6 q7 s0 s1 kX8 kX3 kP3 kQ3 gc3 gf3 hc1' hf1 kB3
  go_wp2_with fail
  clear cx0 zx8
  go_loopw [53] (fun i wr => ∃ (k : Nat) (a b a2 b2 : Value), k ≤ s.basin.cells.length ∧ i = I k ∧ Hid (PY W8 wr B gl gh (poolC c no (.slice Aw p.length nw) a b) (poolC c no (.slice Aw p.length nw) a2 b2) a (pickC (s.basin.cells.take k) l) b (pickP ((s.basin.cells.zip rl).take k) l) a2 (pickC (s.basin.cells.take k) l) b2 (pickP ((s.basin.cells.zip rg).take k) l))) (fun i _ => s.basin.cells.length - (intOf i).toNat)
  case atStart => exact ⟨0, nilS, nilS, nilS, nilS, Nat.zero_le _, rfl, hPB⟩
  case round =>
   clear hPB
   obtain ⟨k, a, b, a2, b2, hk', rfl, hP⟩ := hrel
   by_cases hlt : k < s.basin.cells.length
   ·obtain ⟨g, off, rfl, hgw⟩ := hAc.out k hlt
    obtain ⟨x, hx⟩ := getElem?_of_lt hlt
    obtain ⟨u, hu⟩ := getElem?_of_lt (xs := rl) (k := k) (by omega)
    obtain ⟨v, hv⟩ := getElem?_of_lt (xs := rg) (k := k) (by omega)
    obtain ⟨A1, n1, k1, rfl⟩ := hP.out.o1.shape
    obtain ⟨A2, n2, k2, rfl⟩ := hP.out.o2.shape
    obtain ⟨A3, n3', k3, rfl⟩ := hP.out.o3.shape
    obtain ⟨A4, n4, k4, rfl⟩ := hP.out.o4.shape
    have kk := hP.out.keep
    obtain ⟨zg, e0, e1, e2, e3⟩ := (kk.sl hsc.out kB8 (Nat.le_refl _) (by omega) (fun b hb => by omega)).cell_at hx
    have hlw := hide (kk.sl hl.out kB8 (Nat.le_refl _) (by omega) (fun b hb => by omega))
    have y2 := hide (gf8.out k u hu)
    have y4 := hide (hf8.out k v hv)
    clear hAc hsc hl gf8 hf8 kk
    cases hq : (l.any fun y => y == x.no) with
    | false =>
     have H1 := hide (fun w hv => contains_int (.slice Al l.length nl) l x.no w hv)
     rw [hq] at H1
     have f1 := hide (pickC_out hx hq)
     have f2 := hide (pickP_out (zip_at hx hu) hq)
     have f3 := hide (pickP_out (zip_at hx hv) hq)
     clear hx hu hv
     go_wp2_with (go_at_call 16; refine (H1.out _ (hlw.out.mono (below1 _ _))).mono ?_; rintro e w' ⟨rfl, rfl⟩)
     go_roundw
     case rel => exact ⟨k + 1, _, _, _, _, by omega, by go_num, hide (by rw [f1.out, f2.out, f3.out]; exact hP.out.below (below1 _ _))⟩
     case measure => simp [intOf]; omega
    | true =>
     have H1 := hide (fun w hv => contains_int (.slice Al l.length nl) l x.no w hv)
     rw [hq] at H1
     have f1 := hide (pickC_in hx hq)
     have f2 := hide (pickP_in (zip_at hx hu) hq)
     have f3 := hide (pickP_in (zip_at hx hv) hq)
     have hPX := hide (PX.new hP.out #[I x.no, I x.height, I x.aspect, I x.area])
     have hb0 := hide (below1 wr (.cells #[I x.no, I x.height, I x.aspect, I x.area] 67))
     have L1 := Nat.le_trans (pickC_len (s.basin.cells.take k) l) (List.length_take_le _ _)
     have L2 := Nat.le_trans (pickP_len ((s.basin.cells.zip rl).take k) l) (List.length_take_le _ _)
     have L3 := Nat.le_trans (pickP_len ((s.basin.cells.zip rg).take k) l) (List.length_take_le _ _)
     clear hx hu hv
     go_wp2_with (first | (go_at_call 16; refine (H1.out _ (hlw.out.mono (below1 _ _))).mono ?_; rintro e w' ⟨rfl, rfl⟩) | fail)
     obtain ⟨Wx, hWx⟩ : ∃ Wx, Wx = wr.alloc (.cells #[I x.no, I x.height, I x.aspect, I x.area] 67) := ⟨_, rfl⟩
     rw [← hWx] at hPX hb0 ⊢
     clear hWx hlw e0 e1 e2 e3
     have HS : ∀ (W : World) (H : Array Value) (a : Value) (cs : List Cell) (b : Value) (ws : List Int) (a2 : Value) (cs2 : List Cell) (b2 : Value) (ws2 : List Int), PX W8 W B gl gh wr.heap.size (poolC c no (.slice Aw p.length nw) (.slice A1 n1 k1) (.slice A2 n2 k2)) H #[I x.no, I x.height, I x.aspect, I x.area] a cs b ws a2 cs2 b2 ws2 → (fun W : World => W.cell? ⟨gl, 10, none⟩ = some (.slice A1 n1 k1) ∧ W.cell? ⟨gl, 11, none⟩ = some (.slice A2 n2 k2) ∧ W.cell? ⟨wr.heap.size, 0, none⟩ = some (I x.no) ∧ W.cell? ⟨wr.heap.size, 1, none⟩ = some (I x.height) ∧ W.cell? ⟨wr.heap.size, 2, none⟩ = some (I x.aspect) ∧ W.cell? ⟨wr.heap.size, 3, none⟩ = some (I x.area) ∧ W.cell? ⟨g1, m1, none⟩ = some (.slice (some ⟨u1, 0, none⟩) s.basin.cells.length cu1) ∧ W.cell? ⟨u1, k, none⟩ = some (I u)) W := by
      intro W H a cs b ws a2 cs2 b2 ws2 px
      have hne1 := hgg.out g1 (by omega)
      have hne2 := hgg.out u1 (by omega)
      exact ⟨px.py.bl.cell 10, px.py.bl.cell 11, px.bx.cell 0, px.bx.cell 1, px.bx.cell 2, px.bx.cell 3, (px.py.keep.cell hne1.1 (by have := hne1.2; omega)).trans gc8.out, (px.py.keep.cell hne2.1 (by have := hne2.2; omega)).trans y2.out⟩
     replace HS := hide HS
     refine wp_region_zg (S := fun W => W.cell? ⟨gl, 10, none⟩ = some (.slice A1 n1 k1) ∧ W.cell? ⟨gl, 11, none⟩ = some (.slice A2 n2 k2) ∧ W.cell? ⟨wr.heap.size, 0, none⟩ = some (I x.no) ∧ W.cell? ⟨wr.heap.size, 1, none⟩ = some (I x.height) ∧ W.cell? ⟨wr.heap.size, 2, none⟩ = some (I x.aspect) ∧ W.cell? ⟨wr.heap.size, 3, none⟩ = some (I x.area) ∧ W.cell? ⟨g1, m1, none⟩ = some (.slice (some ⟨u1, 0, none⟩) s.basin.cells.length cu1) ∧ W.cell? ⟨u1, k, none⟩ = some (I u)) 17 (by kernel_rfl) (by kernel_rfl) ?_
     have hS0 := HS.out Wx.drew _ _ _ _ _ _ _ _ _ (hPX.out.below (Below.refl _ _).drew)
     (refine zg_tk 0 ?_; refine zg_tk 1 ?_; refine zg_tk 2 ?_; refine zg_tk 5 ?_; refine zg_tk 6 ?_; refine zg_tk 7 ?_; refine zg_tk 8 ?_; refine zg_tk 9 ?_; refine zg_tk 10 ?_; refine zg_tk 11 ?_; refine zg_tk 12 ?_; refine zg_tk 13 ?_; (try go_frame))
     have hP0 := hide (hPX.out.below (Below.refl _ _).drew)
     apply via
     case f =>
      intro key
      refine zg_two (i := 3) (j := 14) (by decide) (by decide) rfl rfl (by kernel_rfl) (fun K_ hK_ => ?_) (fun K_ hK_ => ?_)
      ·go_simp
       have hq7 := hide (hP0.out.below (below1 Wx.drew (.cells #[I x.no, I x.height, I x.aspect, I x.area] 67)))
       have kl1 : Hid (Blk (Wx.drew.alloc (.cells #[I x.no, I x.height, I x.aspect, I x.area] 67)) Wx.heap.size 67 (Cell.cells x).toArray) := hide (by have h := Blk.new Wx.drew 67 (Cell.cells x).toArray; first | exact h | (rw [World.size_alloc] at h; exact h))
       refine hK_.out _ _ (HS.out _ _ _ _ _ _ _ _ _ _ hq7.out) (fun hHeld => ?_)
       clear hK_ K_
       (try go_frame)
       refine zg_two (i := 4) (j := 14) (by decide) (by decide) rfl rfl (by kernel_rfl) (fun K_ hK_ => ?_) (fun K_ hK_ => ?_)
       ·refine step_push_lies el_Cell Cell.cells_len Cell.cells_one rfl (.tmp 63) (.tmp 65) rfl B rfl hq7.out.py.o1 x rfl (fun j u hu => (kl1.out.cell j).trans (by simpa using hu)) (by omega) (by omega) hq7.out.py.size ?_
        intro a5 W5 ho hg hl5
        obtain ⟨A5, n5, k5, rfl⟩ := ho.shape
        have hP5 := hide (hq7.out.push1 ho hg hl5)
        refine hK_.out _ _ (HS.out _ _ _ _ _ _ _ _ _ _ hP5.out) (fun hHeld => ?_)
        clear hK_ K_
        (try go_frame)
        (refine zg_tk 16 ?_; (try go_frame))
        refine zg_ready (i := 14) (by decide) rfl (by kernel_rfl) (fun K_ hK_ => ?_)
        go_simp
        have hq2 := hide (hP5.out.below (below1 W5 (.cells #[I u] 3)))
        have kl2 : Hid (Blk (W5.alloc (.cells #[I u] 3)) W5.heap.size 3 (intC u).toArray) := hide (by have h := Blk.new W5 3 (intC u).toArray; first | exact h | (rw [World.size_alloc] at h; exact h))
        replace kl1 := hide (kl1.out.alloc (.cells #[I u] 3))
        refine hK_.out _ _ (HS.out _ _ _ _ _ _ _ _ _ _ hq2.out) (fun hHeld => ?_)
        clear hK_ K_
        (try go_frame)
        refine zg_ready (i := 15) (by decide) rfl (by kernel_rfl) (fun K_ hK_ => ?_)
        refine step_push_lies el_int intC_len intC_one rfl (.tmp 68) (.tmp 76) rfl B rfl hq2.out.py.o2 u rfl (fun j u hu => (kl2.out.cell j).trans (by simpa using hu)) (by omega) (by omega) hq2.out.py.size ?_
        intro b6 W6 ho6 hg6 hl6
        obtain ⟨A6, n6, k6, rfl⟩ := ho6.shape
        have hP6 := hide (hq2.out.push2 ho6 hg6 hl6)
        refine hK_.out _ _ (HS.out _ _ _ _ _ _ _ _ _ _ hP6.out) (fun hHeld => ?_)
        clear hK_ K_
        (try go_frame)
        have w10 : W6.cell? ⟨gl, 10, none⟩ = some (.slice A1 n1 k1) := hP6.out.py.bl.cell 10
        have w11 : W6.cell? ⟨gl, 11, none⟩ = some (.slice A2 n2 k2) := hP6.out.py.bl.cell 11
        have v10 := hP6.out.py.bl.frozen 10
        have v11 := hP6.out.py.bl.frozen 11
        refine zg_of_za ?_
        (refine za_ready (i := 17) (by decide) rfl (by kernel_rfl) (fun K_ hK_ => ?_); go_simp; skip; refine hK_.out _ _ ?_; clear hK_ K_; (try go_frame))
        (refine za_ready (i := 18) (by decide) rfl (by kernel_rfl) (fun K_ hK_ => ?_); go_simp; skip; refine hK_.out _ _ ?_; clear hK_ K_; (try go_frame))
        (refine za_ready (i := 19) (by decide) rfl (by kernel_rfl) (fun K_ hK_ => ?_); go_simp; skip; refine hK_.out _ _ ?_; clear hK_ K_; (try go_frame))
        refine za_end (by kernel_rfl) ?_
        have hP7 : PX W8 ((W6.setCell ⟨gl, 10, none⟩ (.slice A5 n5 k5)).setCell ⟨gl, 11, none⟩ (.slice A6 n6 k6)) B gl gh wr.heap.size (poolC c no (.slice Aw p.length nw) (.slice A5 n5 k5) (.slice A6 n6 k6)) _ _ _ _ _ _ _ _ _ _ := (hP6.out.setl 10 (.slice A5 n5 k5)).setl 11 (.slice A6 n6 k6)
        generalize ((W6.setCell ⟨gl, 10, none⟩ (.slice A5 n5 k5)).setCell ⟨gl, 11, none⟩ (.slice A6 n6 k6)) = Wy at hP7 ⊢
        generalize (Value.slice (some ⟨Wx.heap.size, 0, none⟩) 1 1) = v65
        generalize (Value.slice (some ⟨W5.heap.size, 0, none⟩) 1 1) = v76
        generalize ((.slice A5 n5 k5) : Value) = va at hP7 ⊢
        generalize ((.slice A6 n6 k6) : Value) = vb at hP7 ⊢
        revert hP7
        revert vb
        revert va
        revert v76
        revert v65
        revert Wy
        exact key.out
       ·go_simp
        have hq81 := hide (hq7.out.below (below1 (Wx.drew.alloc (.cells #[I x.no, I x.height, I x.aspect, I x.area] 67)) (.cells #[I u] 3)))
        have kl2 : Hid (Blk ((Wx.drew.alloc (.cells #[I x.no, I x.height, I x.aspect, I x.area] 67)).alloc (.cells #[I u] 3)) (Wx.heap.size + 1) 3 (intC u).toArray) := hide (by have h := Blk.new (Wx.drew.alloc (.cells #[I x.no, I x.height, I x.aspect, I x.area] 67)) 3 (intC u).toArray; first | exact h | (rw [World.size_alloc] at h; exact h))
        replace kl1 := hide (kl1.out.alloc (.cells #[I u] 3))
        refine hK_.out _ _ (HS.out _ _ _ _ _ _ _ _ _ _ hq81.out) (fun hHeld => ?_)
        clear hK_ K_
        (try go_frame)
        refine zg_ready (i := 4) (by decide) rfl (by kernel_rfl) (fun K_ hK_ => ?_)
        refine step_push_lies el_Cell Cell.cells_len Cell.cells_one rfl (.tmp 63) (.tmp 65) rfl B rfl hq81.out.py.o1 x rfl (fun j u hu => (kl1.out.cell j).trans (by simpa using hu)) (by omega) (by omega) hq81.out.py.size ?_
        intro a5 W5 ho hg hl5
        replace kl2 := hide (kl2.out.grownAt (fun e => by have := (ownBlock_lt hPX.out.py.o1 _ e).2; omega) hg)
        obtain ⟨A5, n5, k5, rfl⟩ := ho.shape
        have hP5 := hide (hq81.out.push1 ho hg hl5)
        refine hK_.out _ _ (HS.out _ _ _ _ _ _ _ _ _ _ hP5.out) (fun hHeld => ?_)
        clear hK_ K_
        (try go_frame)
        (refine zg_tk 16 ?_; (try go_frame))
        refine zg_ready (i := 15) (by decide) rfl (by kernel_rfl) (fun K_ hK_ => ?_)
        refine step_push_lies el_int intC_len intC_one rfl (.tmp 68) (.tmp 76) rfl B rfl hP5.out.py.o2 u rfl (fun j u hu => (kl2.out.cell j).trans (by simpa using hu)) (by omega) (by omega) hP5.out.py.size ?_
        intro b6 W6 ho6 hg6 hl6
        obtain ⟨A6, n6, k6, rfl⟩ := ho6.shape
        have hP6 := hide (hP5.out.push2 ho6 hg6 hl6)
        refine hK_.out _ _ (HS.out _ _ _ _ _ _ _ _ _ _ hP6.out) (fun hHeld => ?_)
        clear hK_ K_
        (try go_frame)
        have w10 : W6.cell? ⟨gl, 10, none⟩ = some (.slice A1 n1 k1) := hP6.out.py.bl.cell 10
        have w11 : W6.cell? ⟨gl, 11, none⟩ = some (.slice A2 n2 k2) := hP6.out.py.bl.cell 11
        have v10 := hP6.out.py.bl.frozen 10
        have v11 := hP6.out.py.bl.frozen 11
        refine zg_of_za ?_
        (refine za_ready (i := 17) (by decide) rfl (by kernel_rfl) (fun K_ hK_ => ?_); go_simp; skip; refine hK_.out _ _ ?_; clear hK_ K_; (try go_frame))
        (refine za_ready (i := 18) (by decide) rfl (by kernel_rfl) (fun K_ hK_ => ?_); go_simp; skip; refine hK_.out _ _ ?_; clear hK_ K_; (try go_frame))
        (refine za_ready (i := 19) (by decide) rfl (by kernel_rfl) (fun K_ hK_ => ?_); go_simp; skip; refine hK_.out _ _ ?_; clear hK_ K_; (try go_frame))
        refine za_end (by kernel_rfl) ?_
        have hP7 : PX W8 ((W6.setCell ⟨gl, 10, none⟩ (.slice A5 n5 k5)).setCell ⟨gl, 11, none⟩ (.slice A6 n6 k6)) B gl gh wr.heap.size (poolC c no (.slice Aw p.length nw) (.slice A5 n5 k5) (.slice A6 n6 k6)) _ _ _ _ _ _ _ _ _ _ := (hP6.out.setl 10 (.slice A5 n5 k5)).setl 11 (.slice A6 n6 k6)
        generalize ((W6.setCell ⟨gl, 10, none⟩ (.slice A5 n5 k5)).setCell ⟨gl, 11, none⟩ (.slice A6 n6 k6)) = Wy at hP7 ⊢
        generalize (Value.slice (some ⟨Wx.heap.size, 0, none⟩) 1 1) = v65
        generalize (Value.slice (some ⟨Wx.heap.size + 1, 0, none⟩) 1 1) = v76
        generalize ((.slice A5 n5 k5) : Value) = va at hP7 ⊢
        generalize ((.slice A6 n6 k6) : Value) = vb at hP7 ⊢
        revert hP7
        revert vb
        revert va
        revert v76
        revert v65
        revert Wy
        exact key.out
      ·go_simp
       have hq7 := hide (hP0.out.below (below1 Wx.drew (.cells #[I u] 3)))
       have kl2 : Hid (Blk (Wx.drew.alloc (.cells #[I u] 3)) Wx.heap.size 3 (intC u).toArray) := hide (by have h := Blk.new Wx.drew 3 (intC u).toArray; first | exact h | (rw [World.size_alloc] at h; exact h))
       refine hK_.out _ _ (HS.out _ _ _ _ _ _ _ _ _ _ hq7.out) (fun hHeld => ?_)
       clear hK_ K_
       (try go_frame)
       refine zg_ready (i := 3) (by decide) rfl (by kernel_rfl) (fun K_ hK_ => ?_)
       go_simp
       have hq39 := hide (hq7.out.below (below1 (Wx.drew.alloc (.cells #[I u] 3)) (.cells #[I x.no, I x.height, I x.aspect, I x.area] 67)))
       have kl1 : Hid (Blk ((Wx.drew.alloc (.cells #[I u] 3)).alloc (.cells #[I x.no, I x.height, I x.aspect, I x.area] 67)) (Wx.heap.size + 1) 67 (Cell.cells x).toArray) := hide (by have h := Blk.new (Wx.drew.alloc (.cells #[I u] 3)) 67 (Cell.cells x).toArray; first | exact h | (rw [World.size_alloc] at h; exact h))
       replace kl2 := hide (kl2.out.alloc (.cells #[I x.no, I x.height, I x.aspect, I x.area] 67))
       refine hK_.out _ _ (HS.out _ _ _ _ _ _ _ _ _ _ hq39.out) (fun hHeld => ?_)
       clear hK_ K_
       (try go_frame)
       refine zg_ready (i := 4) (by decide) rfl (by kernel_rfl) (fun K_ hK_ => ?_)
       refine step_push_lies el_Cell Cell.cells_len Cell.cells_one rfl (.tmp 63) (.tmp 65) rfl B rfl hq39.out.py.o1 x rfl (fun j u hu => (kl1.out.cell j).trans (by simpa using hu)) (by omega) (by omega) hq39.out.py.size ?_
       intro a5 W5 ho hg hl5
       replace kl2 := hide (kl2.out.grownAt (fun e => by have := (ownBlock_lt hPX.out.py.o1 _ e).2; omega) hg)
       obtain ⟨A5, n5, k5, rfl⟩ := ho.shape
       have hP5 := hide (hq39.out.push1 ho hg hl5)
       refine hK_.out _ _ (HS.out _ _ _ _ _ _ _ _ _ _ hP5.out) (fun hHeld => ?_)
       clear hK_ K_
       (try go_frame)
       (refine zg_tk 16 ?_; (try go_frame))
       refine zg_ready (i := 15) (by decide) rfl (by kernel_rfl) (fun K_ hK_ => ?_)
       refine step_push_lies el_int intC_len intC_one rfl (.tmp 68) (.tmp 76) rfl B rfl hP5.out.py.o2 u rfl (fun j u hu => (kl2.out.cell j).trans (by simpa using hu)) (by omega) (by omega) hP5.out.py.size ?_
       intro b6 W6 ho6 hg6 hl6
       obtain ⟨A6, n6, k6, rfl⟩ := ho6.shape
       have hP6 := hide (hP5.out.push2 ho6 hg6 hl6)
       refine hK_.out _ _ (HS.out _ _ _ _ _ _ _ _ _ _ hP6.out) (fun hHeld => ?_)
       clear hK_ K_
       (try go_frame)
       have w10 : W6.cell? ⟨gl, 10, none⟩ = some (.slice A1 n1 k1) := hP6.out.py.bl.cell 10
       have w11 : W6.cell? ⟨gl, 11, none⟩ = some (.slice A2 n2 k2) := hP6.out.py.bl.cell 11
       have v10 := hP6.out.py.bl.frozen 10
       have v11 := hP6.out.py.bl.frozen 11
       refine zg_of_za ?_
       (refine za_ready (i := 17) (by decide) rfl (by kernel_rfl) (fun K_ hK_ => ?_); go_simp; skip; refine hK_.out _ _ ?_; clear hK_ K_; (try go_frame))
       (refine za_ready (i := 18) (by decide) rfl (by kernel_rfl) (fun K_ hK_ => ?_); go_simp; skip; refine hK_.out _ _ ?_; clear hK_ K_; (try go_frame))
       (refine za_ready (i := 19) (by decide) rfl (by kernel_rfl) (fun K_ hK_ => ?_); go_simp; skip; refine hK_.out _ _ ?_; clear hK_ K_; (try go_frame))
       refine za_end (by kernel_rfl) ?_
       have hP7 : PX W8 ((W6.setCell ⟨gl, 10, none⟩ (.slice A5 n5 k5)).setCell ⟨gl, 11, none⟩ (.slice A6 n6 k6)) B gl gh wr.heap.size (poolC c no (.slice Aw p.length nw) (.slice A5 n5 k5) (.slice A6 n6 k6)) _ _ _ _ _ _ _ _ _ _ := (hP6.out.setl 10 (.slice A5 n5 k5)).setl 11 (.slice A6 n6 k6)
       generalize ((W6.setCell ⟨gl, 10, none⟩ (.slice A5 n5 k5)).setCell ⟨gl, 11, none⟩ (.slice A6 n6 k6)) = Wy at hP7 ⊢
       generalize (Value.slice (some ⟨Wx.heap.size + 1, 0, none⟩) 1 1) = v65
       generalize (Value.slice (some ⟨Wx.heap.size, 0, none⟩) 1 1) = v76
       generalize ((.slice A5 n5 k5) : Value) = va at hP7 ⊢
       generalize ((.slice A6 n6 k6) : Value) = vb at hP7 ⊢
       revert hP7
       revert vb
       revert va
       revert v76
       revert v65
       revert Wy
       exact key.out
     case g =>
      intro Wy v65l v76l va vb hPl
      obtain ⟨A5, n5, k5, rfl⟩ := hPl.py.o1.shape
      obtain ⟨A6, n6, k6, rfl⟩ := hPl.py.o2.shape
      replace hPl := hide hPl
      clear hPX
      go_wp2_with fail
      have hPs := hide hPl.out.swap
      clear hPl HS hS0 hP0
      have HS : ∀ (W : World) (H : Array Value) (a : Value) (cs : List Cell) (b : Value) (ws : List Int) (a2 : Value) (cs2 : List Cell) (b2 : Value) (ws2 : List Int), PX W8 W B gh gl wr.heap.size (poolC c no (.slice Aw p.length nw) (.slice A3 n3' k3) (.slice A4 n4 k4)) H #[I x.no, I x.height, I x.aspect, I x.area] a cs b ws a2 cs2 b2 ws2 → (fun W : World => W.cell? ⟨gh, 10, none⟩ = some (.slice A3 n3' k3) ∧ W.cell? ⟨gh, 11, none⟩ = some (.slice A4 n4 k4) ∧ W.cell? ⟨wr.heap.size, 0, none⟩ = some (I x.no) ∧ W.cell? ⟨wr.heap.size, 1, none⟩ = some (I x.height) ∧ W.cell? ⟨wr.heap.size, 2, none⟩ = some (I x.aspect) ∧ W.cell? ⟨wr.heap.size, 3, none⟩ = some (I x.area) ∧ W.cell? ⟨g2, m1, none⟩ = some (.slice (some ⟨u2, 0, none⟩) s.basin.cells.length cu2) ∧ W.cell? ⟨u2, k, none⟩ = some (I v)) W := by
       intro W H a cs b ws a2 cs2 b2 ws2 px
       have hne1 := hgg.out g2 (by omega)
       have hne2 := hgg.out u2 (by omega)
       exact ⟨px.py.bl.cell 10, px.py.bl.cell 11, px.bx.cell 0, px.bx.cell 1, px.bx.cell 2, px.bx.cell 3, (px.py.keep.cell hne1.1 (by have := hne1.2; omega)).trans hc8.out, (px.py.keep.cell hne2.1 (by have := hne2.2; omega)).trans y4.out⟩
      replace HS := hide HS
      refine wp_region_zg (S := fun W => W.cell? ⟨gh, 10, none⟩ = some (.slice A3 n3' k3) ∧ W.cell? ⟨gh, 11, none⟩ = some (.slice A4 n4 k4) ∧ W.cell? ⟨wr.heap.size, 0, none⟩ = some (I x.no) ∧ W.cell? ⟨wr.heap.size, 1, none⟩ = some (I x.height) ∧ W.cell? ⟨wr.heap.size, 2, none⟩ = some (I x.aspect) ∧ W.cell? ⟨wr.heap.size, 3, none⟩ = some (I x.area) ∧ W.cell? ⟨g2, m1, none⟩ = some (.slice (some ⟨u2, 0, none⟩) s.basin.cells.length cu2) ∧ W.cell? ⟨u2, k, none⟩ = some (I v)) 17 (by kernel_rfl) (by kernel_rfl) ?_
      have hS0 := HS.out Wy.drew _ _ _ _ _ _ _ _ _ (hPs.out.below (Below.refl _ _).drew)
      (refine zg_tk 0 ?_; refine zg_tk 1 ?_; refine zg_tk 2 ?_; refine zg_tk 5 ?_; refine zg_tk 6 ?_; refine zg_tk 7 ?_; refine zg_tk 8 ?_; refine zg_tk 9 ?_; refine zg_tk 10 ?_; refine zg_tk 11 ?_; refine zg_tk 12 ?_; refine zg_tk 13 ?_; (try go_frame))
      have hP0 := hide (hPs.out.below (Below.refl _ _).drew)
      apply via
      case f =>
       intro key
       refine zg_two (i := 3) (j := 14) (by decide) (by decide) rfl rfl (by kernel_rfl) (fun K_ hK_ => ?_) (fun K_ hK_ => ?_)
       ·go_simp
        have hq7 := hide (hP0.out.below (below1 Wy.drew (.cells #[I x.no, I x.height, I x.aspect, I x.area] 67)))
        have kl1 : Hid (Blk (Wy.drew.alloc (.cells #[I x.no, I x.height, I x.aspect, I x.area] 67)) Wy.heap.size 67 (Cell.cells x).toArray) := hide (by have h := Blk.new Wy.drew 67 (Cell.cells x).toArray; first | exact h | (rw [World.size_alloc] at h; exact h))
        refine hK_.out _ _ (HS.out _ _ _ _ _ _ _ _ _ _ hq7.out) (fun hHeld => ?_)
        clear hK_ K_
        (try go_frame)
        refine zg_two (i := 4) (j := 14) (by decide) (by decide) rfl rfl (by kernel_rfl) (fun K_ hK_ => ?_) (fun K_ hK_ => ?_)
        ·refine step_push_lies el_Cell Cell.cells_len Cell.cells_one rfl (.tmp 81) (.tmp 83) rfl B rfl hq7.out.py.o1 x rfl (fun j u hu => (kl1.out.cell j).trans (by simpa using hu)) (by omega) (by omega) hq7.out.py.size ?_
         intro a5 W5 ho hg hl5
         obtain ⟨A7, n7, k7, rfl⟩ := ho.shape
         have hP5 := hide (hq7.out.push1 ho hg hl5)
         refine hK_.out _ _ (HS.out _ _ _ _ _ _ _ _ _ _ hP5.out) (fun hHeld => ?_)
         clear hK_ K_
         (try go_frame)
         (refine zg_tk 16 ?_; (try go_frame))
         refine zg_ready (i := 14) (by decide) rfl (by kernel_rfl) (fun K_ hK_ => ?_)
         go_simp
         have hq2 := hide (hP5.out.below (below1 W5 (.cells #[I v] 3)))
         have kl2 : Hid (Blk (W5.alloc (.cells #[I v] 3)) W5.heap.size 3 (intC v).toArray) := hide (by have h := Blk.new W5 3 (intC v).toArray; first | exact h | (rw [World.size_alloc] at h; exact h))
         replace kl1 := hide (kl1.out.alloc (.cells #[I v] 3))
         refine hK_.out _ _ (HS.out _ _ _ _ _ _ _ _ _ _ hq2.out) (fun hHeld => ?_)
         clear hK_ K_
         (try go_frame)
         refine zg_ready (i := 15) (by decide) rfl (by kernel_rfl) (fun K_ hK_ => ?_)
         refine step_push_lies el_int intC_len intC_one rfl (.tmp 86) (.tmp 94) rfl B rfl hq2.out.py.o2 v rfl (fun j u hu => (kl2.out.cell j).trans (by simpa using hu)) (by omega) (by omega) hq2.out.py.size ?_
         intro b6 W6 ho6 hg6 hl6
         obtain ⟨A8, n8, k8, rfl⟩ := ho6.shape
         have hP6 := hide (hq2.out.push2 ho6 hg6 hl6)
         refine hK_.out _ _ (HS.out _ _ _ _ _ _ _ _ _ _ hP6.out) (fun hHeld => ?_)
         clear hK_ K_
         (try go_frame)
         have w10 : W6.cell? ⟨gh, 10, none⟩ = some (.slice A3 n3' k3) := hP6.out.py.bl.cell 10
         have w11 : W6.cell? ⟨gh, 11, none⟩ = some (.slice A4 n4 k4) := hP6.out.py.bl.cell 11
         have v10 := hP6.out.py.bl.frozen 10
         have v11 := hP6.out.py.bl.frozen 11
         refine zg_of_za ?_
         (refine za_ready (i := 17) (by decide) rfl (by kernel_rfl) (fun K_ hK_ => ?_); go_simp; skip; refine hK_.out _ _ ?_; clear hK_ K_; (try go_frame))
         (refine za_ready (i := 18) (by decide) rfl (by kernel_rfl) (fun K_ hK_ => ?_); go_simp; skip; refine hK_.out _ _ ?_; clear hK_ K_; (try go_frame))
         (refine za_ready (i := 19) (by decide) rfl (by kernel_rfl) (fun K_ hK_ => ?_); go_simp; skip; refine hK_.out _ _ ?_; clear hK_ K_; (try go_frame))
         refine za_end (by kernel_rfl) ?_
         have hP7 : PX W8 ((W6.setCell ⟨gh, 10, none⟩ (.slice A7 n7 k7)).setCell ⟨gh, 11, none⟩ (.slice A8 n8 k8)) B gh gl wr.heap.size (poolC c no (.slice Aw p.length nw) (.slice A7 n7 k7) (.slice A8 n8 k8)) _ _ _ _ _ _ _ _ _ _ := (hP6.out.setl 10 (.slice A7 n7 k7)).setl 11 (.slice A8 n8 k8)
         generalize ((W6.setCell ⟨gh, 10, none⟩ (.slice A7 n7 k7)).setCell ⟨gh, 11, none⟩ (.slice A8 n8 k8)) = Wz at hP7 ⊢
         generalize (Value.slice (some ⟨Wy.heap.size, 0, none⟩) 1 1) = v65
         generalize (Value.slice (some ⟨W5.heap.size, 0, none⟩) 1 1) = v76
         generalize ((.slice A7 n7 k7) : Value) = va at hP7 ⊢
         generalize ((.slice A8 n8 k8) : Value) = vb at hP7 ⊢
         revert hP7
         revert vb
         revert va
         revert v76
         revert v65
         revert Wz
         exact key.out
        ·go_simp
         have hq81 := hide (hq7.out.below (below1 (Wy.drew.alloc (.cells #[I x.no, I x.height, I x.aspect, I x.area] 67)) (.cells #[I v] 3)))
         have kl2 : Hid (Blk ((Wy.drew.alloc (.cells #[I x.no, I x.height, I x.aspect, I x.area] 67)).alloc (.cells #[I v] 3)) (Wy.heap.size + 1) 3 (intC v).toArray) := hide (by have h := Blk.new (Wy.drew.alloc (.cells #[I x.no, I x.height, I x.aspect, I x.area] 67)) 3 (intC v).toArray; first | exact h | (rw [World.size_alloc] at h; exact h))
         replace kl1 := hide (kl1.out.alloc (.cells #[I v] 3))
         refine hK_.out _ _ (HS.out _ _ _ _ _ _ _ _ _ _ hq81.out) (fun hHeld => ?_)
         clear hK_ K_
         (try go_frame)
         refine zg_ready (i := 4) (by decide) rfl (by kernel_rfl) (fun K_ hK_ => ?_)
         refine step_push_lies el_Cell Cell.cells_len Cell.cells_one rfl (.tmp 81) (.tmp 83) rfl B rfl hq81.out.py.o1 x rfl (fun j u hu => (kl1.out.cell j).trans (by simpa using hu)) (by omega) (by omega) hq81.out.py.size ?_
         intro a5 W5 ho hg hl5
         replace kl2 := hide (kl2.out.grownAt (fun e => by have := (ownBlock_lt hPs.out.py.o1 _ e).2; omega) hg)
         obtain ⟨A7, n7, k7, rfl⟩ := ho.shape
         have hP5 := hide (hq81.out.push1 ho hg hl5)
         refine hK_.out _ _ (HS.out _ _ _ _ _ _ _ _ _ _ hP5.out) (fun hHeld => ?_)
         clear hK_ K_
         (try go_frame)
         (refine zg_tk 16 ?_; (try go_frame))
         refine zg_ready (i := 15) (by decide) rfl (by kernel_rfl) (fun K_ hK_ => ?_)
         refine step_push_lies el_int intC_len intC_one rfl (.tmp 86) (.tmp 94) rfl B rfl hP5.out.py.o2 v rfl (fun j u hu => (kl2.out.cell j).trans (by simpa using hu)) (by omega) (by omega) hP5.out.py.size ?_
         intro b6 W6 ho6 hg6 hl6
         obtain ⟨A8, n8, k8, rfl⟩ := ho6.shape
         have hP6 := hide (hP5.out.push2 ho6 hg6 hl6)
         refine hK_.out _ _ (HS.out _ _ _ _ _ _ _ _ _ _ hP6.out) (fun hHeld => ?_)
         clear hK_ K_
         (try go_frame)
         have w10 : W6.cell? ⟨gh, 10, none⟩ = some (.slice A3 n3' k3) := hP6.out.py.bl.cell 10
         have w11 : W6.cell? ⟨gh, 11, none⟩ = some (.slice A4 n4 k4) := hP6.out.py.bl.cell 11
         have v10 := hP6.out.py.bl.frozen 10
         have v11 := hP6.out.py.bl.frozen 11
         refine zg_of_za ?_
         (refine za_ready (i := 17) (by decide) rfl (by kernel_rfl) (fun K_ hK_ => ?_); go_simp; skip; refine hK_.out _ _ ?_; clear hK_ K_; (try go_frame))
         (refine za_ready (i := 18) (by decide) rfl (by kernel_rfl) (fun K_ hK_ => ?_); go_simp; skip; refine hK_.out _ _ ?_; clear hK_ K_; (try go_frame))
         (refine za_ready (i := 19) (by decide) rfl (by kernel_rfl) (fun K_ hK_ => ?_); go_simp; skip; refine hK_.out _ _ ?_; clear hK_ K_; (try go_frame))
         refine za_end (by kernel_rfl) ?_
         have hP7 : PX W8 ((W6.setCell ⟨gh, 10, none⟩ (.slice A7 n7 k7)).setCell ⟨gh, 11, none⟩ (.slice A8 n8 k8)) B gh gl wr.heap.size (poolC c no (.slice Aw p.length nw) (.slice A7 n7 k7) (.slice A8 n8 k8)) _ _ _ _ _ _ _ _ _ _ := (hP6.out.setl 10 (.slice A7 n7 k7)).setl 11 (.slice A8 n8 k8)
         generalize ((W6.setCell ⟨gh, 10, none⟩ (.slice A7 n7 k7)).setCell ⟨gh, 11, none⟩ (.slice A8 n8 k8)) = Wz at hP7 ⊢
         generalize (Value.slice (some ⟨Wy.heap.size, 0, none⟩) 1 1) = v65
         generalize (Value.slice (some ⟨Wy.heap.size + 1, 0, none⟩) 1 1) = v76
         generalize ((.slice A7 n7 k7) : Value) = va at hP7 ⊢
         generalize ((.slice A8 n8 k8) : Value) = vb at hP7 ⊢
         revert hP7
         revert vb
         revert va
         revert v76
         revert v65
         revert Wz
         exact key.out
       ·go_simp
        have hq7 := hide (hP0.out.below (below1 Wy.drew (.cells #[I v] 3)))
        have kl2 : Hid (Blk (Wy.drew.alloc (.cells #[I v] 3)) Wy.heap.size 3 (intC v).toArray) := hide (by have h := Blk.new Wy.drew 3 (intC v).toArray; first | exact h | (rw [World.size_alloc] at h; exact h))
        refine hK_.out _ _ (HS.out _ _ _ _ _ _ _ _ _ _ hq7.out) (fun hHeld => ?_)
        clear hK_ K_
        (try go_frame)
        refine zg_ready (i := 3) (by decide) rfl (by kernel_rfl) (fun K_ hK_ => ?_)
        go_simp
        have hq39 := hide (hq7.out.below (below1 (Wy.drew.alloc (.cells #[I v] 3)) (.cells #[I x.no, I x.height, I x.aspect, I x.area] 67)))
        have kl1 : Hid (Blk ((Wy.drew.alloc (.cells #[I v] 3)).alloc (.cells #[I x.no, I x.height, I x.aspect, I x.area] 67)) (Wy.heap.size + 1) 67 (Cell.cells x).toArray) := hide (by have h := Blk.new (Wy.drew.alloc (.cells #[I v] 3)) 67 (Cell.cells x).toArray; first | exact h | (rw [World.size_alloc] at h; exact h))
        replace kl2 := hide (kl2.out.alloc (.cells #[I x.no, I x.height, I x.aspect, I x.area] 67))
        refine hK_.out _ _ (HS.out _ _ _ _ _ _ _ _ _ _ hq39.out) (fun hHeld => ?_)
        clear hK_ K_
        (try go_frame)
        refine zg_ready (i := 4) (by decide) rfl (by kernel_rfl) (fun K_ hK_ => ?_)
        refine step_push_lies el_Cell Cell.cells_len Cell.cells_one rfl (.tmp 81) (.tmp 83) rfl B rfl hq39.out.py.o1 x rfl (fun j u hu => (kl1.out.cell j).trans (by simpa using hu)) (by omega) (by omega) hq39.out.py.size ?_
        intro a5 W5 ho hg hl5
        replace kl2 := hide (kl2.out.grownAt (fun e => by have := (ownBlock_lt hPs.out.py.o1 _ e).2; omega) hg)
        obtain ⟨A7, n7, k7, rfl⟩ := ho.shape
        have hP5 := hide (hq39.out.push1 ho hg hl5)
        refine hK_.out _ _ (HS.out _ _ _ _ _ _ _ _ _ _ hP5.out) (fun hHeld => ?_)
        clear hK_ K_
        (try go_frame)
        (refine zg_tk 16 ?_; (try go_frame))
        refine zg_ready (i := 15) (by decide) rfl (by kernel_rfl) (fun K_ hK_ => ?_)
        refine step_push_lies el_int intC_len intC_one rfl (.tmp 86) (.tmp 94) rfl B rfl hP5.out.py.o2 v rfl (fun j u hu => (kl2.out.cell j).trans (by simpa using hu)) (by omega) (by omega) hP5.out.py.size ?_
        intro b6 W6 ho6 hg6 hl6
        obtain ⟨A8, n8, k8, rfl⟩ := ho6.shape
        have hP6 := hide (hP5.out.push2 ho6 hg6 hl6)
        refine hK_.out _ _ (HS.out _ _ _ _ _ _ _ _ _ _ hP6.out) (fun hHeld => ?_)
        clear hK_ K_
        (try go_frame)
        have w10 : W6.cell? ⟨gh, 10, none⟩ = some (.slice A3 n3' k3) := hP6.out.py.bl.cell 10
        have w11 : W6.cell? ⟨gh, 11, none⟩ = some (.slice A4 n4 k4) := hP6.out.py.bl.cell 11
        have v10 := hP6.out.py.bl.frozen 10
        have v11 := hP6.out.py.bl.frozen 11
        refine zg_of_za ?_
        (refine za_ready (i := 17) (by decide) rfl (by kernel_rfl) (fun K_ hK_ => ?_); go_simp; skip; refine hK_.out _ _ ?_; clear hK_ K_; (try go_frame))
        (refine za_ready (i := 18) (by decide) rfl (by kernel_rfl) (fun K_ hK_ => ?_); go_simp; skip; refine hK_.out _ _ ?_; clear hK_ K_; (try go_frame))
        (refine za_ready (i := 19) (by decide) rfl (by kernel_rfl) (fun K_ hK_ => ?_); go_simp; skip; refine hK_.out _ _ ?_; clear hK_ K_; (try go_frame))
        refine za_end (by kernel_rfl) ?_
        have hP7 : PX W8 ((W6.setCell ⟨gh, 10, none⟩ (.slice A7 n7 k7)).setCell ⟨gh, 11, none⟩ (.slice A8 n8 k8)) B gh gl wr.heap.size (poolC c no (.slice Aw p.length nw) (.slice A7 n7 k7) (.slice A8 n8 k8)) _ _ _ _ _ _ _ _ _ _ := (hP6.out.setl 10 (.slice A7 n7 k7)).setl 11 (.slice A8 n8 k8)
        generalize ((W6.setCell ⟨gh, 10, none⟩ (.slice A7 n7 k7)).setCell ⟨gh, 11, none⟩ (.slice A8 n8 k8)) = Wz at hP7 ⊢
        generalize (Value.slice (some ⟨Wy.heap.size + 1, 0, none⟩) 1 1) = v65
        generalize (Value.slice (some ⟨Wy.heap.size, 0, none⟩) 1 1) = v76
        generalize ((.slice A7 n7 k7) : Value) = va at hP7 ⊢
        generalize ((.slice A8 n8 k8) : Value) = vb at hP7 ⊢
        revert hP7
        revert vb
        revert va
        revert v76
        revert v65
        revert Wz
        exact key.out
      case g =>
       intro Wz v65h v76h va vb hPr
       obtain ⟨A7, n7, k7, rfl⟩ := hPr.py.o1.shape
       obtain ⟨A8, n8, k8, rfl⟩ := hPr.py.o2.shape
       replace hPr := hide hPr
       go_wp2_with fail
       go_roundw
       case rel => exact ⟨k + 1, _, _, _, _, by omega, by go_num, hide (by rw [f1.out, f2.out, f3.out]; exact hPr.out.py.swap)⟩
       case measure => simp [intOf]; omega
   ·have he : k = s.basin.cells.length := by omega
    subst he
    clear hAc hsc hl gc8 gf8 hc8 hf8
    obtain ⟨A1, n1, k1, rfl⟩ := hP.out.o1.shape
    obtain ⟨A2, n2, k2, rfl⟩ := hP.out.o2.shape
    obtain ⟨A3, n3', k3, rfl⟩ := hP.out.o3.shape
    obtain ⟨A4, n4, k4, rfl⟩ := hP.out.o4.shape
    rw [List.take_length, List.take_of_length_le (l := s.basin.cells.zip rl) (by simp; omega), List.take_of_length_le (l := s.basin.cells.zip rg) (by simp; omega)] at hP
    have kP := hP.out.keep.blk kP8.out (hgg.out _ (by have := hn3; omega)).1 (hgg.out _ (by have := hn3; omega)).2
    have kQ := hP.out.keep.blk kQ8.out (hgg.out _ (by have := hn3; omega)).1 (hgg.out _ (by have := hn3; omega)).2
    have kl := hide hP.out.bl
    have kh := hide hP.out.bh
    obtain ⟨gP, hgP⟩ : ∃ gP, w.heap.size + 1 + 1 + 1 = gP := ⟨_, rfl⟩
    obtain ⟨gQ, hgQ⟩ : ∃ gQ, w.heap.size + 1 + 1 + 1 + 1 = gQ := ⟨_, rfl⟩
    replace kP := hide (show Blk wr gP 114 _ from hgP ▸ kP)
    replace kQ := hide (show Blk wr gQ 114 _ from hgQ ▸ kQ)
    go_wp2_with fail
    rw [hgQ, hgP]
    have HS : ∀ W : World, Blk W gl 114 (poolC c no (.slice Aw p.length nw) (.slice A1 n1 k1) (.slice A2 n2 k2)) → Blk W gh 114 (poolC c no (.slice Aw p.length nw) (.slice A3 n3' k3) (.slice A4 n4 k4)) → (fun W : World => W.cell? ⟨gl, 0, none⟩ = some (I c.base) ∧ W.cell? ⟨gl, 1, none⟩ = some (I c.lapse) ∧ W.cell? ⟨gl, 2, none⟩ = some (I c.swing) ∧ W.cell? ⟨gl, 3, none⟩ = some (I c.wettest) ∧ W.cell? ⟨gl, 4, none⟩ = some (I c.coldest) ∧ W.cell? ⟨gl, 5, none⟩ = some (I c.warmest) ∧ W.cell? ⟨gl, 6, none⟩ = some (I c.flo) ∧ W.cell? ⟨gl, 7, none⟩ = some (I c.fhi) ∧ W.cell? ⟨gl, 8, none⟩ = some (I no) ∧ W.cell? ⟨gl, 9, none⟩ = some (.slice Aw p.length nw) ∧ W.cell? ⟨gl, 10, none⟩ = some (.slice A1 n1 k1) ∧ W.cell? ⟨gl, 11, none⟩ = some (.slice A2 n2 k2) ∧ W.cell? ⟨gh, 0, none⟩ = some (I c.base) ∧ W.cell? ⟨gh, 1, none⟩ = some (I c.lapse) ∧ W.cell? ⟨gh, 2, none⟩ = some (I c.swing) ∧ W.cell? ⟨gh, 3, none⟩ = some (I c.wettest) ∧ W.cell? ⟨gh, 4, none⟩ = some (I c.coldest) ∧ W.cell? ⟨gh, 5, none⟩ = some (I c.warmest) ∧ W.cell? ⟨gh, 6, none⟩ = some (I c.flo) ∧ W.cell? ⟨gh, 7, none⟩ = some (I c.fhi) ∧ W.cell? ⟨gh, 8, none⟩ = some (I no) ∧ W.cell? ⟨gh, 9, none⟩ = some (.slice Aw p.length nw) ∧ W.cell? ⟨gh, 10, none⟩ = some (.slice A3 n3' k3) ∧ W.cell? ⟨gh, 11, none⟩ = some (.slice A4 n4 k4)) W := fun W h1 h2 => ⟨h1.cell 0, h1.cell 1, h1.cell 2, h1.cell 3, h1.cell 4, h1.cell 5, h1.cell 6, h1.cell 7, h1.cell 8, h1.cell 9, h1.cell 10, h1.cell 11, h2.cell 0, h2.cell 1, h2.cell 2, h2.cell 3, h2.cell 4, h2.cell 5, h2.cell 6, h2.cell 7, h2.cell 8, h2.cell 9, h2.cell 10, h2.cell 11⟩
    replace HS := hide HS
    have hnP : gl ≠ gP ∧ gh ≠ gP ∧ gl ≠ gQ ∧ gh ≠ gQ ∧ gP ≠ gQ ∧ w.heap.size ≤ gP ∧ w.heap.size ≤ gQ ∧ gP < B ∧ gQ < B := by omega
    obtain ⟨n1_, n2_, n3_, n4_, n5_, n6_, n7_, n8_, n9_⟩ := hnP
    have a0 : wr.cell? ⟨gP, 0, none⟩ = some (I 0) := kP.out.cell 0
    have b0 := kP.out.frozen 0
    have a1 : wr.cell? ⟨gP, 1, none⟩ = some (I 0) := kP.out.cell 1
    have b1 := kP.out.frozen 1
    have a2 : wr.cell? ⟨gP, 2, none⟩ = some (I 0) := kP.out.cell 2
    have b2 := kP.out.frozen 2
    have a3 : wr.cell? ⟨gP, 3, none⟩ = some (I 0) := kP.out.cell 3
    have b3 := kP.out.frozen 3
    have a4 : wr.cell? ⟨gP, 4, none⟩ = some (I 0) := kP.out.cell 4
    have b4 := kP.out.frozen 4
    have a5 : wr.cell? ⟨gP, 5, none⟩ = some (I 0) := kP.out.cell 5
    have b5 := kP.out.frozen 5
    have a6 : wr.cell? ⟨gP, 6, none⟩ = some (I 0) := kP.out.cell 6
    have b6 := kP.out.frozen 6
    have a7 : wr.cell? ⟨gP, 7, none⟩ = some (I 0) := kP.out.cell 7
    have b7 := kP.out.frozen 7
    have a8 : wr.cell? ⟨gP, 8, none⟩ = some (I 0) := kP.out.cell 8
    have b8 := kP.out.frozen 8
    have a9 : wr.cell? ⟨gP, 9, none⟩ = some (.slice none 0 0) := kP.out.cell 9
    have b9 := kP.out.frozen 9
    have a10 : wr.cell? ⟨gP, 10, none⟩ = some (.slice none 0 0) := kP.out.cell 10
    have b10 := kP.out.frozen 10
    have a11 : wr.cell? ⟨gP, 11, none⟩ = some (.slice none 0 0) := kP.out.cell 11
    have b11 := kP.out.frozen 11
    refine wp_region_zg (S := fun W => W.cell? ⟨gl, 0, none⟩ = some (I c.base) ∧ W.cell? ⟨gl, 1, none⟩ = some (I c.lapse) ∧ W.cell? ⟨gl, 2, none⟩ = some (I c.swing) ∧ W.cell? ⟨gl, 3, none⟩ = some (I c.wettest) ∧ W.cell? ⟨gl, 4, none⟩ = some (I c.coldest) ∧ W.cell? ⟨gl, 5, none⟩ = some (I c.warmest) ∧ W.cell? ⟨gl, 6, none⟩ = some (I c.flo) ∧ W.cell? ⟨gl, 7, none⟩ = some (I c.fhi) ∧ W.cell? ⟨gl, 8, none⟩ = some (I no) ∧ W.cell? ⟨gl, 9, none⟩ = some (.slice Aw p.length nw) ∧ W.cell? ⟨gl, 10, none⟩ = some (.slice A1 n1 k1) ∧ W.cell? ⟨gl, 11, none⟩ = some (.slice A2 n2 k2) ∧ W.cell? ⟨gh, 0, none⟩ = some (I c.base) ∧ W.cell? ⟨gh, 1, none⟩ = some (I c.lapse) ∧ W.cell? ⟨gh, 2, none⟩ = some (I c.swing) ∧ W.cell? ⟨gh, 3, none⟩ = some (I c.wettest) ∧ W.cell? ⟨gh, 4, none⟩ = some (I c.coldest) ∧ W.cell? ⟨gh, 5, none⟩ = some (I c.warmest) ∧ W.cell? ⟨gh, 6, none⟩ = some (I c.flo) ∧ W.cell? ⟨gh, 7, none⟩ = some (I c.fhi) ∧ W.cell? ⟨gh, 8, none⟩ = some (I no) ∧ W.cell? ⟨gh, 9, none⟩ = some (.slice Aw p.length nw) ∧ W.cell? ⟨gh, 10, none⟩ = some (.slice A3 n3' k3) ∧ W.cell? ⟨gh, 11, none⟩ = some (.slice A4 n4 k4)) 4 (by kernel_rfl) (by kernel_rfl) ?_
    have hS0 := HS.out wr.drew kl.out.drew kh.out.drew
    (refine zg_tk 0 ?_; refine zg_tk 1 ?_; (try go_frame))
    (refine zg_rd 2 fun K_ hK_ => ?_; go_simp; skip; refine hK_.out _ _ ?_ (fun hHeld => ?_); rotate_left; clear hK_ K_; (try go_frame); rotate_left)
    ·exact HS.out (setAll wr gP 0 [I c.base, I c.lapse, I c.swing, I c.wettest, I c.coldest, I c.warmest, I c.flo, I c.fhi, I no, .slice Aw p.length nw, .slice A1 n1 k1, .slice A2 n2 k2]).drew (setAll_far n1_ _ _ _ kl.out).drew (setAll_far n2_ _ _ _ kh.out).drew
    clear a0 b0
    clear a1 b1
    clear a2 b2
    clear a3 b3
    clear a4 b4
    clear a5 b5
    clear a6 b6
    clear a7 b7
    clear a8 b8
    clear a9 b9
    clear a10 b10
    clear a11 b11
    have hk1 := hide (setAll_blk [I c.base, I c.lapse, I c.swing, I c.wettest, I c.coldest, I c.warmest, I c.flo, I c.fhi, I no, .slice Aw p.length nw, .slice A1 n1 k1, .slice A2 n2 k2] 0 wr _ kP.out).drew
    rw [putAll12] at hk1
    have hk2 := hide (setAll_far n5_.symm [I c.base, I c.lapse, I c.swing, I c.wettest, I c.coldest, I c.warmest, I c.flo, I c.fhi, I no, .slice Aw p.length nw, .slice A1 n1 k1, .slice A2 n2 k2] 0 wr kQ.out).drew
    have hk3 := hide (setAll_far n1_ [I c.base, I c.lapse, I c.swing, I c.wettest, I c.coldest, I c.warmest, I c.flo, I c.fhi, I no, .slice Aw p.length nw, .slice A1 n1 k1, .slice A2 n2 k2] 0 wr kl.out).drew
    have hk4 := hide (setAll_far n2_ [I c.base, I c.lapse, I c.swing, I c.wettest, I c.coldest, I c.warmest, I c.flo, I c.fhi, I no, .slice Aw p.length nw, .slice A1 n1 k1, .slice A2 n2 k2] 0 wr kh.out).drew
    have hb5 : Below w.heap.size w (setAll wr gP 0 [I c.base, I c.lapse, I c.swing, I c.wettest, I c.coldest, I c.warmest, I c.flo, I c.fhi, I no, .slice Aw p.length nw, .slice A1 n1 k1, .slice A2 n2 k2]).drew := (setAll_below n6_ _ _ _ (kB8.trans ((hP.out.keep.below (m := w.heap.size) (by omega) (fun b hb => by omega))))).drew
    have ho1 := (setAll_own n8_ [I c.base, I c.lapse, I c.swing, I c.wettest, I c.coldest, I c.warmest, I c.flo, I c.fhi, I no, .slice Aw p.length nw, .slice A1 n1 k1, .slice A2 n2 k2] 0 wr hP.out.o1).drew
    have ho2 := (setAll_own n8_ [I c.base, I c.lapse, I c.swing, I c.wettest, I c.coldest, I c.warmest, I c.flo, I c.fhi, I no, .slice Aw p.length nw, .slice A1 n1 k1, .slice A2 n2 k2] 0 wr hP.out.o2).drew
    have ho3 := (setAll_own n8_ [I c.base, I c.lapse, I c.swing, I c.wettest, I c.coldest, I c.warmest, I c.flo, I c.fhi, I no, .slice Aw p.length nw, .slice A1 n1 k1, .slice A2 n2 k2] 0 wr hP.out.o3).drew
    have ho4 := (setAll_own n8_ [I c.base, I c.lapse, I c.swing, I c.wettest, I c.coldest, I c.warmest, I c.flo, I c.fhi, I no, .slice Aw p.length nw, .slice A1 n1 k1, .slice A2 n2 k2] 0 wr hP.out.o4).drew
    obtain ⟨Wa, hWa⟩ : ∃ Wa, Wa = (setAll wr gP 0 [I c.base, I c.lapse, I c.swing, I c.wettest, I c.coldest, I c.warmest, I c.flo, I c.fhi, I no, .slice Aw p.length nw, .slice A1 n1 k1, .slice A2 n2 k2]).drew := ⟨_, rfl⟩
    rw [← hWa] at hk1 hk2 hk3 hk4 hb5 ho1 ho2 ho3 ho4
    have hWa2 : ((((((((((((wr.setCell ⟨gP, 0, none⟩ (I c.base)).setCell ⟨gP, 1, none⟩ (I c.lapse)).setCell ⟨gP, 2, none⟩ (I c.swing)).setCell ⟨gP, 3, none⟩ (I c.wettest)).setCell ⟨gP, 4, none⟩ (I c.coldest)).setCell ⟨gP, 5, none⟩ (I c.warmest)).setCell ⟨gP, 6, none⟩ (I c.flo)).setCell ⟨gP, 7, none⟩ (I c.fhi)).setCell ⟨gP, 8, none⟩ (I no)).setCell ⟨gP, 9, none⟩ (.slice Aw p.length nw)).setCell ⟨gP, 10, none⟩ (.slice A1 n1 k1)).setCell ⟨gP, 11, none⟩ (.slice A2 n2 k2)).drew = Wa := hWa.symm
    rw [hWa2]
    clear hWa hWa2 hP kP kQ kl kh hS0
    have hS1 := HS.out Wa hk3.out hk4.out
    have a0 : Wa.cell? ⟨gQ, 0, none⟩ = some (I 0) := hk2.out.cell 0
    have b0 := hk2.out.frozen 0
    have a1 : Wa.cell? ⟨gQ, 1, none⟩ = some (I 0) := hk2.out.cell 1
    have b1 := hk2.out.frozen 1
    have a2 : Wa.cell? ⟨gQ, 2, none⟩ = some (I 0) := hk2.out.cell 2
    have b2 := hk2.out.frozen 2
    have a3 : Wa.cell? ⟨gQ, 3, none⟩ = some (I 0) := hk2.out.cell 3
    have b3 := hk2.out.frozen 3
    have a4 : Wa.cell? ⟨gQ, 4, none⟩ = some (I 0) := hk2.out.cell 4
    have b4 := hk2.out.frozen 4
    have a5 : Wa.cell? ⟨gQ, 5, none⟩ = some (I 0) := hk2.out.cell 5
    have b5 := hk2.out.frozen 5
    have a6 : Wa.cell? ⟨gQ, 6, none⟩ = some (I 0) := hk2.out.cell 6
    have b6 := hk2.out.frozen 6
    have a7 : Wa.cell? ⟨gQ, 7, none⟩ = some (I 0) := hk2.out.cell 7
    have b7 := hk2.out.frozen 7
    have a8 : Wa.cell? ⟨gQ, 8, none⟩ = some (I 0) := hk2.out.cell 8
    have b8 := hk2.out.frozen 8
    have a9 : Wa.cell? ⟨gQ, 9, none⟩ = some (.slice none 0 0) := hk2.out.cell 9
    have b9 := hk2.out.frozen 9
    have a10 : Wa.cell? ⟨gQ, 10, none⟩ = some (.slice none 0 0) := hk2.out.cell 10
    have b10 := hk2.out.frozen 10
    have a11 : Wa.cell? ⟨gQ, 11, none⟩ = some (.slice none 0 0) := hk2.out.cell 11
    have b11 := hk2.out.frozen 11
    (refine zg_rd 3 fun K_ hK_ => ?_; go_simp; skip; refine hK_.out _ _ ?_ (fun hHeld => ?_); rotate_left; clear hK_ K_; (try go_frame); rotate_left)
    ·exact HS.out (setAll Wa gQ 0 [I c.base, I c.lapse, I c.swing, I c.wettest, I c.coldest, I c.warmest, I c.flo, I c.fhi, I no, .slice Aw p.length nw, .slice A3 n3' k3, .slice A4 n4 k4]) (setAll_far n3_ _ _ _ hk3.out) (setAll_far n4_ _ _ _ hk4.out)
    (refine zg_ls 4 fun K_ hK_ => ?_; go_simp; skip; refine hK_.out _ _ ?_; clear hK_ K_; (try go_frame))
    clear a0 b0
    clear a1 b1
    clear a2 b2
    clear a3 b3
    clear a4 b4
    clear a5 b5
    clear a6 b6
    clear a7 b7
    clear a8 b8
    clear a9 b9
    clear a10 b10
    clear a11 b11
    have hj1 := setAll_far n5_ [I c.base, I c.lapse, I c.swing, I c.wettest, I c.coldest, I c.warmest, I c.flo, I c.fhi, I no, .slice Aw p.length nw, .slice A3 n3' k3, .slice A4 n4 k4] 0 Wa hk1.out
    have hj2 := setAll_blk [I c.base, I c.lapse, I c.swing, I c.wettest, I c.coldest, I c.warmest, I c.flo, I c.fhi, I no, .slice Aw p.length nw, .slice A3 n3' k3, .slice A4 n4 k4] 0 Wa _ hk2.out
    rw [putAll12] at hj2
    have hb6 := setAll_below n7_ [I c.base, I c.lapse, I c.swing, I c.wettest, I c.coldest, I c.warmest, I c.flo, I c.fhi, I no, .slice Aw p.length nw, .slice A3 n3' k3, .slice A4 n4 k4] 0 Wa hb5
    replace ho1 := setAll_own n9_ [I c.base, I c.lapse, I c.swing, I c.wettest, I c.coldest, I c.warmest, I c.flo, I c.fhi, I no, .slice Aw p.length nw, .slice A3 n3' k3, .slice A4 n4 k4] 0 Wa ho1
    replace ho2 := setAll_own n9_ [I c.base, I c.lapse, I c.swing, I c.wettest, I c.coldest, I c.warmest, I c.flo, I c.fhi, I no, .slice Aw p.length nw, .slice A3 n3' k3, .slice A4 n4 k4] 0 Wa ho2
    replace ho3 := setAll_own n9_ [I c.base, I c.lapse, I c.swing, I c.wettest, I c.coldest, I c.warmest, I c.flo, I c.fhi, I no, .slice Aw p.length nw, .slice A3 n3' k3, .slice A4 n4 k4] 0 Wa ho3
    replace ho4 := setAll_own n9_ [I c.base, I c.lapse, I c.swing, I c.wettest, I c.coldest, I c.warmest, I c.flo, I c.fhi, I no, .slice Aw p.length nw, .slice A3 n3' k3, .slice A4 n4 k4] 0 Wa ho4
    obtain ⟨Wb, hWb⟩ : ∃ Wb, Wb = setAll Wa gQ 0 [I c.base, I c.lapse, I c.swing, I c.wettest, I c.coldest, I c.warmest, I c.flo, I c.fhi, I no, .slice Aw p.length nw, .slice A3 n3' k3, .slice A4 n4 k4] := ⟨_, rfl⟩
    rw [← hWb] at hj1 hj2 hb6 ho1 ho2 ho3 ho4
    have hWb2 : ((((((((((((Wa.setCell ⟨gQ, 0, none⟩ (I c.base)).setCell ⟨gQ, 1, none⟩ (I c.lapse)).setCell ⟨gQ, 2, none⟩ (I c.swing)).setCell ⟨gQ, 3, none⟩ (I c.wettest)).setCell ⟨gQ, 4, none⟩ (I c.coldest)).setCell ⟨gQ, 5, none⟩ (I c.warmest)).setCell ⟨gQ, 6, none⟩ (I c.flo)).setCell ⟨gQ, 7, none⟩ (I c.fhi)).setCell ⟨gQ, 8, none⟩ (I no)).setCell ⟨gQ, 9, none⟩ (.slice Aw p.length nw)).setCell ⟨gQ, 10, none⟩ (.slice A3 n3' k3)).setCell ⟨gQ, 11, none⟩ (.slice A4 n4 k4)) = Wb := hWb.symm
    rw [hWb2]
    clear hWb hWb2 hHeld hS1 hk1 hk2 hk3 hk4
    have a0 : Wb.cell? ⟨gP, 0, none⟩ = some (I c.base) := hj1.cell 0
    have b0 : Wb.cell? ⟨gQ, 0, none⟩ = some (I c.base) := hj2.cell 0
    have a1 : Wb.cell? ⟨gP, 1, none⟩ = some (I c.lapse) := hj1.cell 1
    have b1 : Wb.cell? ⟨gQ, 1, none⟩ = some (I c.lapse) := hj2.cell 1
    have a2 : Wb.cell? ⟨gP, 2, none⟩ = some (I c.swing) := hj1.cell 2
    have b2 : Wb.cell? ⟨gQ, 2, none⟩ = some (I c.swing) := hj2.cell 2
    have a3 : Wb.cell? ⟨gP, 3, none⟩ = some (I c.wettest) := hj1.cell 3
    have b3 : Wb.cell? ⟨gQ, 3, none⟩ = some (I c.wettest) := hj2.cell 3
    have a4 : Wb.cell? ⟨gP, 4, none⟩ = some (I c.coldest) := hj1.cell 4
    have b4 : Wb.cell? ⟨gQ, 4, none⟩ = some (I c.coldest) := hj2.cell 4
    have a5 : Wb.cell? ⟨gP, 5, none⟩ = some (I c.warmest) := hj1.cell 5
    have b5 : Wb.cell? ⟨gQ, 5, none⟩ = some (I c.warmest) := hj2.cell 5
    have a6 : Wb.cell? ⟨gP, 6, none⟩ = some (I c.flo) := hj1.cell 6
    have b6 : Wb.cell? ⟨gQ, 6, none⟩ = some (I c.flo) := hj2.cell 6
    have a7 : Wb.cell? ⟨gP, 7, none⟩ = some (I c.fhi) := hj1.cell 7
    have b7 : Wb.cell? ⟨gQ, 7, none⟩ = some (I c.fhi) := hj2.cell 7
    have a8 : Wb.cell? ⟨gP, 8, none⟩ = some (I no) := hj1.cell 8
    have b8 : Wb.cell? ⟨gQ, 8, none⟩ = some (I no) := hj2.cell 8
    have a9 : Wb.cell? ⟨gP, 9, none⟩ = some (.slice Aw p.length nw) := hj1.cell 9
    have b9 : Wb.cell? ⟨gQ, 9, none⟩ = some (.slice Aw p.length nw) := hj2.cell 9
    have a10 : Wb.cell? ⟨gP, 10, none⟩ = some (.slice A1 n1 k1) := hj1.cell 10
    have b10 : Wb.cell? ⟨gQ, 10, none⟩ = some (.slice A3 n3' k3) := hj2.cell 10
    have a11 : Wb.cell? ⟨gP, 11, none⟩ = some (.slice A2 n2 k2) := hj1.cell 11
    have b11 : Wb.cell? ⟨gQ, 11, none⟩ = some (.slice A4 n4 k4) := hj2.cell 11
    go_wp2_with fail
    refine bodyPost_ret (v := .tuple #[poolV c no (.slice Aw p.length nw) (.slice A1 n1 k1) (.slice A2 n2 k2), poolV c no (.slice Aw p.length nw) (.slice A3 n3' k3) (.slice A4 n4 k4), I 0]) (by simp [results, Tryz.results62, go_sem, poolV, a0, a1, a2, a3, a4, a5, a6, a7, a8, a9, a10, a11, b0, b1, b2, b3, b4, b5, b6, b7, b8, b9, b10, b11]) rfl ?_
    exact ⟨_, _, _, _, rfl, ho1.mono (by omega), ho2.mono (by omega), ho3.mono (by omega), ho4.mono (by omega), hb6⟩
end Go.Proofs.YtifeniiefhpadaaGreatDoor
