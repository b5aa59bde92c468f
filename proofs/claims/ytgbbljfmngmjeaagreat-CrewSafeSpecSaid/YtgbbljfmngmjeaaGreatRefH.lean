/- The reference's Greatest and Least. Conditions stand in the theorems. -/
import Derived.Test.YtgbbljfmngmjeaaGreatRefLPack
set_option linter.all false
set_option maxHeartbeats 4000000
set_option maxRecDepth 100000
namespace Go.Proofs.YtgbbljfmngmjeaaGreat
open Go.RowKit

theorem ref5_Greatest (s : Scene) (V : SceneV) (w : World) (hs : SceneAt w s V) :
  Calls Tryz.prog 158 #[s.v V] w fun e w' => ∃ v, e = .returned (.tuple #[v, I (greatE s)]) ∧ (greatE s = 0 → RowsAt w' w.heap.size v (greatF s)) ∧ (greatE s ≠ 0 → v = .slice none 0 0) ∧ Below w.heap.size w w' := by
 obtain ⟨vc, vp, vd, vs, vh⟩ := V
 have h1 : Sl w 4 Cell.cells vc s.basin.cells := hs.cells
 have h2 : Sl w 2 pairC vp s.basin.pairs := hs.pairs
 have h3 : Sl w 1 intC vd s.days := hs.days
 have h4 : Sl w 5 Sight.cells vs s.sights := hs.sights
 have h5 : Sl w 5 Change.cells vh s.changes := hs.changes
 obtain ⟨Ac, nc, rfl, _⟩ := h1.open_
 obtain ⟨Ap, np, rfl, _⟩ := h2.open_
 obtain ⟨Ad, nd, rfl, _⟩ := h3.open_
 obtain ⟨As, ns, rfl, _⟩ := h4.open_
 obtain ⟨Ah, nh, rfl, _⟩ := h5.open_
 have HC := fun w' (hb : Below w.heap.size w w') => ref5_Check s ⟨.slice Ac s.basin.cells.length nc, .slice Ap s.basin.pairs.length np, .slice Ad s.days.length nd, .slice As s.sights.length ns, .slice Ah s.changes.length nh⟩ w' (hs.mono hb)
 have HL := fun (hv : SceneOk s) w' (hb : Below w.heap.size w w') => ref5_Lay s ⟨.slice Ac s.basin.cells.length nc, .slice Ap s.basin.pairs.length np, .slice Ad s.days.length nd, .slice As s.sights.length ns, .slice Ah s.changes.length nh⟩ w' (hs.mono hb) hv
 have HP := fun vx l (hv : SceneOk s) w' (hb : Below w.heap.size w w') (hl : Sl w' 1 intC vx l) (hlN : l.length = 1 + s.days.length * s.basin.cells.length) => ref5_shape s ⟨.slice Ac s.basin.cells.length nc, .slice Ap s.basin.pairs.length np, .slice Ad s.days.length nd, .slice As s.sights.length ns, .slice Ah s.changes.length nh⟩ vx l w' (hs.mono hb) hl hlN hv.basin.hc2 hv.hd2
 unfold Scene.v at *
 simp only at HC HL HP ⊢
 clear hs h1 h2 h3 h4 h5
 replace HL := hide HL
 replace HP := hide HP
 by_cases h : sceneE s = 0
 case neg =>
  have hE : greatE s = sceneE s := by simp [greatE, h]
  rw [hE]
  obtain ⟨E, hE2⟩ : ∃ E, sceneE s = E := ⟨_, rfl⟩
  rw [hE2] at HC h ⊢
  have hne : (E != 0) = true := by simpa using h
  replace h := hide h
  replace HC := hide HC
  clear hE hE2 HL HP
  go_enter Tryz.func158, Tryz.ntmps158
  go_wp2_with fail
  go_at_call 56
  refine (HC.out _ (below1 _ _)).mono ?_
  rintro e w1 ⟨rfl, hb1⟩
  go_wp2_with fail
  go_ret2
  exact ⟨.slice none 0 0, rfl, fun h' => absurd h' h.out, fun _ => rfl, bup (below1 _ _) hb1⟩
 case pos =>
  have hv := SceneOk.of h
  have hE : greatE s = endsE (nodesN s) (layD s) := by simp [greatE, h]
  have hF : greatF s = rowsF s.basin.cells.length s.days.length (endsL (nodesN s) (layD s)) := rfl
  rw [hE, hF]
  rw [h] at HC
  have HT := fun v w' (hl : Sl w' 3 Diff.cells v (layD s)) => ref4_Top v (nodesN s) (layD s) w' hv.net hl
  have hN : (endsL (nodesN s) (layD s)).length = 1 + s.days.length * s.basin.cells.length := by
   show (endsL _ _).length = _
   exact (growF_len _ _ _).1
  have hN3 : (endsL (nodesN s) (layD s)).length ≤ 193 := by
   rw [hN]
   have := Nat.mul_le_mul hv.hd2 hv.basin.hc2
   omega
  obtain ⟨b, hb0⟩ : ∃ b, endsE (nodesN s) (layD s) = b := ⟨_, rfl⟩
  obtain ⟨L, hL⟩ : ∃ L, endsL (nodesN s) (layD s) = L := ⟨_, rfl⟩
  simp only [hb0, hL] at HT hN hN3 ⊢
  replace HT := hide HT
  replace HC := hide HC
  replace hN := hide hN
  replace hN3 := hide hN3
  replace hv := hide hv
  clear hE hF hb0 hL h
  obtain ⟨nn, hnn⟩ : ∃ nn : Nat, nodesN s = nn := ⟨_, rfl⟩
  rw [hnn] at HT HL
  clear hnn
  go_enter Tryz.func158, Tryz.ntmps158
  go_wp2_with fail
  go_at_call 56
  refine (HC.out _ (below1 _ _)).mono ?_
  rintro e w1 ⟨rfl, hb1⟩
  have kS := hide ((Blk.new w 42 (s8 s Ac nc Ap np Ad nd As ns Ah nh)).grow hb1)
  have B1 := hide (bup (below1 w (.cells (s8 s Ac nc Ap np Ad nd As ns Ah nh) 42)) hb1)
  clear hb1
  obtain ⟨g, hg⟩ : ∃ g, w.heap.size = g := ⟨_, rfl⟩
  rw [hg] at kS ⊢
  replace hg := hide hg
  obtain ⟨s0, s1, s2, s3, s4, s5, s6, s7⟩ := kS.out.cells8
  have zS := kS.out.lt
  go_wp2_with fail
  go_at_call 176
  refine (HL.out hv.out w1 B1.out).mono ?_
  rintro e w2 ⟨vn, vr, rfl, hsl, hb2⟩
  obtain ⟨An, nn2, rfl, _⟩ := hsl.open_
  clear s0 s1 s2 s3 s4 s5 s6 s7 zS
  go_upto_region 5 with fail
  obtain ⟨w3, hw3⟩ : ∃ W, W = w2.alloc (.cells #[I nn, .slice An (layD s).length nn2] 189) := ⟨_, rfl⟩
  obtain ⟨kN, hb3⟩ := blkw hw3
  rw [← hw3]
  clear hw3
  replace kS := hide ((kS.out.grow hb2).grow hb3)
  have B3 := hide (bup (bup B1.out hb2) hb3)
  replace hsl := hide (hsl.mono hb3)
  clear hb2 hb3 B1
  obtain ⟨gn, hgn⟩ : ∃ g, w2.heap.size = g := ⟨_, rfl⟩
  rw [hgn] at kN ⊢
  clear hgn
  obtain ⟨n0, n1⟩ := kN.cells2
  have zN := kN.lt
  go_wp2_with fail
  go_at_call 191
  refine (HT.out _ w3 hsl.out).mono ?_
  rintro e w4 ⟨v, rfl, t1, t2, hb4⟩
  replace kS := hide (kS.out.grow hb4)
  have B4 := hide (bup B3.out hb4)
  clear n0 n1 zN kN
  by_cases hb : b = 0
  case neg =>
   have hv := t2 hb
   subst hv
   have hne : (b != 0) = true := by simpa using hb
   replace hb := hide hb
   go_wp2_with fail
   go_ret2
   exact ⟨.slice none 0 0, rfl, fun h' => absurd h' hb.out, fun _ => rfl, by first | exact B4.out | (rw [← hg.out]; exact B4.out)⟩
  case pos =>
   subst hb
   have ho := t1 rfl
   have hsl2 := hide (ho.sl intC_len (by have := hN3.out; omega))
   obtain ⟨A1, m1, c1, rfl⟩ := ho.shape
   clear t1 t2 ho hb4
   obtain ⟨s0, s1, s2, s3, s4, s5, s6, s7⟩ := kS.out.cells8
   have zS := kS.out.lt
   go_wp2_with fail
   go_at_call 190
   refine (HP.out _ L hv.out w4 B4.out hsl2.out hN.out).mono ?_
   rintro e w5 ⟨vz, rfl, hR, hb5⟩
   have hR2 := hide (RowsAt.le hR (show w.heap.size ≤ w4.heap.size from B4.out.size))
   have B5 := hide (bup B4.out hb5)
   clear hR hb5
   go_wp2_with fail
   go_ret2
   exact ⟨_, rfl, by first | exact ⟨fun _ => hR2.out, fun h' => absurd rfl h', B5.out⟩ | (rw [← hg.out]; exact ⟨fun _ => hR2.out, fun h' => absurd rfl h', B5.out⟩) | exact ⟨hR2.out, B5.out⟩ | (rw [← hg.out]; exact ⟨hR2.out, B5.out⟩)⟩

theorem ref5_Least (s : Scene) (V : SceneV) (w : World) (hs : SceneAt w s V) :
  Calls Tryz.prog 157 #[s.v V] w fun e w' => ∃ v, e = .returned (.tuple #[v, I (leastE s)]) ∧ (leastE s = 0 → RowsAt w' w.heap.size v (leastF s)) ∧ (leastE s ≠ 0 → v = .slice none 0 0) ∧ Below w.heap.size w w' := by
 obtain ⟨vc, vp, vd, vs, vh⟩ := V
 have h1 : Sl w 4 Cell.cells vc s.basin.cells := hs.cells
 have h2 : Sl w 2 pairC vp s.basin.pairs := hs.pairs
 have h3 : Sl w 1 intC vd s.days := hs.days
 have h4 : Sl w 5 Sight.cells vs s.sights := hs.sights
 have h5 : Sl w 5 Change.cells vh s.changes := hs.changes
 obtain ⟨Ac, nc, rfl, _⟩ := h1.open_
 obtain ⟨Ap, np, rfl, _⟩ := h2.open_
 obtain ⟨Ad, nd, rfl, _⟩ := h3.open_
 obtain ⟨As, ns, rfl, _⟩ := h4.open_
 obtain ⟨Ah, nh, rfl, _⟩ := h5.open_
 have HC := fun w' (hb : Below w.heap.size w w') => ref5_Check s ⟨.slice Ac s.basin.cells.length nc, .slice Ap s.basin.pairs.length np, .slice Ad s.days.length nd, .slice As s.sights.length ns, .slice Ah s.changes.length nh⟩ w' (hs.mono hb)
 have HL := fun (hv : SceneOk s) w' (hb : Below w.heap.size w w') => ref5_Lay s ⟨.slice Ac s.basin.cells.length nc, .slice Ap s.basin.pairs.length np, .slice Ad s.days.length nd, .slice As s.sights.length ns, .slice Ah s.changes.length nh⟩ w' (hs.mono hb) hv
 have HP := fun vx l (hv : SceneOk s) w' (hb : Below w.heap.size w w') (hl : Sl w' 1 intC vx l) (hlN : l.length = 1 + s.days.length * s.basin.cells.length) => ref5_shape s ⟨.slice Ac s.basin.cells.length nc, .slice Ap s.basin.pairs.length np, .slice Ad s.days.length nd, .slice As s.sights.length ns, .slice Ah s.changes.length nh⟩ vx l w' (hs.mono hb) hl hlN hv.basin.hc2 hv.hd2
 unfold Scene.v at *
 simp only at HC HL HP ⊢
 clear hs h1 h2 h3 h4 h5
 replace HL := hide HL
 replace HP := hide HP
 by_cases h : sceneE s = 0
 case neg =>
  have hE : leastE s = sceneE s := by simp [leastE, h]
  rw [hE]
  obtain ⟨E, hE2⟩ : ∃ E, sceneE s = E := ⟨_, rfl⟩
  rw [hE2] at HC h ⊢
  have hne : (E != 0) = true := by simpa using h
  replace h := hide h
  replace HC := hide HC
  clear hE hE2 HL HP
  go_enter Tryz.func157, Tryz.ntmps157
  go_wp2_with fail
  go_at_call 56
  refine (HC.out _ (below1 _ _)).mono ?_
  rintro e w1 ⟨rfl, hb1⟩
  go_wp2_with fail
  go_ret2
  exact ⟨.slice none 0 0, rfl, fun h' => absurd h' h.out, fun _ => rfl, bup (below1 _ _) hb1⟩
 case pos =>
  have hv := SceneOk.of h
  have hE : leastE s = endsE (nodesN s) ((layD s).map turnD) := by simp [leastE, h]
  have hF : leastF s = rowsF s.basin.cells.length s.days.length (botL (nodesN s) (layD s)) := rfl
  rw [hE, hF]
  rw [h] at HC
  have HT := fun v w' (hl : Sl w' 3 Diff.cells v (layD s)) => ref4_Bottom v (nodesN s) (layD s) w' hv.net hl
  have hN : (botL (nodesN s) (layD s)).length = 1 + s.days.length * s.basin.cells.length := by
   rw [show botL (nodesN s) (layD s) = (endsL (nodesN s) ((layD s).map turnD)).map fun x => -x from rfl, List.length_map]
   exact (growF_len _ _ _).1
  have hN3 : (botL (nodesN s) (layD s)).length ≤ 193 := by
   rw [hN]
   have := Nat.mul_le_mul hv.hd2 hv.basin.hc2
   omega
  obtain ⟨b, hb0⟩ : ∃ b, endsE (nodesN s) ((layD s).map turnD) = b := ⟨_, rfl⟩
  obtain ⟨L, hL⟩ : ∃ L, botL (nodesN s) (layD s) = L := ⟨_, rfl⟩
  simp only [hb0, hL] at HT hN hN3 ⊢
  replace HT := hide HT
  replace HC := hide HC
  replace hN := hide hN
  replace hN3 := hide hN3
  replace hv := hide hv
  clear hE hF hb0 hL h
  obtain ⟨nn, hnn⟩ : ∃ nn : Nat, nodesN s = nn := ⟨_, rfl⟩
  rw [hnn] at HT HL
  clear hnn
  go_enter Tryz.func157, Tryz.ntmps157
  go_wp2_with fail
  go_at_call 56
  refine (HC.out _ (below1 _ _)).mono ?_
  rintro e w1 ⟨rfl, hb1⟩
  have kS := hide ((Blk.new w 42 (s8 s Ac nc Ap np Ad nd As ns Ah nh)).grow hb1)
  have B1 := hide (bup (below1 w (.cells (s8 s Ac nc Ap np Ad nd As ns Ah nh) 42)) hb1)
  clear hb1
  obtain ⟨g, hg⟩ : ∃ g, w.heap.size = g := ⟨_, rfl⟩
  rw [hg] at kS ⊢
  replace hg := hide hg
  obtain ⟨s0, s1, s2, s3, s4, s5, s6, s7⟩ := kS.out.cells8
  have zS := kS.out.lt
  go_wp2_with fail
  go_at_call 176
  refine (HL.out hv.out w1 B1.out).mono ?_
  rintro e w2 ⟨vn, vr, rfl, hsl, hb2⟩
  obtain ⟨An, nn2, rfl, _⟩ := hsl.open_
  clear s0 s1 s2 s3 s4 s5 s6 s7 zS
  go_upto_region 5 with fail
  obtain ⟨w3, hw3⟩ : ∃ W, W = w2.alloc (.cells #[I nn, .slice An (layD s).length nn2] 189) := ⟨_, rfl⟩
  obtain ⟨kN, hb3⟩ := blkw hw3
  rw [← hw3]
  clear hw3
  replace kS := hide ((kS.out.grow hb2).grow hb3)
  have B3 := hide (bup (bup B1.out hb2) hb3)
  replace hsl := hide (hsl.mono hb3)
  clear hb2 hb3 B1
  obtain ⟨gn, hgn⟩ : ∃ g, w2.heap.size = g := ⟨_, rfl⟩
  rw [hgn] at kN ⊢
  clear hgn
  obtain ⟨n0, n1⟩ := kN.cells2
  have zN := kN.lt
  go_wp2_with fail
  go_at_call 189
  refine (HT.out _ w3 hsl.out).mono ?_
  rintro e w4 ⟨v, rfl, t1, t2, hb4⟩
  replace kS := hide (kS.out.grow hb4)
  have B4 := hide (bup B3.out hb4)
  clear n0 n1 zN kN
  by_cases hb : b = 0
  case neg =>
   have hv := t2 hb
   subst hv
   have hne : (b != 0) = true := by simpa using hb
   replace hb := hide hb
   go_wp2_with fail
   go_ret2
   exact ⟨.slice none 0 0, rfl, fun h' => absurd h' hb.out, fun _ => rfl, by first | exact B4.out | (rw [← hg.out]; exact B4.out)⟩
  case pos =>
   subst hb
   have ho := t1 rfl
   have hsl2 := hide (ho.sl intC_len (by have := hN3.out; omega))
   obtain ⟨A1, m1, c1, rfl⟩ := ho.shape
   clear t1 t2 ho hb4
   obtain ⟨s0, s1, s2, s3, s4, s5, s6, s7⟩ := kS.out.cells8
   have zS := kS.out.lt
   go_wp2_with fail
   go_at_call 190
   refine (HP.out _ L hv.out w4 B4.out hsl2.out hN.out).mono ?_
   rintro e w5 ⟨vz, rfl, hR, hb5⟩
   have hR2 := hide (RowsAt.le hR (show w.heap.size ≤ w4.heap.size from B4.out.size))
   have B5 := hide (bup B4.out hb5)
   clear hR hb5
   go_wp2_with fail
   go_ret2
   exact ⟨_, rfl, by first | exact ⟨fun _ => hR2.out, fun h' => absurd rfl h', B5.out⟩ | (rw [← hg.out]; exact ⟨fun _ => hR2.out, fun h' => absurd rfl h', B5.out⟩) | exact ⟨hR2.out, B5.out⟩ | (rw [← hg.out]; exact ⟨hR2.out, B5.out⟩)⟩

end Go.Proofs.YtgbbljfmngmjeaaGreat
