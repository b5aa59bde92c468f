/- The package basin: lay. Conditions stand in the theorems. -/
import Derived.Test.YtgbbljfmngmjeaaGreatBasin7Pack
set_option linter.all false
set_option maxHeartbeats 16000000
set_option maxRecDepth 100000
namespace Go.Proofs.YtgbbljfmngmjeaaGreat
open Go.RowKit

theorem zg_two {P : Program} {ops : Array Oper} {Q : Exit → Act → World → Prop} {md : Region.Mode} {S : World → Prop} {n : Nat} {i j : Nat} {oi oj : Oper} {fuel : Nat} {listed : Array Bool} {a : Act} {w : World} (hin : i < n) (hjn : j < n) (hi : ops[i]? = some oi) (hj : ops[j]? = some oj) (hr : Region.ready md ops listed = [i, j])
  (h1 : ∀ K' : Act → World → Prop, Shut (∀ a w, S w → (S w → ZG P md ops Q S n fuel (listed.setIfInBounds i true) a w) → K' a w) → if Region.wanted oi (yielded ops a.tmps) = true then Oper.wp P oi a w K' Q else K' (a.put oi.dst undef) w)
  (h2 : ∀ K' : Act → World → Prop, Shut (∀ a w, S w → (S w → ZG P md ops Q S n fuel (listed.setIfInBounds j true) a w) → K' a w) → if Region.wanted oj (yielded ops a.tmps) = true then Oper.wp P oj a w K' Q else K' (a.put oj.dst undef) w) :
  ZG P md ops Q S n (fuel + 1) listed a w := fun g1 g2 g3 inv =>
 ⟨fun h0 => (by rw [h0] at hr; cases hr), fun k hk => by
  have hik : k ∈ Region.ready md ops listed := hk
  rw [hr, List.mem_cons, List.mem_singleton] at hk
  rcases hk with rfl | rfl
  ·exact wpOp_step hi fun K' hK => h1 K' fun a w hS hW => hK a w ⟨fun _ => hS, hW hS g1 g2 g3 (inv.set hik hin)⟩
  ·exact wpOp_step hj fun K' hK => h2 K' fun a w hS hW => hK a w ⟨fun _ => hS, hW hS g1 g2 g3 (inv.set hik hjn)⟩⟩

theorem range_flat {α : Type} (f : Nat → List α) (k : Nat) : (List.range (k + 1)).flatMap f = (List.range k).flatMap f ++ f k := by
 rw [List.range_succ, List.flatMap_append]; simp
theorem take_flat {α β : Type} (f : α → List β) {l : List α} {k : Nat} {x : α} (h : l[k]? = some x) : (l.take (k + 1)).flatMap f = (l.take k).flatMap f ++ f x := by
 rw [List.take_add_one, h]; simp
theorem days_len {s : Scene} (h : SceneOk s) {k : Nat} (hk : k ≤ s.days.length) : ((List.range k).flatMap (dayD s.basin)).length ≤ 1152 := by
 have h1 := flatMap_len (f := dayD s.basin) (c := 72) (List.range k) fun d _ => by
  have := dayD_len s.basin d
  have := h.basin.hc2
  have := h.basin.hp
  omega
 have := h.hd2
 simp only [List.length_range] at h1
 omega
theorem cells_len {b : Basin} (h : BasinOk b) {d k : Nat} (hk : k ≤ b.cells.length) : ((List.range k).flatMap (cellD b d)).length ≤ 24 := by
 have h1 := flatMap_len (f := cellD b d) (c := 2) (List.range k) fun d _ => by simp [cellD]
 have := h.hc2
 simp only [List.length_range] at h1
 omega
theorem pairs_len {b : Basin} (h : BasinOk b) {d k : Nat} : ((b.pairs.take k).flatMap (pairD b d)).length ≤ 48 := by
 have h1 := flatMap_len (f := pairD b d) (c := 2) (b.pairs.take k) fun p _ => pairD_len b d p
 have := h.hp
 simp only [List.length_take] at h1
 omega

def LayF (W : World) (n0 n1 n2 n3 : Nat) (s : Scene) (vc vp vd vs vh : Value) : Prop :=
 W.cell? ⟨n0, 1 + 4, none⟩ = some vd ∧ W.cell? ⟨n0, 6, none⟩ = some vs ∧ W.cell? ⟨n0, 7, none⟩ = some vh ∧ W.cell? ⟨n1, 0, none⟩ = some vc ∧ W.cell? ⟨n1, 1, none⟩ = some vp ∧
 W.cell? ⟨n1, 2, none⟩ = some (I s.basin.gain) ∧ W.cell? ⟨n1, 3, none⟩ = some (I s.basin.slack) ∧ W.cell? ⟨n1, 4, none⟩ = some (I s.basin.deep) ∧
 W.cell? ⟨n3, 0, none⟩ = some (.pointer (some ⟨n2, 0, none⟩)) ∧ n0 < W.heap.size ∧ n1 < W.heap.size ∧ n3 < W.heap.size
theorem LayAt.facts {w W : World} {s : Scene} {V : SceneV} {nodes : Int} {ds : List Diff} {n1 n2 n3 : Nat} {vc vp vd vs vh : Value} (h : LayAt w W s V nodes ds) (hV : V = ⟨vc, vp, vd, vs, vh⟩) (e1 : w.heap.size + 1 = n1) (e2 : w.heap.size + 2 = n2) (e3 : w.heap.size + 3 = n3) :
  LayF W w.heap.size n1 n2 n3 s vc vp vd vs vh := by
 subst hV e1 e2 e3
 have z := h.size
 exact ⟨h.scn.c5, h.scn.c6, h.scn.c7, h.bas.c0, h.bas.c1, h.bas.c2, h.bas.c3, h.bas.c4, h.ptr, by omega, by omega, by omega⟩
theorem LayAt.new (w : World) (s : Scene) (V : SceneV) (nodes : Int) {n2 : Nat} (e2 : w.heap.size + 2 = n2) :
  LayAt w ((((w.alloc (.cells #[V.cells, V.pairs, I s.basin.gain, I s.basin.slack, I s.basin.deep, V.days, V.sights, V.changes] 42)).alloc (.cells #[V.cells, V.pairs, I s.basin.gain, I s.basin.slack, I s.basin.deep] 37)).alloc
   (.cells #[V.cells, V.pairs, I s.basin.gain, I s.basin.slack, I s.basin.deep, V.days, V.sights, V.changes, I nodes, .slice none 0 0, .slice none 0 0] 192)).alloc (.cells #[.pointer (some ⟨n2, 0, none⟩)] 193)) s V nodes [] := by
 subst e2
 have h1 := ScnAt.new w s V 42
 have b1 := below1 w (.cells #[V.cells, V.pairs, I s.basin.gain, I s.basin.slack, I s.basin.deep, V.days, V.sights, V.changes] 42)
 have z1 := World.size_alloc w (.cells #[V.cells, V.pairs, I s.basin.gain, I s.basin.slack, I s.basin.deep, V.days, V.sights, V.changes] 42)
 generalize w.alloc (.cells #[V.cells, V.pairs, I s.basin.gain, I s.basin.slack, I s.basin.deep, V.days, V.sights, V.changes] 42) = W1 at h1 b1 z1 ⊢
 have h2 := BasAt.new W1 s.basin V.cells V.pairs 37
 have b2 := below1 W1 (.cells #[V.cells, V.pairs, I s.basin.gain, I s.basin.slack, I s.basin.deep] 37)
 have z2 := World.size_alloc W1 (.cells #[V.cells, V.pairs, I s.basin.gain, I s.basin.slack, I s.basin.deep] 37)
 generalize W1.alloc (.cells #[V.cells, V.pairs, I s.basin.gain, I s.basin.slack, I s.basin.deep] 37) = W2 at h2 b2 z2 ⊢
 have h3 := Blk.new W2 192 #[V.cells, V.pairs, I s.basin.gain, I s.basin.slack, I s.basin.deep, V.days, V.sights, V.changes, I nodes, .slice none 0 0, .slice none 0 0]
 have b3 := below1 W2 (.cells #[V.cells, V.pairs, I s.basin.gain, I s.basin.slack, I s.basin.deep, V.days, V.sights, V.changes, I nodes, .slice none 0 0, .slice none 0 0] 192)
 have z3 := World.size_alloc W2 (.cells #[V.cells, V.pairs, I s.basin.gain, I s.basin.slack, I s.basin.deep, V.days, V.sights, V.changes, I nodes, .slice none 0 0, .slice none 0 0] 192)
 generalize W2.alloc (.cells #[V.cells, V.pairs, I s.basin.gain, I s.basin.slack, I s.basin.deep, V.days, V.sights, V.changes, I nodes, .slice none 0 0, .slice none 0 0] 192) = W3 at h3 b3 z3 ⊢
 have h4 := Blk.new W3 193 #[.pointer (some ⟨w.heap.size + 2, 0, none⟩)]
 have b4 := below1 W3 (.cells #[.pointer (some ⟨w.heap.size + 2, 0, none⟩)] 193)
 have z4 := World.size_alloc W3 (.cells #[.pointer (some ⟨w.heap.size + 2, 0, none⟩)] 193)
 generalize W3.alloc (.cells #[.pointer (some ⟨w.heap.size + 2, 0, none⟩)] 193) = W4 at h4 b4 z4 ⊢
 rw [z3, z2, z1] at h4
 rw [z2, z1] at h3
 rw [z1] at h2
 refine ⟨bup (bup (bup b1 b2) b3) b4, by omega, ((h1.grow b2).grow b3).grow b4, (h2.grow b3).grow b4, h4.cell 0, _, _, [], h3.below b4 h3.lt, Own.nil_ _ _ _ _ _, Own.nil_ _ _ _ _ _, rfl⟩

theorem basin_lay (s : Scene) (V : SceneV) (w : World) (hs : SceneAt w s V) (hv : SceneOk s) :
  Calls Tryz.prog 145 #[s.v V] w fun e w' => e = .returned (.pointer (some ⟨w.heap.size + 2, 0, none⟩)) ∧ LayAt w w' s V (nodesN s) (layD s) := by
 obtain ⟨vc, vp, vd, vs, vh⟩ := V
 have hs1 : Sl w 4 Cell.cells vc s.basin.cells := hs.cells
 have hs2 : Sl w 2 pairC vp s.basin.pairs := hs.pairs
 have hs3 : Sl w 1 intC vd s.days := hs.days
 have hs4 : Sl w 5 Sight.cells vs s.sights := hs.sights
 have hs5 : Sl w 5 Change.cells vh s.changes := hs.changes
 obtain ⟨Ac, nc, rfl, _, _, hlc, hAc⟩ := hs1.open_
 obtain ⟨Ap, np, rfl, _, _, hlp, hAp⟩ := hs2.open_
 obtain ⟨Ad, nd, rfl, _, _, hld, hAd⟩ := hs3.open_
 obtain ⟨As, ns, rfl, _, _, hls, hAs⟩ := hs4.open_
 obtain ⟨Ah, nh, rfl, _, _, hlh, hAh⟩ := hs5.open_
 obtain ⟨V, hV⟩ : ∃ V : SceneV, V = ⟨.slice Ac s.basin.cells.length nc, .slice Ap s.basin.pairs.length np, .slice Ad s.days.length nd, .slice As s.sights.length ns, .slice Ah s.changes.length nh⟩ := ⟨_, rfl⟩
 replace hs1 := hide hs1
 replace hs2 := hide hs2
 replace hs3 := hide hs3
 replace hs4 := hide hs4
 replace hs5 := hide hs5
 replace hAc := hide hAc
 replace hAp := hide hAp
 replace hAd := hide hAd
 replace hAs := hide hAs
 replace hAh := hide hAh
 unfold Scene.v
 simp only
 rw [← hV] at hs ⊢
 replace hs := hide hs
 have hn1 := hv.basin.hc1
 have hn2 := hv.basin.hc2
 have hm1 := hv.hd1
 have hm2 := hv.hd2
 replace hv := hide hv
 have hmn : (s.days.length : Int) * (s.basin.cells.length : Int) ≤ 16 * 12 := Int.le_trans (Int.mul_le_mul_of_nonneg_right (by omega : (s.days.length : Int) ≤ 16) (by omega)) (by omega)
 have hmn0 : 0 ≤ (s.days.length : Int) * (s.basin.cells.length : Int) := Int.mul_nonneg (by omega) (by omega)
 have hnod : (nodesN s : Int) = 1 + (s.days.length : Int) * (s.basin.cells.length : Int) := by simp [nodesN]
 obtain ⟨mn, hmn'⟩ : ∃ mn, (s.days.length : Int) * (s.basin.cells.length : Int) = mn := ⟨_, rfl⟩
 rw [hnod]
 rw [hmn'] at hmn hmn0 ⊢
 have w1 : IntKind.i64.wrap mn = mn := IntWalk.i64_in _ (by omega)
 have w2 : IntKind.i64.wrap (1 + mn) = 1 + mn := IntWalk.i64_in _ (by omega)
 clear hnod
 go_enter Tryz.func145, Tryz.ntmps145
 go_wp2_with fail
 obtain ⟨n1, e1⟩ : ∃ n, w.heap.size + 1 = n := ⟨_, rfl⟩
 obtain ⟨n2, e2⟩ : ∃ n, w.heap.size + 2 = n := ⟨_, rfl⟩
 obtain ⟨n3, e3⟩ : ∃ n, w.heap.size + 3 = n := ⟨_, rfl⟩
 have e2' : n1 + 1 = n2 := by omega
 have e3' : n2 + 1 = n3 := by omega
 rw [e1, e2', e3']
 have hL0 := LayAt.new w s V (1 + mn) e2
 simp only [hV] at hL0
 generalize (((w.alloc _).alloc _).alloc _).alloc _ = W0 at hL0 ⊢
 rw [← hV] at hL0
 have HN := fun W ds (h : LayAt w W s V (1 + mn) ds) c d hc hd => h.node hs.out hn2 c d hc hd
 have HP := fun W ds (h : LayAt w W s V (1 + mn) ds) hl f t m k i dd u => h.push hl f t m k i dd u
 simp only [e2] at HN HP
 replace HN := hide HN
 replace HP := hide HP
 replace hL0 := hide hL0
 go_loopw [39] (fun i wr => ∃ k : Nat, k ≤ s.days.length ∧ i = I k ∧ Hid (LayAt w wr s V (1 + mn) ((List.range k).flatMap (dayD s.basin)))) (fun i _ => s.days.length - (intOf i).toNat)
 case atStart => exact ⟨0, Nat.zero_le _, rfl, hL0⟩
 case round =>
  clear hL0
  obtain ⟨k, hk, rfl, hL⟩ := hrel
  obtain ⟨a5, a6, a7, b0, b1, b2, b3, b4, p0, z0, z1, z3⟩ := hL.out.facts hV e1 e2 e3
  have hdl := days_len hv.out hk
  by_cases hlt : k < s.days.length
  ·obtain ⟨g, off, rfl, hgw⟩ := hAd.out k hlt
   obtain ⟨dy, hx⟩ := getElem?_of_lt hlt
   obtain ⟨hbx, y0⟩ := (hs3.out.mono hL.out.below).int_at hx
   replace hx := hide hx
   go_wp2_with fail
   clear hbx y0 a5 a6 a7 b0 b1 b2 b3 b4 p0 z0 z1 z3
   go_loopw [47] (fun i wr => ∃ c : Nat, c ≤ s.basin.cells.length ∧ i = I c ∧ Hid (LayAt w wr s V (1 + mn) ((List.range k).flatMap (dayD s.basin) ++ (List.range c).flatMap (cellD s.basin k)))) (fun i _ => s.basin.cells.length - (intOf i).toNat)
   case atStart => exact ⟨0, Nat.zero_le _, rfl, hide (by simpa using hL.out)⟩
   case round =>
    clear hL
    obtain ⟨c, hc, rfl, hL⟩ := hrel
    have hcl := cells_len (d := k) hv.out.basin hc
    by_cases hlt2 : c < s.basin.cells.length
    ·obtain ⟨gc, oc, rfl, hgc⟩ := hAc.out c hlt2
     obtain ⟨x, hx2⟩ := getElem?_of_lt hlt2
     obtain ⟨a5, a6, a7, b0, b1, b2, b3, b4, p0, z0, z1, z3⟩ := hL.out.facts hV e1 e2 e3
     obtain ⟨hbx, y0, y1, y2, y3⟩ := (hs1.out.mono hL.out.below).cell_at hx2
     go_wp2_with fail
     have hb8 := Blk.new wr 101 #[I x.no, I x.height, I x.aspect, I x.area]
     have hL1 := hide (hL.out.grow (below1 wr (.cells #[I x.no, I x.height, I x.aspect, I x.area] 101)))
     have hB8 : w.heap.size + 4 ≤ wr.heap.size := hL.out.size
     generalize wr.alloc (.cells #[I x.no, I x.height, I x.aspect, I x.area] 101) = W1 at hb8 hL1 ⊢
     generalize wr.heap.size = B8 at hb8 hB8 hbx z0 z1 z3 ⊢
     clear a5 a6 a7 b0 b1 b2 b3 b4 p0 z0 z1 z3 y0 y1 y2 y3 hbx
     obtain ⟨a5, a6, a7, b0, b1, b2, b3, b4, p0, z0, z1, z3⟩ := hL1.out.facts hV e1 e2 e3
     replace hb8 := hide hb8
     refine wp_zgs (S := fun W => W.cell? ⟨n3, 0, none⟩ = some (.pointer (some ⟨n2, 0, none⟩)) ∧ W.cell? ⟨n1, 4, none⟩ = some (I s.basin.deep) ∧ W.cell? ⟨B8, 0, none⟩ = some (I x.no)) 11 ⟨p0, b4, hb8.out.cell 0⟩ fun hS0 => ?_
     have hWd : Below W1.heap.size W1 W1.drew := (Below.refl _ _).drew
     (refine zg_tk 0 ?_; refine zg_tk 1 ?_; refine zg_tk 2 ?_; refine zg_tk 3 ?_; refine zg_tk 5 ?_; refine zg_tk 6 ?_; refine zg_tk 7 ?_; refine zg_tk 8 ?_; refine zg_tk 9 ?_; refine zg_tk 10 ?_; (try go_frame))
     (refine zg_rd 4 fun K_ hK_ => ?_; go_simp; (refine (HN.out W1.drew _ (hL1.out.grow hWd) (c : Int) (k : Int) (by omega) (by omega)).mono ?_; rintro e w2 ⟨rfl, rfl⟩); refine hK_.out _ _ ?_ (fun hHeld => ?_); rotate_left; clear hK_ K_; (try go_frame); rotate_left)
     ·assumption
     (refine zg_ls 11 fun K_ hK_ => ?_; go_simp; (refine (HP.out W1.drew _ (hL1.out.grow hWd) (by simp only [List.length_append]; omega) 0 (nodeF s.basin.cells.length c k) s.basin.deep 1 x.no dy false).mono ?_; rintro e w3 ⟨⟨u, rfl⟩, hL3, hS3⟩); refine hK_.out _ _ ?_; clear hK_ K_; (try go_frame))
     replace hb8 := hide (hS3 B8 _ _ hb8.out.drew (by decide) (by decide) (by omega))
     replace hL3 := hide hL3
     clear hS3 hS0 a5 a6 a7 b0 b1 b2 b3 b4 p0 z0 z1 z3 hWd
     go_wp2_with fail
     obtain ⟨a5, a6, a7, b0, b1, b2, b3, b4, p0, z0, z1, z3⟩ := hL3.out.facts hV e1 e2 e3
     refine wp_zgs (S := fun W => W.cell? ⟨n3, 0, none⟩ = some (.pointer (some ⟨n2, 0, none⟩)) ∧ W.cell? ⟨B8, 0, none⟩ = some (I x.no)) 9 ⟨p0, hb8.out.cell 0⟩ fun hS0 => ?_
     have hWd : Below w3.heap.size w3 w3.drew := (Below.refl _ _).drew
     (refine zg_tk 0 ?_; refine zg_tk 1 ?_; refine zg_tk 2 ?_; refine zg_tk 3 ?_; refine zg_tk 5 ?_; refine zg_tk 6 ?_; refine zg_tk 7 ?_; refine zg_tk 8 ?_; (try go_frame))
     (refine zg_rd 4 fun K_ hK_ => ?_; go_simp; (refine (HN.out w3.drew _ (hL3.out.grow hWd) (c : Int) (k : Int) (by omega) (by omega)).mono ?_; rintro e w2 ⟨rfl, rfl⟩); refine hK_.out _ _ ?_ (fun hHeld => ?_); rotate_left; clear hK_ K_; (try go_frame); rotate_left)
     ·assumption
     (refine zg_ls 9 fun K_ hK_ => ?_; go_simp; (refine (HP.out w3.drew _ (hL3.out.grow hWd) (by simp only [List.length_append, List.length_cons, List.length_nil]; omega) (nodeF s.basin.cells.length c k) 0 0 2 x.no dy false).mono ?_; rintro e w4 ⟨⟨u', rfl⟩, hL4, hS4⟩); refine hK_.out _ _ ?_; clear hK_ K_; (try go_frame))
     replace hL4 := hide hL4
     clear hS4 hS0 a5 a6 a7 b0 b1 b2 b3 b4 p0 z0 z1 z3 hWd
     go_wp2_with fail
     go_roundw
     case rel => exact ⟨c + 1, by omega, by go_num, hide (by rw [range_flat]; simpa [cellD] using hL4.out)⟩
     case measure => simp [intOf]; omega
    ·have he : c = s.basin.cells.length := by omega
     subst he
     obtain ⟨a5, a6, a7, b0, b1, b2, b3, b4, p0, z0, z1, z3⟩ := hL.out.facts hV e1 e2 e3
     go_wp2_with fail
     clear a5 a6 a7 b0 b1 b2 b3 b4 p0 z0 z1 z3
     go_loopw [78] (fun i wr => ∃ q : Nat, q ≤ s.basin.pairs.length ∧ i = I q ∧ Hid (LayAt w wr s V (1 + mn) ((List.range k).flatMap (dayD s.basin) ++ (List.range s.basin.cells.length).flatMap (cellD s.basin k) ++ (s.basin.pairs.take q).flatMap (pairD s.basin k)))) (fun i _ => s.basin.pairs.length - (intOf i).toNat)
     case atStart => exact ⟨0, Nat.zero_le _, rfl, hide (by simpa using hL.out)⟩
     case round =>
      clear hL
      obtain ⟨q, hq, rfl, hL⟩ := hrel
      have hpl := pairs_len (d := k) (k := q) hv.out.basin
      by_cases hlt3 : q < s.basin.pairs.length
      ·obtain ⟨gp, op, rfl, hgp⟩ := hAp.out q hlt3
       obtain ⟨p, hx3⟩ := getElem?_of_lt hlt3
       obtain ⟨i, j, x, y, rfl, hil, hjl, hne, hxi, hyj, hxy, okx, oky⟩ := hv.out.basin.cells hx3
       obtain ⟨gc, oc, rfl, hgc⟩ := hAc.out i hil
       obtain ⟨a5, a6, a7, b0, b1, b2, b3, b4, p0, z0, z1, z3⟩ := hL.out.facts hV e1 e2 e3
       obtain ⟨hbp, y0, y1⟩ := (hs2.out.mono hL.out.below).pair_at hx3
       simp only at y0 y1
       have htk := take_flat (pairD s.basin k) hx3
       have hpd : pairD s.basin k ((i : Int), (j : Int)) = if likeB x y then [⟨nodeF s.basin.cells.length i k, nodeF s.basin.cells.length j k, moreF s.basin ((i : Int), (j : Int))⟩, ⟨nodeF s.basin.cells.length j k, nodeF s.basin.cells.length i k, if x.height = y.height then s.basin.slack else 0⟩] else [] := by
        simp only [pairD, Int.toNat_natCast, getD_of hxi, getD_of hyj]
       rw [hpd] at htk
       clear hpd
       replace htk := hide htk
       have HM := (fun w h => basin_more s.basin (.slice (some ⟨gc, oc, none⟩) s.basin.cells.length nc) (.slice (some ⟨gp, op, none⟩) s.basin.pairs.length np) i j x y w h hv.out.basin.gain hv.out.basin.slack hxi hyj okx.height.1 oky.height.2 hxy)
       simp only [Basin.v] at HM
       replace HM := hide HM
       have HL := (fun w => basin_like x y w okx.aspect oky.aspect)
       replace hx3 := hide hx3
       go_wp2_with fail
       have hb10 := Blk.new wr 203 #[I i, I j]
       have hL1 := hide (hL.out.grow (below1 wr (.cells #[I i, I j] 203)))
       have hB10 : w.heap.size + 4 ≤ wr.heap.size := hL.out.size
       generalize wr.alloc (.cells #[I i, I j] 203) = W1 at hb10 hL1 ⊢
       generalize wr.heap.size = B10 at hb10 hB10 hbp z0 z1 z3 ⊢
       clear a5 a6 a7 b0 b1 b2 b3 b4 p0 z0 z1 z3 y0 y1 hbp
       obtain ⟨a5, a6, a7, b0, b1, b2, b3, b4, p0, z0, z1, z3⟩ := hL1.out.facts hV e1 e2 e3
       obtain ⟨hgx, x0, x1, x2, x3⟩ := (hs1.out.mono hL1.out.below).cell_at hxi
       obtain ⟨_, v0, v1, v2, v3⟩ := (hs1.out.mono hL1.out.below).cell_at hyj
       have zb := hb10.lt
       obtain ⟨c0, c1⟩ := hb10.cells2
       replace hb10 := hide hb10
       clear hxi hyj
       refine wp_zgs (S := fun W => W.cell? ⟨n1, 0, none⟩ = some (.slice (some ⟨gc, oc, none⟩) s.basin.cells.length nc) ∧ W.cell? ⟨B10, 0, none⟩ = some (I i) ∧ W.cell? ⟨B10, 1, none⟩ = some (I j) ∧ W.cell? ⟨gc, oc + i * 4, none⟩ = some (I x.no) ∧ W.cell? ⟨gc, oc + i * 4 + 1, none⟩ = some (I x.height) ∧ W.cell? ⟨gc, oc + i * 4 + 2, none⟩ = some (I x.aspect) ∧ W.cell? ⟨gc, oc + i * 4 + 3, none⟩ = some (I x.area) ∧ W.cell? ⟨gc, oc + j * 4, none⟩ = some (I y.no) ∧ W.cell? ⟨gc, oc + j * 4 + 1, none⟩ = some (I y.height) ∧ W.cell? ⟨gc, oc + j * 4 + 2, none⟩ = some (I y.aspect) ∧ W.cell? ⟨gc, oc + j * 4 + 3, none⟩ = some (I y.area)) 15 ⟨b0, c0, c1, x0, x1, x2, x3, v0, v1, v2, v3⟩ fun hS0 => ?_
       have hWd : Below W1.heap.size W1 W1.drew := (Below.refl _ _).drew
       (refine zg_tk 0 ?_; refine zg_tk 1 ?_; refine zg_tk 2 ?_; refine zg_tk 3 ?_; refine zg_tk 4 ?_; refine zg_tk 5 ?_; refine zg_tk 6 ?_; refine zg_tk 7 ?_; refine zg_tk 8 ?_; refine zg_tk 9 ?_; refine zg_tk 10 ?_; refine zg_tk 11 ?_; (try go_frame))
       refine zg_two (i := 12) (j := 13) (by decide) (by decide) rfl rfl (by kernel_rfl) (fun K_ hK_ => ?_) (fun K_ hK_ => ?_)
       ·go_simp
        refine hK_.out _ _ ?_ (fun hHeld => ?_)
        ·go_keep
        clear hK_ K_
        (try go_frame)
        (refine zg_rd 13 fun K_ hK_ => ?_; go_simp; skip; refine hK_.out _ _ ?_ (fun hHeld => ?_); rotate_left; clear hK_ K_; (try go_frame); rotate_left)
        ·go_keep
        (refine zg_rd 14 fun K_ hK_ => ?_; go_simp; skip; refine hK_.out _ _ ?_ (fun hHeld => ?_); rotate_left; clear hK_ K_; (try go_frame); rotate_left)
        ·go_keep
        (refine zg_ls 15 fun K_ hK_ => ?_; go_simp; skip; refine hK_.out _ _ ?_; clear hK_ K_; (try go_frame))
        have hL2 := hide (((hL1.out.grow (below1 W1 (.cells #[I x.no, I x.height, I x.aspect, I x.area] 101))).grow (below1 _ (.cells #[I y.no, I y.height, I y.aspect, I y.area] 101))).grow (Below.refl _ _).drew)
        have hb2 := hide ((((hb10.out.alloc (.cells #[I x.no, I x.height, I x.aspect, I x.area] 101)).alloc (.cells #[I y.no, I y.height, I y.aspect, I y.area] 101))).drew)
        have hx2 := ((Blk.new W1 101 #[I x.no, I x.height, I x.aspect, I x.area]).alloc (.cells #[I y.no, I y.height, I y.aspect, I y.area] 101)).drew
        have hy2 := (Blk.new (W1.alloc (.cells #[I x.no, I x.height, I x.aspect, I x.area] 101)) 101 #[I y.no, I y.height, I y.aspect, I y.area]).drew
        rw [World.size_alloc] at hy2
        clear hS0 hWd hHeld
        try clear zb
        clear a5 a6 a7 b0 b1 b2 b3 b4 p0 z0 z1 z3 x0 x1 x2 x3 v0 v1 v2 v3 c0 c1 hgx hL1 hb10
        generalize ((W1.alloc (.cells #[I x.no, I x.height, I x.aspect, I x.area] 101)).alloc (.cells #[I y.no, I y.height, I y.aspect, I y.area] 101)).drew = W2 at hL2 hb2 hx2 hy2 ⊢
        generalize W1.heap.size + 1 = P2 at hx2 hy2 ⊢
        generalize W1.heap.size = P1 at hx2 hy2 ⊢
        obtain ⟨a5, a6, a7, b0, b1, b2, b3, b4, p0, z0, z1, z3⟩ := hL2.out.facts hV e1 e2 e3
        have xc := fun o => hx2.cell o
        have yc := fun o => hy2.cell o
        have x0 : W2.cell? ⟨P1, 0, none⟩ = some (I x.no) := xc 0
        have x1 : W2.cell? ⟨P1, 1, none⟩ = some (I x.height) := xc 1
        have x2 : W2.cell? ⟨P1, 2, none⟩ = some (I x.aspect) := xc 2
        have x3 : W2.cell? ⟨P1, 3, none⟩ = some (I x.area) := xc 3
        have v0 : W2.cell? ⟨P2, 0, none⟩ = some (I y.no) := yc 0
        have v1 : W2.cell? ⟨P2, 1, none⟩ = some (I y.height) := yc 1
        have v2 : W2.cell? ⟨P2, 2, none⟩ = some (I y.aspect) := yc 2
        have v3 : W2.cell? ⟨P2, 3, none⟩ = some (I y.area) := yc 3
        clear xc yc
        replace hx2 := hide hx2
        replace hy2 := hide hy2
        have zp1 := hx2.out.lt
        have zp2 := hy2.out.lt
        have H1 := HL
        cases hlk : likeB x y with
        | false =>
         rw [hlk] at H1
         replace H1 := hide H1
         go_wp2_with (first | (go_at_call 183; refine (H1.out _).mono ?_; rintro e wl ⟨rfl, hbl⟩; have u0 := fun o => (bcell hbl).1 P1 o zp1; have u1 := fun o => (bcell hbl).1 P2 o zp2; have u2 := fun o => (bcell hbl).1 n1 o z1))
         replace hL2 := hide (hL2.out.grow hbl)
         go_roundw
         case rel => exact ⟨q + 1, by omega, by go_num, hide (by rw [htk.out, if_neg (by rw [hlk]; simp)]; simpa using hL2.out)⟩
         case measure => simp [intOf]; omega
        | true =>
         rw [hlk] at H1
         replace H1 := hide H1
         by_cases heq : x.height = y.height
         ·have e0 : (x.height == y.height) = true := by simpa using heq
          replace heq := hide heq
          go_wp2_with (first | (go_at_call 183; refine (H1.out _).mono ?_; rintro e wl ⟨rfl, hbl⟩; have u0 := fun o => (bcell hbl).1 P1 o zp1; have u1 := fun o => (bcell hbl).1 P2 o zp2; have u2 := fun o => (bcell hbl).1 n1 o z1))
          replace hL2 := hide (hL2.out.grow hbl)
          replace hb2 := hide (hb2.out.grow hbl)
          clear u0 u1 u2 hbl x0 x1 x2 x3 v0 v1 v2 v3 zp1 zp2 H1
          clear a5 a6 a7 b0 b1 b2 b3 b4 p0 z0 z1 z3
          obtain ⟨a5, a6, a7, b0, b1, b2, b3, b4, p0, z0, z1, z3⟩ := hL2.out.facts hV e1 e2 e3
          refine wp_zgs (S := fun W => W.cell? ⟨n3, 0, none⟩ = some (.pointer (some ⟨n2, 0, none⟩)) ∧ W.cell? ⟨B10, 0, none⟩ = some (I i) ∧ W.cell? ⟨B10, 1, none⟩ = some (I j) ∧ W.cell? ⟨n1, 0, none⟩ = some (.slice (some ⟨gc, oc, none⟩) s.basin.cells.length nc) ∧ W.cell? ⟨n1, 1, none⟩ = some (.slice (some ⟨gp, op, none⟩) s.basin.pairs.length np) ∧ W.cell? ⟨n1, 2, none⟩ = some (I s.basin.gain) ∧ W.cell? ⟨n1, 3, none⟩ = some (I s.basin.slack) ∧ W.cell? ⟨n1, 4, none⟩ = some (I s.basin.deep)) 17 ⟨p0, hb2.out.cell 0, hb2.out.cell 1, b0, b1, b2, b3, b4⟩ fun hS0 => ?_
          have hWd : Below wl.heap.size wl wl.drew := (Below.refl _ _).drew
          have zb := hb2.out.lt
          (refine zg_tk 0 ?_; refine zg_tk 1 ?_; refine zg_tk 2 ?_; refine zg_tk 3 ?_; refine zg_tk 4 ?_; refine zg_tk 6 ?_; refine zg_tk 7 ?_; refine zg_tk 8 ?_; refine zg_tk 9 ?_; refine zg_tk 11 ?_; refine zg_tk 12 ?_; refine zg_tk 14 ?_; refine zg_tk 15 ?_; refine zg_tk 16 ?_; (try go_frame))
          (refine zg_rd 5 fun K_ hK_ => ?_; go_simp; (refine (HN.out wl.drew _ (hL2.out.grow hWd) (i : Int) (k : Int) (by omega) (by omega)).mono ?_; rintro e w2 ⟨rfl, rfl⟩); refine hK_.out _ _ ?_ (fun hHeld => ?_); rotate_left; clear hK_ K_; (try go_frame); rotate_left)
          ·assumption
          (refine zg_rd 10 fun K_ hK_ => ?_; go_simp; (refine (HN.out wl.drew _ (hL2.out.grow hWd) (j : Int) (k : Int) (by omega) (by omega)).mono ?_; rintro e w2 ⟨rfl, rfl⟩); refine hK_.out _ _ ?_ (fun hHeld => ?_); rotate_left; clear hK_ K_; (try go_frame); rotate_left)
          ·assumption
          (refine zg_rd 13 fun K_ hK_ => ?_; go_simp; (refine (HM.out wl.drew (hs1.out.mono (hL2.out.grow hWd).below)).mono ?_; rintro e w3 ⟨rfl, hb3⟩; have u0 := fun o => (bcell hb3).1 n3 o z3; have u1 := fun o => (bcell hb3).1 n1 o z1; have u2 := fun o => (bcell hb3).1 B10 o zb); refine hK_.out _ _ ?_ (fun hHeld => ?_); rotate_left; clear hK_ K_; (try go_frame); rotate_left)
          ·go_keep
          (refine zg_ls 17 fun K_ hK_ => ?_; go_simp; (refine (HP.out w3 _ ((hL2.out.grow hWd).grow hb3) (by simp only [List.length_append]; omega) (nodeF s.basin.cells.length i k) (nodeF s.basin.cells.length j k) (moreF s.basin ((i : Int), (j : Int))) 3 q dy false).mono ?_; rintro e w4 ⟨⟨u, rfl⟩, hL4, hS4⟩); refine hK_.out _ _ ?_; clear hK_ K_; (try go_frame))
          have hb4 := hide (hS4 B10 _ _ (hb2.out.drew.grow hb3) (by decide) (by decide) (by omega))
          replace hL4 := hide hL4
          clear hS4 hS0 hWd hb3 u0 u1 u2
          go_wp2_with fail
          clear a5 a6 a7 b0 b1 b2 b3 b4 p0 z0 z1 z3
          obtain ⟨a5, a6, a7, b0, b1, b2, b3, b4, p0, z0, z1, z3⟩ := hL4.out.facts hV e1 e2 e3
          refine wp_zgs (S := fun W => W.cell? ⟨n3, 0, none⟩ = some (.pointer (some ⟨n2, 0, none⟩)) ∧ W.cell? ⟨B10, 0, none⟩ = some (I i) ∧ W.cell? ⟨B10, 1, none⟩ = some (I j)) 15 ⟨p0, hb4.out.cell 0, hb4.out.cell 1⟩ fun hS0 => ?_
          have hWd : Below w4.heap.size w4 w4.drew := (Below.refl _ _).drew
          (refine zg_tk 0 ?_; refine zg_tk 1 ?_; refine zg_tk 2 ?_; refine zg_tk 3 ?_; refine zg_tk 4 ?_; refine zg_tk 6 ?_; refine zg_tk 7 ?_; refine zg_tk 8 ?_; refine zg_tk 9 ?_; refine zg_tk 11 ?_; refine zg_tk 12 ?_; refine zg_tk 13 ?_; refine zg_tk 14 ?_; (try go_frame))
          (refine zg_rd 5 fun K_ hK_ => ?_; go_simp; (refine (HN.out w4.drew _ (hL4.out.grow hWd) (j : Int) (k : Int) (by omega) (by omega)).mono ?_; rintro e w2 ⟨rfl, rfl⟩); refine hK_.out _ _ ?_ (fun hHeld => ?_); rotate_left; clear hK_ K_; (try go_frame); rotate_left)
          ·assumption
          (refine zg_rd 10 fun K_ hK_ => ?_; go_simp; (refine (HN.out w4.drew _ (hL4.out.grow hWd) (i : Int) (k : Int) (by omega) (by omega)).mono ?_; rintro e w2 ⟨rfl, rfl⟩); refine hK_.out _ _ ?_ (fun hHeld => ?_); rotate_left; clear hK_ K_; (try go_frame); rotate_left)
          ·assumption
          (refine zg_ls 15 fun K_ hK_ => ?_; go_simp; (refine (HP.out w4.drew _ (hL4.out.grow hWd) (by simp only [List.length_append, List.length_cons, List.length_nil]; omega) (nodeF s.basin.cells.length j k) (nodeF s.basin.cells.length i k) s.basin.slack 4 q dy false).mono ?_; rintro e w5 ⟨⟨u', rfl⟩, hL5, hS5⟩); refine hK_.out _ _ ?_; clear hK_ K_; (try go_frame))
          replace hL5 := hide hL5
          clear hS5 hS0 hWd
          clear a5 a6 a7 b0 b1 b2 b3 b4 p0 z0 z1 z3
          go_wp2_with fail
          go_roundw
          case rel => exact ⟨q + 1, by omega, by go_num, hide (by rw [htk.out, if_pos hlk, if_pos heq.out]; simpa using hL5.out)⟩
          case measure => simp [intOf]; omega
         ·have e0 : (x.height == y.height) = false := by simpa using heq
          replace heq := hide heq
          go_wp2_with (first | (go_at_call 183; refine (H1.out _).mono ?_; rintro e wl ⟨rfl, hbl⟩; have u0 := fun o => (bcell hbl).1 P1 o zp1; have u1 := fun o => (bcell hbl).1 P2 o zp2; have u2 := fun o => (bcell hbl).1 n1 o z1))
          replace hL2 := hide (hL2.out.grow hbl)
          replace hb2 := hide (hb2.out.grow hbl)
          clear u0 u1 u2 hbl x0 x1 x2 x3 v0 v1 v2 v3 zp1 zp2 H1
          clear a5 a6 a7 b0 b1 b2 b3 b4 p0 z0 z1 z3
          obtain ⟨a5, a6, a7, b0, b1, b2, b3, b4, p0, z0, z1, z3⟩ := hL2.out.facts hV e1 e2 e3
          refine wp_zgs (S := fun W => W.cell? ⟨n3, 0, none⟩ = some (.pointer (some ⟨n2, 0, none⟩)) ∧ W.cell? ⟨B10, 0, none⟩ = some (I i) ∧ W.cell? ⟨B10, 1, none⟩ = some (I j) ∧ W.cell? ⟨n1, 0, none⟩ = some (.slice (some ⟨gc, oc, none⟩) s.basin.cells.length nc) ∧ W.cell? ⟨n1, 1, none⟩ = some (.slice (some ⟨gp, op, none⟩) s.basin.pairs.length np) ∧ W.cell? ⟨n1, 2, none⟩ = some (I s.basin.gain) ∧ W.cell? ⟨n1, 3, none⟩ = some (I s.basin.slack) ∧ W.cell? ⟨n1, 4, none⟩ = some (I s.basin.deep)) 17 ⟨p0, hb2.out.cell 0, hb2.out.cell 1, b0, b1, b2, b3, b4⟩ fun hS0 => ?_
          have hWd : Below wl.heap.size wl wl.drew := (Below.refl _ _).drew
          have zb := hb2.out.lt
          (refine zg_tk 0 ?_; refine zg_tk 1 ?_; refine zg_tk 2 ?_; refine zg_tk 3 ?_; refine zg_tk 4 ?_; refine zg_tk 6 ?_; refine zg_tk 7 ?_; refine zg_tk 8 ?_; refine zg_tk 9 ?_; refine zg_tk 11 ?_; refine zg_tk 12 ?_; refine zg_tk 14 ?_; refine zg_tk 15 ?_; refine zg_tk 16 ?_; (try go_frame))
          (refine zg_rd 5 fun K_ hK_ => ?_; go_simp; (refine (HN.out wl.drew _ (hL2.out.grow hWd) (i : Int) (k : Int) (by omega) (by omega)).mono ?_; rintro e w2 ⟨rfl, rfl⟩); refine hK_.out _ _ ?_ (fun hHeld => ?_); rotate_left; clear hK_ K_; (try go_frame); rotate_left)
          ·assumption
          (refine zg_rd 10 fun K_ hK_ => ?_; go_simp; (refine (HN.out wl.drew _ (hL2.out.grow hWd) (j : Int) (k : Int) (by omega) (by omega)).mono ?_; rintro e w2 ⟨rfl, rfl⟩); refine hK_.out _ _ ?_ (fun hHeld => ?_); rotate_left; clear hK_ K_; (try go_frame); rotate_left)
          ·assumption
          (refine zg_rd 13 fun K_ hK_ => ?_; go_simp; (refine (HM.out wl.drew (hs1.out.mono (hL2.out.grow hWd).below)).mono ?_; rintro e w3 ⟨rfl, hb3⟩; have u0 := fun o => (bcell hb3).1 n3 o z3; have u1 := fun o => (bcell hb3).1 n1 o z1; have u2 := fun o => (bcell hb3).1 B10 o zb); refine hK_.out _ _ ?_ (fun hHeld => ?_); rotate_left; clear hK_ K_; (try go_frame); rotate_left)
          ·go_keep
          (refine zg_ls 17 fun K_ hK_ => ?_; go_simp; (refine (HP.out w3 _ ((hL2.out.grow hWd).grow hb3) (by simp only [List.length_append]; omega) (nodeF s.basin.cells.length i k) (nodeF s.basin.cells.length j k) (moreF s.basin ((i : Int), (j : Int))) 3 q dy false).mono ?_; rintro e w4 ⟨⟨u, rfl⟩, hL4, hS4⟩); refine hK_.out _ _ ?_; clear hK_ K_; (try go_frame))
          have hb4 := hide (hS4 B10 _ _ (hb2.out.drew.grow hb3) (by decide) (by decide) (by omega))
          replace hL4 := hide hL4
          clear hS4 hS0 hWd hb3 u0 u1 u2
          go_wp2_with fail
          clear a5 a6 a7 b0 b1 b2 b3 b4 p0 z0 z1 z3
          obtain ⟨a5, a6, a7, b0, b1, b2, b3, b4, p0, z0, z1, z3⟩ := hL4.out.facts hV e1 e2 e3
          refine wp_zgs (S := fun W => W.cell? ⟨n3, 0, none⟩ = some (.pointer (some ⟨n2, 0, none⟩)) ∧ W.cell? ⟨B10, 0, none⟩ = some (I i) ∧ W.cell? ⟨B10, 1, none⟩ = some (I j)) 15 ⟨p0, hb4.out.cell 0, hb4.out.cell 1⟩ fun hS0 => ?_
          have hWd : Below w4.heap.size w4 w4.drew := (Below.refl _ _).drew
          (refine zg_tk 0 ?_; refine zg_tk 1 ?_; refine zg_tk 2 ?_; refine zg_tk 3 ?_; refine zg_tk 4 ?_; refine zg_tk 6 ?_; refine zg_tk 7 ?_; refine zg_tk 8 ?_; refine zg_tk 9 ?_; refine zg_tk 11 ?_; refine zg_tk 12 ?_; refine zg_tk 13 ?_; refine zg_tk 14 ?_; (try go_frame))
          (refine zg_rd 5 fun K_ hK_ => ?_; go_simp; (refine (HN.out w4.drew _ (hL4.out.grow hWd) (j : Int) (k : Int) (by omega) (by omega)).mono ?_; rintro e w2 ⟨rfl, rfl⟩); refine hK_.out _ _ ?_ (fun hHeld => ?_); rotate_left; clear hK_ K_; (try go_frame); rotate_left)
          ·assumption
          (refine zg_rd 10 fun K_ hK_ => ?_; go_simp; (refine (HN.out w4.drew _ (hL4.out.grow hWd) (i : Int) (k : Int) (by omega) (by omega)).mono ?_; rintro e w2 ⟨rfl, rfl⟩); refine hK_.out _ _ ?_ (fun hHeld => ?_); rotate_left; clear hK_ K_; (try go_frame); rotate_left)
          ·assumption
          (refine zg_ls 15 fun K_ hK_ => ?_; go_simp; (refine (HP.out w4.drew _ (hL4.out.grow hWd) (by simp only [List.length_append, List.length_cons, List.length_nil]; omega) (nodeF s.basin.cells.length j k) (nodeF s.basin.cells.length i k) 0 4 q dy false).mono ?_; rintro e w5 ⟨⟨u', rfl⟩, hL5, hS5⟩); refine hK_.out _ _ ?_; clear hK_ K_; (try go_frame))
          replace hL5 := hide hL5
          clear hS5 hS0 hWd
          clear a5 a6 a7 b0 b1 b2 b3 b4 p0 z0 z1 z3
          go_wp2_with fail
          go_roundw
          case rel => exact ⟨q + 1, by omega, by go_num, hide (by rw [htk.out, if_pos hlk, if_neg heq.out]; simpa using hL5.out)⟩
          case measure => simp [intOf]; omega
       ·go_simp
        refine hK_.out _ _ ?_ (fun hHeld => ?_)
        ·go_keep
        clear hK_ K_
        (try go_frame)
        (refine zg_rd 12 fun K_ hK_ => ?_; go_simp; skip; refine hK_.out _ _ ?_ (fun hHeld => ?_); rotate_left; clear hK_ K_; (try go_frame); rotate_left)
        ·go_keep
        (refine zg_rd 14 fun K_ hK_ => ?_; go_simp; skip; refine hK_.out _ _ ?_ (fun hHeld => ?_); rotate_left; clear hK_ K_; (try go_frame); rotate_left)
        ·go_keep
        (refine zg_ls 15 fun K_ hK_ => ?_; go_simp; skip; refine hK_.out _ _ ?_; clear hK_ K_; (try go_frame))
        have hL2 := hide (((hL1.out.grow (below1 W1 (.cells #[I y.no, I y.height, I y.aspect, I y.area] 101))).grow (below1 _ (.cells #[I x.no, I x.height, I x.aspect, I x.area] 101))).grow (Below.refl _ _).drew)
        have hb2 := hide ((((hb10.out.alloc (.cells #[I y.no, I y.height, I y.aspect, I y.area] 101)).alloc (.cells #[I x.no, I x.height, I x.aspect, I x.area] 101))).drew)
        have hy2 := ((Blk.new W1 101 #[I y.no, I y.height, I y.aspect, I y.area]).alloc (.cells #[I x.no, I x.height, I x.aspect, I x.area] 101)).drew
        have hx2 := (Blk.new (W1.alloc (.cells #[I y.no, I y.height, I y.aspect, I y.area] 101)) 101 #[I x.no, I x.height, I x.aspect, I x.area]).drew
        rw [World.size_alloc] at hx2
        clear hS0 hWd hHeld
        try clear zb
        clear a5 a6 a7 b0 b1 b2 b3 b4 p0 z0 z1 z3 x0 x1 x2 x3 v0 v1 v2 v3 c0 c1 hgx hL1 hb10
        generalize ((W1.alloc (.cells #[I y.no, I y.height, I y.aspect, I y.area] 101)).alloc (.cells #[I x.no, I x.height, I x.aspect, I x.area] 101)).drew = W2 at hL2 hb2 hx2 hy2 ⊢
        generalize W1.heap.size + 1 = P1 at hx2 hy2 ⊢
        generalize W1.heap.size = P2 at hx2 hy2 ⊢
        obtain ⟨a5, a6, a7, b0, b1, b2, b3, b4, p0, z0, z1, z3⟩ := hL2.out.facts hV e1 e2 e3
        have xc := fun o => hx2.cell o
        have yc := fun o => hy2.cell o
        have x0 : W2.cell? ⟨P1, 0, none⟩ = some (I x.no) := xc 0
        have x1 : W2.cell? ⟨P1, 1, none⟩ = some (I x.height) := xc 1
        have x2 : W2.cell? ⟨P1, 2, none⟩ = some (I x.aspect) := xc 2
        have x3 : W2.cell? ⟨P1, 3, none⟩ = some (I x.area) := xc 3
        have v0 : W2.cell? ⟨P2, 0, none⟩ = some (I y.no) := yc 0
        have v1 : W2.cell? ⟨P2, 1, none⟩ = some (I y.height) := yc 1
        have v2 : W2.cell? ⟨P2, 2, none⟩ = some (I y.aspect) := yc 2
        have v3 : W2.cell? ⟨P2, 3, none⟩ = some (I y.area) := yc 3
        clear xc yc
        replace hx2 := hide hx2
        replace hy2 := hide hy2
        have zp1 := hx2.out.lt
        have zp2 := hy2.out.lt
        have H1 := HL
        cases hlk : likeB x y with
        | false =>
         rw [hlk] at H1
         replace H1 := hide H1
         go_wp2_with (first | (go_at_call 183; refine (H1.out _).mono ?_; rintro e wl ⟨rfl, hbl⟩; have u0 := fun o => (bcell hbl).1 P1 o zp1; have u1 := fun o => (bcell hbl).1 P2 o zp2; have u2 := fun o => (bcell hbl).1 n1 o z1))
         replace hL2 := hide (hL2.out.grow hbl)
         go_roundw
         case rel => exact ⟨q + 1, by omega, by go_num, hide (by rw [htk.out, if_neg (by rw [hlk]; simp)]; simpa using hL2.out)⟩
         case measure => simp [intOf]; omega
        | true =>
         rw [hlk] at H1
         replace H1 := hide H1
         by_cases heq : x.height = y.height
         ·have e0 : (x.height == y.height) = true := by simpa using heq
          replace heq := hide heq
          go_wp2_with (first | (go_at_call 183; refine (H1.out _).mono ?_; rintro e wl ⟨rfl, hbl⟩; have u0 := fun o => (bcell hbl).1 P1 o zp1; have u1 := fun o => (bcell hbl).1 P2 o zp2; have u2 := fun o => (bcell hbl).1 n1 o z1))
          replace hL2 := hide (hL2.out.grow hbl)
          replace hb2 := hide (hb2.out.grow hbl)
          clear u0 u1 u2 hbl x0 x1 x2 x3 v0 v1 v2 v3 zp1 zp2 H1
          clear a5 a6 a7 b0 b1 b2 b3 b4 p0 z0 z1 z3
          obtain ⟨a5, a6, a7, b0, b1, b2, b3, b4, p0, z0, z1, z3⟩ := hL2.out.facts hV e1 e2 e3
          refine wp_zgs (S := fun W => W.cell? ⟨n3, 0, none⟩ = some (.pointer (some ⟨n2, 0, none⟩)) ∧ W.cell? ⟨B10, 0, none⟩ = some (I i) ∧ W.cell? ⟨B10, 1, none⟩ = some (I j) ∧ W.cell? ⟨n1, 0, none⟩ = some (.slice (some ⟨gc, oc, none⟩) s.basin.cells.length nc) ∧ W.cell? ⟨n1, 1, none⟩ = some (.slice (some ⟨gp, op, none⟩) s.basin.pairs.length np) ∧ W.cell? ⟨n1, 2, none⟩ = some (I s.basin.gain) ∧ W.cell? ⟨n1, 3, none⟩ = some (I s.basin.slack) ∧ W.cell? ⟨n1, 4, none⟩ = some (I s.basin.deep)) 17 ⟨p0, hb2.out.cell 0, hb2.out.cell 1, b0, b1, b2, b3, b4⟩ fun hS0 => ?_
          have hWd : Below wl.heap.size wl wl.drew := (Below.refl _ _).drew
          have zb := hb2.out.lt
          (refine zg_tk 0 ?_; refine zg_tk 1 ?_; refine zg_tk 2 ?_; refine zg_tk 3 ?_; refine zg_tk 4 ?_; refine zg_tk 6 ?_; refine zg_tk 7 ?_; refine zg_tk 8 ?_; refine zg_tk 9 ?_; refine zg_tk 11 ?_; refine zg_tk 12 ?_; refine zg_tk 14 ?_; refine zg_tk 15 ?_; refine zg_tk 16 ?_; (try go_frame))
          (refine zg_rd 5 fun K_ hK_ => ?_; go_simp; (refine (HN.out wl.drew _ (hL2.out.grow hWd) (i : Int) (k : Int) (by omega) (by omega)).mono ?_; rintro e w2 ⟨rfl, rfl⟩); refine hK_.out _ _ ?_ (fun hHeld => ?_); rotate_left; clear hK_ K_; (try go_frame); rotate_left)
          ·assumption
          (refine zg_rd 10 fun K_ hK_ => ?_; go_simp; (refine (HN.out wl.drew _ (hL2.out.grow hWd) (j : Int) (k : Int) (by omega) (by omega)).mono ?_; rintro e w2 ⟨rfl, rfl⟩); refine hK_.out _ _ ?_ (fun hHeld => ?_); rotate_left; clear hK_ K_; (try go_frame); rotate_left)
          ·assumption
          (refine zg_rd 13 fun K_ hK_ => ?_; go_simp; (refine (HM.out wl.drew (hs1.out.mono (hL2.out.grow hWd).below)).mono ?_; rintro e w3 ⟨rfl, hb3⟩; have u0 := fun o => (bcell hb3).1 n3 o z3; have u1 := fun o => (bcell hb3).1 n1 o z1; have u2 := fun o => (bcell hb3).1 B10 o zb); refine hK_.out _ _ ?_ (fun hHeld => ?_); rotate_left; clear hK_ K_; (try go_frame); rotate_left)
          ·go_keep
          (refine zg_ls 17 fun K_ hK_ => ?_; go_simp; (refine (HP.out w3 _ ((hL2.out.grow hWd).grow hb3) (by simp only [List.length_append]; omega) (nodeF s.basin.cells.length i k) (nodeF s.basin.cells.length j k) (moreF s.basin ((i : Int), (j : Int))) 3 q dy false).mono ?_; rintro e w4 ⟨⟨u, rfl⟩, hL4, hS4⟩); refine hK_.out _ _ ?_; clear hK_ K_; (try go_frame))
          have hb4 := hide (hS4 B10 _ _ (hb2.out.drew.grow hb3) (by decide) (by decide) (by omega))
          replace hL4 := hide hL4
          clear hS4 hS0 hWd hb3 u0 u1 u2
          go_wp2_with fail
          clear a5 a6 a7 b0 b1 b2 b3 b4 p0 z0 z1 z3
          obtain ⟨a5, a6, a7, b0, b1, b2, b3, b4, p0, z0, z1, z3⟩ := hL4.out.facts hV e1 e2 e3
          refine wp_zgs (S := fun W => W.cell? ⟨n3, 0, none⟩ = some (.pointer (some ⟨n2, 0, none⟩)) ∧ W.cell? ⟨B10, 0, none⟩ = some (I i) ∧ W.cell? ⟨B10, 1, none⟩ = some (I j)) 15 ⟨p0, hb4.out.cell 0, hb4.out.cell 1⟩ fun hS0 => ?_
          have hWd : Below w4.heap.size w4 w4.drew := (Below.refl _ _).drew
          (refine zg_tk 0 ?_; refine zg_tk 1 ?_; refine zg_tk 2 ?_; refine zg_tk 3 ?_; refine zg_tk 4 ?_; refine zg_tk 6 ?_; refine zg_tk 7 ?_; refine zg_tk 8 ?_; refine zg_tk 9 ?_; refine zg_tk 11 ?_; refine zg_tk 12 ?_; refine zg_tk 13 ?_; refine zg_tk 14 ?_; (try go_frame))
          (refine zg_rd 5 fun K_ hK_ => ?_; go_simp; (refine (HN.out w4.drew _ (hL4.out.grow hWd) (j : Int) (k : Int) (by omega) (by omega)).mono ?_; rintro e w2 ⟨rfl, rfl⟩); refine hK_.out _ _ ?_ (fun hHeld => ?_); rotate_left; clear hK_ K_; (try go_frame); rotate_left)
          ·assumption
          (refine zg_rd 10 fun K_ hK_ => ?_; go_simp; (refine (HN.out w4.drew _ (hL4.out.grow hWd) (i : Int) (k : Int) (by omega) (by omega)).mono ?_; rintro e w2 ⟨rfl, rfl⟩); refine hK_.out _ _ ?_ (fun hHeld => ?_); rotate_left; clear hK_ K_; (try go_frame); rotate_left)
          ·assumption
          (refine zg_ls 15 fun K_ hK_ => ?_; go_simp; (refine (HP.out w4.drew _ (hL4.out.grow hWd) (by simp only [List.length_append, List.length_cons, List.length_nil]; omega) (nodeF s.basin.cells.length j k) (nodeF s.basin.cells.length i k) s.basin.slack 4 q dy false).mono ?_; rintro e w5 ⟨⟨u', rfl⟩, hL5, hS5⟩); refine hK_.out _ _ ?_; clear hK_ K_; (try go_frame))
          replace hL5 := hide hL5
          clear hS5 hS0 hWd
          clear a5 a6 a7 b0 b1 b2 b3 b4 p0 z0 z1 z3
          go_wp2_with fail
          go_roundw
          case rel => exact ⟨q + 1, by omega, by go_num, hide (by rw [htk.out, if_pos hlk, if_pos heq.out]; simpa using hL5.out)⟩
          case measure => simp [intOf]; omega
         ·have e0 : (x.height == y.height) = false := by simpa using heq
          replace heq := hide heq
          go_wp2_with (first | (go_at_call 183; refine (H1.out _).mono ?_; rintro e wl ⟨rfl, hbl⟩; have u0 := fun o => (bcell hbl).1 P1 o zp1; have u1 := fun o => (bcell hbl).1 P2 o zp2; have u2 := fun o => (bcell hbl).1 n1 o z1))
          replace hL2 := hide (hL2.out.grow hbl)
          replace hb2 := hide (hb2.out.grow hbl)
          clear u0 u1 u2 hbl x0 x1 x2 x3 v0 v1 v2 v3 zp1 zp2 H1
          clear a5 a6 a7 b0 b1 b2 b3 b4 p0 z0 z1 z3
          obtain ⟨a5, a6, a7, b0, b1, b2, b3, b4, p0, z0, z1, z3⟩ := hL2.out.facts hV e1 e2 e3
          refine wp_zgs (S := fun W => W.cell? ⟨n3, 0, none⟩ = some (.pointer (some ⟨n2, 0, none⟩)) ∧ W.cell? ⟨B10, 0, none⟩ = some (I i) ∧ W.cell? ⟨B10, 1, none⟩ = some (I j) ∧ W.cell? ⟨n1, 0, none⟩ = some (.slice (some ⟨gc, oc, none⟩) s.basin.cells.length nc) ∧ W.cell? ⟨n1, 1, none⟩ = some (.slice (some ⟨gp, op, none⟩) s.basin.pairs.length np) ∧ W.cell? ⟨n1, 2, none⟩ = some (I s.basin.gain) ∧ W.cell? ⟨n1, 3, none⟩ = some (I s.basin.slack) ∧ W.cell? ⟨n1, 4, none⟩ = some (I s.basin.deep)) 17 ⟨p0, hb2.out.cell 0, hb2.out.cell 1, b0, b1, b2, b3, b4⟩ fun hS0 => ?_
          have hWd : Below wl.heap.size wl wl.drew := (Below.refl _ _).drew
          have zb := hb2.out.lt
          (refine zg_tk 0 ?_; refine zg_tk 1 ?_; refine zg_tk 2 ?_; refine zg_tk 3 ?_; refine zg_tk 4 ?_; refine zg_tk 6 ?_; refine zg_tk 7 ?_; refine zg_tk 8 ?_; refine zg_tk 9 ?_; refine zg_tk 11 ?_; refine zg_tk 12 ?_; refine zg_tk 14 ?_; refine zg_tk 15 ?_; refine zg_tk 16 ?_; (try go_frame))
          (refine zg_rd 5 fun K_ hK_ => ?_; go_simp; (refine (HN.out wl.drew _ (hL2.out.grow hWd) (i : Int) (k : Int) (by omega) (by omega)).mono ?_; rintro e w2 ⟨rfl, rfl⟩); refine hK_.out _ _ ?_ (fun hHeld => ?_); rotate_left; clear hK_ K_; (try go_frame); rotate_left)
          ·assumption
          (refine zg_rd 10 fun K_ hK_ => ?_; go_simp; (refine (HN.out wl.drew _ (hL2.out.grow hWd) (j : Int) (k : Int) (by omega) (by omega)).mono ?_; rintro e w2 ⟨rfl, rfl⟩); refine hK_.out _ _ ?_ (fun hHeld => ?_); rotate_left; clear hK_ K_; (try go_frame); rotate_left)
          ·assumption
          (refine zg_rd 13 fun K_ hK_ => ?_; go_simp; (refine (HM.out wl.drew (hs1.out.mono (hL2.out.grow hWd).below)).mono ?_; rintro e w3 ⟨rfl, hb3⟩; have u0 := fun o => (bcell hb3).1 n3 o z3; have u1 := fun o => (bcell hb3).1 n1 o z1; have u2 := fun o => (bcell hb3).1 B10 o zb); refine hK_.out _ _ ?_ (fun hHeld => ?_); rotate_left; clear hK_ K_; (try go_frame); rotate_left)
          ·go_keep
          (refine zg_ls 17 fun K_ hK_ => ?_; go_simp; (refine (HP.out w3 _ ((hL2.out.grow hWd).grow hb3) (by simp only [List.length_append]; omega) (nodeF s.basin.cells.length i k) (nodeF s.basin.cells.length j k) (moreF s.basin ((i : Int), (j : Int))) 3 q dy false).mono ?_; rintro e w4 ⟨⟨u, rfl⟩, hL4, hS4⟩); refine hK_.out _ _ ?_; clear hK_ K_; (try go_frame))
          have hb4 := hide (hS4 B10 _ _ (hb2.out.drew.grow hb3) (by decide) (by decide) (by omega))
          replace hL4 := hide hL4
          clear hS4 hS0 hWd hb3 u0 u1 u2
          go_wp2_with fail
          clear a5 a6 a7 b0 b1 b2 b3 b4 p0 z0 z1 z3
          obtain ⟨a5, a6, a7, b0, b1, b2, b3, b4, p0, z0, z1, z3⟩ := hL4.out.facts hV e1 e2 e3
          refine wp_zgs (S := fun W => W.cell? ⟨n3, 0, none⟩ = some (.pointer (some ⟨n2, 0, none⟩)) ∧ W.cell? ⟨B10, 0, none⟩ = some (I i) ∧ W.cell? ⟨B10, 1, none⟩ = some (I j)) 15 ⟨p0, hb4.out.cell 0, hb4.out.cell 1⟩ fun hS0 => ?_
          have hWd : Below w4.heap.size w4 w4.drew := (Below.refl _ _).drew
          (refine zg_tk 0 ?_; refine zg_tk 1 ?_; refine zg_tk 2 ?_; refine zg_tk 3 ?_; refine zg_tk 4 ?_; refine zg_tk 6 ?_; refine zg_tk 7 ?_; refine zg_tk 8 ?_; refine zg_tk 9 ?_; refine zg_tk 11 ?_; refine zg_tk 12 ?_; refine zg_tk 13 ?_; refine zg_tk 14 ?_; (try go_frame))
          (refine zg_rd 5 fun K_ hK_ => ?_; go_simp; (refine (HN.out w4.drew _ (hL4.out.grow hWd) (j : Int) (k : Int) (by omega) (by omega)).mono ?_; rintro e w2 ⟨rfl, rfl⟩); refine hK_.out _ _ ?_ (fun hHeld => ?_); rotate_left; clear hK_ K_; (try go_frame); rotate_left)
          ·assumption
          (refine zg_rd 10 fun K_ hK_ => ?_; go_simp; (refine (HN.out w4.drew _ (hL4.out.grow hWd) (i : Int) (k : Int) (by omega) (by omega)).mono ?_; rintro e w2 ⟨rfl, rfl⟩); refine hK_.out _ _ ?_ (fun hHeld => ?_); rotate_left; clear hK_ K_; (try go_frame); rotate_left)
          ·assumption
          (refine zg_ls 15 fun K_ hK_ => ?_; go_simp; (refine (HP.out w4.drew _ (hL4.out.grow hWd) (by simp only [List.length_append, List.length_cons, List.length_nil]; omega) (nodeF s.basin.cells.length j k) (nodeF s.basin.cells.length i k) 0 4 q dy false).mono ?_; rintro e w5 ⟨⟨u', rfl⟩, hL5, hS5⟩); refine hK_.out _ _ ?_; clear hK_ K_; (try go_frame))
          replace hL5 := hide hL5
          clear hS5 hS0 hWd
          clear a5 a6 a7 b0 b1 b2 b3 b4 p0 z0 z1 z3
          go_wp2_with fail
          go_roundw
          case rel => exact ⟨q + 1, by omega, by go_num, hide (by rw [htk.out, if_pos hlk, if_neg heq.out]; simpa using hL5.out)⟩
          case measure => simp [intOf]; omega
      ·have he : q = s.basin.pairs.length := by omega
       subst he
       obtain ⟨a5, a6, a7, b0, b1, b2, b3, b4, p0, z0, z1, z3⟩ := hL.out.facts hV e1 e2 e3
       go_wp2_with fail
       go_roundw
       case rel => exact ⟨k + 1, by omega, by go_num, hide (by rw [range_flat]; simpa [dayD, List.append_assoc] using hL.out)⟩
       case measure => simp [intOf]; omega
  ·have he : k = s.days.length := by omega
   subst he
   obtain ⟨DD, hDD⟩ : ∃ DD, (List.range s.days.length).flatMap (dayD s.basin) = DD := ⟨_, rfl⟩
   have hlay : layD s = DD ++ s.sights.flatMap (sightD s) ++ s.changes.flatMap (changeD s) := by rw [← hDD]; rfl
   rw [hDD] at hL hdl
   replace hlay := hide hlay
   have hsl := fun q => (show ((s.sights.take q).flatMap (sightD s)).length ≤ 512 by
    have h1 := flatMap_len (f := sightD s) (c := 2) (s.sights.take q) fun _ _ => by simp [sightD]
    have := hv.out.hsl
    simp only [List.length_take] at h1
    omega)
   have hcl := fun q => (show ((s.changes.take q).flatMap (changeD s)).length ≤ 512 by
    have h1 := flatMap_len (f := changeD s) (c := 2) (s.changes.take q) fun _ _ => by simp [changeD]
    have := hv.out.hcl
    simp only [List.length_take] at h1
    omega)
   replace hsl := hide hsl
   replace hcl := hide hcl
   have HPL := fun W ds cell day (h : LayAt w W s V (1 + mn) ds) h1 h2 => lay_place w W s V (1 + mn) ds cell day h hs.out hn2 hm2 h1 h2
   simp only [e1, e3] at HPL
   replace HPL := hide HPL
   go_wp2_with fail
   clear a5 a6 a7 b0 b1 b2 b3 b4 p0 z0 z1 z3
   go_loopw [146] (fun i wr => ∃ q : Nat, q ≤ s.sights.length ∧ i = I q ∧ Hid (LayAt w wr s V (1 + mn) (DD ++ (s.sights.take q).flatMap (sightD s)))) (fun i _ => s.sights.length - (intOf i).toNat)
   case atStart => exact ⟨0, Nat.zero_le _, rfl, hide (by simpa using hL.out)⟩
   case round =>
    clear hL
    obtain ⟨q, hq, rfl, hL⟩ := hrel
    obtain ⟨a5, a6, a7, b0, b1, b2, b3, b4, p0, z0, z1, z3⟩ := hL.out.facts hV e1 e2 e3
    by_cases hlt : q < s.sights.length
    ·obtain ⟨gs, os, rfl, hgs⟩ := hAs.out q hlt
     obtain ⟨y, hy⟩ := getElem?_of_lt hlt
     obtain ⟨hby, y0, y1, y2, y3, y4⟩ := (hs4.out.mono hL.out.below).sight_at hy
     have hok := hv.out.sight y (List.mem_of_getElem? hy)
     simp only [sightOk, Bool.and_eq_true, decide_eq_true_eq] at hok
     obtain ⟨⟨⟨⟨⟨_, o1⟩, o2⟩, o3⟩, o4⟩, o5⟩ := hok
     replace o2 := hasD_place o2
     have htk := hide (take_flat (sightD s) hy)
     have hlq := hsl.out q
     have wlo : IntKind.i64.wrap (-y.lo) = -y.lo := IntWalk.i64_in _ (by omega)
     clear hy
     have hB : w.heap.size + 4 ≤ wr.heap.size := hL.out.size
     obtain ⟨PN, hPN⟩ : ∃ P, placeN s y.cell y.day = P := ⟨_, rfl⟩
     have HQ := fun W ds h => HPL.out W ds y.cell y.day h o1 o2
     rw [hPN] at HQ
     have hsd : sightD s y = [⟨0, PN, y.hi⟩, ⟨PN, 0, -y.lo⟩] := by rw [← hPN]; rfl
     rw [hsd] at htk
     replace HQ := hide HQ
     clear hPN hsd
     go_wp2_with (first | (go_at_call 185; refine (HQ.out _ _ (hL.out.grow (below1 wr (.cells #[I y.no, I y.cell, I y.day, I y.lo, I y.hi] 83)))).mono ?_; rintro e w2 ⟨rfl, hb2⟩; have hL2 := hide ((hL.out.grow (below1 wr (.cells #[I y.no, I y.cell, I y.day, I y.lo, I y.hi] 83))).grow hb2); have hb := hide ((Blk.new wr 83 #[I y.no, I y.cell, I y.day, I y.lo, I y.hi]).grow hb2); clear a5 a6 a7 b0 b1 b2 b3 b4 p0 z0 z1 z3 hby y0 y1 y2 y3 y4 hb2; obtain ⟨a5, a6, a7, b0, b1, b2, b3, b4, p0, z0, z1, z3⟩ := hL2.out.facts hV e1 e2 e3; have d3 : w2.cell? ⟨wr.heap.size, 3, none⟩ = some (I y.lo) := hb.out.cell 3; have d4 : w2.cell? ⟨wr.heap.size, 4, none⟩ = some (I y.hi) := hb.out.cell 4) | (go_at_call 181; refine (HP.out w2 _ hL2.out (by simp only [List.length_append]; omega) 0 PN y.hi 5 q 0 true).mono ?_; rintro e w3 ⟨⟨u, rfl⟩, hL3, hS3⟩; clear hL2; clear a5 a6 a7 b0 b1 b2 b3 b4 p0 z0 z1 z3; clear d3 d4; replace hb := hide (hS3 wr.heap.size _ _ hb.out (by decide) (by decide) (by omega)); replace hL3 := hide hL3; clear hS3; obtain ⟨a5, a6, a7, b0, b1, b2, b3, b4, p0, z0, z1, z3⟩ := hL3.out.facts hV e1 e2 e3; have d3 : w3.cell? ⟨wr.heap.size, 3, none⟩ = some (I y.lo) := hb.out.cell 3) | (go_at_call 181; refine (HP.out w3 _ hL3.out (by simp only [List.length_append, List.length_cons, List.length_nil]; omega) PN 0 (-y.lo) 5 q 0 false).mono ?_; rintro e w4 ⟨⟨u', rfl⟩, hL4, hS4⟩; clear a5 a6 a7 b0 b1 b2 b3 b4 p0 z0 z1 z3; clear d3 hS4; replace hL4 := hide hL4))
     go_roundw
     case rel => exact ⟨q + 1, by omega, by go_num, hide (by rw [htk.out]; simpa using hL4.out)⟩
     case measure => simp [intOf]; omega
    ·have he : q = s.sights.length := by omega
     subst he
     have hL0 := hide (show LayAt w wr s V (1 + mn) (DD ++ s.sights.flatMap (sightD s)) by simpa using hL.out)
     have hsl2 := hsl.out s.sights.length
     rw [List.take_length] at hsl2
     go_wp2_with fail
     clear a5 a6 a7 b0 b1 b2 b3 b4 p0 z0 z1 z3
     clear hL
     go_loopw [176] (fun i wr => ∃ q : Nat, q ≤ s.changes.length ∧ i = I q ∧ Hid (LayAt w wr s V (1 + mn) (DD ++ s.sights.flatMap (sightD s) ++ (s.changes.take q).flatMap (changeD s)))) (fun i _ => s.changes.length - (intOf i).toNat)
     case atStart => exact ⟨0, Nat.zero_le _, rfl, hide (by simpa using hL0.out)⟩
     case round =>
      clear hL0
      obtain ⟨q, hq, rfl, hL⟩ := hrel
      obtain ⟨a5, a6, a7, b0, b1, b2, b3, b4, p0, z0, z1, z3⟩ := hL.out.facts hV e1 e2 e3
      by_cases hlt : q < s.changes.length
      ·obtain ⟨gs, os, rfl, hgs⟩ := hAh.out q hlt
       obtain ⟨y, hy⟩ := getElem?_of_lt hlt
       obtain ⟨hby, y0, y1, y2, y3, y4⟩ := (hs5.out.mono hL.out.below).change_at hy
       have hok := hv.out.change y (List.mem_of_getElem? hy)
       simp only [changeOk, Bool.and_eq_true, decide_eq_true_eq] at hok
       obtain ⟨⟨⟨⟨⟨⟨_, o1⟩, o2⟩, o3⟩, o4⟩, o5⟩, o6⟩ := hok
       replace o1 := hasD_place o1
       replace o2 := hasD_place o2
       have htk := hide (take_flat (changeD s) hy)
       have hlq := hcl.out q
       have wlo : IntKind.i64.wrap (-y.lo) = -y.lo := IntWalk.i64_in _ (by omega)
       clear hy
       go_wp2_with fail
       have hb := Blk.new wr 171 #[I y.cell, I y.frm, I y.to, I y.lo, I y.hi]
       have hL1 := hide (hL.out.grow (below1 wr (.cells #[I y.cell, I y.frm, I y.to, I y.lo, I y.hi] 171)))
       have hB : w.heap.size + 4 ≤ wr.heap.size := hL.out.size
       generalize wr.alloc (.cells #[I y.cell, I y.frm, I y.to, I y.lo, I y.hi] 171) = W1 at hb hL1 ⊢
       clear hby y0 y1 y2 y3 y4
       clear a5 a6 a7 b0 b1 b2 b3 b4 p0 z0 z1 z3
       generalize wr.heap.size = B19 at hb hB ⊢
       replace hb := hide hb
       obtain ⟨PA, hPA⟩ : ∃ P, placeN s y.cell y.frm = P := ⟨_, rfl⟩
       obtain ⟨PB, hPB⟩ : ∃ P, placeN s y.cell y.to = P := ⟨_, rfl⟩
       have HA := fun W ds h => HPL.out W ds y.cell y.frm h o3 o1
       have HB := fun W ds h => HPL.out W ds y.cell y.to h o3 o2
       rw [hPA] at HA
       rw [hPB] at HB
       have hsd : changeD s y = [⟨PA, PB, y.hi⟩, ⟨PB, PA, -y.lo⟩] := by rw [← hPA, ← hPB]; rfl
       rw [hsd] at htk
       replace HA := hide HA
       replace HB := hide HB
       clear hPA hPB hsd
       refine wp_zgs (S := fun W => W.cell? ⟨B19, 0, none⟩ = some (I y.cell) ∧ W.cell? ⟨B19, 1, none⟩ = some (I y.frm) ∧ W.cell? ⟨B19, 2, none⟩ = some (I y.to)) 13 ⟨hb.out.cell 0, hb.out.cell 1, hb.out.cell 2⟩ fun hS0 => ?_
       have hWd : Below W1.heap.size W1 W1.drew := (Below.refl _ _).drew
       have zb := hb.out.lt
       (refine zg_tk 0 ?_; refine zg_tk 1 ?_; refine zg_tk 2 ?_; refine zg_tk 3 ?_; refine zg_tk 4 ?_; refine zg_tk 6 ?_; refine zg_tk 7 ?_; refine zg_tk 8 ?_; refine zg_tk 9 ?_; refine zg_tk 10 ?_; (try go_frame))
       (refine zg_rd 5 fun K_ hK_ => ?_; go_simp; (refine (HA.out W1.drew _ (hL1.out.grow hWd)).mono ?_; rintro e w2 ⟨rfl, hb2⟩; have u0 := fun o => (bcell hb2).1 B19 o zb); refine hK_.out _ _ ?_ (fun hHeld => ?_); rotate_left; clear hK_ K_; (try go_frame); rotate_left)
       ·go_keep
       have zb2 : B19 < w2.heap.size := Nat.lt_of_lt_of_le zb hb2.size
       (refine zg_rd 11 fun K_ hK_ => ?_; go_simp; (refine (HB.out w2 _ ((hL1.out.grow hWd).grow hb2)).mono ?_; rintro e w3 ⟨rfl, hb3⟩; have u1 := fun o => (bcell hb3).1 B19 o zb2); refine hK_.out _ _ ?_ (fun hHeld => ?_); rotate_left; clear hK_ K_; (try go_frame); rotate_left)
       ·go_keep
       (refine zg_rd 12 fun K_ hK_ => ?_; go_simp; skip; refine hK_.out _ _ ?_ (fun hHeld => ?_); rotate_left; clear hK_ K_; (try go_frame); rotate_left)
       ·assumption
       (refine zg_ls 13 fun K_ hK_ => ?_; go_simp; skip; refine hK_.out _ _ ?_; clear hK_ K_; (try go_frame))
       have hL2 := hide (((hL1.out.grow hWd).grow hb2).grow hb3)
       replace hb := hide ((hb.out.drew.grow hb2).grow hb3)
       clear u0 u1 hb2 hb3 hWd hS0 hL1 zb zb2
       obtain ⟨a5, a6, a7, b0, b1, b2, b3, b4, p0, z0, z1, z3⟩ := hL2.out.facts hV e1 e2 e3
       have d3 : w3.cell? ⟨B19, 3, none⟩ = some (I y.lo) := hb.out.cell 3
       have d4 : w3.cell? ⟨B19, 4, none⟩ = some (I y.hi) := hb.out.cell 4
       go_wp2_with (first | (go_at_call 181; refine (HP.out w3 _ hL2.out (by simp only [List.length_append]; omega) PA PB y.hi 6 q 0 true).mono ?_; rintro e w4 ⟨⟨u, rfl⟩, hL3, hS3⟩; clear hL2; clear a5 a6 a7 b0 b1 b2 b3 b4 p0 z0 z1 z3; clear d3 d4; replace hb := hide (hS3 B19 _ _ hb.out (by decide) (by decide) (by omega)); replace hL3 := hide hL3; clear hS3; obtain ⟨a5, a6, a7, b0, b1, b2, b3, b4, p0, z0, z1, z3⟩ := hL3.out.facts hV e1 e2 e3; have d3 : w4.cell? ⟨B19, 3, none⟩ = some (I y.lo) := hb.out.cell 3) | (go_at_call 181; refine (HP.out w4 _ hL3.out (by simp only [List.length_append, List.length_cons, List.length_nil]; omega) PB PA (-y.lo) 6 q 0 false).mono ?_; rintro e w5 ⟨⟨u', rfl⟩, hL4, hS4⟩; clear a5 a6 a7 b0 b1 b2 b3 b4 p0 z0 z1 z3; clear d3 hS4; replace hL4 := hide hL4))
       go_roundw
       case rel => exact ⟨q + 1, by omega, by go_num, hide (by rw [htk.out]; simpa using hL4.out)⟩
       case measure => simp [intOf]; omega
      ·have he : q = s.changes.length := by omega
       subst he
       have hfin := hide (show LayAt w wr s V (1 + mn) (layD s) by rw [hlay.out]; simpa using hL.out)
       clear hL
       go_wp2_with fail
       go_ret
       subst e2
       exact ⟨rfl, hfin.out⟩
end Go.Proofs.YtgbbljfmngmjeaaGreat
