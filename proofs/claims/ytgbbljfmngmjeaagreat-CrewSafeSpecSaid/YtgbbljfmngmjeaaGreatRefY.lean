/- The reference's Lay: the differences of a valid scene. Conditions stand in the theorems. -/
import Derived.Test.YtgbbljfmngmjeaaGreatRefA
import Derived.Test.YtgbbljfmngmjeaaGreatRefPPack
import Derived.Test.YtgbbljfmngmjeaaGreatGrowTail
set_option linter.all false
set_option maxHeartbeats 8000000
set_option maxRecDepth 100000
namespace Go.Proofs.YtgbbljfmngmjeaaGreat
open Go.RowKit

structure Ly (w W : World) (n0 n1 n2 n3 : Nat) (s : Scene) (V : SceneV) (v r : Value) (ds : List Diff) (rs : List Reason) : Prop where
 hn : w.heap.size = n0 ∧ n0 + 1 = n1 ∧ n1 + 1 = n2 ∧ n2 + 1 = n3
 below : Below w.heap.size w W
 scn : Blk W n0 42 #[V.cells, V.pairs, I s.basin.gain, I s.basin.slack, I s.basin.deep, V.days, V.sights, V.changes]
 net : Blk W n1 189 #[I 0, .slice none 0 0]
 laid : Blk W n2 235 #[v, r]
 bas : Blk W n3 37 #[V.cells, V.pairs, I s.basin.gain, I s.basin.slack, I s.basin.deep]
 ov : Own W (n3 + 1) 245 3 Diff.cells v ds
 or_ : Own W (n3 + 1) 227 4 Reason.cells r rs
 len : rs.length = ds.length
section
variable {w W W' : World} {n0 n1 n2 n3 : Nat} {s : Scene} {V : SceneV} {v r : Value} {ds : List Diff} {rs : List Reason}
theorem Ly.grow (h : Ly w W n0 n1 n2 n3 s V v r ds rs) (hb : Below W.heap.size W W') : Ly w W' n0 n1 n2 n3 s V v r ds rs :=
 ⟨h.hn, bup h.below hb, h.scn.grow hb, h.net.grow hb, h.laid.grow hb, h.bas.grow hb, h.ov.below hb, h.or_.below hb, h.len⟩
theorem Ly.and_ (h : Ly w W n0 n1 n2 n3 s V v r ds rs) (hl : ds.length ≤ 65536) (f t m k i dd : Int) (u : Bool) :
  Calls Tryz.prog 197 #[.agg #[v, r], I f, I t, I m, .agg #[I k, I i, I dd, .bool u]] W fun e W' => ∃ A1 m1 c1 A2 m2 c2 rs', e = .returned (.agg #[.slice A1 m1 c1, .slice A2 m2 c2]) ∧ Blk W' n2 235 #[v, r] ∧
   (∀ g t cs, Blk W g t cs → t ≠ 245 → t ≠ 227 → g ≠ n2 → Blk ((W'.setCell ⟨n2, 0, none⟩ (.slice A1 m1 c1)).setCell ⟨n2, 1, none⟩ (.slice A2 m2 c2)) g t cs) ∧
   Ly w ((W'.setCell ⟨n2, 0, none⟩ (.slice A1 m1 c1)).setCell ⟨n2, 1, none⟩ (.slice A2 m2 c2)) n0 n1 n2 n3 s V (.slice A1 m1 c1) (.slice A2 m2 c2) (ds ++ [⟨f, t, m⟩]) (rs ++ rs') := by
 have hlt := h.bas.lt
 refine (ref5_and (n3 + 1) v r ds rs ⟨f, t, m⟩ ⟨k, i, dd, u⟩ W h.ov h.or_ (by omega) hl (by rw [h.len]; exact hl)).mono ?_
 rintro e W' ⟨v', r', rfl, ho, hr, hb, hk⟩
 obtain ⟨A1, m1, c1, rfl⟩ := ho.shape
 obtain ⟨A2, m2, c2, rfl⟩ := hr.shape
 obtain ⟨e0, e1, e2, e3⟩ := h.hn
 have k2 := h.laid.below hb (by omega)
 have hfar : ∀ g t cs, Blk W' g t cs → g ≠ n2 → Blk ((W'.setCell ⟨n2, 0, none⟩ (.slice A1 m1 c1)).setCell ⟨n2, 1, none⟩ (.slice A2 m2 c2)) g t cs := fun g t cs hg hn => (hg.far (p := ⟨n2, 0, none⟩) hn _).far (p := ⟨n2, 1, none⟩) hn _
 refine ⟨A1, m1, c1, A2, m2, c2, [⟨k, i, dd, u⟩], rfl, k2, fun g t cs hg h1 h2 h3 => hfar g t cs (hk g t cs hg h1 h2) h3, ⟨h.hn, ?_, hfar _ _ _ (h.scn.below hb (by omega)) (by omega), hfar _ _ _ (h.net.below hb (by omega)) (by omega), ?_, hfar _ _ _ (h.bas.below hb (by omega)) (by omega), ?_, ?_, by simp [h.len]⟩⟩
 ·exact ((h.below.trans (hb.mono (by omega))).setCell (p := ⟨n2, 0, none⟩) (show _ ≤ n2 by omega) _).setCell (p := ⟨n2, 1, none⟩) (show _ ≤ n2 by omega) _
 ·simpa using (k2.set_ 0 (.slice A1 m1 c1)).set_ 1 (.slice A2 m2 c2)
 ·exact own_far (own_far ho (a := ⟨n2, 0, none⟩) (own_ne ho k2 (by decide)).symm _) (a := ⟨n2, 1, none⟩) (own_ne ho k2 (by decide)).symm _
 ·exact own_far (own_far hr (a := ⟨n2, 0, none⟩) (own_ne hr k2 (by decide)).symm _) (a := ⟨n2, 1, none⟩) (own_ne hr k2 (by decide)).symm _
end
def LyE (w W : World) (n0 n1 n2 n3 : Nat) (s : Scene) (V : SceneV) (ds : List Diff) : Prop := ∃ A1 m1 c1 A2 m2 c2 rs, Ly w W n0 n1 n2 n3 s V (.slice A1 m1 c1) (.slice A2 m2 c2) ds rs
theorem LyE.of {w W : World} {n0 n1 n2 n3 : Nat} {s : Scene} {V : SceneV} {A1 A2 : Option Addr} {m1 c1 m2 c2 : Nat} {ds ds' : List Diff} {rs : List Reason} (h : Ly w W n0 n1 n2 n3 s V (.slice A1 m1 c1) (.slice A2 m2 c2) ds rs) (he : ds' = ds) : LyE w W n0 n1 n2 n3 s V ds' := by
 subst he
 exact ⟨_, _, _, _, _, _, _, h⟩
theorem viaY {C : Prop} (G : Prop) (g : G) (f : Hid G → C) : C := f (hide g)
theorem Blk.cells4 {w : World} {g : Nat} {t : TypeId} {a b c d : Value} (h : Blk w g t #[a, b, c, d]) : w.cell? ⟨g, 0, none⟩ = some a ∧ w.cell? ⟨g, 1, none⟩ = some b ∧ w.cell? ⟨g, 2, none⟩ = some c ∧ w.cell? ⟨g, 3, none⟩ = some d := ⟨h.cell 0, h.cell 1, h.cell 2, h.cell 3⟩
theorem ref5_Lay (s : Scene) (V : SceneV) (w : World) (hs : SceneAt w s V) (hv : SceneOk s) :
  Calls Tryz.prog 176 #[s.v V] w fun e w' => ∃ v r, e = .returned (.tuple #[.agg #[I (nodesN s), v], r]) ∧ Sl w' 3 Diff.cells v (layD s) ∧ Below w.heap.size w w' := by
 obtain ⟨vc, vp, vd, vs, vh⟩ := V
 have h1 : Sl w 4 Cell.cells vc s.basin.cells := hs.cells
 have h2 : Sl w 2 pairC vp s.basin.pairs := hs.pairs
 have h3 : Sl w 1 intC vd s.days := hs.days
 have h4 : Sl w 5 Sight.cells vs s.sights := hs.sights
 have h5 : Sl w 5 Change.cells vh s.changes := hs.changes
 obtain ⟨Ac, nc, rfl, _, _, hlc, hAc⟩ := h1.open_
 obtain ⟨Ap, np, rfl, _, _, hlp, hAp⟩ := h2.open_
 obtain ⟨Ad, nd, rfl, _, _, hld, hAd⟩ := h3.open_
 obtain ⟨As, ns, rfl, _, _, hls, hAs⟩ := h4.open_
 obtain ⟨Ah, nh, rfl, _, _, hlh, hAh⟩ := h5.open_
 have hc1 := hv.basin.hc1
 have hc2 := hv.basin.hc2
 have hm1 := hv.hd1
 have hm2 := hv.hd2
 have hmn : (s.basin.cells.length : Int) * (s.days.length : Int) ≤ 12 * 16 := Int.le_trans (Int.mul_le_mul_of_nonneg_right (by omega : (s.basin.cells.length : Int) ≤ 12) (by omega)) (by omega)
 have hmn0 : 0 ≤ (s.basin.cells.length : Int) * (s.days.length : Int) := Int.mul_nonneg (by omega) (by omega)
 have hnod : (nodesN s : Int) = 1 + (s.basin.cells.length : Int) * (s.days.length : Int) := by simp [nodesN, Int.mul_comm]
 obtain ⟨mn, hmn'⟩ : ∃ mn, (s.basin.cells.length : Int) * (s.days.length : Int) = mn := ⟨_, rfl⟩
 rw [hnod]
 rw [hmn'] at hmn hmn0 ⊢
 have w1_ : IntKind.i64.wrap mn = mn := IntWalk.i64_in _ (by omega)
 have w2_ : IntKind.i64.wrap (1 + mn) = 1 + mn := IntWalk.i64_in _ (by omega)
 clear hnod
 have HN := fun (c d : Int) (hc : 0 ≤ c ∧ c ≤ 12) (hd : 0 ≤ d ∧ d ≤ 16) w' (hb : Below w.heap.size w w') => ref5_node s ⟨.slice Ac s.basin.cells.length nc, .slice Ap s.basin.pairs.length np, .slice Ad s.days.length nd, .slice As s.sights.length ns, .slice Ah s.changes.length nh⟩ c d w' (hs.mono hb) hc hd hc2
 have HP := fun no w' (hb : Below w.heap.size w w') => ref5_Place s.basin _ _ no w' (h1.mono hb) (h2.mono hb)
 have HW := fun d w' (hb : Below w.heap.size w w') => ref5_When s ⟨.slice Ac s.basin.cells.length nc, .slice Ap s.basin.pairs.length np, .slice Ad s.days.length nd, .slice As s.sights.length ns, .slice Ah s.changes.length nh⟩ d w' (hs.mono hb)
 have HM := fun (i j : Nat) (x y : Cell) hx hy a b c w' (hb : Below w.heap.size w w') => ref5_more s.basin _ _ i j x y w' (h1.mono hb) (h2.mono hb) hv.basin.gain hv.basin.slack hx hy a b c
 unfold Scene.v at *
 unfold Basin.v at *
 simp only at HN HP HW HM ⊢
 clear hs
 replace HN := hide HN
 replace HP := hide HP
 replace HW := hide HW
 replace HM := hide HM
 replace hv := hide hv
 replace h1 := hide h1
 replace h2 := hide h2
 replace h3 := hide h3
 replace h4 := hide h4
 replace h5 := hide h5
 replace hAc := hide hAc
 replace hAp := hide hAp
 replace hAd := hide hAd
 replace hAs := hide hAs
 replace hAh := hide hAh
 replace hmn' := hide hmn'
 go_enter Tryz.func176, Tryz.ntmps176
 go_wp2_with fail
 obtain ⟨V, hV⟩ : ∃ V : SceneV, V = ⟨.slice Ac s.basin.cells.length nc, .slice Ap s.basin.pairs.length np, .slice Ad s.days.length nd, .slice As s.sights.length ns, .slice Ah s.changes.length nh⟩ := ⟨_, rfl⟩
 obtain ⟨W0, hW0⟩ : ∃ W0, W0 = (((w.alloc (.cells (s8 s Ac nc Ap np Ad nd As ns Ah nh) 42)).alloc (.cells #[I 0, .slice none 0 0] 189)).alloc (.cells #[.slice none 0 0, .slice none 0 0] 235)).alloc (.cells #[.slice Ac s.basin.cells.length nc, .slice Ap s.basin.pairs.length np, I s.basin.gain, I s.basin.slack, I s.basin.deep] 37) := ⟨_, rfl⟩
 obtain ⟨n0, e0⟩ : ∃ n, w.heap.size = n := ⟨_, rfl⟩
 obtain ⟨n1, e1⟩ : ∃ n, n0 + 1 = n := ⟨_, rfl⟩
 obtain ⟨n2, e2⟩ : ∃ n, n1 + 1 = n := ⟨_, rfl⟩
 obtain ⟨n3, e3⟩ : ∃ n, n2 + 1 = n := ⟨_, rfl⟩
 have hL : LyE w W0 n0 n1 n2 n3 s V [] := by
  refine ⟨none, 0, 0, none, 0, 0, [], ⟨e0, e1, e2, e3⟩, ?_, ?_, ?_, ?_, ?_, Own.nil_ _ _ _ _ _, Own.nil_ _ _ _ _ _, rfl⟩
  ·rw [hW0]; exact below4 _ _ _ _ _
  ·rw [hW0, hV, ← e0]; exact (((Blk.new _ _ _).alloc _).alloc _).alloc _
  ·rw [hW0, ← e1, ← e0]
   have h := Blk.new (w.alloc (.cells (s8 s Ac nc Ap np Ad nd As ns Ah nh) 42)) 189 #[I 0, .slice none 0 0]
   simp only [World.size_alloc] at h
   exact (h.alloc _).alloc _
  ·rw [hW0, ← e2, ← e1, ← e0]
   have h := Blk.new ((w.alloc (.cells (s8 s Ac nc Ap np Ad nd As ns Ah nh) 42)).alloc (.cells #[I 0, .slice none 0 0] 189)) 235 #[.slice none 0 0, .slice none 0 0]
   simp only [World.size_alloc] at h
   exact h.alloc _
  ·rw [hW0, hV, ← e3, ← e2, ← e1, ← e0]
   have h := Blk.new (((w.alloc (.cells (s8 s Ac nc Ap np Ad nd As ns Ah nh) 42)).alloc (.cells #[I 0, .slice none 0 0] 189)).alloc (.cells #[.slice none 0 0, .slice none 0 0] 235)) 37 #[.slice Ac s.basin.cells.length nc, .slice Ap s.basin.pairs.length np, I s.basin.gain, I s.basin.slack, I s.basin.deep]
   simpa only [World.size_alloc] using h
 rw [← hW0]
 clear hW0
 rw [e0, e1, e2, e3]
 replace hL := hide hL
 go_loopw [6, 7, 8, 9, 10, 11, 12] (fun i _ _ _ _ _ _ wr => ∃ k : Nat, k ≤ s.days.length ∧ i = I k ∧ Hid (LyE w wr n0 n1 n2 n3 s V ((List.range k).flatMap (dayD s.basin)))) (fun i _ _ _ _ _ _ _ => s.days.length - (intOf i).toNat)
 case atStart => exact ⟨0, Nat.zero_le _, rfl, hL⟩
 case round =>
  clear hL
  obtain ⟨k, hk, rfl, hL⟩ := hrel
  have hdl := days_len hv.out hk
  by_cases hlt : k < s.days.length
  case pos =>
   obtain ⟨A1, m1, c1, A2, m2, c2, rs, hY⟩ := hL.out
   obtain ⟨a0, a1, a2, a3, a4, a5, a6, a7⟩ := hY.scn.cells8
   obtain ⟨b0, b1, b2, b3, b4⟩ := hY.bas.five
   obtain ⟨l0, l1⟩ := hY.laid.cells2
   have z0 := hY.scn.lt
   have z2 := hY.laid.lt
   have z3 := hY.bas.lt
   simp only [hV] at a0 a1 a5 a6 a7 b0 b1
   obtain ⟨gd, od, rfl, _⟩ := hAd.out k hlt
   obtain ⟨dy, hdy⟩ := getElem?_of_lt hlt
   replace hdy := hide hdy
   go_wp2_with fail
   clear a0 a1 a2 a3 a4 a5 a6 a7 b0 b1 b2 b3 b4 l0 l1 z0 z2 z3
   go_loopw [7] (fun i wr => ∃ c : Nat, c ≤ s.basin.cells.length ∧ i = I c ∧ Hid (LyE w wr n0 n1 n2 n3 s V ((List.range k).flatMap (dayD s.basin) ++ (List.range c).flatMap (cellD s.basin k)))) (fun i _ => s.basin.cells.length - (intOf i).toNat)
   case atStart => exact ⟨0, Nat.zero_le _, rfl, hide (by simpa using hL.out)⟩
   case round =>
    clear hL hY
    obtain ⟨c, hc, rfl, hL⟩ := hrel
    have hcl := cells_len (d := k) hv.out.basin hc
    by_cases hlt2 : c < s.basin.cells.length
    case pos =>
     obtain ⟨A1, m1, c1, A2, m2, c2, rs, hY⟩ := hL.out
     obtain ⟨a0, a1, a2, a3, a4, a5, a6, a7⟩ := hY.scn.cells8
     obtain ⟨b0, b1, b2, b3, b4⟩ := hY.bas.five
     obtain ⟨l0, l1⟩ := hY.laid.cells2
     have z0 := hY.scn.lt
     have z2 := hY.laid.lt
     have z3 := hY.bas.lt
     simp only [hV] at a0 a1 a5 a6 a7 b0 b1
     obtain ⟨gc, oc, rfl, _⟩ := hAc.out c hlt2
     obtain ⟨x, hx⟩ := getElem?_of_lt hlt2
     obtain ⟨zc, x0, _, _, _⟩ := (h1.out.mono hY.below).cell_at hx
     obtain ⟨zd, y9⟩ := (h3.out.mono hY.below).int_at hdy.out
     replace hx := hide hx
     replace hY := hY
     go_wp2_with fail
     (refine wp_region_grow_tail 19 (by kernel_rfl) (by kernel_rfl) ?_; simp only [List.take_succ_cons, List.take_zero, List.drop_succ_cons, List.drop_zero]; (repeat go_big_quiet_step (((go_at_call 198; exact calls_grew (HN.out c k (by omega) (by omega) _ (bup hY.below (Grew.below _))))))); refine wpQuiet_nil ?_; rintro W1 ⟨⟨_, hW1⟩, rfl⟩)
     clear a0 a1 a2 a3 a4 a5 a6 a7 b0 b1 b2 b3 b4 l0 l1 z0 z2 z3 x0 zc y9 zd
     have hY1 := hide (hY.grow hW1)
     have d0 := hY1.out.laid.lt
     go_wp2_with (go_at_call 197; refine (hY1.out.and_ (by simp only [List.length_append]; omega) 0 (nodeF s.basin.cells.length c k) s.basin.deep 1 x.no dy false).mono ?_; rintro e wq ⟨B1, p1, q1, B2, p2, q2, rs', rfl, kq, hkk, hY2⟩; obtain ⟨y0, y1⟩ := kq.cells2; have f0 := kq.frozen 0; have f1 := kq.frozen 1; have zq := kq.lt; replace hkk := hide hkk; replace hY2 := hide hY2)
     obtain ⟨wz, hwz⟩ : ∃ W, W = (wq.setCell ⟨n2, 0, none⟩ (.slice B1 p1 q1)).setCell ⟨n2, 1, none⟩ (.slice B2 p2 q2) := ⟨_, rfl⟩
     rw [← hwz] at hkk hY2 ⊢
     clear hwz y0 y1 f0 f1 zq kq hkk hY1 d0
     clear hY hW1
     have hY := hY2.out
     clear hY2
     obtain ⟨a0, a1, a2, a3, a4, a5, a6, a7⟩ := hY.scn.cells8
     obtain ⟨b0, b1, b2, b3, b4⟩ := hY.bas.five
     obtain ⟨l0, l1⟩ := hY.laid.cells2
     have z0 := hY.scn.lt
     have z2 := hY.laid.lt
     have z3 := hY.bas.lt
     simp only [hV] at a0 a1 a5 a6 a7 b0 b1
     have x0 := ((h1.out.mono hY.below).cell_at hx.out).2.1
     have zc := ((h1.out.mono hY.below).cell_at hx.out).1
     obtain ⟨zd, y9⟩ := (h3.out.mono hY.below).int_at hdy.out
     (refine wp_region_grow_tail 17 (by kernel_rfl) (by kernel_rfl) ?_; simp only [List.take_succ_cons, List.take_zero, List.drop_succ_cons, List.drop_zero]; (repeat go_big_quiet_step (((go_at_call 198; exact calls_grew (HN.out c k (by omega) (by omega) _ (bup hY.below (Grew.below _))))))); refine wpQuiet_nil ?_; rintro W1 ⟨⟨_, hW1⟩, rfl⟩)
     clear a0 a1 a2 a3 a4 a5 a6 a7 b0 b1 b2 b3 b4 l0 l1 z0 z2 z3 x0 zc y9 zd
     have hY1 := hide (hY.grow hW1)
     have d0 := hY1.out.laid.lt
     go_wp2_with (go_at_call 197; refine (hY1.out.and_ (by simp only [List.length_append, List.length_cons, List.length_nil]; omega) (nodeF s.basin.cells.length c k) 0 0 2 x.no dy false).mono ?_; rintro e wq ⟨B1, p1, q1, B2, p2, q2, rs', rfl, kq, hkk, hY2⟩; obtain ⟨y0, y1⟩ := kq.cells2; have f0 := kq.frozen 0; have f1 := kq.frozen 1; have zq := kq.lt; replace hkk := hide hkk; replace hY2 := hide hY2)
     obtain ⟨wz, hwz⟩ : ∃ W, W = (wq.setCell ⟨n2, 0, none⟩ (.slice B1 p1 q1)).setCell ⟨n2, 1, none⟩ (.slice B2 p2 q2) := ⟨_, rfl⟩
     rw [← hwz] at hkk hY2 ⊢
     clear hwz y0 y1 f0 f1 zq kq hkk hY1 d0
     go_roundw
     case rel => exact ⟨c + 1, by omega, by go_num, hide (LyE.of hY2.out (by rw [range_flat]; simp [cellD]))⟩
     case measure => simp [intOf]; omega
    case neg =>
     have he : c = s.basin.cells.length := by omega
     subst he
     obtain ⟨A1, m1, c1, A2, m2, c2, rs, hY⟩ := hL.out
     obtain ⟨a0, a1, a2, a3, a4, a5, a6, a7⟩ := hY.scn.cells8
     obtain ⟨b0, b1, b2, b3, b4⟩ := hY.bas.five
     obtain ⟨l0, l1⟩ := hY.laid.cells2
     have z0 := hY.scn.lt
     have z2 := hY.laid.lt
     have z3 := hY.bas.lt
     simp only [hV] at a0 a1 a5 a6 a7 b0 b1
     go_wp2_with fail
     clear a0 a1 a2 a3 a4 a5 a6 a7 b0 b1 b2 b3 b4 l0 l1 z0 z2 z3
     go_loopw [8, 9, 10, 11, 12] (fun i _ _ _ _ wr => ∃ q : Nat, q ≤ s.basin.pairs.length ∧ i = I q ∧ Hid (LyE w wr n0 n1 n2 n3 s V ((List.range k).flatMap (dayD s.basin) ++ (List.range s.basin.cells.length).flatMap (cellD s.basin k) ++ (s.basin.pairs.take q).flatMap (pairD s.basin k)))) (fun i _ _ _ _ _ => s.basin.pairs.length - (intOf i).toNat)
     case atStart => exact ⟨0, Nat.zero_le _, rfl, hide (by simpa using hL.out)⟩
     case round =>
      clear hL hY
      obtain ⟨q, hq, rfl, hL⟩ := hrel
      have hpl := pairs_len (d := k) (k := q) hv.out.basin
      by_cases hlt3 : q < s.basin.pairs.length
      case pos =>
       obtain ⟨A1, m1, c1, A2, m2, c2, rs, hY⟩ := hL.out
       obtain ⟨a0, a1, a2, a3, a4, a5, a6, a7⟩ := hY.scn.cells8
       obtain ⟨b0, b1, b2, b3, b4⟩ := hY.bas.five
       obtain ⟨l0, l1⟩ := hY.laid.cells2
       have z0 := hY.scn.lt
       have z2 := hY.laid.lt
       have z3 := hY.bas.lt
       simp only [hV] at a0 a1 a5 a6 a7 b0 b1
       obtain ⟨gp, op, rfl, _⟩ := hAp.out q hlt3
       obtain ⟨p, hx3⟩ := getElem?_of_lt hlt3
       obtain ⟨i, j, x, y, rfl, hil, hjl, hne, hxi, hyj, hxy, okx, oky⟩ := hv.out.basin.cells hx3
       obtain ⟨gc, oc, rfl, _⟩ := hAc.out i hil
       obtain ⟨hbp, y0, y1⟩ := (h2.out.mono hY.below).pair_at hx3
       simp only at y0 y1
       have htk := take_flat (pairD s.basin k) hx3
       have hpd : pairD s.basin k ((i : Int), (j : Int)) = if likeB x y then [⟨nodeF s.basin.cells.length i k, nodeF s.basin.cells.length j k, moreF s.basin ((i : Int), (j : Int))⟩, ⟨nodeF s.basin.cells.length j k, nodeF s.basin.cells.length i k, if x.height = y.height then s.basin.slack else 0⟩] else [] := by
        simp only [pairD, Int.toNat_natCast, getD_of hxi, getD_of hyj]
       rw [hpd] at htk
       clear hpd
       replace htk := hide htk
       have HM2 := hide (fun w' hb => HM.out i j x y hxi hyj okx.height.1 oky.height.2 hxy w' hb)
       have HL := fun w => ref5_like x y w okx.aspect oky.aspect
       obtain ⟨lk, hlk⟩ : ∃ q, likeB x y = q := ⟨_, rfl⟩
       rw [hlk] at HL htk
       replace HL := hide HL
       replace htk := hide htk
       replace hx3 := hide hx3
       replace hxi := hide hxi
       replace hyj := hide hyj
       go_wp2_with fail
       have hb10 := Blk.new wr 203 #[I i, I j]
       have hY1 := hY.grow (below1 wr (.cells #[I i, I j] 203))
       have hN10 := hide (show n3 < wr.heap.size from hY.bas.lt)
       generalize wr.alloc (.cells #[I i, I j] 203) = W5 at hb10 hY1 ⊢
       clear hY a0 a1 a2 a3 a4 a5 a6 a7 b0 b1 b2 b3 b4 l0 l1 z0 z2 z3 y0 y1 hbp
       have hY := hY1
       clear hY1
       generalize wr.heap.size = B10 at hb10 hN10 ⊢
       obtain ⟨a0, a1, a2, a3, a4, a5, a6, a7⟩ := hY.scn.cells8
       obtain ⟨b0, b1, b2, b3, b4⟩ := hY.bas.five
       obtain ⟨l0, l1⟩ := hY.laid.cells2
       have z0 := hY.scn.lt
       have z2 := hY.laid.lt
       have z3 := hY.bas.lt
       simp only [hV] at a0 a1 a5 a6 a7 b0 b1
       obtain ⟨hgx, x0, x1, x2, x3⟩ := (h1.out.mono hY.below).cell_at hxi.out
       obtain ⟨_, v0, v1, v2, v3⟩ := (h1.out.mono hY.below).cell_at hyj.out
       have zb := hb10.lt
       obtain ⟨c0, c1⟩ := hb10.cells2
       replace hb10 := hide hb10
       have hil' : (i : Int) < (s.basin.cells.length : Int) := by omega
       have hjl' : (j : Int) < (s.basin.cells.length : Int) := by omega
       refine wp_zgs (S := fun W => W.cell? ⟨n3, 0, none⟩ = some (.slice (some ⟨gc, oc, none⟩) s.basin.cells.length nc) ∧ W.cell? ⟨B10, 0, none⟩ = some (I i) ∧ W.cell? ⟨B10, 1, none⟩ = some (I j) ∧ W.cell? ⟨gc, oc + i * 4, none⟩ = some (I x.no) ∧ W.cell? ⟨gc, oc + i * 4 + 1, none⟩ = some (I x.height) ∧ W.cell? ⟨gc, oc + i * 4 + 2, none⟩ = some (I x.aspect) ∧ W.cell? ⟨gc, oc + i * 4 + 3, none⟩ = some (I x.area) ∧ W.cell? ⟨gc, oc + j * 4, none⟩ = some (I y.no) ∧ W.cell? ⟨gc, oc + j * 4 + 1, none⟩ = some (I y.height) ∧ W.cell? ⟨gc, oc + j * 4 + 2, none⟩ = some (I y.aspect) ∧ W.cell? ⟨gc, oc + j * 4 + 3, none⟩ = some (I y.area)) 15 ⟨b0, c0, c1, x0, x1, x2, x3, v0, v1, v2, v3⟩ fun hS0 => ?_
       have hWd : Below W5.heap.size W5 W5.drew := (Below.refl _ _).drew
       (refine zg_tk 0 ?_; refine zg_tk 1 ?_; refine zg_tk 2 ?_; refine zg_tk 3 ?_; refine zg_tk 4 ?_; refine zg_tk 5 ?_; refine zg_tk 6 ?_; refine zg_tk 7 ?_; refine zg_tk 8 ?_; refine zg_tk 9 ?_; refine zg_tk 10 ?_; refine zg_tk 11 ?_; (try go_frame))
       apply viaY
       case f =>
        intro key
        refine zg_two (i := 12) (j := 13) (by decide) (by decide) rfl rfl (by kernel_rfl) (fun K_ hK_ => ?_) (fun K_ hK_ => ?_)
        ·go_simp
         refine hK_.out _ _ ?_ (fun hHeld => ?_)
         ·go_keep
         clear hK_ K_
         (try go_frame)
         (refine zg_rd 13 fun K_ hK_ => ?_; go_simp; skip; refine hK_.out _ _ ?_ (fun hHeld => ?_); rotate_left; clear hK_ K_; (try go_frame); rotate_left)
         ·go_keep
         (refine zg_rd 14 fun K_ hK_ => ?_; go_simp; skip; refine hK_.out _ _ ?_ (fun hHeld => ?_); rotate_left; clear hK_ K_; (try go_frame); rotate_left)
         ·go_keep
         (refine zg_ls 15 fun K_ hK_ => ?_; go_simp; skip; refine hK_.out _ _ ?_; clear hK_ K_; (try go_frame))
         have hbW := hide (((below1 W5 (.cells #[I x.no, I x.height, I x.aspect, I x.area] 101)).alloc (by simp) (.cells #[I y.no, I y.height, I y.aspect, I y.area] 101)).drew)
         have k1 := ((Blk.new W5 101 #[I x.no, I x.height, I x.aspect, I x.area]).alloc (.cells #[I y.no, I y.height, I y.aspect, I y.area] 101)).drew
         have k2 := (Blk.new (W5.alloc (.cells #[I x.no, I x.height, I x.aspect, I x.area] 101)) 101 #[I y.no, I y.height, I y.aspect, I y.area]).drew
         rw [World.size_alloc] at k2
         have kn : n3 < W5.heap.size := hY.bas.lt
         have kn2 : n3 < W5.heap.size + 1 := by omega
         generalize ((W5.alloc (.cells #[I x.no, I x.height, I x.aspect, I x.area] 101)).alloc (.cells #[I y.no, I y.height, I y.aspect, I y.area] 101)).drew = W6 at hbW k1 k2 ⊢
         generalize W5.heap.size + 1 = P2 at k2 kn2 ⊢
         obtain ⟨P1, hPa⟩ : ∃ P, W5.heap.size = P := ⟨_, rfl⟩
         rw [hPa] at k1 kn ⊢
         clear hPa
         have hx2 := k1
         have hy2 := k2
         have hp1 := kn
         have hp2 := kn2
         clear k1 k2 kn kn2
         revert hp2 hp1 hy2 hx2 hbW
         revert P2
         revert P1
         revert W6
         exact key.out
        ·go_simp
         refine hK_.out _ _ ?_ (fun hHeld => ?_)
         ·go_keep
         clear hK_ K_
         (try go_frame)
         (refine zg_rd 12 fun K_ hK_ => ?_; go_simp; skip; refine hK_.out _ _ ?_ (fun hHeld => ?_); rotate_left; clear hK_ K_; (try go_frame); rotate_left)
         ·go_keep
         (refine zg_rd 14 fun K_ hK_ => ?_; go_simp; skip; refine hK_.out _ _ ?_ (fun hHeld => ?_); rotate_left; clear hK_ K_; (try go_frame); rotate_left)
         ·go_keep
         (refine zg_ls 15 fun K_ hK_ => ?_; go_simp; skip; refine hK_.out _ _ ?_; clear hK_ K_; (try go_frame))
         have hbW := hide (((below1 W5 (.cells #[I y.no, I y.height, I y.aspect, I y.area] 101)).alloc (by simp) (.cells #[I x.no, I x.height, I x.aspect, I x.area] 101)).drew)
         have k1 := ((Blk.new W5 101 #[I y.no, I y.height, I y.aspect, I y.area]).alloc (.cells #[I x.no, I x.height, I x.aspect, I x.area] 101)).drew
         have k2 := (Blk.new (W5.alloc (.cells #[I y.no, I y.height, I y.aspect, I y.area] 101)) 101 #[I x.no, I x.height, I x.aspect, I x.area]).drew
         rw [World.size_alloc] at k2
         have kn : n3 < W5.heap.size := hY.bas.lt
         have kn2 : n3 < W5.heap.size + 1 := by omega
         generalize ((W5.alloc (.cells #[I y.no, I y.height, I y.aspect, I y.area] 101)).alloc (.cells #[I x.no, I x.height, I x.aspect, I x.area] 101)).drew = W6 at hbW k1 k2 ⊢
         generalize W5.heap.size + 1 = P1 at k2 kn2 ⊢
         obtain ⟨P2, hPa⟩ : ∃ P, W5.heap.size = P := ⟨_, rfl⟩
         rw [hPa] at k1 kn ⊢
         clear hPa
         have hx2 := k2
         have hy2 := k1
         have hp1 := kn2
         have hp2 := kn
         clear k1 k2 kn kn2
         revert hp2 hp1 hy2 hx2 hbW
         revert P2
         revert P1
         revert W6
         exact key.out
       case g =>
       intro W6 P1 P2 hbW hx2 hy2 hp1 hp2
       replace hY := hY.grow hbW.out
       replace hb10 := hide (hb10.out.grow hbW.out)
       clear hS0 hWd hbW a0 a1 a2 a3 a4 a5 a6 a7 b0 b1 b2 b3 b4 l0 l1 z0 z2 z3 x0 x1 x2 x3 v0 v1 v2 v3 c0 c1 zb hgx
       obtain ⟨a0, a1, a2, a3, a4, a5, a6, a7⟩ := hY.scn.cells8
       obtain ⟨b0, b1, b2, b3, b4⟩ := hY.bas.five
       obtain ⟨l0, l1⟩ := hY.laid.cells2
       have z0 := hY.scn.lt
       have z2 := hY.laid.lt
       have z3 := hY.bas.lt
       simp only [hV] at a0 a1 a5 a6 a7 b0 b1
       obtain ⟨x0, x1, x2, x3⟩ := hx2.cells4
       obtain ⟨v0, v1, v2, v3⟩ := hy2.cells4
       have zp1 := hx2.lt
       have zp2 := hy2.lt
       replace hx2 := hide hx2
       replace hy2 := hide hy2
       go_wp2_with fail
       go_at_call 199
       refine (HL.out _).mono ?_
       rintro e wl ⟨rfl, hbl⟩
       replace hY := hY.grow hbl
       replace hb10 := hide (hb10.out.grow hbl)
       replace hx2 := hx2.out.grow hbl
       replace hy2 := hy2.out.grow hbl
       clear hbl a0 a1 a2 a3 a4 a5 a6 a7 b0 b1 b2 b3 b4 l0 l1 z0 z2 z3 x0 x1 x2 x3 v0 v1 v2 v3 zp1 zp2
       cases lk
       case false =>
        go_wp2_with fail
        go_roundw
        case rel => exact ⟨q + 1, by omega, by go_num, hide (LyE.of hY (by rw [htk.out]; simp))⟩
        case measure => simp [intOf]; omega
       case true =>
        obtain ⟨a0, a1, a2, a3, a4, a5, a6, a7⟩ := hY.scn.cells8
        obtain ⟨b0, b1, b2, b3, b4⟩ := hY.bas.five
        obtain ⟨l0, l1⟩ := hY.laid.cells2
        have z0 := hY.scn.lt
        have z2 := hY.laid.lt
        have z3 := hY.bas.lt
        simp only [hV] at a0 a1 a5 a6 a7 b0 b1
        have zb := hb10.out.lt
        have c0 := hb10.out.cell 0
        have c1 := hb10.out.cell 1
        simp at c0 c1
        obtain ⟨x0, x1, x2, x3⟩ := hx2.cells4
        obtain ⟨v0, v1, v2, v3⟩ := hy2.cells4
        have zp1 := hx2.lt
        have zp2 := hy2.lt
        obtain ⟨zd, y9⟩ := (h3.out.mono hY.below).int_at hdy.out
        replace hx2 := hide hx2
        replace hy2 := hide hy2
        go_wp2_with fail
        (refine wp_region_grow_tail 21 (by kernel_rfl) (by kernel_rfl) ?_; simp only [List.take_succ_cons, List.take_zero, List.drop_succ_cons, List.drop_zero]; (repeat go_big_quiet_step (((first | (go_at_call 198; exact calls_grew (HN.out _ _ (by omega) (by omega) _ (bup hY.below (Grew.below _)))) | (go_at_call 200; exact calls_grew (HM2.out _ (bup hY.below (Grew.below _)))))))); refine wpQuiet_nil ?_; rintro W1 ⟨⟨_, hW1⟩, rfl⟩)
        replace hb10 := hide (hb10.out.grow hW1)
        replace hx2 := hide (hx2.out.grow hW1)
        replace hy2 := hide (hy2.out.grow hW1)
        clear a0 a1 a2 a3 a4 a5 a6 a7 b0 b1 b2 b3 b4 l0 l1 z0 z2 z3 x0 x1 x2 x3 v0 v1 v2 v3 zp1 zp2 c0 c1 zb y9 zd
        by_cases heq : x.height = y.height
        case pos =>
         have e0_ : (x.height == y.height) = true := by simpa using heq
         replace heq := hide heq
         have hY1 := hide (hY.grow hW1)
         have d0 := hY1.out.laid.lt
         go_wp2_with (go_at_call 197; refine (hY1.out.and_ (by simp only [List.length_append, List.length_cons, List.length_nil]; omega) (nodeF s.basin.cells.length i k) (nodeF s.basin.cells.length j k) (moreF s.basin ((i : Int), (j : Int))) 3 q dy false).mono ?_; rintro e wq ⟨B1, p1, q1, B2, p2, q2, rs', rfl, kq, hkk, hY2⟩; obtain ⟨y0, y1⟩ := kq.cells2; have f0 := kq.frozen 0; have f1 := kq.frozen 1; have zq := kq.lt; have kx := (hkk _ _ _ hx2.out (by decide) (by decide) (by have := hY1.out.hn; omega)).cells4; have ky := (hkk _ _ _ hy2.out (by decide) (by decide) (by have := hY1.out.hn; omega)).cells4; have zx := (hkk _ _ _ hx2.out (by decide) (by decide) (by have := hY1.out.hn; omega)).lt; have zy := (hkk _ _ _ hy2.out (by decide) (by decide) (by have := hY1.out.hn; omega)).lt; have kb := (hY2.bas).five; have zbb := hY2.bas.lt; obtain ⟨x0, x1, x2, x3⟩ := kx; obtain ⟨v0, v1, v2, v3⟩ := ky; obtain ⟨b0, b1, b2, b3, b4⟩ := kb; replace hkk := hide hkk; replace hY2 := hide hY2)
         clear x0 x1 x2 x3 v0 v1 v2 v3 b0 b1 b2 b3 b4 zx zy zbb
         obtain ⟨wz, hwz⟩ : ∃ W, W = (wq.setCell ⟨n2, 0, none⟩ (.slice B1 p1 q1)).setCell ⟨n2, 1, none⟩ (.slice B2 p2 q2) := ⟨_, rfl⟩
         rw [← hwz] at hkk hY2 ⊢
         replace hb10 := hide (hkk.out _ _ _ hb10.out (by decide) (by decide) (by have := hY1.out.hn; have := hN10.out; omega))
         clear hwz y0 y1 f0 f1 zq kq hkk hY1 d0 hx2 hy2
         clear hY hW1
         have hY := hY2.out
         clear hY2
         obtain ⟨a0, a1, a2, a3, a4, a5, a6, a7⟩ := hY.scn.cells8
         obtain ⟨b0, b1, b2, b3, b4⟩ := hY.bas.five
         obtain ⟨l0, l1⟩ := hY.laid.cells2
         have z0 := hY.scn.lt
         have z2 := hY.laid.lt
         have z3 := hY.bas.lt
         simp only [hV] at a0 a1 a5 a6 a7 b0 b1
         have zb := hb10.out.lt
         have c0 := hb10.out.cell 0
         have c1 := hb10.out.cell 1
         simp at c0 c1
         obtain ⟨zd, y9⟩ := (h3.out.mono hY.below).int_at hdy.out
         (refine wp_region_grow_tail 19 (by kernel_rfl) (by kernel_rfl) ?_; simp only [List.take_succ_cons, List.take_zero, List.drop_succ_cons, List.drop_zero]; (repeat go_big_quiet_step (((go_at_call 198; exact calls_grew (HN.out _ _ (by omega) (by omega) _ (bup hY.below (Grew.below _))))))); refine wpQuiet_nil ?_; rintro W1 ⟨⟨_, hW1⟩, rfl⟩)
         clear a0 a1 a2 a3 a4 a5 a6 a7 b0 b1 b2 b3 b4 l0 l1 z0 z2 z3 c0 c1 zb y9 zd
         have hY1 := hide (hY.grow hW1)
         have d0 := hY1.out.laid.lt
         go_wp2_with (go_at_call 197; refine (hY1.out.and_ (by simp only [List.length_append, List.length_cons, List.length_nil]; omega) (nodeF s.basin.cells.length j k) (nodeF s.basin.cells.length i k) s.basin.slack 4 q dy false).mono ?_; rintro e wq ⟨B1, p1, q1, B2, p2, q2, rs', rfl, kq, hkk, hY2⟩; obtain ⟨y0, y1⟩ := kq.cells2; have f0 := kq.frozen 0; have f1 := kq.frozen 1; have zq := kq.lt; replace hkk := hide hkk; replace hY2 := hide hY2)
         obtain ⟨wz, hwz⟩ : ∃ W, W = (wq.setCell ⟨n2, 0, none⟩ (.slice B1 p1 q1)).setCell ⟨n2, 1, none⟩ (.slice B2 p2 q2) := ⟨_, rfl⟩
         rw [← hwz] at hkk hY2 ⊢
         clear hwz y0 y1 f0 f1 zq kq hkk hY1 d0
         go_roundw
         case rel => exact ⟨q + 1, by omega, by go_num, hide (LyE.of hY2.out (by rw [htk.out]; simp [heq.out]))⟩
         case measure => simp [intOf]; omega
        case neg =>
         have e0_ : (x.height == y.height) = false := by simpa using heq
         replace heq := hide heq
         have hY1 := hide (hY.grow hW1)
         have d0 := hY1.out.laid.lt
         go_wp2_with (go_at_call 197; refine (hY1.out.and_ (by simp only [List.length_append, List.length_cons, List.length_nil]; omega) (nodeF s.basin.cells.length i k) (nodeF s.basin.cells.length j k) (moreF s.basin ((i : Int), (j : Int))) 3 q dy false).mono ?_; rintro e wq ⟨B1, p1, q1, B2, p2, q2, rs', rfl, kq, hkk, hY2⟩; obtain ⟨y0, y1⟩ := kq.cells2; have f0 := kq.frozen 0; have f1 := kq.frozen 1; have zq := kq.lt; have kx := (hkk _ _ _ hx2.out (by decide) (by decide) (by have := hY1.out.hn; omega)).cells4; have ky := (hkk _ _ _ hy2.out (by decide) (by decide) (by have := hY1.out.hn; omega)).cells4; have zx := (hkk _ _ _ hx2.out (by decide) (by decide) (by have := hY1.out.hn; omega)).lt; have zy := (hkk _ _ _ hy2.out (by decide) (by decide) (by have := hY1.out.hn; omega)).lt; have kb := (hY2.bas).five; have zbb := hY2.bas.lt; obtain ⟨x0, x1, x2, x3⟩ := kx; obtain ⟨v0, v1, v2, v3⟩ := ky; obtain ⟨b0, b1, b2, b3, b4⟩ := kb; replace hkk := hide hkk; replace hY2 := hide hY2)
         clear x0 x1 x2 x3 v0 v1 v2 v3 b0 b1 b2 b3 b4 zx zy zbb
         obtain ⟨wz, hwz⟩ : ∃ W, W = (wq.setCell ⟨n2, 0, none⟩ (.slice B1 p1 q1)).setCell ⟨n2, 1, none⟩ (.slice B2 p2 q2) := ⟨_, rfl⟩
         rw [← hwz] at hkk hY2 ⊢
         replace hb10 := hide (hkk.out _ _ _ hb10.out (by decide) (by decide) (by have := hY1.out.hn; have := hN10.out; omega))
         clear hwz y0 y1 f0 f1 zq kq hkk hY1 d0 hx2 hy2
         clear hY hW1
         have hY := hY2.out
         clear hY2
         obtain ⟨a0, a1, a2, a3, a4, a5, a6, a7⟩ := hY.scn.cells8
         obtain ⟨b0, b1, b2, b3, b4⟩ := hY.bas.five
         obtain ⟨l0, l1⟩ := hY.laid.cells2
         have z0 := hY.scn.lt
         have z2 := hY.laid.lt
         have z3 := hY.bas.lt
         simp only [hV] at a0 a1 a5 a6 a7 b0 b1
         have zb := hb10.out.lt
         have c0 := hb10.out.cell 0
         have c1 := hb10.out.cell 1
         simp at c0 c1
         obtain ⟨zd, y9⟩ := (h3.out.mono hY.below).int_at hdy.out
         (refine wp_region_grow_tail 19 (by kernel_rfl) (by kernel_rfl) ?_; simp only [List.take_succ_cons, List.take_zero, List.drop_succ_cons, List.drop_zero]; (repeat go_big_quiet_step (((go_at_call 198; exact calls_grew (HN.out _ _ (by omega) (by omega) _ (bup hY.below (Grew.below _))))))); refine wpQuiet_nil ?_; rintro W1 ⟨⟨_, hW1⟩, rfl⟩)
         clear a0 a1 a2 a3 a4 a5 a6 a7 b0 b1 b2 b3 b4 l0 l1 z0 z2 z3 c0 c1 zb y9 zd
         have hY1 := hide (hY.grow hW1)
         have d0 := hY1.out.laid.lt
         go_wp2_with (go_at_call 197; refine (hY1.out.and_ (by simp only [List.length_append, List.length_cons, List.length_nil]; omega) (nodeF s.basin.cells.length j k) (nodeF s.basin.cells.length i k) 0 4 q dy false).mono ?_; rintro e wq ⟨B1, p1, q1, B2, p2, q2, rs', rfl, kq, hkk, hY2⟩; obtain ⟨y0, y1⟩ := kq.cells2; have f0 := kq.frozen 0; have f1 := kq.frozen 1; have zq := kq.lt; replace hkk := hide hkk; replace hY2 := hide hY2)
         obtain ⟨wz, hwz⟩ : ∃ W, W = (wq.setCell ⟨n2, 0, none⟩ (.slice B1 p1 q1)).setCell ⟨n2, 1, none⟩ (.slice B2 p2 q2) := ⟨_, rfl⟩
         rw [← hwz] at hkk hY2 ⊢
         clear hwz y0 y1 f0 f1 zq kq hkk hY1 d0
         go_roundw
         case rel => exact ⟨q + 1, by omega, by go_num, hide (LyE.of hY2.out (by rw [htk.out]; simp [heq.out]))⟩
         case measure => simp [intOf]; omega
      case neg =>
       have he : q = s.basin.pairs.length := by omega
       subst he
       obtain ⟨A1, m1, c1, A2, m2, c2, rs, hY⟩ := hL.out
       obtain ⟨a0, a1, a2, a3, a4, a5, a6, a7⟩ := hY.scn.cells8
       obtain ⟨b0, b1, b2, b3, b4⟩ := hY.bas.five
       obtain ⟨l0, l1⟩ := hY.laid.cells2
       have z0 := hY.scn.lt
       have z2 := hY.laid.lt
       have z3 := hY.bas.lt
       simp only [hV] at a0 a1 a5 a6 a7 b0 b1
       go_wp2_with fail
       go_roundw
       case rel => exact ⟨k + 1, by omega, by go_num, hide (LyE.of hY (by rw [range_flat]; simp [dayD, List.append_assoc]))⟩
       case measure => simp [intOf]; omega
  case neg =>
   have he : k = s.days.length := by omega
   subst he
   obtain ⟨DD, hDD⟩ : ∃ DD, (List.range s.days.length).flatMap (dayD s.basin) = DD := ⟨_, rfl⟩
   have hlay : layD s = DD ++ s.sights.flatMap (sightD s) ++ s.changes.flatMap (changeD s) := by rw [← hDD]; rfl
   rw [hDD] at hL hdl
   replace hlay := hide hlay
   have hsl := fun q => (show ((s.sights.take q).flatMap (sightD s)).length ≤ 512 by
    have h1 := flatMap_len (f := sightD s) (c := 2) (s.sights.take q) fun _ _ => by simp [sightD]
    have := hv.out.hsl
    simp only [List.length_take] at h1
    omega)
   have hcl := fun q => (show ((s.changes.take q).flatMap (changeD s)).length ≤ 512 by
    have h1 := flatMap_len (f := changeD s) (c := 2) (s.changes.take q) fun _ _ => by simp [changeD]
    have := hv.out.hcl
    simp only [List.length_take] at h1
    omega)
   replace hsl := hide hsl
   replace hcl := hide hcl
   clear hDD
   obtain ⟨A1, m1, c1, A2, m2, c2, rs, hY⟩ := hL.out
   obtain ⟨a0, a1, a2, a3, a4, a5, a6, a7⟩ := hY.scn.cells8
   obtain ⟨b0, b1, b2, b3, b4⟩ := hY.bas.five
   obtain ⟨l0, l1⟩ := hY.laid.cells2
   have z0 := hY.scn.lt
   have z2 := hY.laid.lt
   have z3 := hY.bas.lt
   simp only [hV] at a0 a1 a5 a6 a7 b0 b1
   go_wp2_with fail
   clear a0 a1 a2 a3 a4 a5 a6 a7 b0 b1 b2 b3 b4 l0 l1 z0 z2 z3
   go_loopw [13, 14, 15] (fun i _ _ wr => ∃ q : Nat, q ≤ s.sights.length ∧ i = I q ∧ Hid (LyE w wr n0 n1 n2 n3 s V (DD ++ (s.sights.take q).flatMap (sightD s)))) (fun i _ _ _ => s.sights.length - (intOf i).toNat)
   case atStart => exact ⟨0, Nat.zero_le _, rfl, hide (by simpa using hL.out)⟩
   case round =>
    clear hL hY
    obtain ⟨q, hq, rfl, hL⟩ := hrel
    have hsq := hsl.out q
    by_cases hlt3 : q < s.sights.length
    case pos =>
     obtain ⟨A1, m1, c1, A2, m2, c2, rs, hY⟩ := hL.out
     obtain ⟨a0, a1, a2, a3, a4, a5, a6, a7⟩ := hY.scn.cells8
     obtain ⟨b0, b1, b2, b3, b4⟩ := hY.bas.five
     obtain ⟨l0, l1⟩ := hY.laid.cells2
     have z0 := hY.scn.lt
     have z2 := hY.laid.lt
     have z3 := hY.bas.lt
     simp only [hV] at a0 a1 a5 a6 a7 b0 b1
     obtain ⟨gs, os, rfl, _⟩ := hAs.out q hlt3
     obtain ⟨y, hx3⟩ := getElem?_of_lt hlt3
     have oky := SightOk.of (hv.out.sight y (List.mem_of_getElem? hx3))
     have p1_ := oky.cell
     have p2_ : placeC s.basin.cells y.cell ≤ 12 := by have := placeC_lt oky.cell; omega
     have p3_ := oky.day
     have p4_ : placeD s.days y.day ≤ 16 := by have := placeD_lt oky.day; omega
     have hneg : IntKind.i64.wrap (-y.lo) = -y.lo := IntWalk.i64_in _ (by have := oky.lo; have := oky.le; have := oky.hi; omega)
     have htk := hide (take_flat (sightD s) hx3)
     obtain ⟨hbp, y0, y1, y2, y3, y4⟩ := (h4.out.mono hY.below).sight_at hx3
     obtain ⟨P, hP⟩ : ∃ P, placeN s y.cell y.day = P := ⟨_, rfl⟩
     have hPn : nodeF s.basin.cells.length (placeC s.basin.cells y.cell) (placeD s.days y.day) = P := hP
     replace hP := hide hP
     replace hPn := hide hPn
     clear oky
     replace hx3 := hide hx3
     go_wp2_with fail
     have kS := Blk.new wr 83 #[I y.no, I y.cell, I y.day, I y.lo, I y.hi]
     have hY1 := hY.grow (below1 wr (.cells #[I y.no, I y.cell, I y.day, I y.lo, I y.hi] 83))
     have hN10 := hide (show n3 < wr.heap.size from hY.bas.lt)
     generalize wr.alloc (.cells #[I y.no, I y.cell, I y.day, I y.lo, I y.hi] 83) = W5 at kS hY1 ⊢
     clear hY a0 a1 a2 a3 a4 a5 a6 a7 b0 b1 b2 b3 b4 l0 l1 z0 z2 z3 y0 y1 y2 y3 y4 hbp
     have hY := hY1
     clear hY1
     generalize wr.heap.size = B10 at kS hN10 ⊢
     obtain ⟨a0, a1, a2, a3, a4, a5, a6, a7⟩ := hY.scn.cells8
     obtain ⟨b0, b1, b2, b3, b4⟩ := hY.bas.five
     obtain ⟨l0, l1⟩ := hY.laid.cells2
     have z0 := hY.scn.lt
     have z2 := hY.laid.lt
     have z3 := hY.bas.lt
     simp only [hV] at a0 a1 a5 a6 a7 b0 b1
     obtain ⟨y0, y1, y2, y3, y4⟩ := kS.five
     have zb := kS.lt
     replace kS := hide kS
     (refine wp_grow ?_; (repeat go_big_quiet_step ((first | (go_at_call 141; exact calls_grew (HP.out _ _ (bup hY.below (Grew.below _)))) | (go_at_call 156; exact calls_grew (HW.out _ _ (bup hY.below (Grew.below _)))) | (go_at_call 198; exact calls_grew (HN.out _ _ (by first | exact ⟨p1_, p2_⟩ | omega) (by first | exact ⟨p3_, p4_⟩ | exact ⟨p5_, p6_⟩ | omega) _ (bup hY.below (Grew.below _))))))); refine wp_grow0 ?_; intro W1 hW1)
     rw [hPn.out]
     replace kS := kS.out.grow hW1
     replace hY := hY.grow hW1
     clear hW1 a0 a1 a2 a3 a4 a5 a6 a7 b0 b1 b2 b3 b4 l0 l1 z0 z2 z3 y0 y1 y2 y3 y4 zb
     obtain ⟨a0, a1, a2, a3, a4, a5, a6, a7⟩ := hY.scn.cells8
     obtain ⟨b0, b1, b2, b3, b4⟩ := hY.bas.five
     obtain ⟨l0, l1⟩ := hY.laid.cells2
     have z0 := hY.scn.lt
     have z2 := hY.laid.lt
     have z3 := hY.bas.lt
     simp only [hV] at a0 a1 a5 a6 a7 b0 b1
     obtain ⟨y0, y1, y2, y3, y4⟩ := kS.five
     have zb := kS.lt
     replace kS := hide kS
     have hY1 := hide hY
     go_upto_region 28 with (go_at_call 197; refine (hY1.out.and_ (by simp only [List.length_append, List.length_cons, List.length_nil]; omega) 0 P y.hi 5 q 0 true).mono ?_; rintro e wq ⟨B1, p1, q1, B2, p2, q2, rs', rfl, kq, hkk, hY2⟩; obtain ⟨s0, s1⟩ := kq.cells2; have f0 := kq.frozen 0; have f1 := kq.frozen 1; have zq := kq.lt; replace hkk := hide hkk; replace hY2 := hide hY2)
     obtain ⟨wz, hwz⟩ : ∃ W, W = (wq.setCell ⟨n2, 0, none⟩ (.slice B1 p1 q1)).setCell ⟨n2, 1, none⟩ (.slice B2 p2 q2) := ⟨_, rfl⟩
     rw [← hwz] at hkk hY2 ⊢
     replace kS := hkk.out _ _ _ kS.out (by decide) (by decide) (by have := hY1.out.hn; have := hN10.out; omega)
     clear hwz s0 s1 f0 f1 zq kq hkk hY1 hY a0 a1 a2 a3 a4 a5 a6 a7 b0 b1 b2 b3 b4 l0 l1 z0 z2 z3 y0 y1 y2 y3 y4 zb
     have hY := hY2.out
     clear hY2
     obtain ⟨a0, a1, a2, a3, a4, a5, a6, a7⟩ := hY.scn.cells8
     obtain ⟨b0, b1, b2, b3, b4⟩ := hY.bas.five
     obtain ⟨l0, l1⟩ := hY.laid.cells2
     have z0 := hY.scn.lt
     have z2 := hY.laid.lt
     have z3 := hY.bas.lt
     simp only [hV] at a0 a1 a5 a6 a7 b0 b1
     obtain ⟨y0, y1, y2, y3, y4⟩ := kS.five
     have zb := kS.lt
     replace kS := hide kS
     have hY1 := hide hY
     go_wp2_with (go_at_call 197; refine (hY1.out.and_ (by simp only [List.length_append, List.length_cons, List.length_nil]; omega) P 0 (-y.lo) 5 q 0 false).mono ?_; rintro e wq ⟨B1, p1, q1, B2, p2, q2, rs', rfl, kq, hkk, hY2⟩; obtain ⟨s0, s1⟩ := kq.cells2; have f0 := kq.frozen 0; have f1 := kq.frozen 1; have zq := kq.lt; replace hkk := hide hkk; replace hY2 := hide hY2)
     obtain ⟨wz, hwz⟩ : ∃ W, W = (wq.setCell ⟨n2, 0, none⟩ (.slice B1 p1 q1)).setCell ⟨n2, 1, none⟩ (.slice B2 p2 q2) := ⟨_, rfl⟩
     rw [← hwz] at hkk hY2 ⊢
     clear hwz s0 s1 f0 f1 zq kq hkk hY1 hY a0 a1 a2 a3 a4 a5 a6 a7 b0 b1 b2 b3 b4 l0 l1 z0 z2 z3 y0 y1 y2 y3 y4 zb
     go_roundw
     case rel => exact ⟨q + 1, by omega, by go_num, hide (LyE.of hY2.out (by rw [htk.out]; simp [sightD, hP.out]))⟩
     case measure => simp [intOf]; omega
    case neg =>
     have he : q = s.sights.length := by omega
     subst he
     rw [List.take_length] at hL
     have hsq := hsl.out s.sights.length
     rw [List.take_length] at hsq
     obtain ⟨A1, m1, c1, A2, m2, c2, rs, hY⟩ := hL.out
     obtain ⟨a0, a1, a2, a3, a4, a5, a6, a7⟩ := hY.scn.cells8
     obtain ⟨b0, b1, b2, b3, b4⟩ := hY.bas.five
     obtain ⟨l0, l1⟩ := hY.laid.cells2
     have z0 := hY.scn.lt
     have z2 := hY.laid.lt
     have z3 := hY.bas.lt
     simp only [hV] at a0 a1 a5 a6 a7 b0 b1
     go_wp2_with fail
     clear a0 a1 a2 a3 a4 a5 a6 a7 b0 b1 b2 b3 b4 l0 l1 z0 z2 z3
     go_loopw [16, 17, 18, 19, 20] (fun i _ _ _ _ wr => ∃ q : Nat, q ≤ s.changes.length ∧ i = I q ∧ Hid (LyE w wr n0 n1 n2 n3 s V (DD ++ s.sights.flatMap (sightD s) ++ (s.changes.take q).flatMap (changeD s)))) (fun i _ _ _ _ _ => s.changes.length - (intOf i).toNat)
     case atStart => exact ⟨0, Nat.zero_le _, rfl, hide (by simpa using hL.out)⟩
     case round =>
      clear hL hY
      obtain ⟨q, hq, rfl, hL⟩ := hrel
      have hcq := hcl.out q
      by_cases hlt3 : q < s.changes.length
      case pos =>
       obtain ⟨A1, m1, c1, A2, m2, c2, rs, hY⟩ := hL.out
       obtain ⟨a0, a1, a2, a3, a4, a5, a6, a7⟩ := hY.scn.cells8
       obtain ⟨b0, b1, b2, b3, b4⟩ := hY.bas.five
       obtain ⟨l0, l1⟩ := hY.laid.cells2
       have z0 := hY.scn.lt
       have z2 := hY.laid.lt
       have z3 := hY.bas.lt
       simp only [hV] at a0 a1 a5 a6 a7 b0 b1
       obtain ⟨gs, os, rfl, _⟩ := hAh.out q hlt3
       obtain ⟨y, hx3⟩ := getElem?_of_lt hlt3
       have oky := ChangeOk.of (hv.out.change y (List.mem_of_getElem? hx3))
       have p1_ := oky.cell
       have p2_ : placeC s.basin.cells y.cell ≤ 12 := by have := placeC_lt oky.cell; omega
       have p3_ := oky.frm
       have p4_ : placeD s.days y.frm ≤ 16 := by have := placeD_lt oky.frm; omega
       have p5_ := oky.to
       have p6_ : placeD s.days y.to ≤ 16 := by have := placeD_lt oky.to; omega
       have hneg : IntKind.i64.wrap (-y.lo) = -y.lo := IntWalk.i64_in _ (by have := oky.lo; have := oky.le; have := oky.hi; omega)
       have htk := hide (take_flat (changeD s) hx3)
       obtain ⟨hbp, y0, y1, y2, y3, y4⟩ := (h5.out.mono hY.below).change_at hx3
       obtain ⟨P, hP⟩ : ∃ P, placeN s y.cell y.frm = P := ⟨_, rfl⟩
       obtain ⟨R, hR⟩ : ∃ R, placeN s y.cell y.to = R := ⟨_, rfl⟩
       have hPn : nodeF s.basin.cells.length (placeC s.basin.cells y.cell) (placeD s.days y.frm) = P := hP
       have hRn : nodeF s.basin.cells.length (placeC s.basin.cells y.cell) (placeD s.days y.to) = R := hR
       replace hP := hide hP
       replace hR := hide hR
       replace hPn := hide hPn
       replace hRn := hide hRn
       clear oky
       replace hx3 := hide hx3
       go_upto_region 33 with fail
       have kS := Blk.new wr 171 #[I y.cell, I y.frm, I y.to, I y.lo, I y.hi]
       have hY1 := hY.grow (below1 wr (.cells #[I y.cell, I y.frm, I y.to, I y.lo, I y.hi] 171))
       have hN10 := hide (show n3 < wr.heap.size from hY.bas.lt)
       generalize wr.alloc (.cells #[I y.cell, I y.frm, I y.to, I y.lo, I y.hi] 171) = W5 at kS hY1 ⊢
       clear hY a0 a1 a2 a3 a4 a5 a6 a7 b0 b1 b2 b3 b4 l0 l1 z0 z2 z3 y0 y1 y2 y3 y4 hbp
       have hY := hY1
       clear hY1
       generalize wr.heap.size = B10 at kS hN10 ⊢
       obtain ⟨a0, a1, a2, a3, a4, a5, a6, a7⟩ := hY.scn.cells8
       obtain ⟨b0, b1, b2, b3, b4⟩ := hY.bas.five
       obtain ⟨l0, l1⟩ := hY.laid.cells2
       have z0 := hY.scn.lt
       have z2 := hY.laid.lt
       have z3 := hY.bas.lt
       simp only [hV] at a0 a1 a5 a6 a7 b0 b1
       obtain ⟨y0, y1, y2, y3, y4⟩ := kS.five
       have zb := kS.lt
       replace kS := hide kS
       go_wp2_with fail
       go_at_call 141
       refine (HP.out _ _ hY.below).mono ?_
       rintro e wl ⟨rfl, hbl⟩
       replace kS := kS.out.grow hbl
       replace hY := hY.grow hbl
       clear hbl a0 a1 a2 a3 a4 a5 a6 a7 b0 b1 b2 b3 b4 l0 l1 z0 z2 z3 y0 y1 y2 y3 y4 zb
       obtain ⟨a0, a1, a2, a3, a4, a5, a6, a7⟩ := hY.scn.cells8
       obtain ⟨b0, b1, b2, b3, b4⟩ := hY.bas.five
       obtain ⟨l0, l1⟩ := hY.laid.cells2
       have z0 := hY.scn.lt
       have z2 := hY.laid.lt
       have z3 := hY.bas.lt
       simp only [hV] at a0 a1 a5 a6 a7 b0 b1
       obtain ⟨y0, y1, y2, y3, y4⟩ := kS.five
       have zb := kS.lt
       replace kS := hide kS
       go_wp2_with fail
       (refine wp_grow ?_; (repeat go_big_quiet_step ((first | (go_at_call 156; exact calls_grew (HW.out _ _ (bup hY.below (Grew.below _)))) | (go_at_call 198; exact calls_grew (HN.out _ _ (by first | exact ⟨p1_, p2_⟩ | omega) (by first | exact ⟨p3_, p4_⟩ | exact ⟨p5_, p6_⟩ | omega) _ (bup hY.below (Grew.below _))))))); refine wp_grow0 ?_; intro W1 hW1)
       rw [hPn.out, hRn.out]
       replace kS := kS.out.grow hW1
       replace hY := hY.grow hW1
       clear hW1 a0 a1 a2 a3 a4 a5 a6 a7 b0 b1 b2 b3 b4 l0 l1 z0 z2 z3 y0 y1 y2 y3 y4 zb
       obtain ⟨a0, a1, a2, a3, a4, a5, a6, a7⟩ := hY.scn.cells8
       obtain ⟨b0, b1, b2, b3, b4⟩ := hY.bas.five
       obtain ⟨l0, l1⟩ := hY.laid.cells2
       have z0 := hY.scn.lt
       have z2 := hY.laid.lt
       have z3 := hY.bas.lt
       simp only [hV] at a0 a1 a5 a6 a7 b0 b1
       obtain ⟨y0, y1, y2, y3, y4⟩ := kS.five
       have zb := kS.lt
       replace kS := hide kS
       have hY1 := hide hY
       go_upto_region 36 with (go_at_call 197; refine (hY1.out.and_ (by simp only [List.length_append, List.length_cons, List.length_nil]; omega) P R y.hi 6 q 0 true).mono ?_; rintro e wq ⟨B1, p1, q1, B2, p2, q2, rs', rfl, kq, hkk, hY2⟩; obtain ⟨s0, s1⟩ := kq.cells2; have f0 := kq.frozen 0; have f1 := kq.frozen 1; have zq := kq.lt; replace hkk := hide hkk; replace hY2 := hide hY2)
       obtain ⟨wz, hwz⟩ : ∃ W, W = (wq.setCell ⟨n2, 0, none⟩ (.slice B1 p1 q1)).setCell ⟨n2, 1, none⟩ (.slice B2 p2 q2) := ⟨_, rfl⟩
       rw [← hwz] at hkk hY2 ⊢
       replace kS := hkk.out _ _ _ kS.out (by decide) (by decide) (by have := hY1.out.hn; have := hN10.out; omega)
       clear hwz s0 s1 f0 f1 zq kq hkk hY1 hY a0 a1 a2 a3 a4 a5 a6 a7 b0 b1 b2 b3 b4 l0 l1 z0 z2 z3 y0 y1 y2 y3 y4 zb
       have hY := hY2.out
       clear hY2
       obtain ⟨a0, a1, a2, a3, a4, a5, a6, a7⟩ := hY.scn.cells8
       obtain ⟨b0, b1, b2, b3, b4⟩ := hY.bas.five
       obtain ⟨l0, l1⟩ := hY.laid.cells2
       have z0 := hY.scn.lt
       have z2 := hY.laid.lt
       have z3 := hY.bas.lt
       simp only [hV] at a0 a1 a5 a6 a7 b0 b1
       obtain ⟨y0, y1, y2, y3, y4⟩ := kS.five
       have zb := kS.lt
       replace kS := hide kS
       have hY1 := hide hY
       go_wp2_with (go_at_call 197; refine (hY1.out.and_ (by simp only [List.length_append, List.length_cons, List.length_nil]; omega) R P (-y.lo) 6 q 0 false).mono ?_; rintro e wq ⟨B1, p1, q1, B2, p2, q2, rs', rfl, kq, hkk, hY2⟩; obtain ⟨s0, s1⟩ := kq.cells2; have f0 := kq.frozen 0; have f1 := kq.frozen 1; have zq := kq.lt; replace hkk := hide hkk; replace hY2 := hide hY2)
       obtain ⟨wz, hwz⟩ : ∃ W, W = (wq.setCell ⟨n2, 0, none⟩ (.slice B1 p1 q1)).setCell ⟨n2, 1, none⟩ (.slice B2 p2 q2) := ⟨_, rfl⟩
       rw [← hwz] at hkk hY2 ⊢
       clear hwz s0 s1 f0 f1 zq kq hkk hY1 hY a0 a1 a2 a3 a4 a5 a6 a7 b0 b1 b2 b3 b4 l0 l1 z0 z2 z3 y0 y1 y2 y3 y4 zb
       go_roundw
       case rel => exact ⟨q + 1, by omega, by go_num, hide (LyE.of hY2.out (by rw [htk.out]; simp [changeD, hP.out, hR.out]))⟩
       case measure => simp [intOf]; omega
      case neg =>
       have he : q = s.changes.length := by omega
       subst he
       rw [List.take_length, ← hlay.out] at hL
       obtain ⟨A1, m1, c1, A2, m2, c2, rs, hY⟩ := hL.out
       obtain ⟨a0, a1, a2, a3, a4, a5, a6, a7⟩ := hY.scn.cells8
       obtain ⟨b0, b1, b2, b3, b4⟩ := hY.bas.five
       obtain ⟨l0, l1⟩ := hY.laid.cells2
       have z0 := hY.scn.lt
       have z2 := hY.laid.lt
       have z3 := hY.bas.lt
       simp only [hV] at a0 a1 a5 a6 a7 b0 b1
       have mn1 := hmn'.out
       have hnn := hY.hn
       go_wp2_with fail
       refine wp_zgs (S := fun W => W.cell? ⟨n3, 0, none⟩ = some (.slice Ac s.basin.cells.length nc) ∧ W.cell? ⟨n0, 5, none⟩ = some (.slice Ad s.days.length nd) ∧ W.cell? ⟨n2, 0, none⟩ = some (.slice A1 m1 c1) ∧ W.cell? ⟨n2, 1, none⟩ = some (.slice A2 m2 c2)) 14 ⟨b0, a5, l0, l1⟩ fun hHeld => ?_
       replace hY := hY.grow (Below.refl _ _).drew
       obtain ⟨wd, hwd⟩ : ∃ W, W = wr.drew := ⟨_, rfl⟩
       rw [← hwd] at hY hHeld ⊢
       clear hwd a0 a1 a2 a3 a4 a5 a6 a7 b0 b1 b2 b3 b4 l0 l1 z0 z2 z3
       have kN := hY.net
       have g0 := kN.cell 0
       have g1 := kN.cell 1
       have g2 := kN.frozen 0
       have g3 := kN.frozen 1
       have g4 := kN.lt
       simp at g0 g1
       have kZ := (kN.set_ 0 (I (1 + mn))).set_ 1 (.slice A1 m1 c1)
       have q0 := hide (show _ = some (I (1 + mn)) from kZ.cell 0)
       have q1 := hide (show _ = some (Value.slice A1 m1 c1) from kZ.cell 1)
       have oV := (hY.ov.set_below (p := ⟨n1, 0, none⟩) (show n1 < n3 + 1 by omega) (I (1 + mn))).set_below (p := ⟨n1, 1, none⟩) (show n1 < n3 + 1 by omega) (.slice A1 m1 c1)
       have sV := hide (oV.sl Diff.cells_len (by have := hv.out.lay_len; omega))
       have bV := hide ((hY.below.setCell (p := ⟨n1, 0, none⟩) (show w.heap.size ≤ n1 by omega) (I (1 + mn))).setCell (p := ⟨n1, 1, none⟩) (show w.heap.size ≤ n1 by omega) (.slice A1 m1 c1))
       have hfar := hide (fun (g : Nat) (t : TypeId) (cs : Array Value) (hg : Blk wd g t cs) (hn : g ≠ n1) => (hg.far (p := ⟨n1, 0, none⟩) hn (I (1 + mn))).far (p := ⟨n1, 1, none⟩) hn (.slice A1 m1 c1))
       have hYY := hide hY
       clear kZ oV kN hY hL
       (refine zg_tk 0 ?_; refine zg_tk 1 ?_; refine zg_tk 2 ?_; refine zg_tk 3 ?_; refine zg_tk 4 ?_; refine zg_tk 5 ?_; refine zg_tk 6 ?_; refine zg_tk 7 ?_; refine zg_tk 8 ?_; refine zg_tk 9 ?_; refine zg_tk 10 ?_; refine zg_tk 11 ?_; refine zg_tk 12 ?_; (try go_frame))
       (refine zg_rd 13 fun K_ hK_ => ?_; go_simp; skip; refine hK_.out _ _ ?_ (fun hHeld => ?_); rotate_left; clear hK_ K_; (try go_frame); rotate_left)
       ·refine ⟨?_, ?_, ?_, ?_⟩
        ·have h := (hfar.out _ _ _ hYY.out.bas (by omega)).cell 0
         simpa [hV] using h
        ·have h := (hfar.out _ _ _ hYY.out.scn (by omega)).cell 5
         simpa [hV] using h
        ·exact (hfar.out _ _ _ hYY.out.laid (by omega)).cell 0
        ·exact (hfar.out _ _ _ hYY.out.laid (by omega)).cell 1
       (refine zg_ls 14 fun K_ hK_ => ?_; go_simp; skip; refine hK_.out _ _ ?_; clear hK_ K_; (try go_frame))
       clear g0 g1 g2 g3 g4
       go_wp2_with fail
       refine bodyPost_ret (v := .tuple #[.agg #[I (1 + mn), .slice A1 m1 c1], .slice A2 m2 c2]) (by simp [results, Tryz.results176, go_sem, q0.out, q1.out]) rfl ⟨_, _, rfl, sV.out, bV.out⟩
end Go.Proofs.YtgbbljfmngmjeaaGreat
