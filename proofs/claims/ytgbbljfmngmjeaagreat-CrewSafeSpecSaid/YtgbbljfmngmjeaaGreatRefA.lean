/- The reference's laid.and: a net that is being laid, with a further difference. Conditions stand in the theorems. -/
import Derived.Test.YtgbbljfmngmjeaaGreatBasin10
import Derived.OneCell
set_option linter.all false
set_option maxHeartbeats 8000000
set_option maxRecDepth 100000
namespace Go.Proofs.YtgbbljfmngmjeaaGreat
open Go.RowKit

structure AndAt (w w0 W : World) (N base : Nat) (v r : Value) (ds : List Diff) (rs : List Reason) : Prop where
 ov : Own W base 245 3 Diff.cells v ds
 or_ : Own W base 227 4 Reason.cells r rs
 below : Below base w W
 keep : ∀ g t cs, Blk w0 g t cs → (t ≠ 245 ∧ t ≠ 227 ∨ N ≤ g) → Blk W g t cs
theorem AndAt.alloc {w w0 W : World} {N base : Nat} {v r : Value} {ds : List Diff} {rs : List Reason} (h : AndAt w w0 W N base v r ds rs) (hb : base ≤ W.heap.size) (o : Obj) : AndAt w w0 (W.alloc o) N base v r ds rs :=
 ⟨h.ov.alloc o, h.or_.alloc o, h.below.alloc hb o, fun g t cs hg ht => (h.keep g t cs hg ht).alloc o⟩
theorem AndAt.drew {w w0 W : World} {N base : Nat} {v r : Value} {ds : List Diff} {rs : List Reason} (h : AndAt w w0 W N base v r ds rs) : AndAt w w0 W.drew N base v r ds rs :=
 ⟨h.ov, h.or_, h.below.drew, fun g t cs hg ht => (h.keep g t cs hg ht).drew⟩
theorem blk_grown {W W' : World} {g N : Nat} {t : TypeId} {cs : Array Value} {v : Value} (h : Blk W g t cs) (hgr : W.grownBy W' v.ownBlock) (hv : ∀ x, v.ownBlock = some x → x < N) (hg : N ≤ g) : Blk W' g t cs := (hgr.block g h.lt (fun e => by have := hv _ e.symm; omega)).trans h
theorem AndAt.pushD {w w0 W W' : World} {N base : Nat} {v v' r : Value} {ds ds' : List Diff} {rs : List Reason} (h : AndAt w w0 W N base v r ds rs) (hb : base ≤ W.heap.size) (hgr : W.grownBy W' v.ownBlock) (hv : ∀ x, v.ownBlock = some x → x < N) (ho : Own W' base 245 3 Diff.cells v' ds') : AndAt w w0 W' N base v' r ds' rs :=
 ⟨ho, Own.other h.or_ h.ov (by decide) hgr, h.below.grown hgr hb (fun x hx => (ownBlock_lt h.ov x hx).1), fun g t cs hg ht => by
  have hk := h.keep g t cs hg ht
  rcases ht with ht | ht
  ·exact (hgr.block g hk.lt (own_ne h.ov hk ht.1)).trans hk
  ·exact blk_grown hk hgr hv ht⟩
theorem AndAt.pushR {w w0 W W' : World} {N base : Nat} {v r r' : Value} {ds : List Diff} {rs rs' : List Reason} (h : AndAt w w0 W N base v r ds rs) (hb : base ≤ W.heap.size) (hgr : W.grownBy W' r.ownBlock) (hv : ∀ x, r.ownBlock = some x → x < N) (ho : Own W' base 227 4 Reason.cells r' rs') : AndAt w w0 W' N base v r' ds rs' :=
 ⟨Own.other h.ov h.or_ (by decide) hgr, ho, h.below.grown hgr hb (fun x hx => (ownBlock_lt h.or_ x hx).1), fun g t cs hg ht => by
  have hk := h.keep g t cs hg ht
  rcases ht with ht | ht
  ·exact (hgr.block g hk.lt (own_ne h.or_ hk ht.2)).trans hk
  ·exact blk_grown hk hgr hv ht⟩
theorem blk_cells {W : World} {g : Nat} {t : TypeId} {l : List Value} (h : Blk W g t l.toArray) : ∀ j u, l[j]? = some u → W.cell? ⟨g, j, none⟩ = some u := fun j u hu => by
 rw [h.cell j]
 simpa using hu
theorem own_far {α : Type} {w : World} {base e k : Nat} {enc : α → List Value} {v : Value} {xs : List α} (h : Own w base e k enc v xs) {a : Addr} (ha : v.ownBlock ≠ some a.block) (u : Value) : Own (w.setCell a u) base e k enc v xs := ownsRow_setCell_other h ha u
theorem ref5_and (base : Nat) (v r : Value) (ds : List Diff) (rs : List Reason) (d : Diff) (rz : Reason) (w : World) (hv : Own w base 245 3 Diff.cells v ds) (hr : Own w base 227 4 Reason.cells r rs) (hbase : base ≤ w.heap.size) (hl : ds.length ≤ 65536) (hl2 : rs.length ≤ 65536) :
  Calls Tryz.prog 197 #[.agg #[v, r], I d.frm, I d.to, I d.most, rz.v] w fun e w' => ∃ v' r', e = .returned (.agg #[v', r']) ∧ Own w' base 245 3 Diff.cells v' (ds ++ [d]) ∧ Own w' base 227 4 Reason.cells r' (rs ++ [rz]) ∧ Below base w w' ∧
   (∀ g t cs, Blk w g t cs → t ≠ 245 → t ≠ 227 → Blk w' g t cs) := by
 obtain ⟨A1, n1, c1, rfl⟩ := hv.shape
 obtain ⟨A2, n2, c2, rfl⟩ := hr.shape
 have lv := hide (fun x e => (ownBlock_lt hv x e).2)
 have lr := hide (fun x e => (ownBlock_lt hr x e).2)
 unfold Reason.v
 replace hv := hide hv
 replace hr := hide hr
 go_enter Tryz.func197, Tryz.ntmps197
 go_wp2_with fail
 obtain ⟨w0, hw0⟩ : ∃ w0, w0 = ((w.alloc (.cells #[.slice A1 n1 c1, .slice A2 n2 c2] 235)).alloc (.cells #[I rz.kind, I rz.index, I rz.day, .bool rz.upper] 227)).alloc (.cells #[.slice none 0 0, .slice none 0 0] 235) := ⟨_, rfl⟩
 have hA : AndAt w w0 w0 w.heap.size base (.slice A1 n1 c1) (.slice A2 n2 c2) ds rs := by
  refine ⟨?_, ?_, ?_, fun _ _ _ h _ => h⟩
  ·rw [hw0]; exact ((hv.out.alloc _).alloc _).alloc _
  ·rw [hw0]; exact ((hr.out.alloc _).alloc _).alloc _
  ·rw [hw0]; exact (below3 w _ _ _).mono hbase
 have hall : ∀ g t cs, Blk w g t cs → Blk w0 g t cs := fun g t cs h => by rw [hw0]; exact ((h.alloc _).alloc _).alloc _
 have kL : Blk w0 w.heap.size 235 #[.slice A1 n1 c1, .slice A2 n2 c2] := by rw [hw0]; exact ((Blk.new _ _ _).alloc _).alloc _
 have kR : Blk w0 (w.heap.size + 1) 227 #[I rz.kind, I rz.index, I rz.day, .bool rz.upper] := by
  rw [hw0]
  have h := Blk.new (w.alloc (.cells #[.slice A1 n1 c1, .slice A2 n2 c2] 235)) 227 #[I rz.kind, I rz.index, I rz.day, .bool rz.upper]
  simp only [World.size_alloc] at h
  exact h.alloc _
 have kO : Blk w0 (w.heap.size + 1 + 1) 235 #[.slice none 0 0, .slice none 0 0] := by
  rw [hw0]
  have h := Blk.new ((w.alloc (.cells #[.slice A1 n1 c1, .slice A2 n2 c2] 235)).alloc (.cells #[I rz.kind, I rz.index, I rz.day, .bool rz.upper] 227)) 235 #[.slice none 0 0, .slice none 0 0]
  simpa only [World.size_alloc] using h
 have hz0 : w0.heap.size = w.heap.size + 1 + 1 + 1 := by rw [hw0]; simp
 rw [← hw0]
 clear hw0 hv hr
 obtain ⟨N, hN⟩ : ∃ N, w.heap.size = N := ⟨_, rfl⟩
 rw [hN] at hA kL kR kO hz0 lv lr hbase ⊢
 have HS := hide (fun (W : World) (v r : Value) ds rs (h : AndAt w w0 W N base v r ds rs) => (show W.cell? ⟨N, 0, none⟩ = some (.slice A1 n1 c1) ∧ W.cell? ⟨N, 1, none⟩ = some (.slice A2 n2 c2) ∧ W.cell? ⟨N + 1, 0, none⟩ = some (I rz.kind) ∧ W.cell? ⟨N + 1, 1, none⟩ = some (I rz.index) ∧ W.cell? ⟨N + 1, 2, none⟩ = some (I rz.day) ∧ W.cell? ⟨N + 1, 3, none⟩ = some (.bool rz.upper) from
  ⟨(h.keep _ _ _ kL (.inr (by omega))).cell 0, (h.keep _ _ _ kL (.inr (by omega))).cell 1, (h.keep _ _ _ kR (.inr (by omega))).cell 0, (h.keep _ _ _ kR (.inr (by omega))).cell 1, (h.keep _ _ _ kR (.inr (by omega))).cell 2, (h.keep _ _ _ kR (.inr (by omega))).cell 3⟩))
 replace hall := hide hall
 replace hA := hide hA
 replace kO := hide kO
 replace hz0 := hide hz0
 clear kL kR
 refine wp_region_zg (S := fun W => W.cell? ⟨N, 0, none⟩ = some (.slice A1 n1 c1) ∧ W.cell? ⟨N, 1, none⟩ = some (.slice A2 n2 c2) ∧ W.cell? ⟨N + 1, 0, none⟩ = some (I rz.kind) ∧ W.cell? ⟨N + 1, 1, none⟩ = some (I rz.index) ∧ W.cell? ⟨N + 1, 2, none⟩ = some (I rz.day) ∧ W.cell? ⟨N + 1, 3, none⟩ = some (.bool rz.upper)) 14 (by kernel_rfl) (by kernel_rfl) ?_
 have hHeld := HS.out _ _ _ _ _ hA.out.drew
 (refine zg_tk 0 ?_; refine zg_tk 1 ?_; refine zg_tk 2 ?_; refine zg_tk 3 ?_; refine zg_tk 4 ?_; refine zg_tk 5 ?_; refine zg_tk 8 ?_; refine zg_tk 9 ?_; refine zg_tk 10 ?_; (try go_frame))
 have hz : ∀ W v r ds rs, AndAt w w0 W N base v r ds rs → base ≤ W.heap.size ∧ N + 3 ≤ W.heap.size := fun W v r ds rs h => by
  have h1 := (h.keep _ _ _ kO.out (.inr (by omega))).lt
  omega
 replace hz := hide hz
 replace hall := hide (hall.out)
 refine zg_two (i := 6) (j := 11) (by decide) (by decide) rfl rfl (by kernel_rfl) (fun K_ hK_ => ?_) (fun K_ hK_ => ?_)
 ·skip
  go_simp
  obtain ⟨wa1, hwa1⟩ : ∃ W, W = (w0.alloc (Obj.cells #[I d.frm, I d.to, I d.most] 245)).drew := ⟨_, rfl⟩
  have a1 := hA.out.alloc (hz.out _ _ _ _ _ hA.out).1 (Obj.cells #[I d.frm, I d.to, I d.most] 245)
  have kD : Blk wa1 w0.heap.size 245 #[I d.frm, I d.to, I d.most] := by rw [hwa1]; exact Blk.new _ _ _
  replace a1 : AndAt w w0 wa1 N base (Value.slice A1 n1 c1) (Value.slice A2 n2 c2) ds rs := by rw [hwa1]; exact a1.drew
  have gDN : N ≤ w0.heap.size := by have := (hz.out _ _ _ _ _ hA.out).2; omega
  rw [← hwa1]
  clear hwa1
  obtain ⟨gD, hgD⟩ : ∃ g, w0.heap.size = g := ⟨_, rfl⟩
  rw [hgD] at kD gDN ⊢
  clear hgD
  replace a1 := hide a1
  refine hK_.out _ _ (HS.out _ _ _ _ _ a1.out) (fun hHeld => ?_)
  clear hK_ K_
  (try go_frame)
  refine zg_two (i := 7) (j := 11) (by decide) (by decide) rfl rfl (by kernel_rfl) (fun K_ hK_ => ?_) (fun K_ hK_ => ?_)
  ·skip
   refine step_push_by el_Diff Diff.cells_len Diff.cells_one rfl (.tmp 12) (.tmp 17) rfl base rfl a1.out.ov d rfl ?c1 ?c2 ?c3 ?c4 ?_
   case c1 => exact blk_cells (l := d.cells) kD
   case c2 => omega
   case c3 => omega
   case c4 => exact (hz.out _ _ _ _ _ a1.out).1
   intro v2 wa2 hown hgr
   obtain ⟨B2, m2, q2, rfl⟩ := hown.shape
   have a2 := hide (a1.out.pushD (hz.out _ _ _ _ _ a1.out).1 hgr lv.out hown)
   clear kD gDN hown hgr
   refine hK_.out _ _ (HS.out _ _ _ _ _ a2.out) (fun hHeld => ?_)
   clear hK_ K_
   (try go_frame)
   refine zg_ready (i := 11) (by decide) rfl (by kernel_rfl) (fun K_ hK_ => ?_)
   go_simp
   obtain ⟨wa3, hwa3⟩ : ∃ W, W = wa2.alloc (Obj.cells #[I rz.kind, I rz.index, I rz.day, .bool rz.upper] 227) := ⟨_, rfl⟩
   have a3 := a2.out.alloc (hz.out _ _ _ _ _ a2.out).1 (Obj.cells #[I rz.kind, I rz.index, I rz.day, .bool rz.upper] 227)
   have kR : Blk wa3 wa2.heap.size 227 #[I rz.kind, I rz.index, I rz.day, .bool rz.upper] := by rw [hwa3]; exact Blk.new _ _ _
   replace a3 : AndAt w w0 wa3 N base (Value.slice B2 m2 q2) (Value.slice A2 n2 c2) (ds ++ [d]) rs := by rw [hwa3]; exact a3
   have gRN : N ≤ wa2.heap.size := by have := (hz.out _ _ _ _ _ a2.out).2; omega
   rw [← hwa3]
   clear hwa3
   obtain ⟨gR, hgR⟩ : ∃ g, wa2.heap.size = g := ⟨_, rfl⟩
   rw [hgR] at kR gRN ⊢
   clear hgR
   replace a3 := hide a3
   refine hK_.out _ _ (HS.out _ _ _ _ _ a3.out) (fun hHeld => ?_)
   clear hK_ K_
   (try go_frame)
   refine zg_ready (i := 12) (by decide) rfl (by kernel_rfl) (fun K_ hK_ => ?_)
   refine step_push_by el_Reason Reason.cells_len Reason.cells_one rfl (.tmp 20) (.tmp 22) rfl base rfl a3.out.or_ rz rfl ?c1 ?c2 ?c3 ?c4 ?_
   case c1 => exact blk_cells (l := rz.cells) kR
   case c2 => omega
   case c3 => omega
   case c4 => exact (hz.out _ _ _ _ _ a3.out).1
   intro v4 wa4 hown hgr
   obtain ⟨B4, m4, q4, rfl⟩ := hown.shape
   have a4 := hide (a3.out.pushR (hz.out _ _ _ _ _ a3.out).1 hgr lr.out hown)
   clear kR gRN hown hgr
   refine hK_.out _ _ (HS.out _ _ _ _ _ a4.out) (fun hHeld => ?_)
   clear hK_ K_
   (try go_frame)
   (refine zg_tk 13 ?_; (try go_frame))
   have kZ := a4.out.keep _ _ _ kO.out (.inr (by omega))
   have q0 := kZ.cell 0
   have q1 := kZ.cell 1
   have f0 := kZ.frozen 0
   have f1 := kZ.frozen 1
   have zZ := kZ.lt
   have kY := (kZ.set_ 0 (Value.slice B2 m2 q2)).set_ 1 (Value.slice B4 m4 q4)
   have y0 := hide (show _ = some (Value.slice B2 m2 q2) from kY.cell 0)
   have y1 := hide (show _ = some (Value.slice B4 m4 q4) from kY.cell 1)
   have oV := hide (own_far (own_far a4.out.ov (a := ⟨N + 1 + 1, 0, none⟩) (own_ne a4.out.ov kZ (by decide)).symm (Value.slice B2 m2 q2)) (a := ⟨N + 1 + 1, 1, none⟩) (own_ne a4.out.ov kZ (by decide)).symm (Value.slice B4 m4 q4))
   have oR := hide (own_far (own_far a4.out.or_ (a := ⟨N + 1 + 1, 0, none⟩) (own_ne a4.out.or_ kZ (by decide)).symm (Value.slice B2 m2 q2)) (a := ⟨N + 1 + 1, 1, none⟩) (own_ne a4.out.or_ kZ (by decide)).symm (Value.slice B4 m4 q4))
   have bE := hide ((a4.out.below.setCell (p := ⟨N + 1 + 1, 0, none⟩) (show base ≤ N + 1 + 1 by omega) (Value.slice B2 m2 q2)).setCell (p := ⟨N + 1 + 1, 1, none⟩) (show base ≤ N + 1 + 1 by omega) (Value.slice B4 m4 q4))
   have kE := hide (fun (g : Nat) (t : TypeId) (cs : Array Value) (hb : Blk w g t cs) (h1 : t ≠ 245) (h2 : t ≠ 227) => ((a4.out.keep g t cs (hall.out g t cs hb) (.inl ⟨h1, h2⟩)).far (p := ⟨N + 1 + 1, 0, none⟩) (by show g ≠ N + 1 + 1; have := hb.lt; omega) (Value.slice B2 m2 q2)).far (p := ⟨N + 1 + 1, 1, none⟩) (by show g ≠ N + 1 + 1; have := hb.lt; omega) (Value.slice B4 m4 q4))
   clear kZ kY
   simp at q0 q1
   (refine zg_ls 14 fun K_ hK_ => ?_; go_simp; skip; refine hK_.out _ _ ?_; clear hK_ K_; (try go_frame))
   go_wp2_with fail
   refine bodyPost_ret (v := .agg #[(Value.slice B2 m2 q2), (Value.slice B4 m4 q4)]) (by simp [results, Tryz.results197, go_sem, y0.out, y1.out]) rfl ⟨_, _, rfl, oV.out, oR.out, bE.out, kE.out⟩
  ·skip
   go_simp
   obtain ⟨wa5, hwa5⟩ : ∃ W, W = wa1.alloc (Obj.cells #[I rz.kind, I rz.index, I rz.day, .bool rz.upper] 227) := ⟨_, rfl⟩
   have a5 := a1.out.alloc (hz.out _ _ _ _ _ a1.out).1 (Obj.cells #[I rz.kind, I rz.index, I rz.day, .bool rz.upper] 227)
   have kR : Blk wa5 wa1.heap.size 227 #[I rz.kind, I rz.index, I rz.day, .bool rz.upper] := by rw [hwa5]; exact Blk.new _ _ _
   replace a5 : AndAt w w0 wa5 N base (Value.slice A1 n1 c1) (Value.slice A2 n2 c2) ds rs := by rw [hwa5]; exact a5
   have gRN : N ≤ wa1.heap.size := by have := (hz.out _ _ _ _ _ a1.out).2; omega
   rw [← hwa5]
   replace kD : Blk wa5 gD 245 #[I d.frm, I d.to, I d.most] := by rw [hwa5]; exact kD.alloc _
   clear hwa5
   obtain ⟨gR, hgR⟩ : ∃ g, wa1.heap.size = g := ⟨_, rfl⟩
   rw [hgR] at kR gRN ⊢
   clear hgR
   replace a5 := hide a5
   refine hK_.out _ _ (HS.out _ _ _ _ _ a5.out) (fun hHeld => ?_)
   clear hK_ K_
   (try go_frame)
   refine zg_ready (i := 7) (by decide) rfl (by kernel_rfl) (fun K_ hK_ => ?_)
   refine step_push_by el_Diff Diff.cells_len Diff.cells_one rfl (.tmp 12) (.tmp 17) rfl base rfl a5.out.ov d rfl ?c1 ?c2 ?c3 ?c4 ?_
   case c1 => exact blk_cells (l := d.cells) kD
   case c2 => omega
   case c3 => omega
   case c4 => exact (hz.out _ _ _ _ _ a5.out).1
   intro v6 wa6 hown hgr
   obtain ⟨B6, m6, q6, rfl⟩ := hown.shape
   have a6 := hide (a5.out.pushD (hz.out _ _ _ _ _ a5.out).1 hgr lv.out hown)
   replace kR := blk_grown kR hgr lv.out gRN
   clear kD gDN hown hgr
   refine hK_.out _ _ (HS.out _ _ _ _ _ a6.out) (fun hHeld => ?_)
   clear hK_ K_
   (try go_frame)
   refine zg_ready (i := 12) (by decide) rfl (by kernel_rfl) (fun K_ hK_ => ?_)
   refine step_push_by el_Reason Reason.cells_len Reason.cells_one rfl (.tmp 20) (.tmp 22) rfl base rfl a6.out.or_ rz rfl ?c1 ?c2 ?c3 ?c4 ?_
   case c1 => exact blk_cells (l := rz.cells) kR
   case c2 => omega
   case c3 => omega
   case c4 => exact (hz.out _ _ _ _ _ a6.out).1
   intro v7 wa7 hown hgr
   obtain ⟨B7, m7, q7, rfl⟩ := hown.shape
   have a7 := hide (a6.out.pushR (hz.out _ _ _ _ _ a6.out).1 hgr lr.out hown)
   clear kR gRN hown hgr
   refine hK_.out _ _ (HS.out _ _ _ _ _ a7.out) (fun hHeld => ?_)
   clear hK_ K_
   (try go_frame)
   (refine zg_tk 13 ?_; (try go_frame))
   have kZ := a7.out.keep _ _ _ kO.out (.inr (by omega))
   have q0 := kZ.cell 0
   have q1 := kZ.cell 1
   have f0 := kZ.frozen 0
   have f1 := kZ.frozen 1
   have zZ := kZ.lt
   have kY := (kZ.set_ 0 (Value.slice B6 m6 q6)).set_ 1 (Value.slice B7 m7 q7)
   have y0 := hide (show _ = some (Value.slice B6 m6 q6) from kY.cell 0)
   have y1 := hide (show _ = some (Value.slice B7 m7 q7) from kY.cell 1)
   have oV := hide (own_far (own_far a7.out.ov (a := ⟨N + 1 + 1, 0, none⟩) (own_ne a7.out.ov kZ (by decide)).symm (Value.slice B6 m6 q6)) (a := ⟨N + 1 + 1, 1, none⟩) (own_ne a7.out.ov kZ (by decide)).symm (Value.slice B7 m7 q7))
   have oR := hide (own_far (own_far a7.out.or_ (a := ⟨N + 1 + 1, 0, none⟩) (own_ne a7.out.or_ kZ (by decide)).symm (Value.slice B6 m6 q6)) (a := ⟨N + 1 + 1, 1, none⟩) (own_ne a7.out.or_ kZ (by decide)).symm (Value.slice B7 m7 q7))
   have bE := hide ((a7.out.below.setCell (p := ⟨N + 1 + 1, 0, none⟩) (show base ≤ N + 1 + 1 by omega) (Value.slice B6 m6 q6)).setCell (p := ⟨N + 1 + 1, 1, none⟩) (show base ≤ N + 1 + 1 by omega) (Value.slice B7 m7 q7))
   have kE := hide (fun (g : Nat) (t : TypeId) (cs : Array Value) (hb : Blk w g t cs) (h1 : t ≠ 245) (h2 : t ≠ 227) => ((a7.out.keep g t cs (hall.out g t cs hb) (.inl ⟨h1, h2⟩)).far (p := ⟨N + 1 + 1, 0, none⟩) (by show g ≠ N + 1 + 1; have := hb.lt; omega) (Value.slice B6 m6 q6)).far (p := ⟨N + 1 + 1, 1, none⟩) (by show g ≠ N + 1 + 1; have := hb.lt; omega) (Value.slice B7 m7 q7))
   clear kZ kY
   simp at q0 q1
   (refine zg_ls 14 fun K_ hK_ => ?_; go_simp; skip; refine hK_.out _ _ ?_; clear hK_ K_; (try go_frame))
   go_wp2_with fail
   refine bodyPost_ret (v := .agg #[(Value.slice B6 m6 q6), (Value.slice B7 m7 q7)]) (by simp [results, Tryz.results197, go_sem, y0.out, y1.out]) rfl ⟨_, _, rfl, oV.out, oR.out, bE.out, kE.out⟩
 ·skip
  go_simp
  obtain ⟨wa8, hwa8⟩ : ∃ W, W = (w0.alloc (Obj.cells #[I rz.kind, I rz.index, I rz.day, .bool rz.upper] 227)).drew := ⟨_, rfl⟩
  have a8 := hA.out.alloc (hz.out _ _ _ _ _ hA.out).1 (Obj.cells #[I rz.kind, I rz.index, I rz.day, .bool rz.upper] 227)
  have kR : Blk wa8 w0.heap.size 227 #[I rz.kind, I rz.index, I rz.day, .bool rz.upper] := by rw [hwa8]; exact Blk.new _ _ _
  replace a8 : AndAt w w0 wa8 N base (Value.slice A1 n1 c1) (Value.slice A2 n2 c2) ds rs := by rw [hwa8]; exact a8.drew
  have gRN : N ≤ w0.heap.size := by have := (hz.out _ _ _ _ _ hA.out).2; omega
  rw [← hwa8]
  clear hwa8
  obtain ⟨gR, hgR⟩ : ∃ g, w0.heap.size = g := ⟨_, rfl⟩
  rw [hgR] at kR gRN ⊢
  clear hgR
  replace a8 := hide a8
  refine hK_.out _ _ (HS.out _ _ _ _ _ a8.out) (fun hHeld => ?_)
  clear hK_ K_
  (try go_frame)
  refine zg_ready (i := 6) (by decide) rfl (by kernel_rfl) (fun K_ hK_ => ?_)
  go_simp
  obtain ⟨wa9, hwa9⟩ : ∃ W, W = wa8.alloc (Obj.cells #[I d.frm, I d.to, I d.most] 245) := ⟨_, rfl⟩
  have a9 := a8.out.alloc (hz.out _ _ _ _ _ a8.out).1 (Obj.cells #[I d.frm, I d.to, I d.most] 245)
  have kD : Blk wa9 wa8.heap.size 245 #[I d.frm, I d.to, I d.most] := by rw [hwa9]; exact Blk.new _ _ _
  replace a9 : AndAt w w0 wa9 N base (Value.slice A1 n1 c1) (Value.slice A2 n2 c2) ds rs := by rw [hwa9]; exact a9
  have gDN : N ≤ wa8.heap.size := by have := (hz.out _ _ _ _ _ a8.out).2; omega
  rw [← hwa9]
  replace kR : Blk wa9 gR 227 #[I rz.kind, I rz.index, I rz.day, .bool rz.upper] := by rw [hwa9]; exact kR.alloc _
  clear hwa9
  obtain ⟨gD, hgD⟩ : ∃ g, wa8.heap.size = g := ⟨_, rfl⟩
  rw [hgD] at kD gDN ⊢
  clear hgD
  replace a9 := hide a9
  refine hK_.out _ _ (HS.out _ _ _ _ _ a9.out) (fun hHeld => ?_)
  clear hK_ K_
  (try go_frame)
  refine zg_ready (i := 7) (by decide) rfl (by kernel_rfl) (fun K_ hK_ => ?_)
  refine step_push_by el_Diff Diff.cells_len Diff.cells_one rfl (.tmp 12) (.tmp 17) rfl base rfl a9.out.ov d rfl ?c1 ?c2 ?c3 ?c4 ?_
  case c1 => exact blk_cells (l := d.cells) kD
  case c2 => omega
  case c3 => omega
  case c4 => exact (hz.out _ _ _ _ _ a9.out).1
  intro v10 wa10 hown hgr
  obtain ⟨B10, m10, q10, rfl⟩ := hown.shape
  have a10 := hide (a9.out.pushD (hz.out _ _ _ _ _ a9.out).1 hgr lv.out hown)
  replace kR := blk_grown kR hgr lv.out gRN
  clear kD gDN hown hgr
  refine hK_.out _ _ (HS.out _ _ _ _ _ a10.out) (fun hHeld => ?_)
  clear hK_ K_
  (try go_frame)
  refine zg_ready (i := 12) (by decide) rfl (by kernel_rfl) (fun K_ hK_ => ?_)
  refine step_push_by el_Reason Reason.cells_len Reason.cells_one rfl (.tmp 20) (.tmp 22) rfl base rfl a10.out.or_ rz rfl ?c1 ?c2 ?c3 ?c4 ?_
  case c1 => exact blk_cells (l := rz.cells) kR
  case c2 => omega
  case c3 => omega
  case c4 => exact (hz.out _ _ _ _ _ a10.out).1
  intro v11 wa11 hown hgr
  obtain ⟨B11, m11, q11, rfl⟩ := hown.shape
  have a11 := hide (a10.out.pushR (hz.out _ _ _ _ _ a10.out).1 hgr lr.out hown)
  clear kR gRN hown hgr
  refine hK_.out _ _ (HS.out _ _ _ _ _ a11.out) (fun hHeld => ?_)
  clear hK_ K_
  (try go_frame)
  (refine zg_tk 13 ?_; (try go_frame))
  have kZ := a11.out.keep _ _ _ kO.out (.inr (by omega))
  have q0 := kZ.cell 0
  have q1 := kZ.cell 1
  have f0 := kZ.frozen 0
  have f1 := kZ.frozen 1
  have zZ := kZ.lt
  have kY := (kZ.set_ 0 (Value.slice B10 m10 q10)).set_ 1 (Value.slice B11 m11 q11)
  have y0 := hide (show _ = some (Value.slice B10 m10 q10) from kY.cell 0)
  have y1 := hide (show _ = some (Value.slice B11 m11 q11) from kY.cell 1)
  have oV := hide (own_far (own_far a11.out.ov (a := ⟨N + 1 + 1, 0, none⟩) (own_ne a11.out.ov kZ (by decide)).symm (Value.slice B10 m10 q10)) (a := ⟨N + 1 + 1, 1, none⟩) (own_ne a11.out.ov kZ (by decide)).symm (Value.slice B11 m11 q11))
  have oR := hide (own_far (own_far a11.out.or_ (a := ⟨N + 1 + 1, 0, none⟩) (own_ne a11.out.or_ kZ (by decide)).symm (Value.slice B10 m10 q10)) (a := ⟨N + 1 + 1, 1, none⟩) (own_ne a11.out.or_ kZ (by decide)).symm (Value.slice B11 m11 q11))
  have bE := hide ((a11.out.below.setCell (p := ⟨N + 1 + 1, 0, none⟩) (show base ≤ N + 1 + 1 by omega) (Value.slice B10 m10 q10)).setCell (p := ⟨N + 1 + 1, 1, none⟩) (show base ≤ N + 1 + 1 by omega) (Value.slice B11 m11 q11))
  have kE := hide (fun (g : Nat) (t : TypeId) (cs : Array Value) (hb : Blk w g t cs) (h1 : t ≠ 245) (h2 : t ≠ 227) => ((a11.out.keep g t cs (hall.out g t cs hb) (.inl ⟨h1, h2⟩)).far (p := ⟨N + 1 + 1, 0, none⟩) (by show g ≠ N + 1 + 1; have := hb.lt; omega) (Value.slice B10 m10 q10)).far (p := ⟨N + 1 + 1, 1, none⟩) (by show g ≠ N + 1 + 1; have := hb.lt; omega) (Value.slice B11 m11 q11))
  clear kZ kY
  simp at q0 q1
  (refine zg_ls 14 fun K_ hK_ => ?_; go_simp; skip; refine hK_.out _ _ ?_; clear hK_ K_; (try go_frame))
  go_wp2_with fail
  refine bodyPost_ret (v := .agg #[(Value.slice B10 m10 q10), (Value.slice B11 m11 q11)]) (by simp [results, Tryz.results197, go_sem, y0.out, y1.out]) rfl ⟨_, _, rfl, oV.out, oR.out, bE.out, kE.out⟩
end Go.Proofs.YtgbbljfmngmjeaaGreat
