/- The package basin: more, (*laid).node, (*laid).add. Conditions stand in the theorems. -/
import Derived.Test.YtgbbljfmngmjeaaGreatBasin3Pack
import Derived.Test.YtgbbljfmngmjeaaGreatSpring14
set_option linter.all false
set_option maxHeartbeats 4000000
set_option maxRecDepth 100000
namespace Go.Proofs.YtgbbljfmngmjeaaGreat
open Go.RowKit

theorem basin_more (b : Basin) (vc vp : Value) (j k : Nat) (x y : Cell) (w : World) (hc : Sl w 4 Cell.cells vc b.cells) (hg : 0 ≤ b.gain ∧ b.gain ≤ 65536) (hs : 0 ≤ b.slack ∧ b.slack ≤ 65536)
  (hx : b.cells[j]? = some x) (hy : b.cells[k]? = some y) (hx0 : 0 ≤ x.height) (hy9 : y.height ≤ 9000) (hxy : x.height ≤ y.height) :
  Calls Tryz.prog 184 #[b.v vc vp, .agg #[I j, I k]] w fun e w' => e = .returned (I (moreF b ((j : Int), (k : Int)))) ∧ Below w.heap.size w w' := by
 have hb := more_bounds hg hxy hx0 hy9
 have hv : moreF b ((j : Int), (k : Int)) = b.slack + b.gain * (y.height - x.height) / 100 := by
  simp only [moreF, Int.toNat_natCast, getD_of hx, getD_of hy]
 rw [hv]
 obtain ⟨A, n, rfl, _, _, hlc, hA⟩ := hc.open_
 have hjl := (List.getElem?_eq_some_iff.1 hx).1
 have hkl := (List.getElem?_eq_some_iff.1 hy).1
 obtain ⟨g, off, rfl, hgw⟩ := hA j hjl
 obtain ⟨_, _, e1, _, _⟩ := hc.cell_at hx
 obtain ⟨_, _, p1, _, _⟩ := hc.cell_at hy
 have w1 : IntKind.i64.wrap (y.height - x.height) = y.height - x.height := IntWalk.i64_in _ (by omega)
 obtain ⟨d, hd⟩ : ∃ d, b.gain * (y.height - x.height) = d := ⟨_, rfl⟩
 rw [hd] at hb ⊢
 have w2 : IntKind.i64.wrap d = d := IntWalk.i64_in _ (by omega)
 have w3 : Int.tdiv d 100 = d / 100 := Int.tdiv_eq_ediv_of_nonneg hb.1
 have w4 : IntKind.i64.wrap (d / 100) = d / 100 := IntWalk.i64_in _ (by omega)
 have w5 : IntKind.i64.wrap (b.slack + d / 100) = b.slack + d / 100 := IntWalk.i64_in _ (by omega)
 have hg1 : g < w.heap.size + 1 := by omega
 have hg2 : g < w.heap.size + 1 + 1 := by omega
 have hg3 : g ≤ w.heap.size := by omega
 unfold Basin.v
 clear hA hc hx hy hv
 go_enter Tryz.func184, Tryz.ntmps184
 go_wp2_with fail
 (refine wp_grow ?_; (repeat go_big_quiet_step (fail)); refine wp_grow0 ?_; intro W1 hW1)
 go_wp2_with fail
 go_ret
 exact ⟨rfl, bup (below2 _ _ _) hW1⟩

theorem laid_node (X : Nat) (A : Option Addr) (n m : Nat) (c d : Int) (w : World) (h : w.cell? ⟨X, 0, none⟩ = some (.slice A n m)) (hc : 0 ≤ c ∧ c ≤ 12) (hd : 0 ≤ d ∧ d ≤ 16) (hn : n ≤ 12) :
  Calls Tryz.prog 182 #[.pointer (some ⟨X, 0, none⟩), I c, I d] w fun e w' => e = .returned (I (nodeF n c d)) ∧ w = w' := by
 have h1 : 0 ≤ d * (n : Int) := Int.mul_nonneg hd.1 (by omega)
 have h2 : d * (n : Int) ≤ 16 * 12 := Int.le_trans (Int.mul_le_mul_of_nonneg_right hd.2 (by omega)) (by omega)
 unfold nodeF
 obtain ⟨q, hq⟩ : ∃ q, d * (n : Int) = q := ⟨_, rfl⟩
 rw [hq] at h1 h2 ⊢
 have w1 : IntKind.i64.wrap q = q := IntWalk.i64_in _ (by omega)
 have w2 : IntKind.i64.wrap (1 + q) = 1 + q := IntWalk.i64_in _ (by omega)
 have w3 : IntKind.i64.wrap (1 + q + c) = 1 + q + c := IntWalk.i64_in _ (by omega)
 go_enter Tryz.func182, Tryz.ntmps182
 go_wp2_with fail
 go_ret
 exact ⟨rfl, rfl⟩

structure Reason where
 kind : Int
 index : Int
 day : Int
 upper : Bool
def Reason.cells (r : Reason) : List Value := [I r.kind, I r.index, I r.day, .bool r.upper]
def Reason.v (r : Reason) : Value := .agg #[I r.kind, I r.index, I r.day, .bool r.upper]
theorem Reason.cells_len (r : Reason) : r.cells.length = 4 := rfl
theorem Reason.cells_one (r : Reason) : ∀ u ∈ r.cells, u.oneCell' = true := by intro u hu; simp [Reason.cells] at hu; rcases hu with rfl | rfl | rfl | rfl <;> rfl
theorem el_Reason : ElemOk Tryz.prog 190 227 4 32 (.agg #[I 0, I 0, I 0, .bool false]) := ⟨Tryz.underlying190, by kernel_rfl, rfl, by omega⟩

theorem Own.other {α β : Type} {w w' : World} {base e k e' k' : Nat} {enc : α → List Value} {enc' : β → List Value} {v v' : Value} {xs : List α} {ys : List β} (h : Own w base e k enc v xs) (h' : Own w base e' k' enc' v' ys) (he : e ≠ e') (hg : w.grownBy w' v'.ownBlock) :
  Own w' base e k enc v xs := by
 refine World.ownsRow.kept h hg ?_
 rcases h.2 with ⟨rfl, _⟩ | ⟨g, cap, cur, rfl, _, hh, _⟩
 ·exact .inl rfl
 ·refine .inr ?_
  intro hc
  rcases h'.2 with ⟨rfl, _⟩ | ⟨g', cap', cur', rfl, _, hh', _⟩
  ·cases hc
  ·simp [Value.ownBlock] at hc
   subst hc
   rw [hh] at hh'
   cases hh'
   exact he rfl

theorem wp_push_by {P : Program} {α : Type} {t e k bytes : Nat} {z : Value} (E : ElemOk P t e k bytes z) {enc : α → List Value} (hlen : ∀ x, (enc x).length = k) (hone : ∀ x, ∀ u ∈ enc x, u.oneCell' = true)
  {w : World} {ops : Array Oper} {rest : List Oper} {o : Oper} {a : Act} {Q : Exit → Act → World → Prop} (hgd : o.guard = none) (s x : Operand)
  (ho : o.op = .call { callee := .builtin .append, args := #[s, x], argTypes := #[t, t] })
  (base : Nat) {v : Value} {xs : List α} (hs : a.eval s = v) (hown : Own w base e k enc v xs) (y : α) {g c : Nat} (hx : a.eval x = .slice (some ⟨g, 0, none⟩) 1 c)
  (hy : ∀ j u, (enc y)[j]? = some u → w.cell? ⟨g, j, none⟩ = some u) (hlb : (xs.length + 1) * bytes ≤ 140737488355328) (hl : xs.length ≤ 140737488355328) (hbase : base ≤ w.heap.size)
  (h : ∀ v' w', Own w' base e k enc v' (xs ++ [y]) → w.grownBy w' v.ownBlock → wpList P ops Q rest (a.put o.dst v') w') : wpList P ops Q (o :: rest) a w := by
 obtain ⟨i0, hi, hz0, hz1, hz2⟩ := info_parts E.hi
 refine wpList_append_own w hgd s x t ho base e i0 z k bytes E.ht hi hz0 hz1 hz2 E.hzs E.hk v xs.length (xs.flatMap enc) hs hown ⟨g, 0, none⟩ 1 c (enc y) hx (by rw [hlen, Nat.one_mul]) ?_ (hone y) (by unfold maxLen; omega) hlb hbase ?_
 ·intro j u hu
  have := hy j u hu
  unfold Addr.add
  split
  ·rename_i h0; subst h0; exact this
  ·simpa using this
 ·intro v' w' h1 h2 h3
  refine h v' w' ?_ h2
  unfold Own
  simpa using h1
theorem step_push_by {P : Program} {α : Type} {t e k bytes : Nat} {z : Value} (E : ElemOk P t e k bytes z) {enc : α → List Value} (hlen : ∀ x, (enc x).length = k) (hone : ∀ x, ∀ u ∈ enc x, u.oneCell' = true)
  {w : World} {ops : Array Oper} {o : Oper} {a : Act} {K : Act → World → Prop} {Q : Exit → Act → World → Prop} {F : Prop} (hgd : o.guard = none) (s x : Operand)
  (ho : o.op = .call { callee := .builtin .append, args := #[s, x], argTypes := #[t, t] })
  (base : Nat) {v : Value} {xs : List α} (hs : a.eval s = v) (hown : Own w base e k enc v xs) (y : α) {g c : Nat} (hx : a.eval x = .slice (some ⟨g, 0, none⟩) 1 c)
  (hy : ∀ j u, (enc y)[j]? = some u → w.cell? ⟨g, j, none⟩ = some u) (hlb : (xs.length + 1) * bytes ≤ 140737488355328) (hl : xs.length ≤ 140737488355328) (hbase : base ≤ w.heap.size)
  (h : ∀ v' w', Own w' base e k enc v' (xs ++ [y]) → w.grownBy w' v.ownBlock → K (a.put o.dst v') w') : if Region.wanted o (yielded ops a.tmps) = true then Oper.wp P o a w K Q else F := by
 have hw : Region.wanted o (yielded ops a.tmps) = true := by simp [Region.wanted, hgd]
 rw [if_pos hw]
 obtain ⟨i0, hi, hz0, hz1, hz2⟩ := info_parts E.hi
 refine wp_append_own w s x t ho base e i0 z k bytes E.ht hi hz0 hz1 hz2 E.hzs E.hk v xs.length (xs.flatMap enc) hs hown ⟨g, 0, none⟩ 1 c (enc y) hx (by rw [hlen, Nat.one_mul]) ?_ (hone y) (by unfold maxLen; omega) hlb hbase ?_
 ·intro j u hu
  have := hy j u hu
  unfold Addr.add
  split
  ·rename_i h0; subst h0; exact this
  ·simpa using this
 ·intro v' w' h1 h2 h3
  refine h v' w' ?_ h2
  unfold Own
  simpa using h1

def LaidAt (w : World) (base X : Nat) (s : Scene) (V : SceneV) (nodes : Int) (ds : List Diff) : Prop :=
 ∃ v r rs, Blk w X 192 #[V.cells, V.pairs, I s.basin.gain, I s.basin.slack, I s.basin.deep, V.days, V.sights, V.changes, I nodes, v, r] ∧
  Own w base 245 3 Diff.cells v ds ∧ Own w base 227 4 Reason.cells r rs ∧ rs.length = ds.length

theorem Own.grownAt {α : Type} {w w' : World} {base e k : Nat} {enc : α → List Value} {v : Value} {xs : List α} (h : Own w base e k enc v xs) {m : Nat} {row : Option Nat} (hg : w.grownBy w' row) (hr : ∀ r, row = some r → m ≤ r) (hm : ∀ g, v.ownBlock = some g → g < m) : Own w' base e k enc v xs := by
 refine World.ownsRow.kept h hg ?_
 cases hb : v.ownBlock with
 | none => exact .inl rfl
 | some g =>
  refine .inr fun e => ?_
  have := hr g e.symm
  have := hm g hb
  omega

theorem own_ne {α : Type} {w : World} {base e k : Nat} {enc : α → List Value} {v : Value} {xs : List α} (h : Own w base e k enc v xs) {g : Nat} {t : TypeId} {cs : Array Value} (hb : Blk w g t cs) (ht : t ≠ e) : some g ≠ v.ownBlock := by
 intro hc
 rcases h.2 with ⟨rfl, _⟩ | ⟨g', cap, cur, rfl, _, hh, _⟩
 ·cases hc
 ·simp [Value.ownBlock] at hc
  subst hc
  unfold Blk at hb
  rw [hh] at hb
  cases hb
  exact ht rfl

theorem laid_add (X base : Nat) (s : Scene) (V : SceneV) (nodes : Int) (ds : List Diff) (d : Diff) (rz : Reason) (w : World) (h : LaidAt w base X s V nodes ds) (hX : X < base) (hbase : base ≤ w.heap.size) (hl : ds.length ≤ 65536) :
  Calls Tryz.prog 181 #[.pointer (some ⟨X, 0, none⟩), I d.frm, I d.to, I d.most, rz.v] w fun e w' => (∃ u, e = .returned u) ∧ LaidAt w' base X s V nodes (ds ++ [d]) ∧ Keep base (fun b => b = X) w w' ∧ (∀ g t cs, Blk w g t cs → t ≠ 245 → t ≠ 227 → g ≠ X → Blk w' g t cs) := by
 obtain ⟨v, r, rs, hB, hv, hr, hlen⟩ := h
 have hXlt := hB.lt
 have c9 : w.cell? ⟨X, 9, none⟩ = some v := hB.cell 9
 have f9 : w.frozen? ⟨X, 9, none⟩ = false := hB.frozen 9
 have c10 : w.cell? ⟨X, 10, none⟩ = some r := hB.cell 10
 have f10 : w.frozen? ⟨X, 10, none⟩ = false := hB.frozen 10
 replace hB := hide hB
 replace hv := hide hv
 replace hr := hide hr
 replace hlen := hide hlen
 unfold Reason.v
 go_enter Tryz.func181, Tryz.ntmps181
 go_wp2_with (at_builtin; refine wp_push_by el_Diff Diff.cells_len Diff.cells_one rfl (.tmp 15) (.tmp 20) rfl base rfl ((hv.out.alloc _).alloc _) d rfl ?c1 ?c2 ?c3 ?c4 ?_)
 case c1 => exact new_cells (by simp) _ d.cells
 case c2 => omega
 case c3 => omega
 case c4 => simp; omega
 intro v' w1 hown hgr
 have hBox := (Blk.new w 227 #[I rz.kind, I rz.index, I rz.day, .bool rz.upper]).alloc (Obj.cells #[Value.int IntKind.i64 d.frm, Value.int IntKind.i64 d.to, Value.int IntKind.i64 d.most] 245)
 have hrow := fun g e => ownBlock_lt hv.out g e
 have hrr := hide (fun g e => (ownBlock_lt hr.out g e).2)
 have hK1 := (Keep.of_below (X := fun b => b = X) (below2 w (.cells #[I rz.kind, I rz.index, I rz.day, .bool rz.upper] 227) (.cells #[Value.int IntKind.i64 d.frm, Value.int IntKind.i64 d.to, Value.int IntKind.i64 d.most] 245)) hbase).grown hbase hgr (fun g e => (hrow g e).1)
 have hBox1 : Blk w1 w.heap.size 227 #[I rz.kind, I rz.index, I rz.day, .bool rz.upper] := (hgr.block w.heap.size (by simp <;> omega) (fun e => by have := (hrow _ e.symm).2; omega)).trans hBox
 have hB1 : Blk w1 X 192 _ := (hgr.block X (by simp; omega) (fun e => by have := (hrow _ e.symm).1; omega)).trans ((hB.out.alloc _).alloc _)
 have hr1 := Own.other ((hr.out.alloc _).alloc _) ((hv.out.alloc _).alloc _) (by decide) hgr
 have d9 : w1.cell? ⟨X, 9, none⟩ = some v := hB1.cell 9
 have g9 : w1.frozen? ⟨X, 9, none⟩ = false := hB1.frozen 9
 have hS2 := hide (fun (g : Nat) (t : TypeId) (cs : Array Value) (hb : Blk w g t cs) (h1 : t ≠ 245) (h2 : g ≠ X) =>
  (show Blk w1 g t cs from (hgr.block g (by have := hb.lt; simp; omega) (own_ne hv.out hb h1)).trans ((hb.alloc _).alloc _)).far (p := ⟨X, 9, none⟩) h2 v')
 have hB2 := hide (hB1.set_ 9 v')
 have hBox2 := hide (hBox1.far (p := ⟨X, 9, none⟩) (by show w.heap.size ≠ X; omega) v')
 have hv2 := hide (hown.set_below (p := ⟨X, 9, none⟩) hX v')
 have hr2 := hide (hr1.set_below (p := ⟨X, 9, none⟩) hX v')
 have hK2 := hide (hK1.set (g := X) (i := 9) rfl v')
 clear hB hv hr hown hgr hBox hrow hK1 hBox1 hB1 hr1 c9 f9 c10 f10
 obtain ⟨A1, n1, k1, rfl⟩ := hv2.out.shape
 go_wp2_with fail
 generalize hW2 : w1.setCell ⟨X, 9, none⟩ (.slice A1 n1 k1) = w2 at hB2 hBox2 hv2 hr2 hK2 hS2 ⊢
 clear d9 g9 hW2
 have c10 : w2.cell? ⟨X, 10, none⟩ = some r := hB2.out.cell 10
 have f10 : w2.frozen? ⟨X, 10, none⟩ = false := hB2.out.frozen 10
 have b0 : w2.cell? ⟨w.heap.size, 0, none⟩ = some (I rz.kind) := hBox2.out.cell 0
 have b1 : w2.cell? ⟨w.heap.size, 1, none⟩ = some (I rz.index) := hBox2.out.cell 1
 have b2 : w2.cell? ⟨w.heap.size, 2, none⟩ = some (I rz.day) := hBox2.out.cell 2
 have b3 : w2.cell? ⟨w.heap.size, 3, none⟩ = some (.bool rz.upper) := hBox2.out.cell 3
 have zX : X < w2.heap.size := hB2.out.lt
 have zB : w.heap.size < w2.heap.size := hBox2.out.lt
 obtain ⟨W, hW⟩ : ∃ W, W = w2.drew := ⟨_, rfl⟩
 refine wp_zgs (S := fun W => W.cell? ⟨X, 10, none⟩ = some r ∧ W.frozen? ⟨X, 10, none⟩ = false ∧ W.cell? ⟨w.heap.size, 0, none⟩ = some (I rz.kind) ∧ W.cell? ⟨w.heap.size, 1, none⟩ = some (I rz.index) ∧ W.cell? ⟨w.heap.size, 2, none⟩ = some (I rz.day) ∧ W.cell? ⟨w.heap.size, 3, none⟩ = some (.bool rz.upper)) 10 ⟨c10, f10, b0, b1, b2, b3⟩ fun hS0 => ?_
 have sW : W.heap.size = w2.heap.size := by rw [hW]; rfl
 replace hB2 := hide (show Blk W X 192 _ by rw [hW]; exact hB2.out.drew)
 replace hr2 := hide (show Own W base 227 4 Reason.cells r rs by rw [hW]; exact hr2.out.drew)
 replace hS2 := hide (show ∀ g t cs, Blk w g t cs → t ≠ 245 → g ≠ X → Blk W g t cs by rw [hW]; exact fun g t cs a b c => (hS2.out g t cs a b c).drew)
 replace hv2 := hide (show Own W base 245 3 Diff.cells (.slice A1 n1 k1) (ds ++ [d]) by rw [hW]; exact hv2.out.drew)
 replace hK2 := hide (show Keep base (fun b => b = X) w W by rw [hW]; exact hK2.out.trans ⟨rfl, rfl, rfl, Nat.le_refl _, fun _ _ _ => rfl⟩)
 rw [← hW] at hS0 ⊢
 clear hW c10 f10 b0 b1 b2 b3
 have zXW : X < W.heap.size := by omega
 have zBW : w.heap.size < W.heap.size := by omega
 rw [← sW] at zX zB
 obtain ⟨c10, f10, b0, b1, b2, b3⟩ := id hS0
 (refine zg_tk 0 ?_; refine zg_tk 1 ?_; refine zg_tk 2 ?_; refine zg_tk 3 ?_; refine zg_tk 4 ?_; refine zg_tk 5 ?_; (try go_frame))
 (refine zg_rd 6 fun K_ hK_ => ?_; go_simp; skip; refine hK_.out _ _ ?_ (fun hHeld => ?_); rotate_left; clear hK_ K_; (try go_frame); rotate_left)
 ·refine ⟨?_, ?_, ?_, ?_, ?_, ?_⟩
  all_goals first | (go_keep; done) | exact ((below1 W _).frozen (p := ⟨X, 10, none⟩) zXW).trans f10
 refine zg_ready (i := 7) (by decide) rfl (by kernel_rfl) (fun K_ hK_ => ?_)
 refine step_push_by el_Reason Reason.cells_len Reason.cells_one rfl (.tmp 29) (.tmp 31) rfl base rfl (hr2.out.alloc _) rz rfl ?c1 ?c2 ?c3 ?c4 ?_
 case c1 => exact new_cells sW _ rz.cells
 case c2 => have := hlen.out; omega
 case c3 => have := hlen.out; omega
 case c4 => have := hK2.out.size; simp; omega
 intro r' w3 hown hgr
 have hrow := fun g e => ownBlock_lt hr2.out g e
 have k3 := (Keep.of_below (X := fun b => b = X) (below1 W (.cells #[I rz.kind, I rz.index, I rz.day, .bool rz.upper] 227)) (show base ≤ W.heap.size by have := hK2.out.size; omega)).grown (show base ≤ W.heap.size by have := hK2.out.size; omega) hgr (fun g e => (hrow g e).1)
 have hB3 : Blk w3 X 192 _ := (hgr.block X (by simp; omega) (fun e => by have := (hrow _ e.symm).1; omega)).trans (hB2.out.alloc _)
 have hv3 := Own.other (hv2.out.alloc _) (hr2.out.alloc _) (by decide) hgr
 have hbx3 : ∀ o, w3.cell? ⟨w.heap.size, o, none⟩ = W.cell? ⟨w.heap.size, o, none⟩ := fun o => (cell_of_block (hgr.block w.heap.size (by simp; omega) (fun e => by have := hrr.out _ e.symm; omega))).trans ((below1 W _).cell (p := ⟨w.heap.size, o, none⟩) zBW)
 refine hK_.out _ _ ⟨hB3.cell 10, hB3.frozen 10, (hbx3 0).trans b0, (hbx3 1).trans b1, (hbx3 2).trans b2, (hbx3 3).trans b3⟩ (fun hHeld => ?_)
 clear hK_ K_
 simp only [Act.put, List.setIfInBounds_toArray]
 try simp only [List.set_cons_zero, List.set_cons_succ]
 (refine zg_tk 8 ?_; refine zg_tk 9 ?_; (try go_frame))
 have hS4 := hide (fun (g : Nat) (t : TypeId) (cs : Array Value) (hb : Blk w g t cs) (h1 : t ≠ 245) (h2 : t ≠ 227) (h3 : g ≠ X) =>
  (show Blk w3 g t cs from (hgr.block g (by have := (hS2.out g t cs hb h1 h3).lt; simp; omega) (own_ne hr2.out (hS2.out g t cs hb h1 h3) h2)).trans ((hS2.out g t cs hb h1 h3).alloc _)).far (p := ⟨X, 10, none⟩) h3 r')
 have hB4 := hide (hB3.set_ 10 r')
 have hv4 := hide (hv3.set_below (p := ⟨X, 10, none⟩) hX r')
 have hr4 := hide (hown.set_below (p := ⟨X, 10, none⟩) hX r')
 have hK4 := hide (hK2.out.trans (k3.set (g := X) (i := 10) rfl r'))
 clear hB2 hv2 hr2 hK2 hown hgr k3 hB3 hv3 hbx3 hrow
 obtain ⟨A2, n2, k2, rfl⟩ := hr4.out.shape
 (refine zg_ls 10 fun K_ hK_ => ?_; go_simp; skip; refine hK_.out _ _ ?_; clear hK_ K_; (try go_frame))
 go_end0
 refine ⟨⟨_, rfl⟩, ⟨_, _, rs ++ [rz], ?_, hv4.out, hr4.out, by have := hlen.out; simp [this]⟩, hK4.out, hS4.out⟩
 simpa using hB4.out

theorem BasAt.below {w w' : World} {B B' : Nat} {b : Basin} {vc vp : Value} (h : BasAt w B b vc vp) (hb : Below B' w w') (hB : B < B') : BasAt w' B b vc vp := by
 have e := fun o => hb.cell (p := ⟨B, o, none⟩) hB
 exact ⟨Nat.lt_of_lt_of_le h.lt hb.size, (e 0).trans h.c0, (e 1).trans h.c1, (e 2).trans h.c2, (e 3).trans h.c3, (e 4).trans h.c4⟩
theorem LaidAt.grow {w w' : World} {base X : Nat} {s : Scene} {V : SceneV} {nodes : Int} {ds : List Diff} (h : LaidAt w base X s V nodes ds) (hb : Below w.heap.size w w') : LaidAt w' base X s V nodes ds := by
 obtain ⟨v, r, rs, h1, h2, h3, h4⟩ := h
 exact ⟨v, r, rs, h1.below hb h1.lt, h2.below hb, h3.below hb, h4⟩

structure LayAt (w W : World) (s : Scene) (V : SceneV) (nodes : Int) (ds : List Diff) : Prop where
 below : Below w.heap.size w W
 size : w.heap.size + 4 ≤ W.heap.size
 scn : ScnAt W w.heap.size s V
 bas : BasAt W (w.heap.size + 1) s.basin V.cells V.pairs
 ptr : W.cell? ⟨w.heap.size + 3, 0, none⟩ = some (.pointer (some ⟨w.heap.size + 2, 0, none⟩))
 laid : LaidAt W (w.heap.size + 4) (w.heap.size + 2) s V nodes ds
theorem LayAt.grow {w W W' : World} {s : Scene} {V : SceneV} {nodes : Int} {ds : List Diff} (h : LayAt w W s V nodes ds) (hb : Below W.heap.size W W') : LayAt w W' s V nodes ds :=
 ⟨bup h.below hb, Nat.le_trans h.size hb.size, h.scn.grow hb, h.bas.grow hb, (hb.cell (p := ⟨w.heap.size + 3, 0, none⟩) (by have := h.size; show w.heap.size + 3 < _; omega)).trans h.ptr, h.laid.grow hb⟩
theorem LayAt.add {w W W' : World} {s : Scene} {V : SceneV} {nodes : Int} {ds ds' : List Diff} (h : LayAt w W s V nodes ds) (hl : LaidAt W' (w.heap.size + 4) (w.heap.size + 2) s V nodes ds') (hk : Keep (w.heap.size + 4) (fun b => b = w.heap.size + 2) W W') : LayAt w W' s V nodes ds' := by
 have h1 : Below (w.heap.size + 2) W W' := hk.below (by omega) (fun b hb => by omega)
 exact ⟨h.below.trans (h1.mono (by omega)), Nat.le_trans h.size hk.size, h.scn.below h1 (by omega), h.bas.below h1 (by omega), (hk.cell (by omega) (by omega)).trans h.ptr, hl⟩
theorem LayAt.scene {w W : World} {s : Scene} {V : SceneV} {nodes : Int} {ds : List Diff} (h : LayAt w W s V nodes ds) (hs : SceneAt w s V) : SceneAt W s V := hs.mono h.below
theorem LayAt.node {w W : World} {s : Scene} {V : SceneV} {nodes : Int} {ds : List Diff} (h : LayAt w W s V nodes ds) (hs : SceneAt w s V) (hn : s.basin.cells.length ≤ 12) (c d : Int) (hc : 0 ≤ c ∧ c ≤ 12) (hd : 0 ≤ d ∧ d ≤ 16) :
  Calls Tryz.prog 182 #[.pointer (some ⟨w.heap.size + 2, 0, none⟩), I c, I d] W fun e w' => e = .returned (I (nodeF s.basin.cells.length c d)) ∧ W = w' := by
 obtain ⟨v, r, rs, h1, _⟩ := h.laid
 obtain ⟨A, m, hv, _⟩ := hs.cells.open_
 exact laid_node (w.heap.size + 2) A s.basin.cells.length m c d W (by rw [← hv]; exact h1.cell 0) hc hd hn
theorem LayAt.push {w W : World} {s : Scene} {V : SceneV} {nodes : Int} {ds : List Diff} (h : LayAt w W s V nodes ds) (hl : ds.length ≤ 65536) (f t m : Int) (k i dd : Int) (u : Bool) :
  Calls Tryz.prog 181 #[.pointer (some ⟨w.heap.size + 2, 0, none⟩), I f, I t, I m, .agg #[I k, I i, I dd, .bool u]] W fun e w' => (∃ u, e = .returned u) ∧ LayAt w w' s V nodes (ds ++ [⟨f, t, m⟩]) ∧ (∀ g t cs, Blk W g t cs → t ≠ 245 → t ≠ 227 → g ≠ w.heap.size + 2 → Blk w' g t cs) := by
 refine (laid_add (w.heap.size + 2) (w.heap.size + 4) s V nodes ds ⟨f, t, m⟩ ⟨k, i, dd, u⟩ W h.laid (by omega) h.size hl).mono ?_
 rintro e w' ⟨h1, h2, h3, h4⟩
 exact ⟨h1, h.add h2 h3, h4⟩

theorem lay_place (w W : World) (s : Scene) (V : SceneV) (nodes : Int) (ds : List Diff) (cell day : Int) (h : LayAt w W s V nodes ds) (hs : SceneAt w s V) (hn : s.basin.cells.length ≤ 12) (hm : s.days.length ≤ 16)
  (hc : 0 ≤ placeC s.basin.cells cell) (hd : 0 ≤ placeD s.days day) :
  Calls Tryz.prog 185 #[I cell, I day, .pointer (some ⟨w.heap.size + 3, 0, none⟩), .pointer (some ⟨w.heap.size + 1, 0, none⟩), .pointer (some ⟨w.heap.size, 0, none⟩)] W fun e w' => e = .returned (I (placeN s cell day)) ∧ Below W.heap.size W w' := by
 have hc2 := idxBy_lt (p := fun c : Cell => c.no == cell) hc
 have hd2 := idxBy_lt (p := fun x : Int => x == day) hd
 have HN := hide (fun W (h : LayAt w W s V nodes ds) => h.node hs hn (placeC s.basin.cells cell) (placeD s.days day) ⟨hc, by have : placeC s.basin.cells cell < _ := hc2; omega⟩ ⟨hd, by have : placeD s.days day < _ := hd2; omega⟩)
 have hS1 := hide hs.cells
 have hS3 := hide hs.days
 unfold placeN
 obtain ⟨pc, hpc⟩ : ∃ p, placeC s.basin.cells cell = p := ⟨_, rfl⟩
 obtain ⟨pd, hpd⟩ : ∃ p, placeD s.days day = p := ⟨_, rfl⟩
 have HI := fun w h => basin_index V.cells V.pairs s.basin.cells s.basin.gain s.basin.slack s.basin.deep cell w h
 have HD : ∀ w, Sl w 1 intC V.days s.days → Calls Tryz.prog 122 #[V.days, I day] w fun e w' => e = .returned (I (placeD s.days day)) ∧ w = w' := fun w h => index_int V.days s.days day w h
 rw [hpc, hpd] at HN ⊢
 rw [hpc] at HI
 rw [hpd] at HD
 replace HI := hide HI
 replace HD := hide HD
 obtain ⟨_, a0, a1, a2, a3, a4, a5, a6, a7⟩ := h.scn
 obtain ⟨_, b0, b1, b2, b3, b4⟩ := h.bas
 have p0 := h.ptr
 have z4 := h.size
 have z0 : w.heap.size < W.heap.size := by omega
 have z1 : w.heap.size + 1 < W.heap.size := by omega
 have z3 : w.heap.size + 3 < W.heap.size := by omega
 replace h := hide h
 replace hs := hide hs
 obtain ⟨Z, hZ⟩ : ∃ Z, nodeF s.basin.cells.length pc pd = Z := ⟨_, rfl⟩
 rw [hZ] at HN ⊢
 clear hpc hpd hc2 hd2 hZ
 go_enter Tryz.func185, Tryz.ntmps185
 go_wp2_with fail
 refine wp_zgs (S := fun W => W.cell? ⟨w.heap.size + 3, 0, none⟩ = some (.pointer (some ⟨w.heap.size + 2, 0, none⟩)) ∧ W.cell? ⟨w.heap.size + 1, 0, none⟩ = some V.cells ∧ W.cell? ⟨w.heap.size + 1, 1, none⟩ = some V.pairs ∧ W.cell? ⟨w.heap.size + 1, 2, none⟩ = some (I s.basin.gain) ∧ W.cell? ⟨w.heap.size + 1, 3, none⟩ = some (I s.basin.slack) ∧ W.cell? ⟨w.heap.size + 1, 4, none⟩ = some (I s.basin.deep) ∧ W.cell? ⟨w.heap.size, 5, none⟩ = some V.days) 9 ⟨p0, b0, b1, b2, b3, b4, a5⟩ fun hS0 => ?_
 have hWd : Below W.heap.size W W.drew := (Below.refl _ _).drew
 (refine zg_tk 0 ?_; refine zg_tk 1 ?_; refine zg_tk 2 ?_; refine zg_tk 4 ?_; refine zg_tk 5 ?_; refine zg_tk 6 ?_; (try go_frame))
 (refine zg_rd 3 fun K_ hK_ => ?_; go_simp; (refine (HI.out W.drew (hS1.out.mono (bup h.out.below hWd))).mono ?_; rintro e w1 ⟨rfl, hb1⟩; have u0 := fun o => (bcell hb1).1 (w.heap.size + 3) o z3; have u1 := fun o => (bcell hb1).1 (w.heap.size + 1) o z1; have u2 := fun o => (bcell hb1).1 w.heap.size o z0); refine hK_.out _ _ ?_ (fun hHeld => ?_); rotate_left; clear hK_ K_; (try go_frame); rotate_left)
 ·go_keep
 (refine zg_rd 7 fun K_ hK_ => ?_; go_simp; (refine (HD.out w1 (hS3.out.mono (bup (bup h.out.below hWd) hb1))).mono ?_; rintro e w2 ⟨rfl, rfl⟩); refine hK_.out _ _ ?_ (fun hHeld => ?_); rotate_left; clear hK_ K_; (try go_frame); rotate_left)
 ·assumption
 (refine zg_rd 8 fun K_ hK_ => ?_; go_simp; (refine (HN.out w1 ((h.out.grow hWd).grow hb1)).mono ?_; rintro e w2 ⟨rfl, rfl⟩); refine hK_.out _ _ ?_ (fun hHeld => ?_); rotate_left; clear hK_ K_; (try go_frame); rotate_left)
 ·assumption
 (refine zg_ls 9 fun K_ hK_ => ?_; go_simp; skip; refine hK_.out _ _ ?_; clear hK_ K_; (try go_frame))
 go_wp2_with fail
 go_ret
 exact ⟨rfl, bup hWd hb1⟩
end Go.Proofs.YtgbbljfmngmjeaaGreat
