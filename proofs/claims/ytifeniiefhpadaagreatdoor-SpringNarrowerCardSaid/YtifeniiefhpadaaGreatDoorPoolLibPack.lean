/- Two pools that are being filled: what is kept while a row is appended to. No condition. -/
import Derived.Test.YtifeniiefhpadaaGreatDoorSpring15Pack
import Derived.Test.YtifeniiefhpadaaGreatDoorBasin11Pack
import Derived.Deep.AppendLies
import Derived.Test.YtifeniiefhpadaaGreatDoorBasin10
set_option linter.all false
namespace Go.Proofs.YtifeniiefhpadaaGreatDoor
open Go.RowKit

theorem via {C : Prop} (G : Prop) (g : G) (f : Hid G → C) : C := f (hide g)

def Apart (a b : Value) : Prop := ∀ g, a.ownBlock = some g → b.ownBlock ≠ some g
theorem Apart.symm {a b : Value} (h : Apart a b) : Apart b a := fun g hb ha => h g ha hb
theorem Apart.nil_l (b : Value) : Apart (.slice none 0 0) b := fun g h => by cases h
def Lies (n : Nat) (v v' : Value) : Prop := ∃ g, v'.ownBlock = some g ∧ (v.ownBlock = some g ∨ g = n)
theorem Apart.lies {n : Nat} {v v' u : Value} (h : Apart v u) (hl : Lies n v v') (hu : ∀ g, u.ownBlock = some g → g < n) : Apart v' u := by
 rintro g hg hu'
 obtain ⟨g', h1, h2⟩ := hl
 rw [hg] at h1; cases h1
 rcases h2 with h2 | h2
 ·exact h g h2 hu'
 ·have := hu g hu'; omega
theorem Lies.ne {n : Nat} {v v' : Value} (hl : Lies n v v') {b : Nat} (h : v.ownBlock ≠ some b) (hb : b < n) : v'.ownBlock ≠ some b := by
 intro hv
 obtain ⟨g', h1, h2⟩ := hl
 rw [hv] at h1; cases h1
 rcases h2 with h2 | h2
 ·exact h h2
 ·omega
theorem Own.kept {α : Type} {w w' : World} {base e k : Nat} {enc : α → List Value} {v u : Value} {xs : List α} (h : Own w base e k enc u xs) (ha : Apart v u) (hg : w.grownBy w' v.ownBlock) : Own w' base e k enc u xs := by
 refine World.ownsRow.kept h hg ?_
 rcases hu : u.ownBlock with _ | g
 ·exact .inl rfl
 ·exact .inr fun e => ha g e.symm hu
theorem Blk.grownAt {w w' : World} {g : Nat} {t : TypeId} {cs : Array Value} {v : Value} (h : Blk w g t cs) (hv : v.ownBlock ≠ some g) (hg : w.grownBy w' v.ownBlock) : Blk w' g t cs := (hg.block g h.lt fun e => hv e.symm).trans h

theorem step_push_lies {P : Program} {α : Type} {t e k bytes : Nat} {z : Value} (E : ElemOk P t e k bytes z) {enc : α → List Value} (hlen : ∀ x, (enc x).length = k) (hone : ∀ x, ∀ u ∈ enc x, u.oneCell' = true)
  {w : World} {ops : Array Oper} {o : Oper} {a : Act} {K : Act → World → Prop} {Q : Exit → Act → World → Prop} {F : Prop} (hgd : o.guard = none) (s x : Operand)
  (ho : o.op = .call { callee := .builtin .append, args := #[s, x], argTypes := #[t, t] })
  (base : Nat) {v : Value} {xs : List α} (hs : a.eval s = v) (hown : Own w base e k enc v xs) (y : α) {g c : Nat} (hx : a.eval x = .slice (some ⟨g, 0, none⟩) 1 c)
  (hy : ∀ j u, (enc y)[j]? = some u → w.cell? ⟨g, j, none⟩ = some u) (hlb : (xs.length + 1) * bytes ≤ 140737488355328) (hl : xs.length ≤ 140737488355328) (hbase : base ≤ w.heap.size)
  (h : ∀ v' w', Own w' base e k enc v' (xs ++ [y]) → w.grownBy w' v.ownBlock → Lies w.heap.size v v' → K (a.put o.dst v') w') : if Region.wanted o (yielded ops a.tmps) = true then Oper.wp P o a w K Q else F := by
 obtain ⟨i0, hi, hz0, hz1, hz2⟩ := info_parts E.hi
 refine step_append_lies w hgd s x t ho base e i0 z k bytes E.ht hi hz0 hz1 hz2 E.hzs E.hk v xs.length (xs.flatMap enc) hs hown ⟨g, 0, none⟩ 1 c (enc y) hx (by rw [hlen, Nat.one_mul]) ?_ (hone y) (by omega) (by unfold maxLen; omega) hlb hbase _ rfl ?_
 ·intro j u hu
  have := hy j u hu
  unfold Addr.add
  split
  ·rename_i h0; subst h0; exact this
  ·simpa using this
 ·intro g cap w' h1 h2 h3 _
  refine h _ w' ?_ h2 ⟨g, rfl, h3⟩
  unfold Own
  simpa using h1

structure PY (W0 W : World) (B gl gh : Nat) (L H : Array Value) (a : Value) (cs : List Cell) (b : Value) (ws : List Int) (a2 : Value) (cs2 : List Cell) (b2 : Value) (ws2 : List Int) : Prop where
 hB : B ≤ W0.heap.size
 hgl : gl < B
 hgh : gh < B
 hne : gl ≠ gh
 keep : Keep B (fun g => g = gl ∨ g = gh) W0 W
 bl : Blk W gl 114 L
 bh : Blk W gh 114 H
 o1 : Own W B 67 4 Cell.cells a cs
 o2 : Own W B 3 1 intC b ws
 o3 : Own W B 67 4 Cell.cells a2 cs2
 o4 : Own W B 3 1 intC b2 ws2
 d1 : Apart a a2
 d2 : Apart b b2
section
variable {W0 W W' : World} {B gl gh : Nat} {L H : Array Value} {a b a2 b2 : Value} {cs cs2 : List Cell} {ws ws2 : List Int}
theorem keep_swap {A C : World} {g h : Nat} (k : Keep B (fun x => x = g ∨ x = h) A C) : Keep B (fun x => x = h ∨ x = g) A C :=
 ⟨k.os, k.tape, k.output, k.size, fun b h1 h2 => k.block b h1 fun h3 => h2 h3.symm⟩
theorem PY.swap (p : PY W0 W B gl gh L H a cs b ws a2 cs2 b2 ws2) : PY W0 W B gh gl H L a2 cs2 b2 ws2 a cs b ws :=
 ⟨p.hB, p.hgh, p.hgl, p.hne.symm, keep_swap p.keep, p.bh, p.bl, p.o3, p.o4, p.o1, p.o2, p.d1.symm, p.d2.symm⟩
theorem PY.size (p : PY W0 W B gl gh L H a cs b ws a2 cs2 b2 ws2) : B ≤ W.heap.size := Nat.le_trans p.hB p.keep.size
theorem PY.below (p : PY W0 W B gl gh L H a cs b ws a2 cs2 b2 ws2) (hb : Below W.heap.size W W') : PY W0 W' B gl gh L H a cs b ws a2 cs2 b2 ws2 :=
 ⟨p.hB, p.hgl, p.hgh, p.hne, p.keep.trans (Keep.of_below hb p.size), p.bl.grow hb, p.bh.grow hb, p.o1.below hb, p.o2.below hb, p.o3.below hb, p.o4.below hb, p.d1, p.d2⟩
theorem PY.far1 (p : PY W0 W B gl gh L H a cs b ws a2 cs2 b2 ws2) {g : Nat} (hg : g < B) : a.ownBlock ≠ some g := fun e => by have := (ownBlock_lt p.o1 g e).1; omega
theorem PY.far2 (p : PY W0 W B gl gh L H a cs b ws a2 cs2 b2 ws2) {g : Nat} (hg : g < B) : b.ownBlock ≠ some g := fun e => by have := (ownBlock_lt p.o2 g e).1; omega
theorem PY.push1 {y : Cell} {a' : Value} (p : PY W0 W B gl gh L H a cs b ws a2 cs2 b2 ws2) (ho : Own W' B 67 4 Cell.cells a' (cs ++ [y])) (hg : W.grownBy W' a.ownBlock) (hl : Lies W.heap.size a a') :
  PY W0 W' B gl gh L H a' (cs ++ [y]) b ws a2 cs2 b2 ws2 :=
 ⟨p.hB, p.hgl, p.hgh, p.hne, p.keep.grown p.hB hg (fun r e => (ownBlock_lt p.o1 r e).1), p.bl.grownAt (p.far1 p.hgl) hg, p.bh.grownAt (p.far1 p.hgh) hg,
   ho, p.o2.other p.o1 (by decide) hg, p.o3.kept p.d1 hg, p.o4.other p.o1 (by decide) hg, p.d1.lies hl (fun g e => (ownBlock_lt p.o3 g e).2), p.d2⟩
theorem PY.push2 {y : Int} {b' : Value} (p : PY W0 W B gl gh L H a cs b ws a2 cs2 b2 ws2) (ho : Own W' B 3 1 intC b' (ws ++ [y])) (hg : W.grownBy W' b.ownBlock) (hl : Lies W.heap.size b b') :
  PY W0 W' B gl gh L H a cs b' (ws ++ [y]) a2 cs2 b2 ws2 :=
 ⟨p.hB, p.hgl, p.hgh, p.hne, p.keep.grown p.hB hg (fun r e => (ownBlock_lt p.o2 r e).1), p.bl.grownAt (p.far2 p.hgl) hg, p.bh.grownAt (p.far2 p.hgh) hg,
   p.o1.other p.o2 (by decide) hg, ho, p.o3.other p.o2 (by decide) hg, p.o4.kept p.d2 hg, p.d1, p.d2.lies hl (fun g e => (ownBlock_lt p.o4 g e).2)⟩
theorem PY.setl (p : PY W0 W B gl gh L H a cs b ws a2 cs2 b2 ws2) (i : Nat) (u : Value) : PY W0 (W.setCell ⟨gl, i, none⟩ u) B gl gh (L.setIfInBounds i u) H a cs b ws a2 cs2 b2 ws2 :=
 ⟨p.hB, p.hgl, p.hgh, p.hne, p.keep.set (g := gl) (i := i) (.inl rfl) u, p.bl.set_ i u, p.bh.far (p := ⟨gl, i, none⟩) p.hne.symm u, p.o1.set_below (p := ⟨gl, i, none⟩) p.hgl u, p.o2.set_below (p := ⟨gl, i, none⟩) p.hgl u,
   p.o3.set_below (p := ⟨gl, i, none⟩) p.hgl u, p.o4.set_below (p := ⟨gl, i, none⟩) p.hgl u, p.d1, p.d2⟩
end

structure PX (W0 W : World) (B gl gh Bx : Nat) (L H X : Array Value) (a : Value) (cs : List Cell) (b : Value) (ws : List Int) (a2 : Value) (cs2 : List Cell) (b2 : Value) (ws2 : List Int) : Prop where
 py : PY W0 W B gl gh L H a cs b ws a2 cs2 b2 ws2
 hx : B ≤ Bx
 bx : Blk W Bx 67 X
 x1 : a.ownBlock ≠ some Bx
 x2 : b.ownBlock ≠ some Bx
 x3 : a2.ownBlock ≠ some Bx
 x4 : b2.ownBlock ≠ some Bx
section
variable {W0 W W' : World} {B gl gh Bx : Nat} {L H X : Array Value} {a b a2 b2 : Value} {cs cs2 : List Cell} {ws ws2 : List Int}
theorem PX.new (p : PY W0 W B gl gh L H a cs b ws a2 cs2 b2 ws2) (X : Array Value) : PX W0 (W.alloc (.cells X 67)) B gl gh W.heap.size L H X a cs b ws a2 cs2 b2 ws2 :=
 ⟨p.below (below1 _ _), p.size, Blk.new _ _ _, fun e => by have := (ownBlock_lt p.o1 _ e).2; omega, fun e => by have := (ownBlock_lt p.o2 _ e).2; omega, fun e => by have := (ownBlock_lt p.o3 _ e).2; omega, fun e => by have := (ownBlock_lt p.o4 _ e).2; omega⟩
theorem PX.swap (p : PX W0 W B gl gh Bx L H X a cs b ws a2 cs2 b2 ws2) : PX W0 W B gh gl Bx H L X a2 cs2 b2 ws2 a cs b ws := ⟨p.py.swap, p.hx, p.bx, p.x3, p.x4, p.x1, p.x2⟩
theorem PX.below (p : PX W0 W B gl gh Bx L H X a cs b ws a2 cs2 b2 ws2) (hb : Below W.heap.size W W') : PX W0 W' B gl gh Bx L H X a cs b ws a2 cs2 b2 ws2 := ⟨p.py.below hb, p.hx, p.bx.grow hb, p.x1, p.x2, p.x3, p.x4⟩
theorem PX.push1 {y : Cell} {a' : Value} (p : PX W0 W B gl gh Bx L H X a cs b ws a2 cs2 b2 ws2) (ho : Own W' B 67 4 Cell.cells a' (cs ++ [y])) (hg : W.grownBy W' a.ownBlock) (hl : Lies W.heap.size a a') :
  PX W0 W' B gl gh Bx L H X a' (cs ++ [y]) b ws a2 cs2 b2 ws2 := ⟨p.py.push1 ho hg hl, p.hx, p.bx.grownAt p.x1 hg, hl.ne p.x1 p.bx.lt, p.x2, p.x3, p.x4⟩
theorem PX.push2 {y : Int} {b' : Value} (p : PX W0 W B gl gh Bx L H X a cs b ws a2 cs2 b2 ws2) (ho : Own W' B 3 1 intC b' (ws ++ [y])) (hg : W.grownBy W' b.ownBlock) (hl : Lies W.heap.size b b') :
  PX W0 W' B gl gh Bx L H X a cs b' (ws ++ [y]) a2 cs2 b2 ws2 := ⟨p.py.push2 ho hg hl, p.hx, p.bx.grownAt p.x2 hg, p.x1, hl.ne p.x2 p.bx.lt, p.x3, p.x4⟩
theorem PX.setl (p : PX W0 W B gl gh Bx L H X a cs b ws a2 cs2 b2 ws2) (i : Nat) (u : Value) : PX W0 (W.setCell ⟨gl, i, none⟩ u) B gl gh Bx (L.setIfInBounds i u) H X a cs b ws a2 cs2 b2 ws2 :=
 ⟨p.py.setl i u, p.hx, p.bx.far (p := ⟨gl, i, none⟩) (by have := p.hx; have := p.py.hgl; show Bx ≠ gl; omega) u, p.x1, p.x2, p.x3, p.x4⟩
end

theorem RowsAt.at_ {w : World} {base : Nat} {v : Value} {xss : List (List Int)} (h : RowsAt w base v xss) {d : Nat} {row : List Int} (hd : xss[d]? = some row) (hr : 0 < row.length) :
  ∃ g m g2 c2, v = .slice (some ⟨g, 0, none⟩) xss.length m ∧ base ≤ g ∧ g < w.heap.size ∧ w.cell? ⟨g, d, none⟩ = some (.slice (some ⟨g2, 0, none⟩) row.length c2) ∧ base ≤ g2 ∧ g2 < w.heap.size ∧ ∀ (i : Nat) (x : Int), row[i]? = some x → w.cell? ⟨g2, i, none⟩ = some (I x) := by
 obtain ⟨vs, h1, h2, h3⟩ := h
 obtain ⟨u, hu, ho⟩ := h3 d row hd
 have hdl : d < vs.length := (List.getElem?_eq_some_iff.1 hu).1
 obtain ⟨g, m, rfl, hg1, hg2⟩ := World.ownsRow.form h2 (by omega)
 obtain ⟨g2, c2, huv, k1, k2⟩ := World.ownsRow.form ho hr
 refine ⟨g, m, g2, c2, by rw [h1], hg1, hg2, ?_, k1, k2, fun i x hx => ?_⟩
 ·have hf := flat_at oneC_len vs d u hu 0 u.v rfl
  have hc := World.ownsRow.cellAt h2 d (by omega)
  rw [hc, ← huv]
  simpa using hf
 ·have hil := (List.getElem?_eq_some_iff.1 hx).1
  rw [huv] at ho
  have hf := flat_at (enc := intC) (k := 1) (fun _ => rfl) row i x hx 0 (I x) rfl
  have hc := World.ownsRow.cellAt ho i (by omega)
  rw [hc]
  simpa using hf

def setAll : World → Nat → Nat → List Value → World
 | w, _, _, [] => w
 | w, g, i, u :: us => setAll (w.setCell ⟨g, i, none⟩ u) g (i + 1) us
theorem setAll_below {m : Nat} {A : World} {g : Nat} (hg : m ≤ g) : ∀ (us : List Value) (i : Nat) (B : World), Below m A B → Below m A (setAll B g i us)
 | [], _, _, h => h
 | u :: us, i, B, h => setAll_below hg us (i + 1) _ (bset h g i hg u)
theorem setAll_far {h g : Nat} {t : TypeId} {cs : Array Value} (hn : h ≠ g) : ∀ (us : List Value) (i : Nat) (W : World), Blk W h t cs → Blk (setAll W g i us) h t cs
 | [], _, _, hb => hb
 | u :: us, i, W, hb => setAll_far hn us (i + 1) _ (hb.far (p := ⟨g, i, none⟩) hn u)
theorem setAll_own {α : Type} {base e k : Nat} {enc : α → List Value} {v : Value} {xs : List α} {g : Nat} (hg : g < base) : ∀ (us : List Value) (i : Nat) (W : World), Own W base e k enc v xs → Own (setAll W g i us) base e k enc v xs
 | [], _, _, h => h
 | u :: us, i, W, h => setAll_own hg us (i + 1) _ (h.set_below (p := ⟨g, i, none⟩) hg u)
def putAll : Array Value → Nat → List Value → Array Value
 | cs, _, [] => cs
 | cs, i, u :: us => putAll (cs.setIfInBounds i u) (i + 1) us
theorem setAll_blk {g : Nat} {t : TypeId} : ∀ (us : List Value) (i : Nat) (W : World) (cs : Array Value), Blk W g t cs → Blk (setAll W g i us) g t (putAll cs i us)
 | [], _, _, _, hb => hb
 | u :: us, i, W, cs, hb => setAll_blk us (i + 1) _ _ (hb.set_ i u)

section
variable {P : Program} {ops : Array Oper} {Q : Exit → Act → World → Prop} {md : Region.Mode} {S : World → Prop} {n : Nat}
theorem zg_of_za {fuel : Nat} {listed : Array Bool} {a : Act} {w : World} (h : wpAnyZ P md ops Q S n fuel listed a w) : ZG P md ops Q S n fuel listed a w := fun _ _ _ _ => h
theorem za_ready {i : Nat} {o : Oper} {fuel : Nat} {listed : Array Bool} {a : Act} {w : World} (hin : ¬ i < n) (hi : ops[i]? = some o) (hr : Region.ready md ops listed = [i])
  (h : ∀ K' : Act → World → Prop, Shut (∀ a w, wpAnyZ P md ops Q S n fuel (listed.setIfInBounds i true) a w → K' a w) → if Region.wanted o (yielded ops a.tmps) = true then Oper.wp P o a w K' Q else K' (a.put o.dst undef) w) :
  wpAnyZ P md ops Q S n (fuel + 1) listed a w :=
 ⟨fun h0 => (by rw [h0] at hr; cases hr), fun j hj => by
  rw [hr, List.mem_singleton] at hj
  subst hj
  exact wpOp_step hi fun K' hK => h K' fun a w hZ => hK a w ⟨fun h => absurd h hin, hZ⟩⟩
theorem za_end {listed : Array Bool} {a : Act} {w : World} (hr : Region.ready md ops listed = []) (h : Q .normal a w) : wpAnyZ P md ops Q S n 0 listed a w := ⟨hr, h⟩
end

def lastRow (xss : List (List Int)) : List Int := xss.getD (xss.length - 1) []
theorem rowsF_last {n m : Nat} {l : List Int} (hm : 0 < m) (hl : l.length = 1 + m * n) : (rowsF n m l)[m - 1]? = some (lastRow (rowsF n m l)) ∧ (lastRow (rowsF n m l)).length = n ∧ (rowsF n m l).length = m := by
 have h1 : (rowsF n m l).length = m := by simp [rowsF]
 have h2 : (rowsF n m l)[m - 1]? = some ((l.drop (1 + (m - 1) * n)).take n) := by
  simp [rowsF, List.getElem?_range (show m - 1 < m by omega)]
 have h3 : lastRow (rowsF n m l) = (l.drop (1 + (m - 1) * n)).take n := by
  unfold lastRow
  rw [h1, List.getD_eq_getElem?_getD, h2]; rfl
 refine ⟨by rw [h2, h3], ?_, h1⟩
 rw [h3, List.length_take, List.length_drop, hl]
 have h4 : m * n = (m - 1) * n + n := by
  conv => lhs; rw [show m = (m - 1) + 1 by omega]
  rw [Nat.add_mul, Nat.one_mul]
 omega

def pickC (cs : List Cell) (l : List Int) : List Cell := cs.filter fun x => l.any fun y => y == x.no
def pickP (ps : List (Cell × Int)) (l : List Int) : List Int := (ps.filter fun p => l.any fun y => y == p.1.no).map (·.2)
def pickW (cs : List Cell) (row : List Int) (l : List Int) : List Int := pickP (cs.zip row) l
theorem pickC_in {cs : List Cell} {l : List Int} {k : Nat} {x : Cell} (h : cs[k]? = some x) (hq : (l.any fun y => y == x.no) = true) : pickC (cs.take (k + 1)) l = pickC (cs.take k) l ++ [x] := by
 rw [List.take_add_one, h]
 simp [pickC, hq]
theorem pickC_out {cs : List Cell} {l : List Int} {k : Nat} {x : Cell} (h : cs[k]? = some x) (hq : (l.any fun y => y == x.no) = false) : pickC (cs.take (k + 1)) l = pickC (cs.take k) l := by
 rw [List.take_add_one, h]
 simp [pickC, hq]
theorem pickP_in {ps : List (Cell × Int)} {l : List Int} {k : Nat} {x : Cell} {u : Int} (h : ps[k]? = some (x, u)) (hq : (l.any fun y => y == x.no) = true) : pickP (ps.take (k + 1)) l = pickP (ps.take k) l ++ [u] := by
 rw [List.take_add_one, h]
 simp [pickP, hq]
theorem pickP_out {ps : List (Cell × Int)} {l : List Int} {k : Nat} {x : Cell} {u : Int} (h : ps[k]? = some (x, u)) (hq : (l.any fun y => y == x.no) = false) : pickP (ps.take (k + 1)) l = pickP (ps.take k) l := by
 rw [List.take_add_one, h]
 simp [pickP, hq]
theorem pickC_len (cs : List Cell) (l : List Int) : (pickC cs l).length ≤ cs.length := List.length_filter_le _ _
theorem pickP_len (ps : List (Cell × Int)) (l : List Int) : (pickP ps l).length ≤ ps.length := by
 rw [pickP, List.length_map]; exact List.length_filter_le _ _
theorem zip_at {cs : List Cell} {row : List Int} {k : Nat} {x : Cell} {u : Int} (h1 : cs[k]? = some x) (h2 : row[k]? = some u) : (cs.zip row)[k]? = some (x, u) := by
 rw [List.getElem?_zip_eq_some]; exact ⟨h1, h2⟩
end Go.Proofs.YtifeniiefhpadaaGreatDoor
