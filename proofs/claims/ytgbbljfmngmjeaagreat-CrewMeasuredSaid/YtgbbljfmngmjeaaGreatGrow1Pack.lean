/- The package diffs: shortest walks from some nodes. Conditions stand in the theorems. -/
import Derived.Test.YtgbbljfmngmjeaaGreatRepeatPack
import Derived.Test.YtgbbljfmngmjeaaGreatFree
import Derived.Test.YtgbbljfmngmjeaaGreatBasePack
import Derived.BigRegion
import Derived.Deep.RegionHeld3
import Derived.Test.YtgbbljfmngmjeaaGreatBasinDefsPack
set_option linter.all false
set_option maxHeartbeats 4000000
set_option maxRecDepth 100000
namespace Go.Proofs.YtgbbljfmngmjeaaGreat
open Go.RowKit

structure GS (wr : World) (base T gl gh gt n : Nat) (s : Wk) : Prop where
 tree : Blk wr T 249 #[.slice (some ⟨gl, 0, none⟩) n n, .slice (some ⟨gh, 0, none⟩) n n, .slice (some ⟨gt, 0, none⟩) n n]
 long : Blk wr gl 3 (s.long.map I).toArray
 has : Blk wr gh 4 (s.has.map Value.bool).toArray
 last : Blk wr gt 3 (s.last.map I).toArray
 ll : s.long.length = n
 lh : s.has.length = n
 lt : s.last.length = n
 b0 : base ≤ T
 b1 : base ≤ gl
 b2 : base ≤ gh
 b3 : base ≤ gt
 ne : gl ≠ gt

theorem blk_ne {wr : World} {g g' t t' : Nat} {cs cs' : Array Value} (h : Blk wr g t cs) (h' : Blk wr g' t' cs') (hne : t ≠ t') : g ≠ g' := by
 rintro rfl
 unfold Blk at h h'
 rw [h] at h'
 injection h' with h'
 injection h' with _ ht
 exact hne ht
section
variable {wr W : World} {base T gl gh gt n : Nat} {s : Wk}
theorem GS.below (h : GS wr base T gl gh gt n s) (hb : Below wr.heap.size wr W) : GS W base T gl gh gt n s :=
 ⟨h.tree.below hb h.tree.lt, h.long.below hb h.long.lt, h.has.below hb h.has.lt, h.last.below hb h.last.lt, h.ll, h.lh, h.lt, h.b0, h.b1, h.b2, h.b3, h.ne⟩
theorem GS.nes (h : GS wr base T gl gh gt n s) : T ≠ gl ∧ T ≠ gh ∧ T ≠ gt ∧ gl ≠ gh ∧ gl ≠ gt ∧ gh ≠ gt :=
 ⟨blk_ne h.tree h.long (by decide), blk_ne h.tree h.has (by decide), blk_ne h.tree h.last (by decide), blk_ne h.long h.has (by decide), h.ne, blk_ne h.has h.last (by decide)⟩
theorem GS.drew (h : GS wr base T gl gh gt n s) : GS wr.drew base T gl gh gt n s := ⟨h.tree, h.long, h.has, h.last, h.ll, h.lh, h.lt, h.b0, h.b1, h.b2, h.b3, h.ne⟩
theorem GS.put (h : GS wr base T gl gh gt n s) (t : Nat) (x : Int) (k : Int) (ch : Int) :
  GS (((wr.setCell ⟨gl, t, none⟩ (I x)).setCell ⟨gh, t, none⟩ (.bool true)).setCell ⟨gt, t, none⟩ (I k)) base T gl gh gt n ⟨s.long.set t x, s.has.set t true, s.last.set t k, ch⟩ := by
 obtain ⟨n1, n2, n3, n4, n5, n6⟩ := h.nes
 refine ⟨((h.tree.far (p := ⟨gl, t, none⟩) n1 _).far (p := ⟨gh, t, none⟩) n2 _).far (p := ⟨gt, t, none⟩) n3 _, ?_, ?_, ?_, by simpa using h.ll, by simpa using h.lh, by simpa using h.lt, h.b0, h.b1, h.b2, h.b3, h.ne⟩
 ·have := ((h.long.set_ t (I x)).far (p := ⟨gh, t, none⟩) n4 (.bool true)).far (p := ⟨gt, t, none⟩) n5 (I k)
  rw [List.map_set]; simpa using this
 ·have := ((h.has.far (p := ⟨gl, t, none⟩) n4.symm (I x)).set_ t (.bool true)).far (p := ⟨gt, t, none⟩) n6 (I k)
  rw [List.map_set]; simpa using this
 ·have := ((h.last.far (p := ⟨gl, t, none⟩) n5.symm (I x)).far (p := ⟨gh, t, none⟩) n6.symm (.bool true)).set_ t (I k)
  rw [List.map_set]; simpa using this
theorem GS.mark (h : GS wr base T gl gh gt n s) (t : Nat) : GS (wr.setCell ⟨gh, t, none⟩ (.bool true)) base T gl gh gt n ⟨s.long, s.has.set t true, s.last, s.ch⟩ := by
 obtain ⟨n1, n2, n3, n4, n5, n6⟩ := h.nes
 refine ⟨h.tree.far (p := ⟨gh, t, none⟩) n2 _, h.long.far (p := ⟨gh, t, none⟩) n4 _, ?_, h.last.far (p := ⟨gh, t, none⟩) n6.symm _, h.ll, by simpa using h.lh, h.lt, h.b0, h.b1, h.b2, h.b3, h.ne⟩
 have := h.has.set_ t (.bool true)
 rw [List.map_set]; simpa using this
theorem GS.long_at (h : GS wr base T gl gh gt n s) {i : Nat} (hi : i < n) : wr.cell? ⟨gl, i, none⟩ = some (I (s.long.getD i 0)) ∧ wr.frozen? ⟨gl, i, none⟩ = false := by
 have := h.long.cell i
 have hl := h.ll
 refine ⟨?_, h.long.frozen i⟩
 rw [this]; simp [show i < s.long.length by omega]
theorem GS.has_at (h : GS wr base T gl gh gt n s) {i : Nat} (hi : i < n) : wr.cell? ⟨gh, i, none⟩ = some (.bool (s.has.getD i false)) ∧ wr.frozen? ⟨gh, i, none⟩ = false := by
 have := h.has.cell i
 have hl := h.lh
 refine ⟨?_, h.has.frozen i⟩
 rw [this]; simp [show i < s.has.length by omega]
theorem GS.last_at (h : GS wr base T gl gh gt n s) {i : Nat} (hi : i < n) : wr.cell? ⟨gt, i, none⟩ = some (I (s.last.getD i (-1))) ∧ wr.frozen? ⟨gt, i, none⟩ = false := by
 have := h.last.cell i
 have hl := h.lt
 refine ⟨?_, h.last.frozen i⟩
 rw [this]; simp [show i < s.last.length by omega]
theorem GS.tree_at (h : GS wr base T gl gh gt n s) : T < wr.heap.size ∧ wr.cell? ⟨T, 0, none⟩ = some (.slice (some ⟨gl, 0, none⟩) n n) ∧ wr.cell? ⟨T, 1, none⟩ = some (.slice (some ⟨gh, 0, none⟩) n n) ∧ wr.cell? ⟨T, 2, none⟩ = some (.slice (some ⟨gt, 0, none⟩) n n) :=
 ⟨h.tree.lt, h.tree.cell 0, h.tree.cell 1, h.tree.cell 2⟩
end

theorem wkIter_within {n : Nat} {ds : List Diff} {frm : List Int} (hd : ∀ d ∈ ds, -1073741824 ≤ d.most ∧ d.most ≤ 1073741824) (hl : ds.length ≤ 4096) : ∀ k : Nat, Within (4398046511104 * (k : Int)) (wkIter ds (wkInit n frm) k).long
 | 0 => fun i => by
  show _ ≤ (List.replicate n (0 : Int)).getD i 0 ∧ (List.replicate n (0 : Int)).getD i 0 ≤ _
  have : (List.replicate n (0 : Int)).getD i 0 = 0 := by rw [List.getD_eq_getElem?_getD, List.getElem?_replicate]; split <;> rfl
  omega
 | k + 1 => by
  have h := wkTo_within hd (wkIter_within (n := n) (frm := frm) hd hl k) ds.length (Nat.le_refl _)
  exact Within.mono h (by omega)
theorem wkIter_last {n : Nat} {ds : List Diff} {frm : List Int} : ∀ k : Nat, LastOk ds.length (wkIter ds (wkInit n frm) k).last
 | 0 => fun x hx => by
  have : x = -1 := List.eq_of_mem_replicate hx
  omega
 | k + 1 => wkTo_last (wkIter_last k) ds.length (Nat.le_refl _)
theorem GS.far {wr : World} {base T gl gh gt n : Nat} {s : Wk} (h : GS wr base T gl gh gt n s) {p : Addr} (hp : p.block < base) (v : Value) : GS (wr.setCell p v) base T gl gh gt n s :=
 ⟨h.tree.far (by have := h.b0; omega) v, h.long.far (by have := h.b1; omega) v, h.has.far (by have := h.b2; omega) v, h.last.far (by have := h.b3; omega) v, h.ll, h.lh, h.lt, h.b0, h.b1, h.b2, h.b3, h.ne⟩
theorem frame_ex {Φ : (Nat → Value) → Act} (a : Act) (h : a = Φ (fun i => a.tmps.getD i undef)) : ∃ u, a = Φ u := ⟨_, h⟩
theorem Blk.sl_int {w : World} {g n : Nat} {xs : List Int} (h : Blk w g 3 (xs.map I).toArray) (hn : xs.length = n) (hb : n ≤ 65536) : Sl w 1 intC (.slice (some ⟨g, 0, none⟩) n n) xs :=
 (own_row (base := 0) intC_len h (Nat.zero_le _) (by unfold maxLen; omega) (Nat.le_refl _) (by simp [hn]) (by rw [flat_int, List.take_of_length_le (by simp [hn])])).sl intC_len (by omega)
structure GT (wr : World) (base gl gh gt n : Nat) (s : Wk) : Prop where
 long : Blk wr gl 3 (s.long.map I).toArray
 has : Blk wr gh 4 (s.has.map Value.bool).toArray
 last : Blk wr gt 3 (s.last.map I).toArray
 ll : s.long.length = n
 lh : s.has.length = n
 lt : s.last.length = n
 b1 : base ≤ gl
 b2 : base ≤ gh
 b3 : base ≤ gt
theorem GS.gt {wr : World} {base base' T gl gh gt n : Nat} {s : Wk} (h : GS wr base T gl gh gt n s) (hb : base' ≤ base) : GT wr base' gl gh gt n s :=
 ⟨h.long, h.has, h.last, h.ll, h.lh, h.lt, Nat.le_trans hb h.b1, Nat.le_trans hb h.b2, Nat.le_trans hb h.b3⟩
def treeV (gl gh gt n : Nat) : Value := .agg #[.slice (some ⟨gl, 0, none⟩) n n, .slice (some ⟨gh, 0, none⟩) n n, .slice (some ⟨gt, 0, none⟩) n n]

def growPhi (B n : Nat) (g0 : Value) (i : Nat) (v : Value) (W : World) : Prop :=
 match i with
 | 0 | 3 | 7 => v = g0
 | 1 | 4 | 8 => v = I n
 | 2 => ∃ g, v = .slice (some ⟨g, 0, none⟩) n n ∧ B ≤ g ∧ Blk W g 3 (rowN n (I 0))
 | 5 => ∃ g, v = .slice (some ⟨g, 0, none⟩) n n ∧ B ≤ g ∧ Blk W g 4 (rowN n (.bool false))
 | 6 => ∃ g, v = .slice (some ⟨g, 0, none⟩) 1 1 ∧ Blk W g 3 #[I (-1)]
 | 9 => ∃ g, v = .slice (some ⟨g, 0, none⟩) n n ∧ B ≤ g ∧ Blk W g 3 ((List.replicate n (-1 : Int)).map I).toArray
 | 10 => ∃ gl gh gt, v = treeV gl gh gt n ∧ B ≤ gl ∧ B ≤ gh ∧ B ≤ gt ∧ Blk W gl 3 (rowN n (I 0)) ∧ Blk W gh 4 (rowN n (.bool false)) ∧ Blk W gt 3 ((List.replicate n (-1 : Int)).map I).toArray
 | 11 => ∃ T, v = .pointer (some ⟨T, 0, none⟩) ∧ B ≤ T ∧ Blk W T 249 #[.slice none 0 0, .slice none 0 0, .slice none 0 0]
 | _ => True
theorem growPhi_stay {B n : Nat} {g0 : Value} : ∀ i v W W', growPhi B n g0 i v W → Below W.heap.size W W' → growPhi B n g0 i v W' := by
 intro i v W W' h hb
 unfold growPhi at h ⊢
 split at h
 ·exact h
 ·exact h
 ·exact h
 ·exact h
 ·exact h
 ·exact h
 ·obtain ⟨g, h1, h2, h3⟩ := h; exact ⟨g, h1, h2, h3.below hb h3.lt⟩
 ·obtain ⟨g, h1, h2, h3⟩ := h; exact ⟨g, h1, h2, h3.below hb h3.lt⟩
 ·obtain ⟨g, h1, h3⟩ := h; exact ⟨g, h1, h3.below hb h3.lt⟩
 ·obtain ⟨g, h1, h2, h3⟩ := h; exact ⟨g, h1, h2, h3.below hb h3.lt⟩
 ·obtain ⟨gl, gh, gt, h1, b1, b2, b3, h2, h3, h4⟩ := h; exact ⟨gl, gh, gt, h1, b1, b2, b3, h2.below hb h2.lt, h3.below hb h3.lt, h4.below hb h4.lt⟩
 ·obtain ⟨g, h1, h2, h3⟩ := h; exact ⟨g, h1, h2, h3.below hb h3.lt⟩
 ·trivial
theorem fin12 {p : Nat → Prop} (h0 : p 0) (h1 : p 1) (h2 : p 2) (h3 : p 3) (h4 : p 4) (h5 : p 5) (h6 : p 6) (h7 : p 7) (h8 : p 8) (h9 : p 9) (h10 : p 10) (h11 : p 11) : ∀ i, i < 12 → p i
 | 0, _ => h0 | 1, _ => h1 | 2, _ => h2 | 3, _ => h3 | 4, _ => h4 | 5, _ => h5 | 6, _ => h6 | 7, _ => h7 | 8, _ => h8 | 9, _ => h9 | 10, _ => h10 | 11, _ => h11
 | _ + 12, h => absurd h (by omega)

theorem diffs_grow (vd vf : Value) (n : Nat) (ds : List Diff) (frm : List Int) (w : World) (hn : n ≤ 256) (h1 : 1 ≤ n) (hdl : ds.length ≤ 4096)
  (hds : ∀ d ∈ ds, 0 ≤ d.frm ∧ d.frm < n ∧ 0 ≤ d.to ∧ d.to < n) (hdm : ∀ d ∈ ds, -1073741824 ≤ d.most ∧ d.most ≤ 1073741824) (hfr : ∀ x ∈ frm, 0 ≤ x ∧ x < n) (hne : ∀ d ∈ ds, d.frm ≠ d.to) (hd : Sl w 3 Diff.cells vd ds) (hf : Sl w 1 intC vf frm) :
  Calls Tryz.prog 216 #[.iface 258 (.agg #[I n, vd]), vf] w fun e w' => ∃ gl gh gt, e = .returned (.tuple #[treeV gl gh gt n, I (growF n ds frm).2]) ∧ GT w' w.heap.size gl gh gt n (growF n ds frm).1 ∧ Below w.heap.size w w' := by
 obtain ⟨A, c, rfl, _, _, hlen, hA⟩ := hd.open_
 obtain ⟨Af, cf, rfl, _, _, hlenf, hAf⟩ := hf.open_
 replace hAf := hide hAf
 have hm := fun W => method_lines n (.slice A ds.length c) W _ Tryz.underlying262 _ rfl
 simp only [List.getElem_toArray, List.getElem_cons_zero] at hm
 replace hd := hide hd
 replace hA := hide hA
 replace hf := hide hf
 replace hds := hide hds
 replace hdm := hide hdm
 replace hfr := hide hfr
 replace hne := hide hne
 go_enter Tryz.func216, Tryz.ntmps216
 go_wp2_with fail
 refine wp_scope_key2 0 (fun m a' w' => ∃ (T gl gh gt k : Nat), (∃ u : Nat → Value, a' = { tmps := #[.iface 258 (.agg #[I n, .slice A ds.length c]), .slice Af frm.length cf, u 2, u 3, .pointer (some ⟨w.heap.size, 0, none⟩), u 5, .slice A ds.length c, .pointer (some ⟨T, 0, none⟩), u 8, u 9, u 10, u 11, u 12, u 13, u 14, u 15, u 16, u 17, u 18, u 19, u 20, u 21, u 22, u 23, u 24, u 25, u 26, u 27, u 28, u 29, u 30, u 31, u 32, u 33, u 34, u 35, u 36, u 37, u 38, u 39, u 40, u 41, u 42, u 43, u 44, u 45, u 46, u 47, u 48, u 49, u 50, u 51, u 52, u 53, u 54, u 55, u 56, u 57, u 58, u 59, u 60, u 61, u 62, u 63, u 64, u 65, u 66, u 67, u 68, u 69, u 70, u 71, u 72, u 73, u 74, u 75, u 76, u 77, u 78, u 79, u 80, u 81, u 82, u 83, u 84, u 85, u 86, u 87, u 88, u 89, u 90, u 91, u 92, u 93, u 94, u 95, u 96, u 97, u 98, u 99, u 100, u 101, u 102, u 103, u 104, u 105, u 106, u 107, u 108, u 109, u 110, u 111, u 112, u 113, u 114, u 115, u 116], defers := [] }) ∧ Hid (GS w' (w.heap.size + 1) T gl gh gt n (wkIter ds (wkInit n frm) k)) ∧ m + k = n ∧ 1 ≤ m ∧ Hid (wkRun ds m (wkIter ds (wkInit n frm) k) = growF n ds frm) ∧ Below w.heap.size w w' ∧ Hid (Blk w' w.heap.size 249 #[.slice none 0 0, .slice none 0 0, .slice none 0 0])) rfl ?pass ?first
 case first =>
  intro hkey
  replace hkey := hide hkey
  go_wp2_with (go_at_call 240; refine (diffs_lines _ _ _).mono ?_; rintro e w1 ⟨rfl, hb1⟩)
  clear hm
  have hmn := fun W => method_nodes n (.slice A ds.length c) W _ Tryz.underlying262 _ rfl
  simp only [List.getElem_toArray, List.getElem_cons_succ, List.getElem_cons_zero] at hmn
  have hts : (Tryz.prog).types.size = 291 := by kernel_rfl
  refine wp_region_free 12 (fun W => Below w1.heap.size w1 W) (growPhi w1.heap.size n (.iface 258 (.agg #[I n, .slice A ds.length c]))) rfl growPhi_stay (by kernel_rfl) ((Below.refl _ _).drew) (fin12 ?f0 ?f1 ?f2 ?f3 ?f4 ?f5 ?f6 ?f7 ?f8 ?f9 ?f10 ?f11) ?tail
  case tail =>
   intro vs W hJ hφ
   obtain ⟨gl, gh, gt, e10, b1, b2, b3, hgl, hgh, hgt⟩ := hφ 10 (by omega)
   obtain ⟨T, e11, bT, hT⟩ := hφ 11 (by omega)
   clear hφ
   simp only [List.drop_succ_cons, List.drop_zero, putsOf, List.getElem?_cons_succ, List.getElem?_cons_zero, Option.bind_some]
   rw [e10, e11]
   have hs0 := hT.frozen 0
   have hs1 := hT.frozen 1
   have hs2 := hT.frozen 2
   have hc0 := hT.cell 0
   have hc1 := hT.cell 1
   have hc2 := hT.cell 2
   have hlt := hT.lt
   generalize vs 0 = x0
   generalize vs 1 = x1
   generalize vs 2 = x2
   generalize vs 3 = x3
   generalize vs 4 = x4
   generalize vs 5 = x5
   generalize vs 6 = x6
   generalize vs 7 = x7
   generalize vs 8 = x8
   generalize vs 9 = x9
   simp only [Act.put, List.setIfInBounds_toArray, List.set_cons_succ, List.set_cons_zero]
   refine wpList_plain rfl fun K hK => ?_
   refine wp_of_skip (W' := ((W.setCell ⟨T, 0, none⟩ (.slice (some ⟨gl, 0, none⟩) n n)).setCell ⟨T, 1, none⟩ (.slice (some ⟨gh, 0, none⟩) n n)).setCell ⟨T, 2, none⟩ (.slice (some ⟨gt, 0, none⟩) n n)) ?_ ?_
   ·simp [execOp, go_sem, hs0, hs1, hs2, hc0, hc1, hc2, treeV]
   refine hK _ _ (wpList_nil ?_)
   simp only [Act.put, treeV]
   have hT2 := hide (((hT.set_ 0 (.slice (some ⟨gl, 0, none⟩) n n)).set_ 1 (.slice (some ⟨gh, 0, none⟩) n n)).set_ 2 (.slice (some ⟨gt, 0, none⟩) n n))
   have hsz1 : w.heap.size + 1 ≤ w1.heap.size := by have := hb1.size; simpa using this
   have hWw : Below w.heap.size w W := bup (bup (below1 _ _) hb1) hJ
   have hres := hide (((((Blk.new w 249 #[.slice none 0 0, .slice none 0 0, .slice none 0 0]).below hb1 (by simp)).below hJ (by omega)).far (p := ⟨T, 0, none⟩) (by show w.heap.size ≠ T; omega) (.slice (some ⟨gl, 0, none⟩) n n)).far (p := ⟨T, 1, none⟩) (by show w.heap.size ≠ T; omega) (.slice (some ⟨gh, 0, none⟩) n n) |>.far (p := ⟨T, 2, none⟩) (by show w.heap.size ≠ T; omega) (.slice (some ⟨gt, 0, none⟩) n n))
   have hblw := hide (((hWw.setCell (p := ⟨T, 0, none⟩) (by show _ ≤ T; omega) (.slice (some ⟨gl, 0, none⟩) n n)).setCell (p := ⟨T, 1, none⟩) (by show _ ≤ T; omega) (.slice (some ⟨gh, 0, none⟩) n n)).setCell (p := ⟨T, 2, none⟩) (by show _ ≤ T; omega) (.slice (some ⟨gt, 0, none⟩) n n))
   have n1 : T ≠ gl := blk_ne hT hgl (by decide)
   have n2 : T ≠ gh := blk_ne hT hgh (by decide)
   have n3 : T ≠ gt := blk_ne hT hgt (by decide)
   have n4 : gl ≠ gt := by
    rintro rfl
    have q1 := hgl.cell 0
    have q2 := hgt.cell 0
    rw [q1] at q2
    obtain ⟨n', rfl⟩ : ∃ n', n = n' + 1 := ⟨n - 1, by omega⟩
    simp [rowN, List.replicate_succ] at q2
   have hgs : Hid (GS (((W.setCell ⟨T, 0, none⟩ (.slice (some ⟨gl, 0, none⟩) n n)).setCell ⟨T, 1, none⟩ (.slice (some ⟨gh, 0, none⟩) n n)).setCell ⟨T, 2, none⟩ (.slice (some ⟨gt, 0, none⟩) n n)) (w.heap.size + 1) T gl gh gt n (wkInit n (frm.take 0))) := by
    refine hide ⟨by simpa using hT2.out, ?_, ?_, ?_, by simp [wkInit], by simp [wkInit], by simp [wkInit], by omega, by omega, by omega, by omega, n4⟩
    ·have := ((hgl.far (p := ⟨T, 0, none⟩) n1.symm (.slice (some ⟨gl, 0, none⟩) n n)).far (p := ⟨T, 1, none⟩) n1.symm (.slice (some ⟨gh, 0, none⟩) n n)).far (p := ⟨T, 2, none⟩) n1.symm (.slice (some ⟨gt, 0, none⟩) n n)
     simpa [wkInit, rowN] using this
    ·have := ((hgh.far (p := ⟨T, 0, none⟩) n2.symm (.slice (some ⟨gl, 0, none⟩) n n)).far (p := ⟨T, 1, none⟩) n2.symm (.slice (some ⟨gh, 0, none⟩) n n)).far (p := ⟨T, 2, none⟩) n2.symm (.slice (some ⟨gt, 0, none⟩) n n)
     simpa [wkInit, rowN] using this
    ·have := ((hgt.far (p := ⟨T, 0, none⟩) n3.symm (.slice (some ⟨gl, 0, none⟩) n n)).far (p := ⟨T, 1, none⟩) n3.symm (.slice (some ⟨gh, 0, none⟩) n n)).far (p := ⟨T, 2, none⟩) n3.symm (.slice (some ⟨gt, 0, none⟩) n n)
     simpa [wkInit, rowN] using this
   clear hK K hs0 hs1 hs2 hc0 hc1 hc2 hT hT2 hgl hgh hgt hWw hJ hmn hts e10 e11
   go_wp2_with fail
   go_loopw [29] (fun i wr => ∃ k : Nat, k ≤ frm.length ∧ i = I k ∧ Hid (GS wr (w.heap.size + 1) T gl gh gt n (wkInit n (frm.take k))) ∧ Hid (Below w.heap.size w wr) ∧ Hid (Blk wr w.heap.size 249 #[.slice none 0 0, .slice none 0 0, .slice none 0 0])) (fun i _ => frm.length - (intOf i).toNat)
   case atStart => exact ⟨0, Nat.zero_le _, rfl, hgs, hblw, hres⟩
   case round =>
    obtain ⟨k, hk, rfl, hg, hbr, hre⟩ := hrel
    clear hgs hblw hres
    by_cases hlt : k < frm.length
    ·obtain ⟨b, off, rfl, hbw⟩ := hAf.out k hlt
     obtain ⟨x, hx⟩ := getElem?_of_lt hlt
     obtain ⟨hbx, e0⟩ := ((unhide hf).mono hbr.out).int_at hx
     obtain ⟨hx0, hx1⟩ := hfr.out x (List.mem_of_getElem? hx)
     obtain ⟨t, rfl⟩ := Int.eq_ofNat_of_zero_le hx0
     have htn : t < n := by omega
     obtain ⟨hTs, c0, c1, c2⟩ := hg.out.tree_at
     obtain ⟨s0, s1⟩ := hg.out.has_at htn
     obtain ⟨_, _, _, m4, _, m6⟩ := hg.out.nes
     have hnew := hide (show GS (wr.setCell ⟨gh, t, none⟩ (.bool true)) (w.heap.size + 1) T gl gh gt n (wkInit n (frm.take (k + 1))) by
      have := hg.out.mark t
      rw [take_succ_of hx]
      simpa [wkInit] using this)
     have hb2 := hide (hbr.out.setCell (p := ⟨gh, t, none⟩) (by show _ ≤ gh; omega) (.bool true))
     have hr2 := hide (hre.out.far (p := ⟨gh, t, none⟩) (by show w.heap.size ≠ gh; omega) (.bool true))
     replace hx := hide hx
     clear hg hbr hre
     go_wp2_with fail
     go_roundw
     case rel => exact ⟨k + 1, by omega, by go_num, hnew, hb2, hr2⟩
     case measure => simp [intOf]; omega
    ·have he : k = frm.length := by omega
     subst he
     rw [List.take_length] at hg
     clear hAf
     go_wp2_with fail
     refine wp_label ?_
     simp only [Exit.then]
     apply_assumption
     exact hkey.out n _ _ ⟨T, gl, gh, gt, 0, frame_ex _ rfl, hg, by omega, h1, hide rfl, hbr.out, hre⟩
  case f0 =>
   refine free_step (by kernel_rfl) ?_
   intro o ho a vs W hJ hold hget K hK
   injection ho with ho
   subst ho
   have e0 : a.tmps[0]?.getD undef = .iface 258 (.agg #[I n, .slice A ds.length c]) := hold 0 (by kernel_rfl)
   clear hold hget
   exact wp_of_value (by simp [execOp, go_sem, e0]) (hK _ _ (Below.refl _ _) hJ rfl)
  case f3 =>
   refine free_step (by kernel_rfl) ?_
   intro o ho a vs W hJ hold hget K hK
   injection ho with ho
   subst ho
   have e0 : a.tmps[0]?.getD undef = .iface 258 (.agg #[I n, .slice A ds.length c]) := hold 0 (by kernel_rfl)
   clear hold hget
   exact wp_of_value (by simp [execOp, go_sem, e0]) (hK _ _ (Below.refl _ _) hJ rfl)
  case f7 =>
   refine free_step (by kernel_rfl) ?_
   intro o ho a vs W hJ hold hget K hK
   injection ho with ho
   subst ho
   have e0 : a.tmps[0]?.getD undef = .iface 258 (.agg #[I n, .slice A ds.length c]) := hold 0 (by kernel_rfl)
   clear hold hget
   exact wp_of_value (by simp [execOp, go_sem, e0]) (hK _ _ (Below.refl _ _) hJ rfl)
  case f1 =>
   refine free_step (by kernel_rfl) ?_
   intro o ho a vs W hJ hold hget K hK
   injection ho with ho
   subst ho
   obtain ⟨e, pe⟩ := hget 0 16 (by kernel_rfl) (by omega) (by kernel_rfl) (by simp)
   clear hold hget
   have pe : vs 0 = .iface 258 (.agg #[I n, .slice A ds.length c]) := pe
   rw [pe] at e
   refine wp_of_enter (f := 241) (args := #[.agg #[I n, .slice A ds.length c]]) (R := fun v w' => v = I n ∧ Below W.heap.size W w') ?_ ((diffs_nodes _ _ _).mono fun e w' h => ⟨_, h.1, rfl, h.2⟩) fun v w' h => hK v w' h.2 (bup hJ h.2) h.1
   simp [execOp, go_sem, e, hts, hmn]
  case f4 =>
   refine free_step (by kernel_rfl) ?_
   intro o ho a vs W hJ hold hget K hK
   injection ho with ho
   subst ho
   obtain ⟨e, pe⟩ := hget 3 19 (by kernel_rfl) (by omega) (by kernel_rfl) (by simp)
   clear hold hget
   have pe : vs 3 = .iface 258 (.agg #[I n, .slice A ds.length c]) := pe
   rw [pe] at e
   refine wp_of_enter (f := 241) (args := #[.agg #[I n, .slice A ds.length c]]) (R := fun v w' => v = I n ∧ Below W.heap.size W w') ?_ ((diffs_nodes _ _ _).mono fun e w' h => ⟨_, h.1, rfl, h.2⟩) fun v w' h => hK v w' h.2 (bup hJ h.2) h.1
   simp [execOp, go_sem, e, hts, hmn]
  case f8 =>
   refine free_step (by kernel_rfl) ?_
   intro o ho a vs W hJ hold hget K hK
   injection ho with ho
   subst ho
   obtain ⟨e, pe⟩ := hget 7 23 (by kernel_rfl) (by omega) (by kernel_rfl) (by simp)
   clear hold hget
   have pe : vs 7 = .iface 258 (.agg #[I n, .slice A ds.length c]) := pe
   rw [pe] at e
   refine wp_of_enter (f := 241) (args := #[.agg #[I n, .slice A ds.length c]]) (R := fun v w' => v = I n ∧ Below W.heap.size W w') ?_ ((diffs_nodes _ _ _).mono fun e w' h => ⟨_, h.1, rfl, h.2⟩) fun v w' h => hK v w' h.2 (bup hJ h.2) h.1
   simp [execOp, go_sem, e, hts, hmn]
  case f2 =>
   refine free_step (by kernel_rfl) ?_
   intro o ho a vs W hJ hold hget K hK
   injection ho with ho
   subst ho
   obtain ⟨e, pe⟩ := hget 1 17 (by kernel_rfl) (by omega) (by kernel_rfl) (by simp)
   clear hold hget
   have pe : vs 1 = I n := pe
   rw [pe] at e
   refine wp_of_value (u := .slice (some ⟨W.heap.size, 0, none⟩) n n) (W' := W.alloc (.cells (rowN n (I 0)) 3)) ?_ (hK _ _ (below1 _ _) (bup hJ (below1 _ _)) ⟨_, rfl, hJ.size, Blk.new _ _ _⟩)
   have hmk := run_make1 el_int rfl n (by omega) (by omega) W
   simp [execOp, Act.eval, e, hmk]
  case f5 =>
   refine free_step (by kernel_rfl) ?_
   intro o ho a vs W hJ hold hget K hK
   injection ho with ho
   subst ho
   obtain ⟨e, pe⟩ := hget 4 20 (by kernel_rfl) (by omega) (by kernel_rfl) (by simp)
   clear hold hget
   have pe : vs 4 = I n := pe
   rw [pe] at e
   refine wp_of_value (u := .slice (some ⟨W.heap.size, 0, none⟩) n n) (W' := W.alloc (.cells (rowN n (.bool false)) 4)) ?_ (hK _ _ (below1 _ _) (bup hJ (below1 _ _)) ⟨_, rfl, hJ.size, Blk.new _ _ _⟩)
   have hmk := run_make1 el_bool rfl n (by omega) (by omega) W
   simp [execOp, Act.eval, e, hmk]
  case f6 =>
   refine free_step (by kernel_rfl) ?_
   intro o ho a vs W hJ hold hget K hK
   injection ho with ho
   subst ho
   clear hold hget
   refine wp_of_value (u := .slice (some ⟨W.heap.size, 0, none⟩) 1 1) (W' := W.alloc (.cells #[I (-1)] 3)) ?_ (hK _ _ (below1 _ _) (bup hJ (below1 _ _)) ⟨_, rfl, Blk.new _ _ _⟩)
   simp [execOp, go_sem]
  case f9 =>
   refine free_step (by kernel_rfl) ?_
   intro o ho a vs W hJ hold hget K hK
   injection ho with ho
   subst ho
   obtain ⟨e, pe⟩ := hget 6 22 (by kernel_rfl) (by omega) (by kernel_rfl) (by simp)
   obtain ⟨e2, pe2⟩ := hget 8 24 (by kernel_rfl) (by omega) (by kernel_rfl) (by simp)
   clear hold hget
   obtain ⟨g, pe, hg⟩ : ∃ g, vs 6 = .slice (some ⟨g, 0, none⟩) 1 1 ∧ Blk W g 3 #[I (-1)] := pe
   have pe2 : vs 8 = I n := pe2
   rw [pe] at e
   rw [pe2] at e2
   refine wp_of_enter (f := 219) (args := #[.slice (some ⟨g, 0, none⟩) 1 1, I n]) (R := fun v w' => v = .slice (some ⟨W.heap.size, 0, none⟩) n n ∧ Blk w' W.heap.size 3 ((List.replicate n (-1 : Int)).map I).toArray ∧ Below W.heap.size W w') ?_ ((repeat_int g 1 n (-1) W (by omega) h1 (hg.cell 0) hg.lt).mono fun e w' h => ⟨_, h.1, rfl, h.2.1, h.2.2⟩) fun v w' h => hK v w' h.2.2 (bup hJ h.2.2) ⟨_, h.1, hJ.size, h.2.1⟩
   simp [go_sem, e, e2]
  case f10 =>
   refine free_step (by kernel_rfl) ?_
   intro o ho a vs W hJ hold hget K hK
   injection ho with ho
   subst ho
   obtain ⟨e, pe⟩ := hget 2 18 (by kernel_rfl) (by omega) (by kernel_rfl) (by simp)
   obtain ⟨e2, pe2⟩ := hget 5 21 (by kernel_rfl) (by omega) (by kernel_rfl) (by simp)
   obtain ⟨e3, pe3⟩ := hget 9 25 (by kernel_rfl) (by omega) (by kernel_rfl) (by simp)
   clear hold hget
   obtain ⟨gl, pe, bl, hgl⟩ : ∃ g, vs 2 = .slice (some ⟨g, 0, none⟩) n n ∧ w1.heap.size ≤ g ∧ Blk W g 3 (rowN n (I 0)) := pe
   obtain ⟨gh, pe2, bh, hgh⟩ : ∃ g, vs 5 = .slice (some ⟨g, 0, none⟩) n n ∧ w1.heap.size ≤ g ∧ Blk W g 4 (rowN n (.bool false)) := pe2
   obtain ⟨gt, pe3, bt, hgt⟩ : ∃ g, vs 9 = .slice (some ⟨g, 0, none⟩) n n ∧ w1.heap.size ≤ g ∧ Blk W g 3 ((List.replicate n (-1 : Int)).map I).toArray := pe3
   rw [pe] at e
   rw [pe2] at e2
   rw [pe3] at e3
   refine wp_of_value (u := treeV gl gh gt n) (W' := W) ?_ (hK _ _ (Below.refl _ _) hJ ⟨gl, gh, gt, rfl, bl, bh, bt, hgl, hgh, hgt⟩)
   simp [execOp, go_sem, e, e2, e3, treeV]
  case f11 =>
   refine free_step (by kernel_rfl) ?_
   intro o ho a vs W hJ hold hget K hK
   injection ho with ho
   subst ho
   clear hold hget
   refine wp_of_value (u := .pointer (some ⟨W.heap.size, 0, none⟩)) (W' := W.alloc (.cells #[.slice none 0 0, .slice none 0 0, .slice none 0 0] 249)) ?_ (hK _ _ (below1 _ _) (bup hJ (below1 _ _)) ⟨_, rfl, hJ.size, Blk.new _ _ _⟩)
   simp [execOp, go_sem]
 case pass =>
  rintro m a' w' ⟨T, gl, gh, gt, k, ⟨u, rfl⟩, hs, hmk, hm1, hrun, hbw, hres⟩
  obtain ⟨s, hsd⟩ : ∃ s, s = wkIter ds (wkInit n frm) k := ⟨_, rfl⟩
  have hwi : Within (4398046511104 * k) s.long := by rw [hsd]; exact wkIter_within hdm.out hdl k
  rw [← hsd] at hs hrun
  replace hsd := hide hsd
  clear hm
  go_wp2_with fail
  go_loopw [10, 40] (fun ch i wr => ∃ j : Nat, j ≤ ds.length ∧ i = I j ∧ ch = I (wkTo ds s j).ch ∧ Hid (GS wr (w.heap.size + 1) T gl gh gt n (wkTo ds s j)) ∧ Below w.heap.size w wr ∧ Hid (Blk wr w.heap.size 249 #[.slice none 0 0, .slice none 0 0, .slice none 0 0])) (fun _ i _ => ds.length - (intOf i).toNat)
  case atStart => exact ⟨0, Nat.zero_le _, rfl, rfl, hide ⟨hs.out.tree, hs.out.long, hs.out.has, hs.out.last, hs.out.ll, hs.out.lh, hs.out.lt, hs.out.b0, hs.out.b1, hs.out.b2, hs.out.b3, hs.out.ne⟩, hbw, hres⟩
  case round =>
   obtain ⟨j, hj, rfl, rfl, hg, hbr, hre⟩ := hrel
   by_cases hlt : j < ds.length
   ·obtain ⟨b, off, rfl, hbw'⟩ := hA.out j hlt
    obtain ⟨x, hx⟩ := getElem?_of_lt hlt
    obtain ⟨hbx, e0, e1, e2⟩ := ((unhide hd).mono hbr).diff_at hx
    obtain ⟨f0, f1, t0, t1⟩ := hds.out x (List.mem_of_getElem? hx)
    obtain ⟨m0, m1⟩ := hdm.out x (List.mem_of_getElem? hx)
    have hxne := hne.out x (List.mem_of_getElem? hx)
    obtain ⟨f, hfx⟩ := Int.eq_ofNat_of_zero_le f0
    obtain ⟨t, htx⟩ := Int.eq_ofNat_of_zero_le t0
    have hfn : f < n := by omega
    have hft : ¬ f = t := by omega
    have htf : ¬ t = f := by omega
    have hoth : ∀ (W : World) (v : Value), (W.setCell ⟨gl, t, none⟩ v).cell? ⟨gl, f, none⟩ = W.cell? ⟨gl, f, none⟩ := fun W v => World.cell?_setCell_other _ _ _ _ (by intro e; injection e with _ e _; exact htf e)
    clear hxne
    have htn : t < n := by omega
    rw [hfx] at e0
    rw [htx] at e1
    have hstep : ∀ b, wkB (wkTo ds s j) x = b → wkTo ds s (j + 1) = if b then ⟨(wkTo ds s j).long.set t ((wkTo ds s j).long.getD f 0 + x.most), (wkTo ds s j).has.set t true, (wkTo ds s j).last.set t j, t⟩ else wkTo ds s j := by
     intro b hb
     simp only [wkTo, wkStep, getD_of hx, hb, hfx, htx, Int.toNat_natCast]
    have hB : wkB (wkTo ds s j) x = ((wkTo ds s j).has.getD f false && (!(wkTo ds s j).has.getD t false || decide ((wkTo ds s j).long.getD f 0 + x.most < (wkTo ds s j).long.getD t 0))) := by
     simp only [wkB, hfx, htx, Int.toNat_natCast]
    have hwj := wkTo_within hdm.out hwi j hj
    have hwf := hwj f
    have hwt := hwj t
    replace hwj := hide hwj
    replace hstep := hide hstep
    replace hB := hide hB
    replace hfx := hide hfx
    replace htx := hide htx
    replace hx := hide hx
    obtain ⟨q, hq⟩ : ∃ q, q = wkTo ds s j := ⟨_, rfl⟩
    rw [← hq] at hg hstep hB hwf hwt
    replace hq := hide hq
    obtain ⟨hT, c0, c1, c2⟩ := hg.out.tree_at
    have l0 := (hg.out.long_at hfn).1
    have l1 := (hg.out.long_at htn).1
    have s0 := (hg.out.has_at hfn).1
    have s1 := (hg.out.has_at htn).1
    have hgl := hg.out.long.lt
    have hgh := hg.out.has.lt
    obtain ⟨lf, hlf⟩ : ∃ v, q.long.getD f 0 = v := ⟨_, rfl⟩
    obtain ⟨lt, hlt'⟩ : ∃ v, q.long.getD t 0 = v := ⟨_, rfl⟩
    rw [hlf] at l0 hwf
    rw [hlt'] at l1 hwt
    replace hlf := hide hlf
    replace hlt' := hide hlt'
    clear hA hs hbw hres
    cases hhf : q.has.getD f false with
    | false =>
     rw [hhf] at s0
     have hno := hide (show wkTo ds s (j + 1) = q by simpa using hstep.out false (by rw [hB.out, hhf]; rfl))
     replace hhf := hide hhf
     clear hstep hB
     go_wp2_with fail
     (refine wp_grow ?_; (repeat go_big_quiet_step (fail)); refine wp_grow0 ?_; intro W1 hW1)
     have hg2 := hide (hg.out.below (bup (below1 _ _) hW1))
     have hr2 := hide ((hre.out.alloc (Obj.cells #[Value.int .i64 f, Value.int .i64 t, Value.int .i64 x.most] 245)).below hW1 (by have := hre.out.lt; simp; omega))
     have hb2 := bup (bup hbr (below1 _ _)) hW1
     clear hg hre hbr
     go_wp2_with fail
     go_roundw
     case rel => exact ⟨j + 1, by omega, by go_num, by rw [hno.out, ← hq.out], hide (by rw [hno.out]; exact hg2.out), hb2, hr2⟩
     case measure => simp [intOf]; omega
    | true =>
     rw [hhf] at s0
     cases hht : q.has.getD t false with
     | false =>
      rw [hht] at s1
      have hno := hide (show wkTo ds s (j + 1) = ⟨q.long.set t (lf + x.most), q.has.set t true, q.last.set t j, t⟩ by have := hstep.out true (by rw [hB.out, hhf, hht]; rfl); rw [hlf.out] at this; simpa using this)
      replace hhf := hide hhf
      replace hht := hide hht
      clear hstep hB
      go_wp2_with fail
      (refine wp_grow ?_; (repeat go_big_quiet_step (fail)); refine wp_grow0 ?_; intro W1 hW1)
      have hg2 := hg.out.below (bup (below1 _ _) hW1)
      have hr2 := (hre.out.alloc (Obj.cells #[Value.int .i64 f, Value.int .i64 t, Value.int .i64 x.most] 245)).below hW1 (by have := hre.out.lt; simp; omega)
      have hb2 := bup (bup hbr (below1 _ _)) hW1
      have hdx := (Blk.new wr 245 #[Value.int .i64 f, Value.int .i64 t, Value.int .i64 x.most]).below hW1 (by simp)
      obtain ⟨z0, z1, z2⟩ := hdx.cells3
      obtain ⟨_, y0, y1, y2⟩ := hg2.tree_at
      have y3 := (hg2.long_at hfn).1
      obtain ⟨y4, y5⟩ := hg2.long_at htn
      obtain ⟨y6, y7⟩ := hg2.has_at htn
      obtain ⟨y8, y9⟩ := hg2.last_at htn
      rw [hlf.out] at y3
      obtain ⟨n1, n2, n3, n4, n5, n6⟩ := hg2.nes
      have hgt' := hg.out.last.lt
      have p1 : ¬ wr.heap.size = gl := by omega
      have p2 : ¬ wr.heap.size = gh := by omega
      have p3 : ¬ wr.heap.size = gt := by omega
      have p4 : ¬ gl = wr.heap.size := by omega
      have p5 : ¬ gh = wr.heap.size := by omega
      have p6 : ¬ gt = wr.heap.size := by omega
      have o1 := n1.symm; have o2 := n2.symm; have o3 := n3.symm; have o4 := n4.symm; have o5 := n5.symm; have o6 := n6.symm
      have hnew := hide (hg2.drew.put t (lf + x.most) j t)
      have hr3 := hide (((hr2.drew.far (p := ⟨gl, t, none⟩) (by have := hg2.b1; show w.heap.size ≠ gl; omega) (I (lf + x.most))).far (p := ⟨gh, t, none⟩) (by have := hg2.b2; show w.heap.size ≠ gh; omega) (.bool true)).far (p := ⟨gt, t, none⟩) (by have := hg2.b3; show w.heap.size ≠ gt; omega) (I j))
      have hb3 := hide (((hb2.drew.setCell (p := ⟨gl, t, none⟩) (by have := hg2.b1; show _ ≤ gl; omega) (I (lf + x.most))).setCell (p := ⟨gh, t, none⟩) (by have := hg2.b2; show _ ≤ gh; omega) (.bool true)).setCell (p := ⟨gt, t, none⟩) (by have := hg2.b3; show _ ≤ gt; omega) (I j))
      clear hg hg2 hr2 hre hbr hb2 hW1 hdx c0 c1 c2 l0 l1 s0 s1 hgl hgh e0 e1 e2 hbx
      go_wp2_with fail
      go_region_held3 (fun W => W.cell? ⟨T, 0, none⟩ = some (.slice (some ⟨gl, 0, none⟩) n n) ∧ W.cell? ⟨T, 1, none⟩ = some (.slice (some ⟨gh, 0, none⟩) n n) ∧ W.cell? ⟨T, 2, none⟩ = some (.slice (some ⟨gt, 0, none⟩) n n) ∧ W.cell? ⟨wr.heap.size, 0, none⟩ = some (Value.int .i64 f) ∧ W.cell? ⟨wr.heap.size, 1, none⟩ = some (Value.int .i64 t) ∧ W.cell? ⟨wr.heap.size, 2, none⟩ = some (Value.int .i64 x.most) ∧ W.cell? ⟨gl, f, none⟩ = some (I lf)) (go_keep) ((fail))
      go_wp2_with fail
      go_roundw
      case rel => exact ⟨j + 1, by omega, by go_num, by rw [hno.out], hide (by rw [hno.out]; exact hnew.out), hb3.out, hr3⟩
      case measure => simp [intOf]; omega
     | true =>
      rw [hht] at s1
      rcases ilt (lf + x.most) lt with hll | hll
      ·have hdl2 : decide (lf + x.most < lt) = true := by simpa using hll
       have hno := hide (show wkTo ds s (j + 1) = ⟨q.long.set t (lf + x.most), q.has.set t true, q.last.set t j, t⟩ by have := hstep.out true (by rw [hB.out, hhf, hht, hlf.out, hlt'.out, hdl2]; rfl); rw [hlf.out] at this; simpa using this)
       replace hhf := hide hhf
       replace hht := hide hht
       clear hstep hB
       go_wp2_with fail
       (refine wp_grow ?_; (repeat go_big_quiet_step (fail)); refine wp_grow0 ?_; intro W1 hW1)
       have hg2 := hg.out.below (bup (below1 _ _) hW1)
       have hr2 := (hre.out.alloc (Obj.cells #[Value.int .i64 f, Value.int .i64 t, Value.int .i64 x.most] 245)).below hW1 (by have := hre.out.lt; simp; omega)
       have hb2 := bup (bup hbr (below1 _ _)) hW1
       have hdx := (Blk.new wr 245 #[Value.int .i64 f, Value.int .i64 t, Value.int .i64 x.most]).below hW1 (by simp)
       obtain ⟨z0, z1, z2⟩ := hdx.cells3
       obtain ⟨_, y0, y1, y2⟩ := hg2.tree_at
       have y3 := (hg2.long_at hfn).1
       obtain ⟨y4, y5⟩ := hg2.long_at htn
       obtain ⟨y6, y7⟩ := hg2.has_at htn
       obtain ⟨y8, y9⟩ := hg2.last_at htn
       rw [hlf.out] at y3
       obtain ⟨n1, n2, n3, n4, n5, n6⟩ := hg2.nes
       have hgt' := hg.out.last.lt
       have p1 : ¬ wr.heap.size = gl := by omega
       have p2 : ¬ wr.heap.size = gh := by omega
       have p3 : ¬ wr.heap.size = gt := by omega
       have p4 : ¬ gl = wr.heap.size := by omega
       have p5 : ¬ gh = wr.heap.size := by omega
       have p6 : ¬ gt = wr.heap.size := by omega
       have o1 := n1.symm; have o2 := n2.symm; have o3 := n3.symm; have o4 := n4.symm; have o5 := n5.symm; have o6 := n6.symm
       have hnew := hide (hg2.drew.put t (lf + x.most) j t)
       have hr3 := hide (((hr2.drew.far (p := ⟨gl, t, none⟩) (by have := hg2.b1; show w.heap.size ≠ gl; omega) (I (lf + x.most))).far (p := ⟨gh, t, none⟩) (by have := hg2.b2; show w.heap.size ≠ gh; omega) (.bool true)).far (p := ⟨gt, t, none⟩) (by have := hg2.b3; show w.heap.size ≠ gt; omega) (I j))
       have hb3 := hide (((hb2.drew.setCell (p := ⟨gl, t, none⟩) (by have := hg2.b1; show _ ≤ gl; omega) (I (lf + x.most))).setCell (p := ⟨gh, t, none⟩) (by have := hg2.b2; show _ ≤ gh; omega) (.bool true)).setCell (p := ⟨gt, t, none⟩) (by have := hg2.b3; show _ ≤ gt; omega) (I j))
       clear hg hg2 hr2 hre hbr hb2 hW1 hdx c0 c1 c2 l0 l1 s0 s1 hgl hgh e0 e1 e2 hbx
       go_wp2_with fail
       go_region_held3 (fun W => W.cell? ⟨T, 0, none⟩ = some (.slice (some ⟨gl, 0, none⟩) n n) ∧ W.cell? ⟨T, 1, none⟩ = some (.slice (some ⟨gh, 0, none⟩) n n) ∧ W.cell? ⟨T, 2, none⟩ = some (.slice (some ⟨gt, 0, none⟩) n n) ∧ W.cell? ⟨wr.heap.size, 0, none⟩ = some (Value.int .i64 f) ∧ W.cell? ⟨wr.heap.size, 1, none⟩ = some (Value.int .i64 t) ∧ W.cell? ⟨wr.heap.size, 2, none⟩ = some (Value.int .i64 x.most) ∧ W.cell? ⟨gl, f, none⟩ = some (I lf)) (go_keep) ((fail))
       go_wp2_with fail
       go_roundw
       case rel => exact ⟨j + 1, by omega, by go_num, by rw [hno.out], hide (by rw [hno.out]; exact hnew.out), hb3.out, hr3⟩
       case measure => simp [intOf]; omega
      ·have hdl2 : decide (lf + x.most < lt) = false := by simp; omega
       have hno := hide (show wkTo ds s (j + 1) = q by simpa using hstep.out false (by rw [hB.out, hhf, hht, hlf.out, hlt'.out, hdl2]; rfl))
       replace hhf := hide hhf
       replace hht := hide hht
       clear hstep hB
       go_wp2_with fail
       (refine wp_grow ?_; (repeat go_big_quiet_step (fail)); refine wp_grow0 ?_; intro W1 hW1)
       have hg2 := hide (hg.out.below (bup (below1 _ _) hW1))
       have hr2 := hide ((hre.out.alloc (Obj.cells #[Value.int .i64 f, Value.int .i64 t, Value.int .i64 x.most] 245)).below hW1 (by have := hre.out.lt; simp; omega))
       have hb2 := bup (bup hbr (below1 _ _)) hW1
       clear hg hre hbr
       go_wp2_with fail
       go_roundw
       case rel => exact ⟨j + 1, by omega, by go_num, by rw [hno.out, ← hq.out], hide (by rw [hno.out]; exact hg2.out), hb2, hr2⟩
       case measure => simp [intOf]; omega
   ·have he : j = ds.length := by omega
    subst he
    clear hs hbw hres
    have hch := wkTo_ch (s := s) (fun d hd' => ⟨(hds.out d hd').2.2.1, (hds.out d hd').2.2.2⟩) ds.length (Nat.le_refl _)
    obtain ⟨q, hq⟩ : ∃ q, q = wkTo ds s ds.length := ⟨_, rfl⟩
    rw [← hq] at hg hch
    obtain ⟨hT, c0, c1, c2⟩ := hg.out.tree_at
    have d0 := hre.out.cell 0
    have d1 := hre.out.cell 1
    have d2 := hre.out.cell 2
    have r0 := hre.out.frozen 0
    have r1 := hre.out.frozen 1
    have r2 := hre.out.frozen 2
    have hRs := hre.out.lt
    have hlo : LastOk ds.length q.last := by
     rw [hq]; refine wkTo_last ?_ _ (Nat.le_refl _); rw [hsd.out]; exact wkIter_last k
    have hql := hg.out.lt
    have hsk : s = wkIter ds (wkInit n frm) k := hsd.out
    have hqk : q = wkIter ds (wkInit n frm) (k + 1) := by rw [hq, hsk]; rfl
    have hqq : q = wkPass ds s := hq
    replace hq := hide hq
    obtain ⟨m', rfl⟩ : ∃ m', m = m' + 1 := ⟨m - 1, by omega⟩
    have hfin := hide (((hre.out.set_ 0 (.slice (some ⟨gl, 0, none⟩) n n)).set_ 1 (.slice (some ⟨gh, 0, none⟩) n n)).set_ 2 (.slice (some ⟨gt, 0, none⟩) n n))
    have hge := hide (((hg.out.far (p := ⟨w.heap.size, 0, none⟩) (Nat.lt_succ_self _) (.slice (some ⟨gl, 0, none⟩) n n)).far (p := ⟨w.heap.size, 1, none⟩) (Nat.lt_succ_self _) (.slice (some ⟨gh, 0, none⟩) n n)).far (p := ⟨w.heap.size, 2, none⟩) (Nat.lt_succ_self _) (.slice (some ⟨gt, 0, none⟩) n n))
    have hbe := hide (((hbr.setCell (p := ⟨w.heap.size, 0, none⟩) (Nat.le_refl _) (.slice (some ⟨gl, 0, none⟩) n n)).setCell (p := ⟨w.heap.size, 1, none⟩) (Nat.le_refl _) (.slice (some ⟨gh, 0, none⟩) n n)).setCell (p := ⟨w.heap.size, 2, none⟩) (Nat.le_refl _) (.slice (some ⟨gt, 0, none⟩) n n))
    rcases hch with hch | ⟨hc0, hc1⟩
    ·have hout : growF n ds frm = (q, -1) := by
      rw [← hrun.out]; simp only [wkRun]; rw [← hqq, if_pos (by omega)]
     replace hout := hide hout
     replace hsk := hide hsk; replace hqk := hide hqk; replace hqq := hide hqq; replace hlo := hide hlo
     rw [← hq.out, hch]
     go_wp2_with fail
     have x0 := hfin.out.cell 0
     have x1 := hfin.out.cell 1
     have x2 := hfin.out.cell 2
     simp only [Exit.jump]
     refine bodyPost_ret (v := .tuple #[treeV gl gh gt n, I (-1)]) (by simp at x0 x1 x2; simp [results, Tryz.results216, go_sem, x0, x1, x2, treeV]) rfl ⟨gl, gh, gt, ?_, ?_, ?_⟩
     ·rw [hout.out]
     ·rw [hout.out]; exact hge.out.gt (Nat.le_succ _)
     ·exact hbe.out
    ·obtain ⟨cn, hcn⟩ := Int.eq_ofNat_of_zero_le hc0
     obtain ⟨b, hb⟩ : ∃ b, loopF q.last ds q.last.length cn = b := ⟨_, rfl⟩
     have hdn : ∀ d ∈ ds, 0 ≤ d.frm ∧ d.frm < n := fun d hd' => ⟨(hds.out d hd').1, (hds.out d hd').2.1⟩
     have hlp := hide (diffs_looped (.slice (some ⟨gl, 0, none⟩) n n) (.slice (some ⟨gh, 0, none⟩) n n) (.slice (some ⟨gt, 0, none⟩) n n) (.slice A ds.length c) q.last ds cn wr (by omega) (by omega) (by rw [hql]; exact hdn) (fun x hx => (hlo x hx).2) (hg.out.last.sl_int hql (by omega)) ((unhide hd).mono hbr))
     rw [hb] at hlp
     have hcn2 : q.ch.toNat = cn := by omega
     by_cases hb0 : 0 ≤ b
     ·have hout : growF n ds frm = (q, b) := by
       rw [← hrun.out]; simp only [wkRun]; rw [← hqq, if_neg (by omega), hcn2, hb, if_pos hb0]
      replace hout := hide hout
      replace hsk := hide hsk; replace hqk := hide hqk; replace hqq := hide hqq; replace hlo := hide hlo; replace hdn := hide hdn; replace hb := hide hb
      rw [← hq.out, hcn]
      have hvb : decide (0 ≤ b) = true := by simpa using hb0
      go_wp2_with (first | (go_at_call 220; refine hlp.out.mono ?_; rintro e w2 ⟨rfl, hb2⟩; have q0 := (hb2.cell (p := ⟨T, 0, none⟩) hT).trans c0; have q1 := (hb2.cell (p := ⟨T, 1, none⟩) hT).trans c1; have q2 := (hb2.cell (p := ⟨T, 2, none⟩) hT).trans c2; have q3 := (hb2.cell (p := ⟨w.heap.size, 0, none⟩) hRs).trans d0; have q4 := (hb2.cell (p := ⟨w.heap.size, 1, none⟩) hRs).trans d1; have q5 := (hb2.cell (p := ⟨w.heap.size, 2, none⟩) hRs).trans d2; have q6 := (hb2.frozen (p := ⟨w.heap.size, 0, none⟩) hRs).trans r0; have q7 := (hb2.frozen (p := ⟨w.heap.size, 1, none⟩) hRs).trans r1; have q8 := (hb2.frozen (p := ⟨w.heap.size, 2, none⟩) hRs).trans r2; clear c0 c1 c2 d0 d1 d2 r0 r1 r2 hfin hge hbe))
      have hr2 := hre.out.below hb2 hRs
      have hfin := hide (((hr2.set_ 0 (.slice (some ⟨gl, 0, none⟩) n n)).set_ 1 (.slice (some ⟨gh, 0, none⟩) n n)).set_ 2 (.slice (some ⟨gt, 0, none⟩) n n))
      have x0 := hfin.out.cell 0
      have x1 := hfin.out.cell 1
      have x2 := hfin.out.cell 2
      simp only [Exit.jump]
      refine bodyPost_ret (v := .tuple #[treeV gl gh gt n, I b]) (by simp at x0 x1 x2; simp [results, Tryz.results216, go_sem, x0, x1, x2, treeV]) rfl ⟨gl, gh, gt, ?_, ?_, ?_⟩
      ·rw [hout.out]
      ·rw [hout.out]; exact ((((hg.out.below hb2).far (p := ⟨w.heap.size, 0, none⟩) (Nat.lt_succ_self _) _).far (p := ⟨w.heap.size, 1, none⟩) (Nat.lt_succ_self _) _).far (p := ⟨w.heap.size, 2, none⟩) (Nat.lt_succ_self _) _).gt (Nat.le_succ _)
      ·exact (((bup hbr hb2).setCell (p := ⟨w.heap.size, 0, none⟩) (Nat.le_refl _) _).setCell (p := ⟨w.heap.size, 1, none⟩) (Nat.le_refl _) _).setCell (p := ⟨w.heap.size, 2, none⟩) (Nat.le_refl _) _
     ·have hvb : decide (0 ≤ b) = false := by simpa using hb0
      have hm2 : 1 ≤ m' := by
       rcases Nat.lt_or_ge 0 m' with h | h
       ·exact h
       ·have := grow_last hds.out frm (k := k) (by omega) hqk hc0
        rw [hcn2, ← hql, hb] at this
        exact absurd this hb0
      have hnext := hide (show wkRun ds m' (wkIter ds (wkInit n frm) (k + 1)) = growF n ds frm by
       rw [← hrun.out]; conv => rhs; unfold wkRun
       simp only
       rw [← hqq, if_neg (by omega), hcn2, hb, if_neg hb0, hqk])
      replace hsk := hide hsk; replace hqk := hide hqk; replace hqq := hide hqq; replace hlo := hide hlo; replace hdn := hide hdn; replace hb := hide hb
      rw [← hq.out, hcn]
      go_wp2_with (first | (go_at_call 220; refine hlp.out.mono ?_; rintro e w2 ⟨rfl, hb2⟩; have q0 := (hb2.cell (p := ⟨T, 0, none⟩) hT).trans c0; have q1 := (hb2.cell (p := ⟨T, 1, none⟩) hT).trans c1; have q2 := (hb2.cell (p := ⟨T, 2, none⟩) hT).trans c2; clear c0 c1 c2 d0 d1 d2 r0 r1 r2 hfin hge hbe))
      refine wp_goto ?_
      refine ⟨rfl, m', Nat.lt_succ_self _, T, gl, gh, gt, k + 1, frame_ex _ rfl, ?_, by omega, hm2, hnext, bup hbr hb2, hide (hre.out.below hb2 hRs)⟩
      rw [← hqk.out]; exact hide (hg.out.below hb2)

theorem wkRun_within {ds : List Diff} (hd : ∀ d ∈ ds, -1073741824 ≤ d.most ∧ d.most ≤ 1073741824) (hl : ds.length ≤ 4096) : ∀ (f : Nat) (s : Wk) (b : Int), 0 ≤ b → Within b s.long → Within (b + 4398046511104 * f) (wkRun ds f s).1.long
 | 0, s, b, _, h => by simpa [wkRun] using h
 | f + 1, s, b, hb, h => by
  have h1 : Within (b + 4398046511104) (wkPass ds s).long := (wkTo_within hd h ds.length (Nat.le_refl _)).mono (by omega)
  simp only [wkRun]
  split
  ·exact h1.mono (by omega)
  ·split
   ·exact h1.mono (by omega)
   ·exact (wkRun_within hd hl f _ _ (by omega) h1).mono (by omega)
theorem growF_within {n : Nat} {ds : List Diff} (frm : List Int) (hd : ∀ d ∈ ds, -1073741824 ≤ d.most ∧ d.most ≤ 1073741824) (hl : ds.length ≤ 4096) (hn : n ≤ 256) : Within 1125899906842624 (growF n ds frm).1.long := by
 have h := wkRun_within hd hl n (wkInit n frm) 0 (Int.le_refl _) (wkIter_within (n := n) (frm := frm) hd hl 0)
 exact h.mono (by omega)
theorem wkRun_len {ds : List Diff} : ∀ (f : Nat) (s : Wk), (wkRun ds f s).1.long.length = s.long.length ∧ (wkRun ds f s).1.has.length = s.has.length
 | 0, s => ⟨rfl, rfl⟩
 | f + 1, s => by
  have h := wkTo_len ds s ds.length
  have h1 : (wkPass ds s).long.length = s.long.length := h.1
  have h2 : (wkPass ds s).has.length = s.has.length := h.2.1
  simp only [wkRun]
  split
  ·exact ⟨h1, h2⟩
  ·split
   ·exact ⟨h1, h2⟩
   ·have := wkRun_len (ds := ds) f (wkPass ds s)
    exact ⟨this.1.trans h1, this.2.trans h2⟩
theorem growF_len (n : Nat) (ds : List Diff) (frm : List Int) : (growF n ds frm).1.long.length = n ∧ (growF n ds frm).1.has.length = n := by
 have h := wkRun_len (ds := ds) n (wkInit n frm)
 have h2 := wkInit_len n frm
 exact ⟨h.1.trans h2.1, h.2.trans h2.2.1⟩

theorem wkRun_neg {ds : List Diff} : ∀ (f : Nat) (s : Wk), (wkRun ds f s).2 < 0 → (wkRun ds f s).2 = -1
 | 0, _, _ => rfl
 | f + 1, s, h => by
  simp only [wkRun] at h ⊢
  split at h
  ·rename_i h1; rw [if_pos h1]
  ·rename_i h1
   rw [if_neg h1]
   split at h
   ·rename_i h2; simp only at h; omega
   ·rename_i h2; rw [if_neg h2]; exact wkRun_neg f _ h
theorem getD0 {l : List Int} {i : Nat} {x : Int} (h : l[i]? = some x) : l.getD i 0 = x := by simp [h]
theorem Own.pos {α : Type} {w : World} {base e k : Nat} {enc : α → List Value} {v : Value} {xs : List α} (h : Own w base e k enc v xs) (hp : 0 < xs.length) :
  ∃ g cap, v = .slice (some ⟨g, 0, none⟩) xs.length cap ∧ base ≤ g ∧ g < w.heap.size := by
 rcases h.2 with ⟨_, hn⟩ | ⟨g, cap, cur, rfl, hg, hh, _⟩
 ·omega
 ·refine ⟨g, cap, rfl, hg, ?_⟩
  rcases Nat.lt_or_ge g w.heap.size with h | h
  ·exact h
  ·rw [Array.getElem?_eq_none h] at hh; cases hh
structure NetOk (n : Nat) (ds : List Diff) : Prop where
 hn : n ≤ 256
 h1 : 1 ≤ n
 hdl : ds.length ≤ 4096
 hds : ∀ d ∈ ds, 0 ≤ d.frm ∧ d.frm < n ∧ 0 ≤ d.to ∧ d.to < n
 hdm : ∀ d ∈ ds, -1073741824 ≤ d.most ∧ d.most ≤ 1073741824
 hne : ∀ d ∈ ds, d.frm ≠ d.to

theorem diffs_solve (vd : Value) (n : Nat) (ds : List Diff) (w : World) (N : NetOk n ds) (hd : Sl w 3 Diff.cells vd ds) :
  Calls Tryz.prog 215 #[.iface 258 (.agg #[I n, vd])] w fun e w' => ∃ v gl gh gt, e = .returned (.tuple #[v, treeV gl gh gt n, I (growF n ds (allF n)).2]) ∧ Below w.heap.size w w' := by
 have hn := N.hn
 have h1 := N.h1
 have hin := hide (growF_within (n := n) (allF n) N.hdm N.hdl N.hn)
 have hgl := hide (growF_len n ds (allF n))
 replace hd := hide hd
 replace N := hide N
 have hall : ∀ x ∈ allF n, 0 ≤ x ∧ x < (n : Int) := by intro x hx; simp only [allF, List.mem_map, List.mem_range] at hx; obtain ⟨i, hi, rfl⟩ := hx; omega
 have hal : (allF n).length = n := by simp [allF]
 replace hall := hide hall
 obtain ⟨r, hr⟩ : ∃ r, growF n ds (allF n) = r := ⟨_, rfl⟩
 rw [hr] at hin hgl ⊢
 replace hr := hide hr
 rcases ilt r.2 0 with h0 | h0
 ·have hdc : decide (0 ≤ r.2) = false := by simp; omega
  have hm1 := hide (show I (-1) = I r.2 by rw [← hr.out] at h0 ⊢; exact congrArg I (wkRun_neg n _ h0).symm)
  go_enter Tryz.func215, Tryz.ntmps215
  go_wp2_with (first
   | (go_at_call 218; refine (diffs_all _ n _ (by omega)).mono ?_; rintro e w1 ⟨va, rfl, ho1, hb1⟩; replace ho1 := hide ho1; replace hb1 := hide hb1)
   | (go_at_call 216; refine (diffs_grow _ _ n ds (allF n) _ N.out.hn N.out.h1 N.out.hdl N.out.hds N.out.hdm hall.out N.out.hne (hd.out.mono (bup (below1 _ _) hb1.out)) (ho1.out.sl intC_len (by simp; omega))).mono ?_; rw [hr.out]; rintro e w2 ⟨gl, gh, gt, rfl, hgt, hb2⟩; simp only [treeV]; replace hgt := hide hgt; replace hb2 := hide hb2))
  have hb12 : Below w.heap.size w w2 := bup (bup (below1 _ _) hb1.out) hb2.out
  have hs12 : w.heap.size + 1 ≤ w2.heap.size := by have h3 := hb1.out.size; have h4 := hb2.out.size; simp at h3; omega
  have hT := Blk.new w2 249 #[Value.slice (some ⟨gl, 0, none⟩) n n, Value.slice (some ⟨gh, 0, none⟩) n n, Value.slice (some ⟨gt, 0, none⟩) n n]
  have hres := (((Blk.new w 249 #[Value.slice none 0 0, Value.slice none 0 0, Value.slice none 0 0]).below hb1.out (by simp)).below hb2.out (by have h3 := hb1.out.size; simp at h3; omega)).alloc (Obj.cells #[Value.slice (some ⟨gl, 0, none⟩) n n, Value.slice (some ⟨gh, 0, none⟩) n n, Value.slice (some ⟨gt, 0, none⟩) n n] 249)
  have hb3 := hb12.alloc (by omega) (Obj.cells #[Value.slice (some ⟨gl, 0, none⟩) n n, Value.slice (some ⟨gh, 0, none⟩) n n, Value.slice (some ⟨gt, 0, none⟩) n n] 249)
  have hlo := hgt.out.long.alloc (Obj.cells #[Value.slice (some ⟨gl, 0, none⟩) n n, Value.slice (some ⟨gh, 0, none⟩) n n, Value.slice (some ⟨gt, 0, none⟩) n n] 249)
  have hgs := hgt.out.b1
  obtain ⟨T, hTe⟩ : ∃ T, T = w2.heap.size := ⟨_, rfl⟩
  obtain ⟨W3, hW3⟩ : ∃ W3, W3 = w2.alloc (Obj.cells #[Value.slice (some ⟨gl, 0, none⟩) n n, Value.slice (some ⟨gh, 0, none⟩) n n, Value.slice (some ⟨gt, 0, none⟩) n n] 249) := ⟨_, rfl⟩
  rw [← hW3] at hT hres hb3 hlo ⊢
  rw [← hTe] at hT hs12 ⊢
  replace hgs : w.heap.size + 1 ≤ gl := by have h3 := hb1.out.size; simp at h3; omega
  clear hW3 hTe hb12 hb1 hb2 ho1
  obtain ⟨c0, c1, c2⟩ := hT.cells3
  go_wp2_with (go_at_call 68; refine (clone_int _ r.1.long _ (hlo.sl_int hgl.out.1 (by omega)) (by rw [hgl.out.1]; omega)).mono ?_; rintro e w4 ⟨vx, rfl, hox, _, hb4⟩; obtain ⟨g, cap, rfl, _⟩ := hox.pos (by rw [hgl.out.1]; omega); rw [hgl.out.1] at hox ⊢; replace hox := hide hox; replace hb4 := hide hb4)
  obtain ⟨l0, hl0⟩ := getElem?_of_lt (xs := r.1.long) (k := 0) (by rw [hgl.out.1]; omega)
  have hq0 := hin.out 0
  rw [getD0 hl0] at hq0
  have hl0c : W3.cell? ⟨gl, 0, none⟩ = some (I l0) := by
   rw [hlo.cell 0]; simp [hl0]
  have hgls := hlo.lt
  have hTs := hT.lt
  have hres1 := hide hres
  clear hlo hres
  go_loopw [25] (fun i wr => ∃ k : Nat, k ≤ n ∧ i = I k ∧ (∃ xs : List Int, Hid (Own wr W3.heap.size 3 1 intC (.slice (some ⟨g, 0, none⟩) n cap) xs) ∧ xs.length = n ∧ Hid (∀ j, k ≤ j → xs[j]? = r.1.long[j]?)) ∧ Hid (Below W3.heap.size W3 wr)) (fun i _ => n - (intOf i).toNat)
  case atStart => exact ⟨0, Nat.zero_le _, rfl, ⟨r.1.long, hox, hgl.out.1, hide fun _ _ => rfl⟩, hb4⟩
  case round =>
   obtain ⟨k, hk, rfl, ⟨xs, ho, hxn, hxj⟩, hbr⟩ := hrel
   by_cases hlt : k < n
   ·obtain ⟨x, hx⟩ := getElem?_of_lt (xs := xs) (k := k) (by omega)
    have hxl : r.1.long[k]? = some x := by rw [← hxj.out k (Nat.le_refl _)]; exact hx
    have hqx := hin.out k
    rw [getD0 hxl] at hqx
    obtain ⟨e0, e1, hgb, hgw⟩ := ho.out.int_at hxn hx
    have t0 := (hbr.out.cell (p := ⟨T, 0, none⟩) hTs).trans c0
    have t1 := (hbr.out.cell (p := ⟨gl, 0, none⟩) hgls).trans hl0c
    have hnew := hide (ho.out.drew.set_int hxn k (x - l0))
    have hb5 := hide (hbr.out.drew.setCell (p := ⟨g, k, none⟩) (by show _ ≤ g; omega) (I (x - l0)))
    have hn0 : (0 : Int) < (n : Int) := by omega
    have hkn : (k : Int) < (n : Int) := by omega
    have hk0 : (0 : Int) ≤ (k : Int) := by omega
    have hgT : ¬ g = T := by omega
    have hTg : ¬ T = g := by omega
    have hggl : ¬ g = gl := by omega
    have hglg : ¬ gl = g := by omega
    replace hx := hide hx
    replace hxl := hide hxl
    clear c0 c1 c2 hl0c ho hbr
    go_wp2_with fail
    have hwr : IntKind.i64.wrap (x - l0) = x - l0 := IntWalk.i64_in _ (by omega)
    go_region
    go_wp2_with fail
    go_roundw
    case rel =>
     refine ⟨k + 1, by omega, by go_num, ⟨_, hnew, by simpa using hxn, hide fun j hj => ?_⟩, hb5⟩
     rw [List.getElem?_set_ne (by omega)]; exact hxj.out j (by omega)
    case measure => simp [intOf]; omega
   ·have he : n = k := by omega
    subst he
    have t0 := (hbr.out.cell (p := ⟨T, 0, none⟩) hTs).trans c0
    have t1 := (hbr.out.cell (p := ⟨T, 1, none⟩) hTs).trans c1
    have t2 := (hbr.out.cell (p := ⟨T, 2, none⟩) hTs).trans c2
    have hres := hres1.out.below hbr.out hres1.out.lt
    have hb3 := bup hb3 hbr.out
    clear hres1 hbr ho c0 c1 c2 hT hgt hox hb4
    have d0 := hres.cell 0
    have d1 := hres.cell 1
    have d2 := hres.cell 2
    have r0 := hres.frozen 0
    have r1 := hres.frozen 1
    have r2 := hres.frozen 2
    have hRs := hres.lt
    have hTR : ¬ T = w.heap.size := by omega
    have hRT : ¬ w.heap.size = T := by omega
    have hfin := hide (((hres.set_ 0 (.slice (some ⟨gl, 0, none⟩) n n)).set_ 1 (.slice (some ⟨gh, 0, none⟩) n n)).set_ 2 (.slice (some ⟨gt, 0, none⟩) n n)).drew
    have hbf := hide (((hb3.drew.setCell (p := ⟨w.heap.size, 0, none⟩) (Nat.le_refl _) (.slice (some ⟨gl, 0, none⟩) n n)).setCell (p := ⟨w.heap.size, 1, none⟩) (Nat.le_refl _) (.slice (some ⟨gh, 0, none⟩) n n)).setCell (p := ⟨w.heap.size, 2, none⟩) (Nat.le_refl _) (.slice (some ⟨gt, 0, none⟩) n n))
    clear hres hb3
    go_wp2_with fail
    go_region_held3 (fun W => W.cell? ⟨T, 0, none⟩ = some (.slice (some ⟨gl, 0, none⟩) n n) ∧ W.cell? ⟨T, 1, none⟩ = some (.slice (some ⟨gh, 0, none⟩) n n) ∧ W.cell? ⟨T, 2, none⟩ = some (.slice (some ⟨gt, 0, none⟩) n n)) (go_keep) ((fail))
    go_wp2_with fail
    have x0 := hfin.out.cell 0
    have x1 := hfin.out.cell 1
    have x2 := hfin.out.cell 2
    refine bodyPost_ret (v := .tuple #[.slice (some ⟨g, 0, none⟩) n cap, treeV gl gh gt n, I r.2]) (by rw [← hm1.out]; simp at x0 x1 x2; simp [results, Tryz.results215, go_sem, x0, x1, x2, treeV]) rfl ⟨_, gl, gh, gt, rfl, hbf.out⟩
 ·have hdc : decide (0 ≤ r.2) = true := by simpa using h0
  go_enter Tryz.func215, Tryz.ntmps215
  go_wp2_with (first
   | (go_at_call 218; refine (diffs_all _ n _ (by omega)).mono ?_; rintro e w1 ⟨va, rfl, ho1, hb1⟩; replace ho1 := hide ho1; replace hb1 := hide hb1)
   | (go_at_call 216; refine (diffs_grow _ _ n ds (allF n) _ N.out.hn N.out.h1 N.out.hdl N.out.hds N.out.hdm hall.out N.out.hne (hd.out.mono (bup (below1 _ _) hb1.out)) (ho1.out.sl intC_len (by simp; omega))).mono ?_; rw [hr.out]; rintro e w2 ⟨gl, gh, gt, rfl, hgt, hb2⟩; simp only [treeV]; replace hgt := hide hgt; replace hb2 := hide hb2))
  have hb12 : Below w.heap.size w w2 := bup (bup (below1 _ _) hb1.out) hb2.out
  have hs12 : w.heap.size + 1 ≤ w2.heap.size := by have h3 := hb1.out.size; have h4 := hb2.out.size; simp at h3; omega
  have hT := Blk.new w2 249 #[Value.slice (some ⟨gl, 0, none⟩) n n, Value.slice (some ⟨gh, 0, none⟩) n n, Value.slice (some ⟨gt, 0, none⟩) n n]
  have hres := (((Blk.new w 249 #[Value.slice none 0 0, Value.slice none 0 0, Value.slice none 0 0]).below hb1.out (by simp)).below hb2.out (by have h3 := hb1.out.size; simp at h3; omega)).alloc (Obj.cells #[Value.slice (some ⟨gl, 0, none⟩) n n, Value.slice (some ⟨gh, 0, none⟩) n n, Value.slice (some ⟨gt, 0, none⟩) n n] 249)
  have hb3 := hb12.alloc (by omega) (Obj.cells #[Value.slice (some ⟨gl, 0, none⟩) n n, Value.slice (some ⟨gh, 0, none⟩) n n, Value.slice (some ⟨gt, 0, none⟩) n n] 249)
  have hlo := hgt.out.long.alloc (Obj.cells #[Value.slice (some ⟨gl, 0, none⟩) n n, Value.slice (some ⟨gh, 0, none⟩) n n, Value.slice (some ⟨gt, 0, none⟩) n n] 249)
  have hgs := hgt.out.b1
  obtain ⟨T, hTe⟩ : ∃ T, T = w2.heap.size := ⟨_, rfl⟩
  obtain ⟨W3, hW3⟩ : ∃ W3, W3 = w2.alloc (Obj.cells #[Value.slice (some ⟨gl, 0, none⟩) n n, Value.slice (some ⟨gh, 0, none⟩) n n, Value.slice (some ⟨gt, 0, none⟩) n n] 249) := ⟨_, rfl⟩
  rw [← hW3] at hT hres hb3 hlo ⊢
  rw [← hTe] at hT hs12 ⊢
  replace hgs : w.heap.size + 1 ≤ gl := by have h3 := hb1.out.size; simp at h3; omega
  clear hW3 hTe hb12 hb1 hb2 ho1
  obtain ⟨c0, c1, c2⟩ := hT.cells3
  have d0 := hres.cell 0
  have d1 := hres.cell 1
  have d2 := hres.cell 2
  have r0 := hres.frozen 0
  have r1 := hres.frozen 1
  have r2 := hres.frozen 2
  have hRs := hres.lt
  have hTR : ¬ T = w.heap.size := by omega
  have hRT : ¬ w.heap.size = T := by omega
  have hfin := hide (((hres.set_ 0 (.slice (some ⟨gl, 0, none⟩) n n)).set_ 1 (.slice (some ⟨gh, 0, none⟩) n n)).set_ 2 (.slice (some ⟨gt, 0, none⟩) n n)).drew
  have hbf := hide (((hb3.drew.setCell (p := ⟨w.heap.size, 0, none⟩) (Nat.le_refl _) (.slice (some ⟨gl, 0, none⟩) n n)).setCell (p := ⟨w.heap.size, 1, none⟩) (Nat.le_refl _) (.slice (some ⟨gh, 0, none⟩) n n)).setCell (p := ⟨w.heap.size, 2, none⟩) (Nat.le_refl _) (.slice (some ⟨gt, 0, none⟩) n n))
  clear hT hres hb3 hlo hgt
  go_region_held3 (fun W => W.cell? ⟨T, 0, none⟩ = some (.slice (some ⟨gl, 0, none⟩) n n) ∧ W.cell? ⟨T, 1, none⟩ = some (.slice (some ⟨gh, 0, none⟩) n n) ∧ W.cell? ⟨T, 2, none⟩ = some (.slice (some ⟨gt, 0, none⟩) n n)) (go_keep) ((fail))
  go_wp2_with fail
  have x0 := hfin.out.cell 0
  have x1 := hfin.out.cell 1
  have x2 := hfin.out.cell 2
  refine bodyPost_ret (v := .tuple #[.slice none 0 0, treeV gl gh gt n, I r.2]) (by simp at x0 x1 x2; simp [results, Tryz.results215, go_sem, x0, x1, x2, treeV]) rfl ⟨_, gl, gh, gt, rfl, hbf.out⟩
end Go.Proofs.YtgbbljfmngmjeaaGreat
