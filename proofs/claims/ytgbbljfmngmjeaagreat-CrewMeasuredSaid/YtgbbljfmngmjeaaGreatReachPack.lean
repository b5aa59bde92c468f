/- The package diffs: reach. Conditions stand in the theorems. -/
import Derived.Test.YtgbbljfmngmjeaaGreatGrow1Pack
import Derived.Test.YtgbbljfmngmjeaaGreatBasinDefsPack
import Derived.Test.YtgbbljfmngmjeaaGreatPlugPack
set_option linter.all false
set_option maxHeartbeats 4000000
set_option maxRecDepth 100000
namespace Go.Proofs.YtgbbljfmngmjeaaGreat
open Go.RowKit

section
variable {wr w' : World} {base gl gh gt n : Nat} {s : Wk}
theorem GT.far (h : GT wr base gl gh gt n s) {p : Addr} (hp : p.block < base) (v : Value) : GT (wr.setCell p v) base gl gh gt n s :=
 ⟨h.long.far (by have := h.b1; omega) v, h.has.far (by have := h.b2; omega) v, h.last.far (by have := h.b3; omega) v, h.ll, h.lh, h.lt, h.b1, h.b2, h.b3⟩
theorem GT.alloc (h : GT wr base gl gh gt n s) (o : Obj) : GT (wr.alloc o) base gl gh gt n s := ⟨h.long.alloc o, h.has.alloc o, h.last.alloc o, h.ll, h.lh, h.lt, h.b1, h.b2, h.b3⟩
theorem GT.mono {base' : Nat} (h : GT wr base gl gh gt n s) (hb : base' ≤ base) : GT wr base' gl gh gt n s := ⟨h.long, h.has, h.last, h.ll, h.lh, h.lt, Nat.le_trans hb h.b1, Nat.le_trans hb h.b2, Nat.le_trans hb h.b3⟩
theorem GT.grow (h : GT wr base gl gh gt n s) (hb : Below wr.heap.size wr w') : GT w' base gl gh gt n s := ⟨h.long.grow hb, h.has.grow hb, h.last.grow hb, h.ll, h.lh, h.lt, h.b1, h.b2, h.b3⟩
end

theorem diffs_reach_bad (vd : Value) (n m : Nat) (ds : List Diff) (w : World) (N : NetOk n ds) (hd : Sl w 3 Diff.cells vd ds) (hg : 0 ≤ (growF n ds (allF n)).2) :
  Calls Tryz.prog 209 #[.agg #[I n, vd], I m] w fun e w' => e = .returned (.tuple #[.agg #[.slice none 0 0, .slice none 0 0, .slice none 0 0], I 41]) ∧ Below w.heap.size w w' := by
 obtain ⟨A, c, rfl, _, _, hlen, hA⟩ := hd.open_
 replace hd := hide hd
 replace N := hide N
 clear hA
 obtain ⟨b, hb⟩ : ∃ b, (growF n ds (allF n)).2 = b := ⟨_, rfl⟩
 rw [hb] at hg
 replace hb := hide hb
 have hdc : decide (0 ≤ b) = true := by simpa using hg
 go_enter Tryz.func209, Tryz.ntmps209
 go_wp2_with (go_at_call 215; refine (diffs_solve _ n ds _ N.out (hd.out.mono (below2 _ _ _))).mono ?_; rw [hb.out]; rintro e w1 ⟨v, gl, gh, gt, rfl, hb1⟩; simp only [treeV]; have k1 := (blk21 w 249 #[Value.slice none 0 0, Value.slice none 0 0, Value.slice none 0 0] _).grow hb1; have c0 := k1.cell 0; have c1 := k1.cell 1; have c2 := k1.cell 2; have f0 := k1.frozen 0; have f1 := k1.frozen 1; have f2 := k1.frozen 2; have hlt := k1.lt; replace k1 := hide k1; replace hb1 := hide hb1)
 have hb2 := bup (below2 _ _ _) hb1.out
 have hsz := hb1.out.size
 have hk := ((((k1.out.set_ 0 (.slice none 0 0)).set_ 1 (.slice none 0 0)).set_ 2 (.slice none 0 0)).alloc (Obj.cells #[Value.slice (some ⟨gl, 0, none⟩) n n, Value.slice (some ⟨gh, 0, none⟩) n n, Value.slice (some ⟨gt, 0, none⟩) n n] 249))
 have x0 := hk.cell 0
 have x1 := hk.cell 1
 have x2 := hk.cell 2
 refine bodyPost_ret (v := .tuple #[.agg #[.slice none 0 0, .slice none 0 0, .slice none 0 0], I 41]) (by simp at x0 x1 x2; simp [results, Tryz.results209, go_sem, x0, x1, x2]) rfl ⟨rfl, ?_⟩
 exact (bset (bset (bset hb2 (w.heap.size + 1) 0 (Nat.le_succ _) _) (w.heap.size + 1) 1 (Nat.le_succ _) _) (w.heap.size + 1) 2 (Nat.le_succ _) _).alloc (by simp at hsz ⊢; omega) _

theorem diffs_reach_ok (vd : Value) (n m : Nat) (ds : List Diff) (w : World) (N : NetOk n ds) (hm : m < n) (hd : Sl w 3 Diff.cells vd ds) (hg : (growF n ds (allF n)).2 < 0) :
  Calls Tryz.prog 209 #[.agg #[I n, vd], I m] w fun e w' => ∃ gl gh gt, e = .returned (.tuple #[treeV gl gh gt n, I 0]) ∧ GT w' w.heap.size gl gh gt n (growF n ds [(m : Int)]).1 ∧ Below w.heap.size w w' := by
 obtain ⟨A, c, rfl, _, _, hlen, hA⟩ := hd.open_
 replace hd := hide hd
 replace N := hide N
 clear hA
 obtain ⟨b, hb⟩ : ∃ b, (growF n ds (allF n)).2 = b := ⟨_, rfl⟩
 rw [hb] at hg
 replace hb := hide hb
 have hdc : decide (0 ≤ b) = false := by simp; omega
 go_enter Tryz.func209, Tryz.ntmps209
 go_wp2_with (first
  | (go_at_call 215; refine (diffs_solve _ n ds _ N.out (hd.out.mono (below2 _ _ _))).mono ?_; rw [hb.out]; rintro e w1 ⟨v, gl, gh, gt, rfl, hb1⟩; simp only [treeV]; have k1 := (blk21 w 249 #[Value.slice none 0 0, Value.slice none 0 0, Value.slice none 0 0] _).grow hb1; have k0 := (blk20 w 189 #[I n, .slice A ds.length c] _).grow hb1; have a0 := k0.cell 0; have a1 := k0.cell 1; have hlt0 := k0.lt; have hlt := k1.lt; replace k1 := hide k1; replace k0 := hide k0; replace hb1 := hide hb1))
 go_at_call 216
 refine (diffs_grow _ _ n ds [(m : Int)] _ N.out.hn N.out.h1 N.out.hdl N.out.hds N.out.hdm (by intro x hx; simp at hx; subst hx; omega) N.out.hne (hd.out.mono (((bup (below2 _ _ _) hb1.out).alloc (by omega) _).alloc (by simp; omega) _)) ((blk21 w1 3 #[I m] _).sl_int (n := 1) (xs := [(m : Int)]) rfl (by omega))).mono ?_
 rintro e w2 ⟨hl, hh, ht, rfl, hgt, hb2⟩
 simp only [treeV]
 have k2 := ((k1.out.alloc _).alloc _).grow hb2
 have c0 := k2.cell 0
 have c1 := k2.cell 1
 have c2 := k2.cell 2
 have f0 := k2.frozen 0
 have f1 := k2.frozen 1
 have f2 := k2.frozen 2
 have hlt2 := k2.lt
 replace k2 := hide k2
 replace hb2 := hide hb2
 replace hgt := hide hgt
 clear a0 a1
 go_wp2_with fail
 have hsz := hb1.out.size
 have hsz2 := hb2.out.size
 simp at hsz hsz2
 have hb3 := bup (((bup (below2 _ _ _) hb1.out).alloc (by omega) _).alloc (by simp; omega) _) hb2.out
 have hk := ((((k2.out.set_ 0 (.slice (some ⟨hl, 0, none⟩) n n)).set_ 1 (.slice (some ⟨hh, 0, none⟩) n n)).set_ 2 (.slice (some ⟨ht, 0, none⟩) n n)).alloc (Obj.cells #[Value.slice (some ⟨hl, 0, none⟩) n n, Value.slice (some ⟨hh, 0, none⟩) n n, Value.slice (some ⟨ht, 0, none⟩) n n] 249))
 have x0 := hk.cell 0
 have x1 := hk.cell 1
 have x2 := hk.cell 2
 refine bodyPost_ret (v := .tuple #[treeV hl hh ht n, I 0]) (by simp at x0 x1 x2; simp [results, Tryz.results209, go_sem, x0, x1, x2, treeV]) rfl ⟨hl, hh, ht, rfl, ?_, ?_⟩
 ·have hW : w.heap.size + 1 < ((w1.alloc (Obj.cells #[Value.slice (some ⟨gl, 0, none⟩) n n, Value.slice (some ⟨gh, 0, none⟩) n n, Value.slice (some ⟨gt, 0, none⟩) n n] 249)).alloc (Obj.cells #[I m] 3)).heap.size := by simp; omega
  exact ((((hgt.out.far (p := ⟨w.heap.size + 1, 0, none⟩) hW _).far (p := ⟨w.heap.size + 1, 1, none⟩) hW _).far (p := ⟨w.heap.size + 1, 2, none⟩) hW _).alloc _).mono (by omega)
 ·exact (bset (bset (bset hb3 (w.heap.size + 1) 0 (Nat.le_succ _) _) (w.heap.size + 1) 1 (Nat.le_succ _) _) (w.heap.size + 1) 2 (Nat.le_succ _) _).alloc (by simp; omega) _

theorem Blk.sl_bool {w : World} {g n : Nat} {xs : List Bool} (h : Blk w g 4 (xs.map Value.bool).toArray) (hn : xs.length = n) (hb : n ≤ 65536) : Sl w 1 boolC (.slice (some ⟨g, 0, none⟩) n n) xs :=
 (own_row (base := 0) boolC_len h (Nat.zero_le _) (by unfold maxLen; omega) (Nat.le_refl _) (by simp [hn]) (by rw [flat_bool, List.take_of_length_le (by simp [hn])])).sl boolC_len (by omega)

theorem diffs_ends (vd : Value) (n : Nat) (ds : List Diff) (w : World) (N : NetOk n ds) (hd : Sl w 3 Diff.cells vd ds) :
  Calls Tryz.prog 188 #[.agg #[I n, vd]] w fun e w' => ∃ v, e = .returned (.tuple #[v, I (endsE n ds)]) ∧ (endsE n ds = 0 → ∃ g, v = .slice (some ⟨g, 0, none⟩) n n ∧ w.heap.size ≤ g ∧ Blk w' g 3 ((endsL n ds).map I).toArray) ∧
   (endsE n ds ≠ 0 → v = .slice none 0 0) ∧ Below w.heap.size w w' := by
 obtain ⟨A, c, rfl, _, _, hlen, hA⟩ := hd.open_
 replace hd := hide hd
 replace N := hide N
 clear hA
 rcases ilt (growF n ds (allF n)).2 0 with hg | hg
 ·have hel : endsL n ds = (growF n ds [0]).1.long := rfl
  have hlen2 := growF_len n ds [0]
  cases hh : (growF n ds [0]).1.has.any (fun x => x == false) with
  | true =>
   have hE : endsE n ds = 42 := by simp only [endsE]; rw [if_neg (by omega), if_pos hh]
   rw [hE]
   replace hE := hide hE
   go_enter Tryz.func188, Tryz.ntmps188
   go_wp2_with fail
   go_at_call 209
   refine (diffs_reach_ok _ n 0 ds _ N.out (by have := N.out.h1; omega) (hd.out.mono (below1 _ _)) hg).mono ?_
   rintro e w1 ⟨gl, gh, gt, rfl, hgt, hb1⟩
   simp only [treeV]
   have hsz := hb1.size
   simp at hsz
   go_wp2_with fail
   go_at_call 203
   refine (contains_bool _ (growF n ds [0]).1.has false _ ((hgt.alloc _).has.sl_bool hlen2.2 (by have := N.out.hn; omega))).mono ?_
   rw [hh]
   rintro e w2 ⟨rfl, rfl⟩
   go_wp2_with fail
   go_ret2
   exact ⟨_, rfl, fun h => absurd h (by omega), fun _ => rfl, (bup (below1 _ _) hb1).alloc (by omega) _⟩
  | false =>
   have hE : endsE n ds = 0 := by simp only [endsE]; rw [if_neg (by omega), if_neg (by rw [hh]; simp)]
   rw [hE]
   replace hE := hide hE
   go_enter Tryz.func188, Tryz.ntmps188
   go_wp2_with fail
   go_at_call 209
   refine (diffs_reach_ok _ n 0 ds _ N.out (by have := N.out.h1; omega) (hd.out.mono (below1 _ _)) hg).mono ?_
   rintro e w1 ⟨gl, gh, gt, rfl, hgt, hb1⟩
   simp only [treeV]
   have hsz := hb1.size
   simp at hsz
   go_wp2_with fail
   go_at_call 203
   refine (contains_bool _ (growF n ds [0]).1.has false _ ((hgt.alloc _).has.sl_bool hlen2.2 (by have := N.out.hn; omega))).mono ?_
   rw [hh]
   rintro e w2 ⟨rfl, rfl⟩
   go_wp2_with fail
   go_ret2
   exact ⟨_, rfl, fun _ => ⟨gl, rfl, by have := hgt.b1; simp at this; omega, (hgt.alloc _).long⟩, fun h => absurd rfl h, (bup (below1 _ _) hb1).alloc (by omega) _⟩
 ·have hE : endsE n ds = 41 := by simp only [endsE]; rw [if_pos hg]
  rw [hE]
  go_enter Tryz.func188, Tryz.ntmps188
  go_wp2_with fail
  go_at_call 209
  refine (diffs_reach_bad _ n 0 ds _ N.out (hd.out.mono (below1 _ _)) hg).mono ?_
  rintro e w1 ⟨rfl, hb1⟩
  have hsz := hb1.size
  simp at hsz
  go_wp2_with fail
  go_ret2
  exact ⟨_, rfl, fun h => absurd h (by omega), fun _ => rfl, (bup (below1 _ _) hb1).alloc (by omega) _⟩

theorem NetOk.netE {n : Nat} {ds : List Diff} (N : NetOk n ds) : netE n ds = 0 := by
 have h1 := N.h1
 have hn := N.hn
 have hall : ds.all (diffOk n) = true := by
  rw [List.all_eq_true]; intro d hd
  have a := N.hds d hd
  have b := N.hdm d hd
  simp only [diffOk, Bool.and_eq_true, inB_true]
  omega
 simp only [Proofs.YtgbbljfmngmjeaaGreat.netE, netOk, hall, decide_eq_true N.hdl, inB_true.2 (show (1 : Int) ≤ n ∧ (n : Int) ≤ 256 by omega)]
 rfl
theorem NetOk.turn {n : Nat} {ds : List Diff} (N : NetOk n ds) : NetOk n (ds.map turnD) := by
 refine ⟨N.hn, N.h1, by simpa using N.hdl, ?_, ?_, ?_⟩
 all_goals
  intro d hd
  obtain ⟨x, hx, rfl⟩ := List.mem_map.1 hd
 ·have := N.hds x hx; simp only [turnD]; omega
 ·exact N.hdm x hx
 ·exact fun h => N.hne x hx h.symm

theorem diffs_Top (vd : Value) (n : Nat) (ds : List Diff) (w : World) (N : NetOk n ds) (hd : Sl w 3 Diff.cells vd ds) :
  Calls Tryz.prog 147 #[.agg #[I n, vd]] w fun e w' => ∃ v, e = .returned (.tuple #[v, I (endsE n ds)]) ∧ (endsE n ds = 0 → ∃ g, v = .slice (some ⟨g, 0, none⟩) n n ∧ w.heap.size ≤ g ∧ Blk w' g 3 ((endsL n ds).map I).toArray) ∧
   (endsE n ds ≠ 0 → v = .slice none 0 0) ∧ Below w.heap.size w w' := by
 obtain ⟨A, c, rfl, _, _, hlen, hA⟩ := hd.open_
 have hE := N.netE
 replace hd := hide hd
 replace N := hide N
 clear hA
 go_enter Tryz.func147, Tryz.ntmps147
 go_wp2_with fail
 go_at_call 187
 refine (diffs_Check _ n ds _ (hd.out.mono (below1 _ _))).mono ?_
 rw [hE]
 rintro e w1 ⟨rfl, hb1⟩
 have k0 := (Blk.new w 189 #[I n, .slice A ds.length c]).grow hb1
 have a0 := k0.cell 0
 have a1 := k0.cell 1
 have hlt := k0.lt
 clear k0
 go_wp2_with fail
 go_at_call 188
 refine (diffs_ends _ n ds _ N.out (hd.out.mono (bup (below1 _ _) hb1))).mono ?_
 rintro e w2 ⟨v, rfl, h1, h2, hb2⟩
 go_wp2_with fail
 go_ret2
 refine ⟨v, rfl, fun h => ?_, h2, bup (bup (below1 _ _) hb1) hb2⟩
 obtain ⟨g, q1, q2, q3⟩ := h1 h
 exact ⟨g, q1, by omega, q3⟩

theorem Blk.set_int {w : World} {g : Nat} {xs : List Int} (h : Blk w g 3 (xs.map I).toArray) (i : Nat) (x : Int) : Blk (w.setCell ⟨g, i, none⟩ (I x)) g 3 ((xs.set i x).map I).toArray := by
 have := h.set_ i (I x)
 rw [List.map_set]; simpa using this

theorem diffs_Bottom (vd : Value) (n : Nat) (ds : List Diff) (w : World) (N : NetOk n ds) (hd : Sl w 3 Diff.cells vd ds) :
  Calls Tryz.prog 196 #[.agg #[I n, vd]] w fun e w' => ∃ v, e = .returned (.tuple #[v, I (endsE n (ds.map turnD))]) ∧ (endsE n (ds.map turnD) = 0 → ∃ g, v = .slice (some ⟨g, 0, none⟩) n n ∧ w.heap.size ≤ g ∧ Blk w' g 3 ((botL n ds).map I).toArray) ∧
   (endsE n (ds.map turnD) ≠ 0 → v = .slice none 0 0) ∧ Below w.heap.size w w' := by
 obtain ⟨A, c, rfl, _, _, hlen, hA⟩ := hd.open_
 have hE := N.netE
 have hn := N.hn
 have hwi := growF_within (n := n) [0] N.turn.hdm N.turn.hdl N.hn
 have hln := (growF_len n (ds.map turnD) [0]).1
 obtain ⟨b, hb⟩ : ∃ b, endsE n (ds.map turnD) = b := ⟨_, rfl⟩
 obtain ⟨L, hL⟩ : ∃ L, endsL n (ds.map turnD) = L := ⟨_, rfl⟩
 have hbl : botL n ds = L.map fun x => -x := by rw [botL, hL]
 rw [hb, hbl]
 have hwi : Within 1125899906842624 L := by rw [← hL]; exact hwi
 have hln : L.length = n := by rw [← hL]; exact hln
 replace hb := hide hb
 replace hL := hide hL
 replace hwi := hide hwi
 replace hd := hide hd
 replace N := hide N
 clear hA hbl
 go_enter Tryz.func196, Tryz.ntmps196
 go_wp2_with fail
 go_at_call 187
 refine (diffs_Check _ n ds _ (hd.out.mono (below1 _ _))).mono ?_
 rw [hE]
 rintro e w1 ⟨rfl, hb1⟩
 have k0 := (Blk.new w 189 #[I n, .slice A ds.length c]).grow hb1
 have a0 := k0.cell 0
 have a1 := k0.cell 1
 have hlt := k0.lt
 clear k0
 go_wp2_with fail
 go_at_call 212
 refine (diffs_turned _ n ds _ (hd.out.mono (bup (below1 _ _) hb1)) (by have := N.out.hdl; omega)).mono ?_
 rintro e w2 ⟨vt, rfl, hot, hb2⟩
 go_wp2_with fail
 go_at_call 188
 refine (diffs_ends _ n (ds.map turnD) _ N.out.turn (hot.sl Diff.cells_len (by have := N.out.hdl; simp; omega))).mono ?_
 rw [hb.out, hL.out]
 rintro e w3 ⟨v, rfl, h1, h2, hb3⟩
 have hb4 := bup (bup (bup (below1 _ _) hb1) hb2) hb3
 have hsz1 := hb1.size
 have hsz2 := hb2.size
 simp at hsz1
 by_cases hb0 : b = 0
 ·obtain ⟨g, rfl, hg, hblk⟩ := h1 hb0
  subst hb0
  replace hblk := hide hblk
  replace hb4 := hide hb4
  clear h1 h2 hot hb1 hb2 hb3 a0 a1
  go_wp2_with fail
  go_loopw [21] (fun i wr => ∃ k : Nat, k ≤ n ∧ i = I k ∧ (∃ xs : List Int, Hid (Blk wr g 3 (xs.map I).toArray) ∧ xs.length = n ∧ Hid (∀ j, xs[j]? = if j < k then (L[j]?).map (fun x => -x) else L[j]?)) ∧ Hid (Below w.heap.size w wr)) (fun i _ => n - (intOf i).toNat)
  case atStart => exact ⟨0, Nat.zero_le _, rfl, ⟨L, hblk, hln, hide fun j => by simp⟩, hb4⟩
  case round =>
   obtain ⟨k, hk, rfl, ⟨xs, ho, hxn, hxj⟩, hbr⟩ := hrel
   clear hblk hb4
   by_cases hlt2 : k < n
   ·obtain ⟨x, hx⟩ := getElem?_of_lt (xs := xs) (k := k) (by omega)
    have hxl : L[k]? = some x := by rw [← hx, hxj.out k, if_neg (by omega)]
    have hqx := hwi.out k
    rw [getD0 hxl] at hqx
    have hc : wr.cell? ⟨g, k, none⟩ = some (I x) := by rw [ho.out.cell k]; simp [hx]
    have hf := ho.out.frozen k
    have hgw := ho.out.lt
    have hnew := hide (ho.out.set_int k (-x))
    have hb5 := hide (bset hbr.out g k (by omega) (I (-x)))
    have hwr : IntKind.i64.wrap (-x) = -x := IntWalk.i64_in _ (by omega)
    replace hx := hide hx
    replace hxl := hide hxl
    clear ho hbr
    go_wp2_with fail
    go_roundw
    case rel =>
     refine ⟨k + 1, by omega, by go_num, ⟨_, hnew, by simpa using hxn, hide fun j => ?_⟩, hb5⟩
     rw [List.getElem?_set]
     by_cases e : k = j
     ·subst e; simp [hxl.out, hxn, hlt2]
     ·rw [if_neg e, hxj.out j]
      by_cases e2 : j < k
      ·rw [if_pos e2, if_pos (by omega)]
      ·rw [if_neg e2, if_neg (by omega)]
    case measure => simp [intOf]; omega
   ·have he : n = k := by omega
    subst he
    have hxe : xs = L.map fun x => -x := by
     refine List.ext_getElem? fun j => ?_
     rw [hxj.out j, List.getElem?_map]
     by_cases e : j < n
     ·rw [if_pos e]
     ·rw [if_neg e, List.getElem?_eq_none (by omega)]; rfl
    replace hxe := hide hxe
    go_wp2_with fail
    go_ret2
    exact ⟨_, rfl, ⟨g, rfl, by omega, by have := ho.out; rw [hxe.out] at this; simpa using this⟩, hbr.out⟩
 ·obtain rfl := h2 hb0
  clear h1 h2 hot hb1 hb2 hb3 a0 a1
  go_wp2_with fail
  go_loop [21] (fun i => i = I 0) (fun _ => 0)
  case atStart => rfl
  case round =>
   subst hrel
   go_wp2_with fail
   go_ret2
   exact ⟨_, rfl, rfl, hb4⟩

theorem idxBy_at {α : Type} (p : α → Bool) : ∀ (xs : List α), 0 ≤ idxBy p xs → ∃ x, xs[(idxBy p xs).toNat]? = some x ∧ p x = true
 | [], h => by simp [idxBy] at h
 | x :: xs, h => by
  by_cases hp : p x = true
  ·exact ⟨x, by simp [idxBy, hp], hp⟩
  ·by_cases h0 : idxBy p xs < 0
   ·simp [idxBy, hp, h0] at h
   ·obtain ⟨y, hy, hpy⟩ := idxBy_at p xs (by omega)
    refine ⟨y, ?_, hpy⟩
    simp only [idxBy, hp, h0]
    have : (idxBy p xs + 1).toNat = (idxBy p xs).toNat + 1 := by omega
    simp [this, hy]
theorem idxBy_lt {α : Type} {p : α → Bool} {xs : List α} (h : 0 ≤ idxBy p xs) : idxBy p xs < xs.length := by
 obtain ⟨x, hx, _⟩ := idxBy_at p xs h
 have := (List.getElem?_eq_some_iff.1 hx).1
 omega
theorem placeD_inj {ds : List Int} {a b : Int} (ha : 0 ≤ placeD ds a) (h : placeD ds a = placeD ds b) : a = b := by
 obtain ⟨x, hx, hpx⟩ := idxBy_at _ ds ha
 obtain ⟨y, hy, hpy⟩ := idxBy_at (fun x => x == b) ds (by rw [h] at ha; exact ha)
 have e : (idxBy (fun x => x == a) ds).toNat = (idxBy (fun x => x == b) ds).toNat := by
  have : idxBy (fun x => x == a) ds = idxBy (fun x => x == b) ds := h
  rw [this]
 rw [e, hy] at hx
 cases hx
 rw [← beq_iff_eq.1 hpx, ← beq_iff_eq.1 hpy]
theorem hasD_place {ds : List Int} {a : Int} (h : hasD ds a = true) : 0 ≤ placeD ds a := by
 have := idxBy_nonneg (fun x => x == a) ds
 rw [show ds.any (fun x => x == a) = true from h] at this
 exact of_decide_eq_true this

theorem node_lt {n m : Nat} {c d : Int} (hc0 : 0 ≤ c) (hc : c < n) (hd0 : 0 ≤ d) (hd : d < m) : 1 ≤ nodeF n c d ∧ nodeF n c d < ((1 + m * n : Nat) : Int) := by
 have h1 : (d + 1) * (n : Int) ≤ (m : Int) * n := Int.mul_le_mul_of_nonneg_right (by omega) (by omega)
 have h2 : 0 ≤ d * (n : Int) := Int.mul_nonneg hd0 (by omega)
 rw [Int.add_mul] at h1
 simp only [nodeF]
 push_cast
 omega
theorem node_inj {n : Nat} {c d d' : Int} (hn : 1 ≤ n) (h : nodeF n c d = nodeF n c d') : d = d' := by
 simp only [nodeF] at h
 exact Int.eq_of_mul_eq_mul_right (show (n : Int) ≠ 0 by omega) (by omega)

theorem getD_some {α : Type} [Inhabited α] {l : List α} {i : Nat} (h : i < l.length) : l[i]? = some (l.getD i default) := by simp [h]
structure BasinOk (b : Basin) : Prop where
 hc1 : 1 ≤ b.cells.length
 hc2 : b.cells.length ≤ 12
 hp : b.pairs.length ≤ 24
 gain : 0 ≤ b.gain ∧ b.gain ≤ 65536
 slack : 0 ≤ b.slack ∧ b.slack ≤ 65536
 deep : 0 ≤ b.deep ∧ b.deep ≤ 65536
 cell : ∀ (i : Nat) (x : Cell), b.cells[i]? = some x → cellOk x = true
 pair : ∀ (i : Nat) (p : Int × Int), b.pairs[i]? = some p → pairOk b.cells p = true
theorem BasinOk.of {b : Basin} (h : basinOk b = true) : BasinOk b := by
 simp only [basinOk, Bool.and_eq_true, inB_true, decide_eq_true_eq, List.all_eq_true, List.mem_range] at h
 obtain ⟨⟨⟨⟨⟨⟨h1, h2⟩, h3⟩, h4⟩, h5⟩, h6⟩, h7⟩ := h
 refine ⟨by omega, by omega, h2, h3, h4, h5, fun i x hx => ?_, fun i p hp => ?_⟩
 ·have := h6 i (List.getElem?_eq_some_iff.1 hx).1
  simp only [cellGood, Bool.and_eq_true, getD_of hx] at this
  exact this.1
 ·have := h7 i (List.getElem?_eq_some_iff.1 hp).1
  simp only [pairGood, Bool.and_eq_true, getD_of hp] at this
  exact this.1
structure CellOk (c : Cell) : Prop where
 no : 0 ≤ c.no ∧ c.no ≤ 4095
 height : 0 ≤ c.height ∧ c.height ≤ 9000
 aspect : 0 ≤ c.aspect ∧ c.aspect ≤ 7
 area : 1 ≤ c.area ∧ c.area ≤ 4096
theorem CellOk.of {c : Cell} (h : cellOk c = true) : CellOk c := by
 simp only [cellOk, Bool.and_eq_true, inB_true] at h
 exact ⟨h.1.1.1, h.1.1.2, h.1.2, h.2⟩
theorem BasinOk.cells {b : Basin} (h : BasinOk b) {i : Nat} {p : Int × Int} (hp : b.pairs[i]? = some p) :
  ∃ (j k : Nat) (x y : Cell), p = ((j : Int), (k : Int)) ∧ j < b.cells.length ∧ k < b.cells.length ∧ j ≠ k ∧ b.cells[j]? = some x ∧ b.cells[k]? = some y ∧ x.height ≤ y.height ∧ CellOk x ∧ CellOk y := by
 have h1 := h.pair i p hp
 simp only [pairOk, Bool.and_eq_true, inB_true, decide_eq_true_eq, bne_iff_ne] at h1
 obtain ⟨⟨⟨⟨a1, a2⟩, ⟨a3, a4⟩⟩, hne⟩, hh⟩ := h1
 have hx : b.cells[p.1.toNat]? = some (b.cells.getD p.1.toNat default) := getD_some (by omega)
 have hy : b.cells[p.2.toNat]? = some (b.cells.getD p.2.toNat default) := getD_some (by omega)
 refine ⟨p.1.toNat, p.2.toNat, _, _, ?_, by omega, by omega, by omega, hx, hy, hh, .of (h.cell _ _ hx), .of (h.cell _ _ hy)⟩
 rw [Int.toNat_of_nonneg a1, Int.toNat_of_nonneg a3]
theorem more_bounds {g a b : Int} (hg : 0 ≤ g ∧ g ≤ 65536) (hab : a ≤ b) (ha : 0 ≤ a) (hb : b ≤ 9000) : 0 ≤ g * (b - a) ∧ g * (b - a) ≤ 589824000 := by
 have h1 : 0 ≤ g * (b - a) := Int.mul_nonneg hg.1 (by omega)
 have h2 : g * (b - a) ≤ 65536 * (b - a) := Int.mul_le_mul_of_nonneg_right hg.2 (by omega)
 omega

structure SceneOk (s : Scene) : Prop where
 basin : BasinOk s.basin
 hd1 : 1 ≤ s.days.length
 hd2 : s.days.length ≤ 16
 hsl : s.sights.length ≤ 256
 hcl : s.changes.length ≤ 256
 sight : ∀ x ∈ s.sights, sightOk s x = true
 change : ∀ x ∈ s.changes, changeOk s x = true
theorem SceneOk.of {s : Scene} (h : sceneE s = 0) : SceneOk s := by
 unfold sceneE at h
 split at h
 ·cases h
 split at h
 ·cases h
 split at h
 ·cases h
 split at h
 ·cases h
 split at h
 ·cases h
 rename_i h1 h2 h3 h4 h5
 rw [Bool.not_eq_false] at h1 h2 h4 h5
 simp only [daysOk, Bool.and_eq_true, inB_true] at h2
 exact ⟨.of h1, by omega, by omega, by omega, by omega, fun x hx => List.all_eq_true.1 h4 x hx, fun x hx => List.all_eq_true.1 h5 x hx⟩

theorem flatMap_len {α β : Type} {f : α → List β} {c : Nat} : ∀ (xs : List α), (∀ x ∈ xs, (f x).length ≤ c) → (xs.flatMap f).length ≤ xs.length * c
 | [], _ => by simp
 | x :: xs, h => by
  have h1 := h x (List.mem_cons_self ..)
  have h2 := flatMap_len xs fun y hy => h y (List.mem_cons_of_mem _ hy)
  simp only [List.flatMap_cons, List.length_append, List.length_cons, Nat.add_mul, Nat.one_mul]
  omega
theorem pairD_len (b : Basin) (d : Nat) (p : Int × Int) : (pairD b d p).length ≤ 2 := by
 unfold pairD; split <;> simp
theorem dayD_len (b : Basin) (d : Nat) : (dayD b d).length ≤ b.cells.length * 2 + b.pairs.length * 2 := by
 have h1 := flatMap_len (f := cellD b d) (c := 2) (List.range b.cells.length) fun _ _ => by simp [cellD]
 have h2 := flatMap_len (f := pairD b d) (c := 2) b.pairs fun p _ => pairD_len b d p
 simp only [dayD, List.length_append]
 simp only [List.length_range] at h1
 omega
theorem SceneOk.lay_len {s : Scene} (h : SceneOk s) : (layD s).length ≤ 2176 := by
 have h1 := flatMap_len (f := dayD s.basin) (c := 72) (List.range s.days.length) fun d _ => by
  have := dayD_len s.basin d
  have := h.basin.hc2
  have := h.basin.hp
  omega
 have h2 := flatMap_len (f := sightD s) (c := 2) s.sights fun _ _ => by simp [sightD]
 have h3 := flatMap_len (f := changeD s) (c := 2) s.changes fun _ _ => by simp [changeD]
 simp only [List.length_range] at h1
 have := h.hd2
 have := h.hsl
 have := h.hcl
 simp only [layD, List.length_append]
 omega

def DiffFits (n : Nat) (d : Diff) : Prop := (0 ≤ d.frm ∧ d.frm < n ∧ 0 ≤ d.to ∧ d.to < n) ∧ (-1073741824 ≤ d.most ∧ d.most ≤ 1073741824) ∧ d.frm ≠ d.to
theorem cellD_fits {s : Scene} (h : SceneOk s) {d c : Nat} (hd : d < s.days.length) (hc : c < s.basin.cells.length) : ∀ x ∈ cellD s.basin d c, DiffFits (nodesN s) x := by
 have h1 := node_lt (n := s.basin.cells.length) (m := s.days.length) (c := c) (d := d) (by omega) (by omega) (by omega) (by omega)
 have h2 := h.basin.deep
 intro x hx
 simp only [cellD, List.mem_cons, List.not_mem_nil, or_false] at hx
 rcases hx with rfl | rfl
 all_goals (simp only [DiffFits, nodesN]; omega)
theorem moreF_bounds {b : Basin} (h : BasinOk b) {i : Nat} {p : Int × Int} (hp : b.pairs[i]? = some p) : 0 ≤ moreF b p ∧ moreF b p ≤ 6000000 := by
 obtain ⟨j, k, x, y, rfl, hj, hk, hne, hx, hy, hh, ox, oy⟩ := h.cells hp
 have h1 := more_bounds h.gain hh ox.height.1 oy.height.2
 have h2 := h.slack
 simp only [moreF, Int.toNat_natCast, getD_of hx, getD_of hy]
 omega
theorem pairD_fits {s : Scene} (h : SceneOk s) {d i : Nat} (hd : d < s.days.length) {p : Int × Int} (hp : s.basin.pairs[i]? = some p) : ∀ x ∈ pairD s.basin d p, DiffFits (nodesN s) x := by
 have hm := moreF_bounds h.basin hp
 obtain ⟨j, k, x, y, rfl, hj, hk, hne, hx, hy, hh, ox, oy⟩ := h.basin.cells hp
 have h1 := node_lt (n := s.basin.cells.length) (m := s.days.length) (c := j) (d := d) (by omega) (by omega) (by omega) (by omega)
 have h2 := node_lt (n := s.basin.cells.length) (m := s.days.length) (c := k) (d := d) (by omega) (by omega) (by omega) (by omega)
 have h3 : nodeF s.basin.cells.length j d ≠ nodeF s.basin.cells.length k d := by simp only [nodeF]; omega
 have h4 := h.basin.slack
 intro z hz
 unfold pairD at hz
 split at hz
 ·simp only [List.mem_cons, List.not_mem_nil, or_false] at hz
  rcases hz with rfl | rfl
  ·simp only [DiffFits, nodesN]; omega
  ·simp only [DiffFits, nodesN]
   refine ⟨by omega, ?_, by omega⟩
   split <;> omega
 ·cases hz
theorem placeC_lt {s : Scene} {no : Int} (h : 0 ≤ placeC s.basin.cells no) : placeC s.basin.cells no < s.basin.cells.length := idxBy_lt h
theorem placeD_lt {s : Scene} {d : Int} (h : 0 ≤ placeD s.days d) : placeD s.days d < s.days.length := idxBy_lt h
structure SightOk (s : Scene) (x : Sight) : Prop where
 no : 0 ≤ x.no ∧ x.no ≤ 8191
 cell : 0 ≤ placeC s.basin.cells x.cell
 day : 0 ≤ placeD s.days x.day
 lo : 0 ≤ x.lo
 le : x.lo ≤ x.hi
 hi : x.hi ≤ 65536
theorem SightOk.of {s : Scene} {x : Sight} (h : sightOk s x = true) : SightOk s x := by
 simp only [sightOk, Bool.and_eq_true, inB_true, decide_eq_true_eq] at h
 exact ⟨h.1.1.1.1.1, h.1.1.1.1.2, hasD_place h.1.1.1.2, h.1.1.2, h.1.2, h.2⟩
structure ChangeOk (s : Scene) (x : Change) : Prop where
 lt : x.frm < x.to
 cell : 0 ≤ placeC s.basin.cells x.cell
 frm : 0 ≤ placeD s.days x.frm
 to : 0 ≤ placeD s.days x.to
 lo : -65536 ≤ x.lo
 le : x.lo ≤ x.hi
 hi : x.hi ≤ 65536
theorem ChangeOk.of {s : Scene} {x : Change} (h : changeOk s x = true) : ChangeOk s x := by
 simp only [changeOk, Bool.and_eq_true, decide_eq_true_eq] at h
 obtain ⟨⟨⟨⟨⟨⟨a, b⟩, c⟩, d⟩, e⟩, f⟩, g⟩ := h
 exact ⟨a, d, hasD_place b, hasD_place c, e, f, g⟩
theorem sightD_fits {s : Scene} {x : Sight} (h : SightOk s x) : ∀ z ∈ sightD s x, DiffFits (nodesN s) z := by
 have h1 := node_lt h.cell (placeC_lt h.cell) h.day (placeD_lt h.day)
 have := h.lo
 have := h.le
 have := h.hi
 intro z hz
 simp only [sightD, placeN, List.mem_cons, List.not_mem_nil, or_false] at hz
 rcases hz with rfl | rfl
 all_goals (simp only [DiffFits, nodesN]; omega)
theorem changeD_fits {s : Scene} (hs : SceneOk s) {x : Change} (h : ChangeOk s x) : ∀ z ∈ changeD s x, DiffFits (nodesN s) z := by
 have h1 := node_lt h.cell (placeC_lt h.cell) h.frm (placeD_lt h.frm)
 have h2 := node_lt h.cell (placeC_lt h.cell) h.to (placeD_lt h.to)
 have h3 : nodeF s.basin.cells.length (placeC s.basin.cells x.cell) (placeD s.days x.frm) ≠ nodeF s.basin.cells.length (placeC s.basin.cells x.cell) (placeD s.days x.to) := fun e => by
  have := placeD_inj h.frm (node_inj hs.basin.hc1 e)
  have := h.lt
  omega
 have := h.lo
 have := h.le
 have := h.hi
 intro z hz
 simp only [changeD, placeN, List.mem_cons, List.not_mem_nil, or_false] at hz
 rcases hz with rfl | rfl
 all_goals (simp only [DiffFits, nodesN]; omega)
theorem SceneOk.fits {s : Scene} (h : SceneOk s) : ∀ z ∈ layD s, DiffFits (nodesN s) z := by
 intro z hz
 simp only [layD, dayD, List.mem_append, List.mem_flatMap, List.mem_range] at hz
 rcases hz with (⟨d, hd, ⟨c, hc, hz⟩ | ⟨p, hp, hz⟩⟩ | ⟨x, hx, hz⟩) | ⟨x, hx, hz⟩
 ·exact cellD_fits h hd hc z hz
 ·obtain ⟨i, hi⟩ := List.getElem?_of_mem hp
  exact pairD_fits h hd hi z hz
 ·exact sightD_fits (.of (h.sight x hx)) z hz
 ·exact changeD_fits h (.of (h.change x hx)) z hz
theorem SceneOk.nodes {s : Scene} (h : SceneOk s) : 1 ≤ nodesN s ∧ nodesN s ≤ 193 := by
 have h1 : s.days.length * s.basin.cells.length ≤ 16 * 12 := Nat.mul_le_mul h.hd2 h.basin.hc2
 simp only [nodesN]; omega
theorem SceneOk.net {s : Scene} (h : SceneOk s) : NetOk (nodesN s) (layD s) := by
 have hn := h.nodes
 have hl := h.lay_len
 exact ⟨by omega, hn.1, by omega, fun d hd => (h.fits d hd).1, fun d hd => (h.fits d hd).2.1, fun d hd => (h.fits d hd).2.2⟩

theorem getD_mem {ds : List Diff} {i : Nat} (h : i < ds.length) : ds.getD i default ∈ ds := by
 rw [List.getD_eq_getElem?_getD, List.getElem?_eq_getElem h]; exact List.getElem_mem _
theorem pass_still {ds : List Diff} (hd : ∀ d ∈ ds, 0 ≤ d.to) {s : Wk} : ∀ k, k ≤ ds.length → (wkTo ds s k).ch < 0 → wkTo ds s k = { s with ch := -1 } ∧ ∀ i, i < k → Sat { s with ch := -1 } (ds.getD i default)
 | 0, _, _ => ⟨rfl, fun i hi => absurd hi (Nat.not_lt_zero _)⟩
 | k + 1, hk, hc => by
  simp only [wkTo] at hc ⊢
  unfold wkStep at hc ⊢
  split at hc
  ·have := hd _ (getD_mem (ds := ds) (i := k) (by omega)); dsimp only at hc; omega
  ·rename_i hb
   obtain ⟨h1, h2⟩ := pass_still hd k (by omega) hc
   rw [if_neg hb]
   refine ⟨h1, fun i hi => ?_⟩
   rcases Nat.lt_or_ge i k with h | h
   ·exact h2 i h
   ·have : i = k := by omega
    subst this
    rw [h1] at hb
    exact sat_of_not (by simpa using hb)
theorem sat_ch {s : Wk} {d : Diff} {c c' : Int} (h : Sat { s with ch := c } d) : Sat { s with ch := c' } d := h
theorem run_still {n : Nat} {ds : List Diff} (hd : ∀ d ∈ ds, 0 ≤ d.frm ∧ d.frm < n ∧ 0 ≤ d.to ∧ d.to < n) (frm : List Int) : ∀ (f j : Nat), f + j = n → 0 < f → (wkRun ds f (wkIter ds (wkInit n frm) j)).2 < 0 → ∀ d ∈ ds, Sat (wkRun ds f (wkIter ds (wkInit n frm) j)).1 d
 | 0, _, _, h0, _ => absurd h0 (Nat.lt_irrefl 0)
 | f + 1, j, hfj, _, h => by
  have hlen := wkIter_len ds (wkInit n frm) (j + 1)
  have hlen2 := wkInit_len n frm
  have hll : (wkPass ds (wkIter ds (wkInit n frm) j)).last.length = n := hlen.2.2.trans hlen2.2.2
  simp only [wkRun] at h ⊢
  by_cases hc : (wkPass ds (wkIter ds (wkInit n frm) j)).ch < 0
  ·rw [if_pos hc]
   obtain ⟨h1, h2⟩ := pass_still (fun d hd' => (hd d hd').2.2.1) ds.length (Nat.le_refl _) hc
   intro d hdm
   obtain ⟨i, hi⟩ := List.mem_iff_getElem?.1 hdm
   have hil := (List.getElem?_eq_some_iff.1 hi).1
   have h3 := h2 i hil
   rw [show ds.getD i default = d by rw [List.getD_eq_getElem?_getD, hi]; rfl] at h3
   show Sat (wkPass ds (wkIter ds (wkInit n frm) j)) d
   unfold wkPass
   rw [h1]
   exact h3
  ·rw [if_neg hc] at h ⊢
   by_cases hb : 0 ≤ loopF (wkPass ds (wkIter ds (wkInit n frm) j)).last ds (wkPass ds (wkIter ds (wkInit n frm) j)).last.length (wkPass ds (wkIter ds (wkInit n frm) j)).ch.toNat
   ·rw [if_pos hb] at h; exact absurd h (by simp only; omega)
   ·rw [if_neg hb] at h ⊢
    rcases Nat.eq_zero_or_pos f with h0 | h0
    ·subst h0
     exfalso
     have := grow_last hd frm (k := j) (by omega) (t := wkPass ds (wkIter ds (wkInit n frm) j)) rfl (by omega)
     rw [hll] at hb
     exact hb this
    ·exact run_still hd frm f (j + 1) (by omega) h0 h
theorem grow_still {n : Nat} {ds : List Diff} (hd : ∀ d ∈ ds, 0 ≤ d.frm ∧ d.frm < n ∧ 0 ≤ d.to ∧ d.to < n) (frm : List Int) (hn : 0 < n) (h : (growF n ds frm).2 < 0) : ∀ d ∈ ds, Sat (growF n ds frm).1 d :=
 run_still hd frm n 0 (by omega) hn h

theorem run_inv {ds : List Diff} {P : Wk → Prop} (hch : ∀ s c, P s → P { s with ch := c }) (hstep : ∀ s k, k < ds.length → P s → P (wkStep s k (ds.getD k default))) : ∀ (f : Nat) (s : Wk), P s → P (wkRun ds f s).1
 | 0, s, h => h
 | f + 1, s, h => by
  have hto : ∀ k, k ≤ ds.length → P (wkTo ds s k) := fun k => by
   induction k with
   | zero => intro _; exact hch _ _ h
   | succ k ih => intro hk; exact hstep _ _ (by omega) (ih (by omega))
  have hp : P (wkPass ds s) := hto _ (Nat.le_refl _)
  simp only [wkRun]
  split
  ·exact hp
  ·split
   ·exact hp
   ·exact run_inv hch hstep f _ hp

def AllHas (n : Nat) (s : Wk) : Prop := s.has.length = n ∧ ∀ i, i < n → s.has.getD i false = true
theorem foldl_set (n : Nat) : ∀ (l : List Int) (h : List Bool), h.length = n → (∀ i, i < n → h.getD i false = true ∨ (i : Int) ∈ l) → (∀ x ∈ l, 0 ≤ x) → ∀ i, i < n → (l.foldl (fun h i => h.set i.toNat true) h).getD i false = true
 | [], h, _, h1, _, i, hi => by rcases h1 i hi with h | h; exact h; cases h
 | x :: l, h, hl, h1, h2, i, hi => by
  refine foldl_set n l (h.set x.toNat true) (by simp [hl]) (fun j hj => ?_) (fun y hy => h2 y (List.mem_cons_of_mem _ hy)) i hi
  by_cases hx : x.toNat = j
  ·subst hx; exact .inl (getD_set_same (by omega) _ _)
  ·rw [getD_set_other hx]
   rcases h1 j hj with h | h
   ·exact .inl h
   ·rcases List.mem_cons.1 h with h | h
    ·subst h; simp at hx
    ·exact .inr h
theorem allHas_grow {n : Nat} {ds : List Diff} : AllHas n (growF n ds (allF n)).1 := by
 refine run_inv (P := AllHas n) (fun s c h => h) (fun s k hk h => ?_) n _ ?_
 ·unfold wkStep
  split
  ·refine ⟨by simp [h.1], fun i hi => ?_⟩
   by_cases hx : (ds.getD k default).to.toNat = i
   ·subst hx; exact getD_set_same (by rw [h.1]; exact hi) _ _
   ·rw [getD_set_other hx]; exact h.2 i hi
  ·exact h
 ·refine ⟨(wkInit_len n _).2.1, fun i hi => ?_⟩
  simp only [wkInit]
  refine foldl_set n (allF n) _ (by simp) (fun j hj => .inr ?_) (fun x hx => ?_) i hi
  ·simp only [allF, List.mem_map, List.mem_range]; exact ⟨j, hj, rfl⟩
  ·simp only [allF, List.mem_map] at hx; obtain ⟨a, _, rfl⟩ := hx; omega
theorem potential {n : Nat} {ds : List Diff} (hd : ∀ d ∈ ds, 0 ≤ d.frm ∧ d.frm < n ∧ 0 ≤ d.to ∧ d.to < n) (hn : 0 < n) (h : (growF n ds (allF n)).2 < 0) : ∃ π : Nat → Int, ∀ d ∈ ds, π d.to.toNat ≤ π d.frm.toNat + d.most := by
 refine ⟨fun i => (growF n ds (allF n)).1.long.getD i 0, fun d hdm => ?_⟩
 have hb := hd d hdm
 exact (grow_still hd _ hn h d hdm (allHas_grow.2 _ (by omega))).2
def Low (π : Nat → Int) (s : Wk) : Prop := ∀ i, s.has.getD i false = true → π i - π 0 ≤ s.long.getD i 0
theorem low_grow {n : Nat} {ds : List Diff} {π : Nat → Int} (hp : ∀ d ∈ ds, π d.to.toNat ≤ π d.frm.toNat + d.most) (hd : ∀ d ∈ ds, 0 ≤ d.frm ∧ d.frm < n ∧ 0 ≤ d.to ∧ d.to < n) : Low π (growF n ds [0]).1 := by
 have H : (fun s : Wk => Low π s ∧ s.long.length = n ∧ s.has.length = n) (growF n ds [0]).1 := by
  refine run_inv (P := fun s : Wk => Low π s ∧ s.long.length = n ∧ s.has.length = n) (fun s c h => h) (fun s k hk h => ?_) n _ ?_
  ·unfold wkStep
   split
   ·rename_i hb
    have hm := getD_mem hk
    have hpd := hp _ hm
    have hbd := hd _ hm
    refine ⟨fun i hi => ?_, by simp [h.2.1], by simp [h.2.2]⟩
    simp only at hi ⊢
    by_cases hx : (ds.getD k default).to.toNat = i
    ·subst hx
     rw [getD_set_same (by rw [h.2.1]; omega)]
     have hfh : s.has.getD (ds.getD k default).frm.toNat false = true := by
      unfold wkB at hb; simp only [Bool.and_eq_true] at hb; exact hb.1
     have := h.1 _ hfh
     omega
    ·rw [getD_set_other hx] at hi ⊢
     exact h.1 i hi
   ·exact h
  ·refine ⟨fun i hi => ?_, (wkInit_len n _).1, (wkInit_len n _).2.1⟩
   simp only [wkInit, List.foldl_cons, List.foldl_nil] at hi ⊢
   have h0 : i = 0 := by
    by_cases hx : (0 : Int).toNat = i
    ·omega
    ·rw [getD_set_other hx] at hi
     simp [List.getD_eq_getElem?_getD, List.getElem?_replicate] at hi
     split at hi <;> simp_all
   subst h0
   simp [List.getD_eq_getElem?_getD, List.getElem?_replicate]
   split <;> simp
 exact H.1
def Up (n : Nat) (ds : List Diff) (m : Nat) (s : Wk) : Prop := s.long.length = n ∧ s.has.length = n ∧ s.has.getD 0 false = true ∧ s.long.getD 0 0 ≤ 0 ∧ ∀ i, i < m → (ds.getD i default).frm = 0 → s.has.getD (ds.getD i default).to.toNat false = true ∧ s.long.getD (ds.getD i default).to.toNat 0 ≤ (ds.getD i default).most
theorem up_step {n : Nat} {ds : List Diff} (hd : ∀ d ∈ ds, 0 ≤ d.frm ∧ d.frm < n ∧ 0 ≤ d.to ∧ d.to < n) {m k : Nat} {s : Wk} (hk : k < ds.length) (h : Up n ds m s) : Up n ds m (wkStep s k (ds.getD k default)) := by
 obtain ⟨h1, h2, h3, h4, h5⟩ := h
 have hm := hd _ (getD_mem hk)
 unfold wkStep
 split
 ·rename_i hb
  have hmono : ∀ i, s.has.getD i false = true → (s.has.set (ds.getD k default).to.toNat true).getD i false = true ∧ (s.long.set (ds.getD k default).to.toNat (s.long.getD (ds.getD k default).frm.toNat 0 + (ds.getD k default).most)).getD i 0 ≤ s.long.getD i 0 := by
   intro i hi
   by_cases hx : (ds.getD k default).to.toNat = i
   ·subst hx
    rw [getD_set_same (by omega), getD_set_same (by omega)]
    refine ⟨rfl, ?_⟩
    unfold wkB at hb
    rw [hi] at hb
    simp at hb
    have := hb.2
    simp only [List.getD_eq_getElem?_getD]
    omega
   ·rw [getD_set_other hx, getD_set_other hx]; exact ⟨hi, Int.le_refl _⟩
  refine ⟨by simp [h1], by simp [h2], (hmono 0 h3).1, Int.le_trans (hmono 0 h3).2 h4, fun i hi hf => ?_⟩
  obtain ⟨a, b⟩ := h5 i hi hf
  exact ⟨(hmono _ a).1, Int.le_trans (hmono _ a).2 b⟩
 ·exact ⟨h1, h2, h3, h4, h5⟩
theorem up_now {n : Nat} {ds : List Diff} (hd : ∀ d ∈ ds, 0 ≤ d.frm ∧ d.frm < n ∧ 0 ≤ d.to ∧ d.to < n) {k : Nat} {s : Wk} (hk : k < ds.length) (h : Up n ds k s) : Up n ds (k + 1) (wkStep s k (ds.getD k default)) := by
 obtain ⟨h1, h2, h3, h4, h5⟩ := up_step hd hk h
 obtain ⟨g1, g2, g3, g4, g5⟩ := h
 have hm := hd _ (getD_mem hk)
 refine ⟨h1, h2, h3, h4, fun i hi hf => ?_⟩
 rcases Nat.lt_or_ge i k with hlt | hge
 ·exact h5 i hlt hf
 ·have : i = k := by omega
  subst this
  unfold wkStep
  split
  ·simp only
   rw [getD_set_same (by omega), getD_set_same (by omega), hf]
   exact ⟨rfl, by simpa using (show s.long.getD 0 0 + (ds.getD i default).most ≤ (ds.getD i default).most by omega)⟩
  ·rename_i hb
   have := sat_of_not (by simpa using hb : wkB s (ds.getD i default) = false) (by rw [hf]; exact g3)
   rw [hf] at this
   exact ⟨this.1, Int.le_trans this.2 (by show s.long.getD 0 0 + _ ≤ _; omega)⟩
theorem up_grow {n : Nat} {ds : List Diff} (hn : 0 < n) (hd : ∀ d ∈ ds, 0 ≤ d.frm ∧ d.frm < n ∧ 0 ≤ d.to ∧ d.to < n) : Up n ds ds.length (growF n ds [0]).1 := by
 have h0 : Up n ds 0 (wkInit n [0]) := by
  refine ⟨(wkInit_len n _).1, (wkInit_len n _).2.1, ?_, ?_, fun i hi => absurd hi (Nat.not_lt_zero _)⟩
  ·simp only [wkInit, List.foldl_cons, List.foldl_nil]
   exact getD_set_same (by simpa using hn) _ _
  ·simp only [wkInit, List.getD_eq_getElem?_getD, List.getElem?_replicate]
   split <;> simp
 have hto : ∀ k, k ≤ ds.length → Up n ds k (wkTo ds (wkInit n [0]) k) := fun k => by
  induction k with
  | zero => intro _; exact h0
  | succ k ih => intro hk; exact up_now hd (by omega) (ih (by omega))
 have hp : Up n ds ds.length (wkPass ds (wkInit n [0])) := hto _ (Nat.le_refl _)
 obtain ⟨m, rfl⟩ : ∃ m, n = m + 1 := ⟨n - 1, by omega⟩
 unfold growF
 simp only [wkRun]
 split
 ·exact hp
 ·split
  ·exact hp
  ·exact run_inv (P := Up (m + 1) ds ds.length) (fun s c h => h) (fun s k hk h => up_step hd hk h) m _ hp
theorem grow_bound {n : Nat} {ds : List Diff} (hn : 0 < n) (hd : ∀ d ∈ ds, 0 ≤ d.frm ∧ d.frm < n ∧ 0 ≤ d.to ∧ d.to < n) (h : (growF n ds (allF n)).2 < 0) {v : Nat} {a b : Int} (h1 : (⟨0, (v : Int), a⟩ : Diff) ∈ ds) (h2 : (⟨(v : Int), 0, b⟩ : Diff) ∈ ds) :
  -b ≤ (growF n ds [0]).1.long.getD v 0 ∧ (growF n ds [0]).1.long.getD v 0 ≤ a := by
 obtain ⟨π, hπ⟩ := potential hd hn h
 have hl := low_grow hπ hd
 have hu := up_grow hn hd
 obtain ⟨i, hi⟩ := List.mem_iff_getElem?.1 h1
 have hil := (List.getElem?_eq_some_iff.1 hi).1
 have hg : ds.getD i default = ⟨0, (v : Int), a⟩ := by rw [List.getD_eq_getElem?_getD, hi]; rfl
 have h3 := hu.2.2.2.2 i hil (by rw [hg])
 rw [hg] at h3
 simp only [Int.toNat_natCast] at h3
 have h4 := hl v h3.1
 have h5 := hπ _ h2
 simp only [Int.toNat_natCast, Int.toNat_zero] at h5
 exact ⟨by omega, h3.2⟩
theorem endsE_neg {n : Nat} {ds : List Diff} (h : endsE n ds = 0) : (growF n ds (allF n)).2 < 0 := by
 unfold endsE at h
 split at h
 ·cases h
 ·omega
theorem cellD_mem {s : Scene} {d c : Nat} (hd : d < s.days.length) (hc : c < s.basin.cells.length) : ∀ x ∈ cellD s.basin d c, x ∈ layD s := by
 intro x hx
 unfold layD
 refine List.mem_append_left _ (List.mem_append_left _ ?_)
 exact List.mem_flatMap.2 ⟨d, List.mem_range.2 hd, List.mem_append_left _ (List.mem_flatMap.2 ⟨c, List.mem_range.2 hc, hx⟩)⟩
theorem rows_mem {n m : Nat} {l : List Int} (hl : l.length = 1 + m * n) {P : Int → Prop} (h : ∀ d c, d < m → c < n → P (l.getD (1 + d * n + c) 0)) : ∀ row ∈ rowsF n m l, ∀ u ∈ row, P u := by
 intro row hr u hu
 simp only [rowsF, List.mem_map, List.mem_range] at hr
 obtain ⟨d, hd, rfl⟩ := hr
 obtain ⟨c, hc⟩ := List.mem_iff_getElem?.1 hu
 have hcl := (List.getElem?_eq_some_iff.1 hc).1
 have hcn : c < n := by simp at hcl; omega
 rw [List.getElem?_take_of_lt hcn, List.getElem?_drop] at hc
 have := h d c hd hcn
 rwa [List.getD_eq_getElem?_getD, hc] at this
theorem greatF_bd {s : Scene} (hs : SceneOk s) (h : greatE s = 0) : ∀ row ∈ greatF s, ∀ u ∈ row, 0 ≤ u ∧ u ≤ 65536 := by
 have hN := hs.net
 have he : endsE (nodesN s) (layD s) = 0 := by
  unfold greatE at h
  split at h
  ·rename_i h0; exact absurd h h0
  ·exact h
 refine rows_mem (by rw [endsL]; exact (growF_len _ _ _).1) (fun d c hd hc => ?_)
 have hm := cellD_mem hd hc
 have e : nodeF s.basin.cells.length (c : Int) (d : Int) = ((1 + d * s.basin.cells.length + c : Nat) : Int) := by unfold nodeF; push_cast; rfl
 have hb := grow_bound (v := 1 + d * s.basin.cells.length + c) (a := s.basin.deep) (b := 0) (by have := hN.h1; omega) hN.hds (endsE_neg he) (hm _ (by simp [cellD, e])) (hm _ (by simp [cellD, e]))
 have hdp := hs.basin.deep
 unfold endsL
 omega
theorem leastF_bd {s : Scene} (hs : SceneOk s) (h : leastE s = 0) : ∀ row ∈ leastF s, ∀ u ∈ row, 0 ≤ u ∧ u ≤ 65536 := by
 have hN := hs.net.turn
 have he : endsE (nodesN s) ((layD s).map turnD) = 0 := by
  unfold leastE at h
  split at h
  ·rename_i h0; exact absurd h h0
  ·exact h
 have hlen : (botL (nodesN s) (layD s)).length = nodesN s := by rw [botL, List.length_map, endsL]; exact (growF_len _ _ _).1
 refine rows_mem hlen (fun d c hd hc => ?_)
 have hm := cellD_mem hd hc
 have e : nodeF s.basin.cells.length (c : Int) (d : Int) = ((1 + d * s.basin.cells.length + c : Nat) : Int) := by unfold nodeF; push_cast; rfl
 have hb := grow_bound (v := 1 + d * s.basin.cells.length + c) (a := 0) (b := s.basin.deep) (by have := hN.h1; omega) hN.hds (endsE_neg he)
  (List.mem_map.2 ⟨_, hm ⟨nodeF s.basin.cells.length c d, 0, 0⟩ (by simp [cellD]), by simp [turnD, e]⟩) (List.mem_map.2 ⟨_, hm ⟨0, nodeF s.basin.cells.length c d, s.basin.deep⟩ (by simp [cellD]), by simp [turnD, e]⟩)
 have hdp := hs.basin.deep
 have hg : (botL (nodesN s) (layD s)).getD (1 + d * s.basin.cells.length + c) 0 = -((growF (nodesN s) ((layD s).map turnD) [0]).1.long.getD (1 + d * s.basin.cells.length + c) 0) := by
  unfold botL endsL
  rw [List.getD_eq_getElem?_getD, List.getD_eq_getElem?_getD, List.getElem?_map]
  cases (growF (nodesN s) ((layD s).map turnD) [0]).1.long[1 + d * s.basin.cells.length + c]? <;> simp
 rw [hg]
 omega

theorem basin_from (n lo hi : Int) (w : World) : Calls Tryz.prog 129 #[I n, I lo, I hi] w fun e w' => e = .returned (.bool (inB n lo hi)) ∧ w = w' := by
 by_cases h : lo ≤ n
 ·go_enter Tryz.func129, Tryz.ntmps129
  go_wp2
  go_ret
  exact ⟨by simp [inB, h], rfl⟩
 ·go_enter Tryz.func129, Tryz.ntmps129
  go_wp2
  go_ret
  exact ⟨ret_bool (by simp only [inB]; symm; simp; omega), rfl⟩
theorem basin_right (c : Cell) (w : World) : Calls Tryz.prog 172 #[.agg #[I c.no, I c.height, I c.aspect, I c.area]] w fun e w' => e = .returned (.bool (cellOk c)) ∧ Below w.heap.size w w' := by
 go_enter Tryz.func172, Tryz.ntmps172
 go_wp2_with (first | (go_at_call 129; refine (basin_from _ _ _ _).mono ?_; rintro e w' ⟨rfl, rfl⟩))
 all_goals (go_ret; exact ⟨ret_bool (by simp_all [cellOk]), below1 _ _⟩)

def Basin.v (b : Basin) (vc vp : Value) : Value := .agg #[vc, vp, I b.gain, I b.slack, I b.deep]

theorem index1_gives (no : Int) (B : Nat) (w : World) (hc : w.cell? ⟨B, 0, none⟩ = some (I no)) (hB : B < w.heap.size) (xs : List Cell) :
  Gives Tryz.prog 195 #[.pointer (some ⟨B, 0, none⟩)] (fun x => .agg #[I x.no, I x.height, I x.aspect, I x.area]) (fun s => s.no == no) w xs := by
 intro W x _ hb
 have hc' := (hb.cell (p := ⟨B, 0, none⟩) hB).trans hc
 have hB' : B < W.heap.size := Nat.lt_of_lt_of_le hB hb.size
 clear hc hb hB
 go_enter Tryz.func195, Tryz.ntmps195
 go_wp2
 go_ret
 exact ⟨rfl, below1 _ _⟩
theorem basin_index (vc vp : Value) (cs : List Cell) (x y z no : Int) (w : World) (hs : Sl w 4 Cell.cells vc cs) :
  Calls Tryz.prog 167 #[.agg #[vc, vp, I x, I y, I z], I no] w fun e w' => e = .returned (I (placeC cs no)) ∧ Below w.heap.size w w' := by
 replace hs := hide hs
 go_enter Tryz.func167, Tryz.ntmps167
 go_wp2_with fail
 refine (indexFunc_Cell _ cs _ _ _ _ ((unhide hs).mono (below2 _ _ _)) (enters_of Tryz.func195 (by kernel_rfl) rfl) (index1_gives no _ _ (by simp [go_sem]) (by simp) _)).mono ?_
 rintro e w' ⟨rfl, hb⟩
 go_wp2
 go_ret
 exact ⟨rfl, bup (below2 _ _ _) hb⟩

theorem likeB_eq (a b : Cell) : likeB a b = (decide ((a.aspect - b.aspect) % 8 ≤ 1) || decide ((a.aspect - b.aspect) % 8 = 7)) := by
 have e : (a.aspect - b.aspect + 8) % 8 = (a.aspect - b.aspect) % 8 := by omega
 simp only [likeB, e]
theorem basin_like (a b : Cell) (w : World) (ha : 0 ≤ a.aspect ∧ a.aspect ≤ 7) (hb : 0 ≤ b.aspect ∧ b.aspect ≤ 7) :
  Calls Tryz.prog 183 #[.agg #[I a.no, I a.height, I a.aspect, I a.area], .agg #[I b.no, I b.height, I b.aspect, I b.area]] w fun e w' => e = .returned (.bool (likeB a b)) ∧ Below w.heap.size w w' := by
 have w1 : IntKind.i64.wrap (a.aspect - b.aspect) = a.aspect - b.aspect := IntWalk.i64_in _ (by omega)
 have w2 : IntKind.i64.wrap (a.aspect - b.aspect + 8) = a.aspect - b.aspect + 8 := IntWalk.i64_in _ (by omega)
 rw [likeB_eq]
 rcases ilt 1 ((a.aspect - b.aspect) % 8) with h1 | h1
 ·by_cases h7 : (a.aspect - b.aspect) % 8 = 7
  ·have e1 : ((a.aspect - b.aspect) % 8 == 7) = true := by simpa using h7
   have hfin : (decide ((a.aspect - b.aspect) % 8 ≤ 1) || decide ((a.aspect - b.aspect) % 8 = 7)) = true := by simp [h7]
   rw [hfin]
   clear hfin
   replace h7 := hide h7
   go_enter Tryz.func183, Tryz.ntmps183
   go_wp2_with fail
   go_ret
   exact ⟨ret_bool (by first | (simp; done) | (simp; omega)), below2 _ _ _⟩
  ·have e1 : ((a.aspect - b.aspect) % 8 == 7) = false := by simpa using h7
   have hfin : (decide ((a.aspect - b.aspect) % 8 ≤ 1) || decide ((a.aspect - b.aspect) % 8 = 7)) = false := by simp [h7]; omega
   rw [hfin]
   clear hfin
   go_enter Tryz.func183, Tryz.ntmps183
   go_wp2_with fail
   go_ret
   exact ⟨ret_bool (by first | (simp; done) | (simp; omega)), below2 _ _ _⟩
 ·have hfin : (decide ((a.aspect - b.aspect) % 8 ≤ 1) || decide ((a.aspect - b.aspect) % 8 = 7)) = true := by simp [h1]
  rw [hfin]
  clear hfin
  go_enter Tryz.func183, Tryz.ntmps183
  go_wp2_with fail
  go_ret
  exact ⟨ret_bool (by first | (simp; done) | (simp; omega)), below2 _ _ _⟩

theorem AllTo.mono {p : Nat → Bool} {m n : Nat} (h : AllTo p n) (hm : m ≤ n) : AllTo p m := fun i hi => h i (by omega)
theorem risesAt_pos {l : List Int} {k : Nat} {x y : Int} (hk : 1 ≤ k) (hx : l[k]? = some x) (hy : l[k - 1]? = some y) : risesAt l k = decide (y < x) := by
 have : (k == 0) = false := by simp; omega
 simp [risesAt, this, hx, hy]
theorem basin_rising (v : Value) (l : List Int) (w : World) (hv : Sl w 1 intC v l) : Calls Tryz.prog 130 #[v] w fun e w' => e = .returned (.bool (risingB l)) ∧ Below w.heap.size w w' := by
 obtain ⟨A, n, rfl, _, _, hlen, hA⟩ := hv.open_
 replace hv := hide hv
 replace hA := hide hA
 have hbad : ∀ k, k < l.length → risesAt l k = false → risingB l = false := fun k hk h => all_of_not hk h
 replace hbad := hide hbad
 go_enter Tryz.func130, Tryz.ntmps130
 go_wp2_with fail
 go_loopw [3] (fun i wr => ∃ k : Nat, 1 ≤ k ∧ (k ≤ l.length ∨ k = 1) ∧ i = I k ∧ Hid (AllTo (risesAt l) k) ∧ Below w.heap.size w wr) (fun i _ => l.length + 1 - (intOf i).toNat)
 case atStart =>
  have h0 : AllTo (risesAt l) 1 := fun i hi => by
   have h0 : i = 0 := by omega
   subst h0
   simp [risesAt]
  exact ⟨1, Nat.le_refl _, .inr rfl, rfl, hide h0, Below.refl _ _⟩
 case round =>
  obtain ⟨k, hk1, hk2, rfl, hn, hb⟩ := hrel
  by_cases hlt : k < l.length
  ·obtain ⟨b, off, rfl, hbw⟩ := hA.out k hlt
   obtain ⟨x, hx⟩ := getElem?_of_lt hlt
   obtain ⟨y, hy⟩ := getElem?_of_lt (xs := l) (k := k - 1) (by omega)
   obtain ⟨_, e0⟩ := ((unhide hv).mono hb).int_at hx
   obtain ⟨_, p0⟩ := ((unhide hv).mono hb).int_at hy
   have hpos := risesAt_pos hk1 hx hy
   clear hA
   rcases ilt y x with hd | hd
   ·have hg := hide (hn.out.succ (show risesAt l k = true by rw [hpos]; simpa using hd))
    have hyd : decide (x ≤ y) = false := by simp; omega
    clear hbad hx hn hpos hy
    go_wp2_with fail
    (refine wp_grow ?_; (repeat go_big_quiet_step (fail)); refine wp_grow0 ?_; intro W1 hW1)
    go_wp2_with fail
    go_roundw
    case rel => exact ⟨k + 1, by omega, .inl (by omega), by go_num, hg, bup hb hW1⟩
    case measure => simp [intOf]; omega
   ·have hfin := hide (hbad.out k hlt (by rw [hpos]; simp; omega))
    have hyd : decide (x ≤ y) = true := by simp; omega
    clear hbad hx hn hpos hy
    go_wp2_with fail
    (refine wp_grow ?_; (repeat go_big_quiet_step (fail)); refine wp_grow0 ?_; intro W1 hW1)
    go_wp2_with fail
    go_ret
    exact ⟨ret_bool hfin.out.symm, bup hb hW1⟩
  ·have hfin := hide (show risingB l = true from AllTo.all (hn.out.mono (by omega)))
   clear hbad hn hA
   go_wp2_with fail
   go_ret
   exact ⟨ret_bool hfin.out.symm, hb⟩

structure SceneV where
 cells : Value
 pairs : Value
 days : Value
 sights : Value
 changes : Value
def Scene.v (s : Scene) (V : SceneV) : Value := .agg #[V.cells, V.pairs, I s.basin.gain, I s.basin.slack, I s.basin.deep, V.days, V.sights, V.changes]
abbrev s8 (s : Scene) (Ac : Option Addr) (nc : Nat) (Ap : Option Addr) (np : Nat) (Ad : Option Addr) (nd : Nat) (As : Option Addr) (ns : Nat) (Ah : Option Addr) (nh : Nat) : Array Value := #[.slice Ac s.basin.cells.length nc, .slice Ap s.basin.pairs.length np, I s.basin.gain, I s.basin.slack, I s.basin.deep, .slice Ad s.days.length nd, .slice As s.sights.length ns, .slice Ah s.changes.length nh]
structure SceneAt (w : World) (s : Scene) (V : SceneV) : Prop where
 cells : Sl w 4 Cell.cells V.cells s.basin.cells
 pairs : Sl w 2 pairC V.pairs s.basin.pairs
 days : Sl w 1 intC V.days s.days
 sights : Sl w 5 Sight.cells V.sights s.sights
 changes : Sl w 5 Change.cells V.changes s.changes
theorem SceneAt.mono {w w' : World} {s : Scene} {V : SceneV} (h : SceneAt w s V) (hb : Below w.heap.size w w') : SceneAt w' s V := ⟨h.cells.mono hb, h.pairs.mono hb, h.days.mono hb, h.sights.mono hb, h.changes.mono hb⟩

theorem basin_sighted (s : Scene) (V : SceneV) (x : Sight) (w : World) (hs : SceneAt w s V) :
  Calls Tryz.prog 125 #[s.v V, .agg #[I x.no, I x.cell, I x.day, I x.lo, I x.hi]] w fun e w' => e = .returned (.bool (sightOk s x)) ∧ Below w.heap.size w w' := by
 obtain ⟨Ac, nc, hc, _⟩ := hs.cells.open_
 obtain ⟨Ap, np, hp, _⟩ := hs.pairs.open_
 obtain ⟨Ad, nd, hd, _⟩ := hs.days.open_
 obtain ⟨As, ns, hsi, _⟩ := hs.sights.open_
 obtain ⟨Ah, nh, hch, _⟩ := hs.changes.open_
 have H1 := hide (fun w hv => basin_index V.cells V.pairs s.basin.cells s.basin.gain s.basin.slack s.basin.deep x.cell w hv)
 have H2 := hide (fun w hv => contains_int V.days s.days x.day w hv)
 have hs1 := hide hs.cells
 have hs2 := hide hs.days
 unfold Scene.v
 have hP : sightOk s x = (inB x.no 0 8191 && decide (0 ≤ placeC s.basin.cells x.cell) && hasD s.days x.day && decide (0 ≤ x.lo) && decide (x.lo ≤ x.hi) && decide (x.hi ≤ 65536)) := rfl
 rw [hP]
 have hQ : hasD s.days x.day = s.days.any fun y => y == x.day := rfl
 rw [hQ]
 obtain ⟨pl, hpl⟩ : ∃ pl, placeC s.basin.cells x.cell = pl := ⟨_, rfl⟩
 obtain ⟨hd', hhd⟩ : ∃ hd', (s.days.any fun y => y == x.day) = hd' := ⟨_, rfl⟩
 rw [hpl, hhd]
 rw [hpl] at H1
 rw [hhd] at H2
 replace hpl := hide hpl
 replace hhd := hide hhd
 clear hs hP hQ
 rw [hc, hp] at H1
 rw [hd] at H2
 rw [hc] at hs1
 rw [hd] at hs2
 rw [hc, hp, hd, hsi, hch]
 clear hc hp hd hsi hch
 go_enter Tryz.func125, Tryz.ntmps125
 go_wp2_with (first | (go_at_call 129; refine (basin_from _ _ _ _).mono ?_; rintro e w' ⟨rfl, rfl⟩) | (go_at_call 167; refine (H1.out _ (hs1.out.mono (below2 _ _ _))).mono ?_; rintro e w1 ⟨rfl, hb1⟩; have hc1 := fun o => (bcell hb1).1 w.heap.size o (by simp <;> omega); have hc2 := fun o => (bcell hb1).1 (w.heap.size + 1) o (by simp <;> omega)) | (go_at_call 48; refine (H2.out _ (hs2.out.mono (bup (below2 _ _ _) hb1))).mono ?_; rintro e w' ⟨rfl, rfl⟩))
 all_goals (go_ret; first | exact ⟨ret_bool (by simp_all <;> omega), below2 _ _ _⟩ | exact ⟨ret_bool (by simp_all <;> omega), bup (below2 _ _ _) hb1⟩)

theorem basin_changed (s : Scene) (V : SceneV) (x : Change) (w : World) (hs : SceneAt w s V) :
  Calls Tryz.prog 131 #[s.v V, .agg #[I x.cell, I x.frm, I x.to, I x.lo, I x.hi]] w fun e w' => e = .returned (.bool (changeOk s x)) ∧ Below w.heap.size w w' := by
 obtain ⟨Ac, nc, hc, _⟩ := hs.cells.open_
 obtain ⟨Ap, np, hp, _⟩ := hs.pairs.open_
 obtain ⟨Ad, nd, hd, _⟩ := hs.days.open_
 obtain ⟨As, ns, hsi, _⟩ := hs.sights.open_
 obtain ⟨Ah, nh, hch, _⟩ := hs.changes.open_
 have H1 := hide (fun w hv => basin_index V.cells V.pairs s.basin.cells s.basin.gain s.basin.slack s.basin.deep x.cell w hv)
 have H2 := hide (fun w hv => contains_int V.days s.days x.frm w hv)
 have H3 := hide (fun w hv => contains_int V.days s.days x.to w hv)
 have hs1 := hide hs.cells
 have hs2 := hide hs.days
 unfold Scene.v
 have hP : changeOk s x = (decide (x.frm < x.to) && (s.days.any fun y => y == x.frm) && (s.days.any fun y => y == x.to) && decide (0 ≤ placeC s.basin.cells x.cell) && decide (-65536 ≤ x.lo) && decide (x.lo ≤ x.hi) && decide (x.hi ≤ 65536)) := rfl
 rw [hP]
 obtain ⟨pl, hpl⟩ : ∃ pl, placeC s.basin.cells x.cell = pl := ⟨_, rfl⟩
 obtain ⟨hd', hhd⟩ : ∃ hd', (s.days.any fun y => y == x.frm) = hd' := ⟨_, rfl⟩
 obtain ⟨hd2, hhd2⟩ : ∃ hd2, (s.days.any fun y => y == x.to) = hd2 := ⟨_, rfl⟩
 rw [hpl, hhd, hhd2]
 rw [hpl] at H1
 rw [hhd] at H2
 rw [hhd2] at H3
 replace hpl := hide hpl
 replace hhd := hide hhd
 replace hhd2 := hide hhd2
 clear hs hP
 rw [hc, hp] at H1
 rw [hd] at H2 H3
 rw [hc] at hs1
 rw [hd] at hs2
 rw [hc, hp, hd, hsi, hch]
 clear hc hp hd hsi hch
 go_enter Tryz.func131, Tryz.ntmps131
 go_wp2_with (first | (go_at_call 167; refine (H1.out _ (hs1.out.mono (below2 _ _ _))).mono ?_; rintro e w1 ⟨rfl, hb1⟩; have hc1 := fun o => (bcell hb1).1 w.heap.size o (by simp <;> omega); have hc2 := fun o => (bcell hb1).1 (w.heap.size + 1) o (by simp <;> omega)) | (go_at_call 48; refine (H2.out _ (hs2.out.mono (below2 _ _ _))).mono ?_; rintro e w' ⟨rfl, rfl⟩) | (go_at_call 48; refine (H3.out _ (hs2.out.mono (below2 _ _ _))).mono ?_; rintro e w' ⟨rfl, rfl⟩))
 all_goals (go_ret; first | exact ⟨ret_bool (by simp_all <;> omega), below2 _ _ _⟩ | exact ⟨ret_bool (by simp_all <;> omega), bup (below2 _ _ _) hb1⟩)
end Go.Proofs.YtgbbljfmngmjeaaGreat
