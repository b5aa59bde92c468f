/- slices.Repeat over one int. Conditions stand in the theorems. -/
import Derived.Test.YtgbbljfmngmjeaaGreatIndexFuncPack
import Derived.Lib.Mul64
import Derived.Laws.Bits64b
import Derived.Laws.CopyOwn
import Derived.Deep.RegionLaw
import Derived.IntWalk
import Derived.Test.YtgbbljfmngmjeaaGreatBasePack
set_option linter.all false
set_option maxHeartbeats 1000000
set_option maxRecDepth 100000
namespace Go.Proofs.YtgbbljfmngmjeaaGreat
open Go.RowKit
theorem and1 : bits .and .u64 1 4294967295 = 1 := by decide
theorem and0 : bits .and .u64 0 4294967295 = 0 := by decide
theorem andn (n : Nat) (hn : n ≤ 65536) : bits .and .u64 (n : Int) 4294967295 = (n : Int) := by
 have h := bits_and_u64_nat n 4294967295 (by omega) (by omega)
 have e : n &&& 4294967295 = n % 4294967296 := Nat.and_two_pow_sub_one_eq_mod n 32
 rw [e, Nat.mod_eq_of_lt (by omega)] at h
 exact h
theorem mul64_1 (n : Nat) (hn : n ≤ 65536) (w : World) : Calls Tryz.prog 224 #[.int .u64 1, .int .u64 n] w fun e w' => e = .returned (.tuple #[.int .u64 0, .int .u64 n]) ∧ w = w' := by
 have h1 := and1
 have h0 := and0
 have h2 := andn n hn
 have h3 : (n : Int) / 4294967296 = 0 := by omega
 go_enter Tryz.func224, Tryz.ntmps224
 go_wp2
 go_ret2
 exact ⟨rfl, rfl⟩
theorem mul_1 (n : Nat) (hn : n ≤ 65536) (w : World) : Calls Tryz.prog 222 #[.int .u64 1, .int .u64 n] w fun e w' => e = .returned (.tuple #[.int .u64 0, .int .u64 n]) ∧ w = w' := by
 go_enter Tryz.func222, Tryz.ntmps222
 go_wp2_with (go_at_call 224; refine (mul64_1 n hn _).mono ?_; rintro e w' ⟨rfl, rfl⟩)
 go_ret2
 exact ⟨rfl, rfl⟩
def rep (m n : Nat) (y : Int) : List Value := List.replicate m (I y) ++ List.replicate (n - m) (I 0)
theorem rep_len {m n : Nat} (y : Int) (h : m ≤ n) : (rep m n y).length = n := by simp [rep]; omega
theorem rep_at (m n : Nat) (y : Int) (h : m ≤ n) (p : Nat) : (rep m n y)[p]? = if p < m then some (I y) else if p < n then some (I 0) else none := by
 unfold rep
 rw [List.getElem?_append]
 simp only [List.length_replicate, List.getElem?_replicate]
 by_cases h1 : p < m
 ·simp [h1]
 ·by_cases h2 : p < n
  ·rw [if_neg h1, if_neg h1, if_pos h2, if_pos (by omega)]
  ·rw [if_neg h1, if_neg h1, if_neg h2, if_neg (by omega)]
theorem rep_splice (m n : Nat) (y : Int) (k : Nat) (h : m + k ≤ n) : splice (rep m n y) m (List.replicate k (I y)) = rep (m + k) n y := by
 refine List.ext_getElem? fun p => ?_
 rw [rep_at (m + k) n y h]
 unfold splice
 have hl := rep_len (m := m) (n := n) y (by omega)
 rw [List.length_replicate, List.getElem?_append, List.length_take, hl, Nat.min_eq_left (by omega), List.getElem?_append, List.length_replicate, List.getElem?_replicate, List.getElem?_take, List.getElem?_drop, rep_at m n y (by omega), rep_at m n y (by omega)]
 by_cases h1 : p < m
 ·simp only [h1, if_true]; rw [if_pos (by omega)]
 ·rw [if_neg h1]
  by_cases h2 : p < m + k
  ·rw [if_pos (by omega), if_pos (by omega), if_pos h2]
  ·rw [if_neg (by omega), if_neg (by omega), if_neg h2]
   by_cases h3 : p < n
   ·rw [if_pos (by omega), if_pos h3]
   ·rw [if_neg (by omega), if_neg h3]

theorem repeat_int (g c n : Nat) (y : Int) (w : World) (hn : n ≤ 65536) (h1 : 1 ≤ n) (hc : w.cell? ⟨g, 0, none⟩ = some (I y)) (hg : g < w.heap.size) :
  Calls Tryz.prog 219 #[.slice (some ⟨g, 0, none⟩) 1 c, I n] w fun e w' => e = .returned (.slice (some ⟨w.heap.size, 0, none⟩) n n) ∧ Blk w' w.heap.size 3 ((List.replicate n y).map I).toArray ∧ Below w.heap.size w w' := by
 have hmk := run_make1 el_int rfl n (by omega) (by omega)
 have hrow : (w.alloc (.cells (rowN n (.int .i64 0)) 3)).heap[w.heap.size]? = some (.cells (rep 0 n y).toArray 3 (0, 0)) := by
  rw [heap_alloc_new]; simp [rep, rowN]
 replace hrow := hide hrow
 have hcell : ∀ j v, [I y][j]? = some v → (w.alloc (.cells (rowN n (.int .i64 0)) 3)).cell? ((⟨g, 0, none⟩ : Addr).add j) = some v := by
  intro j v hj
  match j, hj with
  | 0, hj =>
   simp at hj; subst hj
   rw [show ((⟨g, 0, none⟩ : Addr).add 0) = ⟨g, 0, none⟩ from rfl, World.cell?_alloc_lt _ _ _ hg]; exact hc
 replace hcell := hide hcell
 have hb1 := hide (below1 w (.cells (rowN n (.int .i64 0)) 3))
 go_enter Tryz.func219, Tryz.ntmps219
 go_wp2_with (first
  | (go_at_call 222; refine (mul_1 n hn _).mono ?_; rintro e w' ⟨rfl, rfl⟩)
  | (with_reducible refine wpList_copy_splice rfl (.tmp 31) (.tmp 32) 38 38 rfl 3 Tryz.underlying38 (by kernel_rfl) _ _ _ _ _ _ rfl rfl w.heap.size 0 (rep 0 n y) 3 (unhide hrow) [I y] ?c1 ?c2 ?c3 ?c4 w.heap.size w (unhide hb1) (Nat.le_refl _) ?_))
 case c1 => show 1 = min 1 n; omega
 case c2 =>
  intro j v hj
  rcases j with _ | j
  ·simp at hj; subst hj; exact hc
  ·simp at hj
 case c3 => rw [rep_len y (by omega)]; simp; omega
 case c4 => intro v hv; simp at hv; subst hv; rfl
 intro w1 hw1 hb2
 have hw1 : Hid (w1.heap[w.heap.size]? = some (.cells (rep 1 n y).toArray 3 (0, 0))) := by
  have := unhide hw1
  rw [show [I y] = List.replicate 1 (I y) from rfl, rep_splice 0 n y 1 (by omega)] at this
  simpa using hide this
 clear hrow hcell hb1 hmk hc
 go_wp2_with fail
 go_loopw [8] (fun v wr => ∃ m : Nat, 1 ≤ m ∧ m ≤ n ∧ v = I m ∧ Hid (wr.heap[w.heap.size]? = some (.cells (rep m n y).toArray 3 (0, 0))) ∧ Below w.heap.size w wr) (fun v _ => n - (intOf v).toNat)
 case atStart => exact ⟨1, by omega, by omega, rfl, hw1, hb2⟩
 case round =>
  obtain ⟨m, hm1, hm2, rfl, hr, hb⟩ := hrel
  clear hw1 hb2
  by_cases hlt : m < n
  ·have hne : ¬ n = m := by omega
   obtain ⟨d, hd⟩ : ∃ d, d = min m (n - m) := ⟨_, rfl⟩
   have hd1 : 1 ≤ d := by omega
   have hd2 : m + d ≤ n := by omega
   have q1 : (List.replicate d (I y)).length = Nat.min m (n - m) := by rw [List.length_replicate]; exact hd
   have q2 : ∀ j v, (List.replicate d (I y))[j]? = some v → wr.drew.cell? ((⟨w.heap.size, 0, none⟩ : Addr).add j) = some v := by
    intro j v hj
    have hjd : j < d := by have := (List.getElem?_eq_some_iff.1 hj).1; simpa using this
    rw [List.getElem?_replicate, if_pos hjd] at hj
    injection hj with hj; subst hj
    have : wr.cell? ⟨w.heap.size, j, none⟩ = some (I y) := by
     rw [cell_of_row wr _ j _ _ _ (unhide hr)]
     have := rep_at m n y hm2 j
     rw [if_pos (by omega)] at this
     simpa using this
    unfold Addr.add
    split
    ·rename_i h0; subst h0; exact this
    ·simpa using this
   have q3 : m + (List.replicate d (I y)).length ≤ (rep m n y).length := by rw [rep_len y hm2, List.length_replicate]; exact hd2
   have q4 : ∀ v ∈ List.replicate d (I y), v.oneCell' = true := by intro v hv; rw [List.eq_of_mem_replicate hv]; rfl
   replace hd := hide hd
   replace q1 := hide q1
   replace q2 := hide q2
   replace q3 := hide q3
   replace q4 := hide q4
   have hbd := hide hb.drew
   go_wp2_with fail
   go_region_law (refine step_copy_splice rfl (.tmp 41) (.tmp 44) 38 38 rfl 3 Tryz.underlying38 (by kernel_rfl) (some ⟨w.heap.size, m, none⟩) (some ⟨w.heap.size, 0, none⟩) (n - m) (n - m) m n (by simp [Act.eval, Act.put]) (by simp [Act.eval, Act.put]) w.heap.size m (rep m n y) 3 (unhide hr) (List.replicate d (I y)) (unhide q1) (fun _ => ⟨rfl, _, rfl, unhide q2⟩) (unhide q3) (unhide q4) w.heap.size w (unhide hbd) (Nat.le_refl _) ?_; intro w2 hw2 hb2)
   have hw2 : Hid (w2.heap[w.heap.size]? = some (.cells (rep (m + d) n y).toArray 3 (0, 0))) := by
    have := unhide hw2
    rw [rep_splice m n y d hd2] at this
    exact hide this
   have hwr : IntKind.i64.wrap ((m : Int) + (d : Int)) = (m : Int) + (d : Int) := IntWalk.i64_in _ (by omega)
   clear hr hb hd q1 q2 q3 q4 hbd
   simp [Act.put, hwr, Exit.inBlock]
   clear hwr
   go_wp2_with fail
   go_roundw
   case rel => exact ⟨m + d, by omega, by omega, by go_num, hw2, hb2⟩
   case measure => simp [intOf]; omega
  ·have he : m = n := by omega
   subst he
   go_wp2_with fail
   go_ret
   refine ⟨rfl, ?_, hb⟩
   have := unhide hr
   simpa [rep, Blk] using this

theorem diffs_in (n lo hi : Int) (w : World) : Calls Tryz.prog 205 #[I n, I lo, I hi] w fun e w' => e = .returned (.bool (inB n lo hi)) ∧ w = w' := by
 by_cases h : lo ≤ n
 ·go_enter Tryz.func205, Tryz.ntmps205
  go_wp2
  go_ret
  exact ⟨ret_bool (by simp [inB, h]), rfl⟩
 ·go_enter Tryz.func205, Tryz.ntmps205
  go_wp2
  go_ret
  exact ⟨ret_bool (by simp only [inB]; symm; simp; omega), rfl⟩
theorem diffs_right (d : Diff) (nodes : Int) (w : World) (h0 : 1 ≤ nodes) (h1 : nodes ≤ 1000000) : Calls Tryz.prog 208 #[.agg #[I d.frm, I d.to, I d.most], I nodes] w fun e w' => e = .returned (.bool (diffOk nodes d)) ∧ Below w.heap.size w w' := by
 go_enter Tryz.func208, Tryz.ntmps208
 go_wp2_with (first | (go_at_call 205; refine (diffs_in _ _ _ _).mono ?_; rintro e w' ⟨rfl, rfl⟩))
 all_goals (go_ret; exact ⟨ret_bool (by simp_all [diffOk]), below1 _ _⟩)

theorem diffs_Check (vd : Value) (nodes : Int) (ds : List Diff) (w : World) (hd : Sl w 3 Diff.cells vd ds) :
  Calls Tryz.prog 187 #[.agg #[I nodes, vd]] w fun e w' => e = .returned (I (netE nodes ds)) ∧ Below w.heap.size w w' := by
 obtain ⟨A, c, rfl, _, _, hlen, hA⟩ := hd.open_
 replace hd := hide hd
 replace hA := hide hA
 cases h1 : inB nodes 1 256 with
 | false =>
  have hfin := hide (show netE nodes ds = 40 by simp [netE, netOk, h1])
  go_enter Tryz.func187, Tryz.ntmps187
  go_wp2_with (first | (go_at_call 205; refine (diffs_in _ _ _ _).mono ?_; rintro e w' ⟨rfl, rfl⟩))
  go_ret
  exact ⟨ret_int hfin.out.symm, below1 _ _⟩
 | true =>
  obtain ⟨n1, n2⟩ := inB_true.1 h1
  rcases Nat.lt_or_ge 4096 ds.length with h2 | h2
  ·have hfin := hide (show netE nodes ds = 40 by simp [netE, netOk]; omega)
   have i1 : decide ((4096 : Int) < (ds.length : Int)) = true := by simp; omega
   have i2 : decide (4096 < ds.length) = true := by simp; omega
   go_enter Tryz.func187, Tryz.ntmps187
   go_wp2_with (first | (go_at_call 205; refine (diffs_in _ _ _ _).mono ?_; rintro e w' ⟨rfl, rfl⟩))
   go_ret
   exact ⟨ret_int hfin.out.symm, below1 _ _⟩
  ·have hbad : ∀ (k : Nat) x, ds[k]? = some x → diffOk nodes x = false → netE nodes ds = 40 := fun k x hx hp => by simp only [netE, netOk, all_bad hx hp]; simp
   have hfine : ds.all (diffOk nodes) = true → netE nodes ds = 0 := fun h => by simp only [netE, netOk, h1, h]; simp; omega
   replace hbad := hide hbad
   replace hfine := hide hfine
   have i1 : decide ((4096 : Int) < (ds.length : Int)) = false := by simp; omega
   have i2 : decide (4096 < ds.length) = false := by simp; omega
   go_enter Tryz.func187, Tryz.ntmps187
   go_wp2_with (first | (go_at_call 205; refine (diffs_in _ _ _ _).mono ?_; rintro e w' ⟨rfl, rfl⟩))
   obtain ⟨W0, hW0⟩ : ∃ W0, W0 = w.alloc (Obj.cells #[I nodes, Value.slice A ds.length c] 189) := ⟨_, rfl⟩
   have c0 : W0.cell? ⟨w.heap.size, 0, none⟩ = some (I nodes) := by rw [hW0]; simp [go_sem]
   have hsz : w.heap.size < W0.heap.size := by rw [hW0]; simp
   have hbl : Below w.heap.size w W0 := by rw [hW0]; exact below1 _ _
   rw [← hW0]
   clear hW0
   go_loopw [18] (fun i wr => ∃ k : Nat, k ≤ ds.length ∧ i = I k ∧ Hid (Upto (diffOk nodes) ds k) ∧ Below W0.heap.size W0 wr) (fun i _ => ds.length - (intOf i).toNat)
   case atStart => exact ⟨0, Nat.zero_le _, rfl, hide (Upto.zero _ _), Below.refl _ _⟩
   case round =>
    obtain ⟨k, hk, rfl, hn, hb⟩ := hrel
    have d0 := (hb.cell (p := ⟨w.heap.size, 0, none⟩) hsz).trans c0
    have hwx : w.heap.size < wr.heap.size := by have := hb.size; omega
    by_cases hlt : k < ds.length
    ·obtain ⟨b, off, rfl, hbw⟩ := hA.out k hlt
     obtain ⟨x, hx⟩ := getElem?_of_lt hlt
     obtain ⟨_, e0, e1, e2⟩ := ((unhide hd).mono (bup hbl hb)).diff_at hx
     have hbx : b < wr.heap.size := by have := hb.size; have := hbl.size; omega
     clear c0 hA
     cases hok : diffOk nodes x with
     | false =>
      have hfin := hide (hbad.out k x hx hok)
      clear hbad hfine hx hn
      go_wp2_with (first | (go_at_call 208; refine (diffs_right x _ _ n1 (by omega)).mono ?_; rw [hok]; rintro e w' ⟨rfl, hb1⟩))
      go_ret
      exact ⟨ret_int hfin.out.symm, bup hbl (bup (bup hb (below1 _ _)) hb1)⟩
     | true =>
      have hg := hide (hn.out.succ hx hok)
      clear hx hn hbad
      go_wp2_with (first | (go_at_call 208; refine (diffs_right x _ _ n1 (by omega)).mono ?_; rw [hok]; rintro e w' ⟨rfl, hb1⟩))
      go_roundw
      case rel => exact ⟨k + 1, by omega, by go_num, hg, (bup (bup hb (below1 _ _)) hb1)⟩
      case measure => simp [intOf]; omega
    ·have he : k = ds.length := by omega
     subst he
     have hfin := hide (hfine.out hn.out.all)
     clear c0 hA hfine hbad hn
     go_wp2_with fail
     go_ret
     exact ⟨ret_int hfin.out.symm, bup hbl hb⟩

theorem diffs_lines (nodes : Int) (vd : Value) (w : World) : Calls Tryz.prog 240 #[.agg #[I nodes, vd]] w fun e w' => e = .returned vd ∧ Below w.heap.size w w' := by
 go_enter Tryz.func240, Tryz.ntmps240
 go_wp2
 go_ret
 exact ⟨rfl, below1 _ _⟩
theorem diffs_nodes (nodes : Int) (vd : Value) (w : World) : Calls Tryz.prog 241 #[.agg #[I nodes, vd]] w fun e w' => e = .returned (I nodes) ∧ Below w.heap.size w w' := by
 go_enter Tryz.func241, Tryz.ntmps241
 go_wp2
 go_ret
 exact ⟨rfl, below1 _ _⟩

theorem diffs_turned (vd : Value) (nodes : Int) (ds : List Diff) (w : World) (hd : Sl w 3 Diff.cells vd ds) (hb : ds.length ≤ 65536) :
  Calls Tryz.prog 212 #[.agg #[I nodes, vd]] w fun e w' => ∃ v, e = .returned (.agg #[I nodes, v]) ∧ Own w' w.heap.size 245 3 Diff.cells v (ds.map turnD) ∧ Below w.heap.size w w' := by
 obtain ⟨A, c, rfl, _, _, hlen, hA⟩ := hd.open_
 replace hd := hide hd
 replace hA := hide hA
 go_enter Tryz.func212, Tryz.ntmps212
 go_wp2_with fail
 obtain ⟨W1, hW1⟩ : ∃ W1, W1 = (w.alloc (Obj.cells #[I nodes, Value.slice A ds.length c] 189)).alloc (Obj.cells #[Value.int IntKind.i64 0, Value.slice none 0 0] 189) := ⟨_, rfl⟩
 have hbl : Below w.heap.size w W1 := by rw [hW1]; exact below2 _ _ _
 have hs1 : W1.heap.size = w.heap.size + 1 + 1 := by rw [hW1]; simp
 have hk1 : Blk W1 (w.heap.size + 1) 189 #[Value.int IntKind.i64 0, Value.slice none 0 0] := by
  rw [hW1]; have := Blk.new (w.alloc (Obj.cells #[I nodes, Value.slice A ds.length c] 189)) 189 #[Value.int IntKind.i64 0, Value.slice none 0 0]
  simpa using this
 rw [← hW1]
 have hB : ∃ B, B = w.heap.size + 1 + 1 := ⟨_, rfl⟩
 obtain ⟨B, hB⟩ := hB
 rw [← hB] at hs1 ⊢
 have hlw : w.heap.size + 1 < B := by omega
 have hk2 : Blk (W1.alloc (Obj.cells #[Value.int IntKind.i64 nodes, Value.slice none 0 0] 189)) B 189 #[I nodes, Value.slice none 0 0] := by rw [← hs1]; exact Blk.new _ _ _
 replace hk1 := hide hk1
 replace hk2 := hide hk2
 replace hs1 := hide hs1
 clear hW1 hB
 go_loopw [12] (fun i wr => ∃ k : Nat, k ≤ ds.length ∧ i = I k ∧ (∃ v, Hid (Blk wr B 189 #[I nodes, v]) ∧ Hid (Own wr (B + 1) 245 3 Diff.cells v ((ds.take k).map turnD))) ∧ Below B W1 wr ∧ B < wr.heap.size) (fun i _ => ds.length - (intOf i).toNat)
 case atStart => exact ⟨0, Nat.zero_le _, rfl, ⟨_, hk2, hide (Own.nil_ _ _ _ _ _)⟩, (Below.refl _ _).alloc (by rw [hs1.out]; exact Nat.le_refl _) _, hk2.out.lt⟩
 case round =>
  obtain ⟨k, hk, rfl, ⟨v, hv, ho⟩, hbr, hBs⟩ := hrel
  by_cases hlt : k < ds.length
  ·obtain ⟨b, off, rfl, hbw⟩ := hA.out k hlt
   obtain ⟨x, hx⟩ := getElem?_of_lt hlt
   have hbe : Below w.heap.size w wr := hbl.trans (hbr.mono (by omega))
   obtain ⟨_, e0, e1, e2⟩ := ((unhide hd).mono hbe).diff_at hx
   have c1 : wr.cell? ⟨B, 1, none⟩ = some v := hv.out.cell 1
   have hl : ((ds.take k).map turnD).length ≤ 65536 := by simp; omega
   replace hx := hide hx
   replace hl := hide hl
   clear hA hk1 hk2
   go_wp2_with (at_builtin; refine wp_push el_Diff Diff.cells_len Diff.cells_one rfl (.tmp 17) (.tmp 25) rfl (B + 1) rfl ((ho.out.alloc _).alloc _) (turnD x) rfl ?c1 ?c2 ?c3 ?c4 ?_)
   case c1 => exact new_cells (by simp) _ (turnD x).cells
   case c2 => have := hl.out; omega
   case c3 => have := hl.out; omega
   case c4 => simp; omega
   intro v' w1 hown hbel _
   obtain ⟨A1, n1, k1, rfl⟩ := hown.shape
   have hv1 := ((hv.out.alloc _).alloc _).below hbel (by omega)
   have c1' : w1.cell? ⟨B, 1, none⟩ = some v := hv1.cell 1
   have f1' : w1.frozen? ⟨B, 1, none⟩ = false := hv1.frozen 1
   have hv2 := hide (hv1.set_ 1 (.slice A1 n1 k1))
   have hs2 : B < w1.heap.size := hv1.lt
   have ho2 := hide (hown.set_below (p := ⟨B, 1, none⟩) (by show B < B + 1; omega) (.slice A1 n1 k1))
   have hb2 := hide ((((hbr.alloc (by omega) _).alloc (by simp; omega) _).trans (hbel.mono (by omega))).setCell (p := ⟨B, 1, none⟩) (Nat.le_refl _) (.slice A1 n1 k1))
   clear hown hbel hv ho hbr c1 hv1
   go_wp2_with fail
   go_roundw
   case rel =>
    refine ⟨k + 1, by omega, by go_num, ⟨_, hide (by simpa using hv2.out), hide ?_⟩, hb2.out, by simpa using hs2⟩
    rw [take_succ_of hx.out, List.map_append]
    simpa using ho2.out
   case measure => simp [intOf]; omega
  ·have he : k = ds.length := by omega
   subst he
   obtain ⟨A1, n1, k1, rfl⟩ := ho.out.shape
   obtain ⟨c0, c1⟩ := hv.out.cells2
   have hr := hk1.out.below hbr (by omega)
   obtain ⟨r0, r1⟩ := hr.cells2
   have s0 : wr.frozen? ⟨w.heap.size + 1, 0, none⟩ = false := hr.frozen 0
   have s1 : wr.frozen? ⟨w.heap.size + 1, 1, none⟩ = false := hr.frozen 1
   have hr2 := (hr.set_ 0 (Value.int .i64 nodes)).set_ 1 (.slice A1 n1 k1)
   have q0 := hide (show _ = some (I nodes) from hr2.cell 0)
   have q1 := hide (show _ = some (Value.slice A1 n1 k1) from hr2.cell 1)
   have ho2 := hide (((ho.out.mono (by omega : w.heap.size + 2 ≤ B + 1)).set_below (p := ⟨w.heap.size + 1, 0, none⟩) (by show w.heap.size + 1 < _; omega) (Value.int .i64 nodes)).set_below (p := ⟨w.heap.size + 1, 1, none⟩) (by show w.heap.size + 1 < _; omega) (.slice A1 n1 k1))
   have hb2 := hide (((hbl.trans (hbr.mono (by omega))).setCell (p := ⟨w.heap.size + 1, 0, none⟩) (by show _ ≤ w.heap.size + 1; omega) (Value.int .i64 nodes)).setCell (p := ⟨w.heap.size + 1, 1, none⟩) (by show _ ≤ w.heap.size + 1; omega) (.slice A1 n1 k1))
   clear hA hk1 hk2 hr hr2 ho hv hbr
   go_wp2_with fail
   refine bodyPost_ret (v := .agg #[I nodes, .slice A1 n1 k1]) (by simp [results, Tryz.results212, go_sem, q0.out, q1.out]) rfl ⟨_, rfl, ?_, hb2.out⟩
   simpa using ho2.out.mono (by omega)

theorem method_nodes (n : Int) (vd : Value) (w : World) : ∀ ms, Tryz.prog.underlying 262 = some (.interface ms) → ∀ p, ms[1]? = some p → (method 391 258 (.agg #[I n, vd]) p.1).run Tryz.prog w = .ok (241, .agg #[I n, vd]) w := by
 intro ms h p hp
 rw [Tryz.underlying262] at h
 injection h with h; injection h with h; subst h
 simp at hp; subst hp
 kernel_rfl
theorem method_lines (n : Int) (vd : Value) (w : World) : ∀ ms, Tryz.prog.underlying 262 = some (.interface ms) → ∀ p, ms[0]? = some p → (method 391 258 (.agg #[I n, vd]) p.1).run Tryz.prog w = .ok (240, .agg #[I n, vd]) w := by
 intro ms h p hp
 rw [Tryz.underlying262] at h
 injection h with h; injection h with h; subst h
 simp at hp; subst hp
 kernel_rfl
theorem diffs_all (vd : Value) (n : Nat) (w : World)  (hb : n ≤ 65536) :
  Calls Tryz.prog 218 #[.iface 258 (.agg #[I n, vd])] w fun e w' => ∃ v, e = .returned v ∧ Own w' w.heap.size 3 1 intC v ((List.range n).map (fun (i : Nat) => (i : Int))) ∧ Below w.heap.size w w' := by
 have hm := method_nodes n vd w _ Tryz.underlying262 _ rfl
 simp only [List.getElem_toArray, List.getElem_cons_succ, List.getElem_cons_zero] at hm
 go_enter Tryz.func218, Tryz.ntmps218
 go_wp2_with (go_at_call 241; refine (diffs_nodes _ _ _).mono ?_; rintro e w' ⟨rfl, hb1⟩)
 clear hm
 go_loopw [3, 7] (fun l i wr => ∃ k : Nat, k ≤ n ∧ i = I k ∧ Hid (Own wr w.heap.size 3 1 intC l ((List.range k).map (fun (i : Nat) => (i : Int)))) ∧ Below w.heap.size w wr) (fun _ i _ => n - (intOf i).toNat)
 case atStart => exact ⟨0, Nat.zero_le _, rfl, hide (Own.nil_ _ _ _ _ _), hb1⟩
 case round =>
  obtain ⟨k, hk, rfl, ho, hbr⟩ := hrel
  have hsz := hbr.size
  by_cases hlt : k < n
  ·go_wp2_with (at_builtin; refine wp_push el_int intC_len intC_one rfl (.tmp 10) (.tmp 12) rfl w.heap.size rfl (ho.out.alloc _) (k : Int) rfl ?c1 ?c2 ?c3 ?c4 ?_)
   case c1 => exact new_cells (by simp) _ (intC k)
   case c2 => simp; omega
   case c3 => simp; omega
   case c4 => simp; omega
   intro v' w1 hown hbel _
   have hb2 := (hbr.alloc hsz (.cells #[I k] 3)).trans hbel
   replace hown := hide hown
   clear hbel hbr ho
   go_wp2_with fail
   go_roundw
   case rel => exact ⟨k + 1, by omega, by go_num, hide (by rw [List.range_succ, List.map_append]; simpa using hown.out), hb2⟩
   case measure => simp [intOf]; omega
  ·have he : k = n := by omega
   subst he
   go_wp2_with fail
   go_ret
   exact ⟨_, rfl, ho.out, hbr⟩

theorem loopF_lt {last : List Int} {ds : List Diff} {n : Nat} (hd : ∀ d ∈ ds, 0 ≤ d.frm ∧ d.frm < n) (hl : ∀ x ∈ last, x < ds.length) : ∀ (k at_ : Nat), at_ < n → loopF last ds k at_ < n
 | 0, at_, h => by simp [loopF]; omega
 | k + 1, at_, h => by
  unfold loopF
  split
  ·omega
  ·rename_i h0
   refine loopF_lt hd hl k _ ?_
   have hx : last.getD at_ (-1) ∈ last := by
    rcases Nat.lt_or_ge at_ last.length with h1 | h1
    ·simp [h1]
    ·simp [List.getElem?_eq_none h1] at h0
   have h2 := hl _ hx
   have h3 : (last.getD at_ (-1)).toNat < ds.length := by omega
   have h4 := hd (ds.getD (last.getD at_ (-1)).toNat default) (by rw [List.getD_eq_getElem?_getD, List.getElem?_eq_getElem h3]; exact List.getElem_mem _)
   omega

theorem diffs_looped (vl vh vt vd : Value) (last : List Int) (ds : List Diff) (at_ : Nat) (w : World) (hat : at_ < last.length) (hn : last.length ≤ 65536)
  (hd : ∀ d ∈ ds, 0 ≤ d.frm ∧ d.frm < last.length) (hl : ∀ x ∈ last, x < ds.length) (ht : Sl w 1 intC vt last) (hdv : Sl w 3 Diff.cells vd ds) :
  Calls Tryz.prog 220 #[.agg #[vl, vh, vt], vd, I at_] w fun e w' => e = .returned (I (loopF last ds last.length at_)) ∧ Below w.heap.size w w' := by
 obtain ⟨A, c, rfl, _, _, hlen, hA⟩ := ht.open_
 obtain ⟨A', c', rfl, _, _, hlen', hA'⟩ := hdv.open_
 obtain ⟨b, off, rfl, hbw⟩ := hA at_ hat
 replace ht := hide ht
 replace hdv := hide hdv
 replace hA' := hide hA'
 replace hd := hide hd
 replace hl := hide hl
 clear hA
 go_enter Tryz.func220, Tryz.ntmps220
 go_wp2_with fail
 obtain ⟨W0, hW0⟩ : ∃ W0, W0 = w.alloc (Obj.cells #[vl, vh, Value.slice (some ⟨b, off, none⟩) last.length c] 249) := ⟨_, rfl⟩
 have c2 : W0.cell? ⟨w.heap.size, 2, none⟩ = some (Value.slice (some ⟨b, off, none⟩) last.length c) := by rw [hW0]; simp [go_sem]
 have hbl : Below w.heap.size w W0 := by rw [hW0]; exact below1 _ _
 rw [← hW0]
 clear hW0
 go_loop [2, 10] (fun a i => ∃ k at2 : Nat, k ≤ last.length ∧ at2 < last.length ∧ i = I k ∧ a = I at2 ∧ Hid (loopF last ds (last.length - k) at2 = loopF last ds last.length at_)) (fun _ i => last.length - (intOf i).toNat)
 case atStart => exact ⟨0, at_, Nat.zero_le _, hat, rfl, rfl, hide rfl⟩
 case round =>
  obtain ⟨k, p, hk, hp, rfl, rfl, hr⟩ := hrel
  by_cases hlt : k < last.length
  ·obtain ⟨x, hx⟩ := getElem?_of_lt hp
   obtain ⟨_, e0⟩ := ((unhide ht).mono hbl).int_at hx
   have hm : last.length - k = (last.length - (k + 1)) + 1 := by omega
   have hgx : last.getD p (-1) = x := by simp [hx]
   have hxl := hl.out x (List.mem_of_getElem? hx)
   rcases ilt x 0 with h0 | h0
   ·have hfin := hide (show loopF last ds last.length at_ = -1 by rw [← hr.out, hm, loopF, hgx, if_pos h0])
    replace hx := hide hx; replace hm := hide hm; replace hgx := hide hgx
    go_wp2_with fail
    go_ret
    exact ⟨ret_int hfin.out.symm, hbl⟩
   ·obtain ⟨z, rfl⟩ := Int.eq_ofNat_of_zero_le h0
    have hz : z < ds.length := by omega
    obtain ⟨b', off', rfl, hbw'⟩ := hA'.out z hz
    obtain ⟨d, hdz⟩ := getElem?_of_lt hz
    obtain ⟨_, f0, f1, f2⟩ := ((unhide hdv).mono hbl).diff_at hdz
    have hdd := hd.out d (List.mem_of_getElem? hdz)
    obtain ⟨y, hy⟩ := Int.eq_ofNat_of_zero_le hdd.1
    have hyl : y < last.length := by omega
    have hnext := hide (show loopF last ds (last.length - (k + 1)) y = loopF last ds last.length at_ by
     rw [← hr.out, hm, loopF, hgx, if_neg (by omega)]
     simp [hdz, hy])
    rw [hy] at f0
    replace hx := hide hx; replace hm := hide hm; replace hgx := hide hgx; replace hdz := hide hdz; replace hy := hide hy
    clear hr hdd
    go_wp2_with fail
    go_round
    case rel => exact ⟨k + 1, y, by omega, hyl, by go_num, rfl, hnext⟩
    case measure => simp [intOf]; omega
  ·have he : k = last.length := by omega
   subst he
   have hfin := hide (show loopF last ds last.length at_ = p by rw [← hr.out, Nat.sub_self]; rfl)
   clear hr
   go_wp2_with fail
   go_ret
   exact ⟨ret_int hfin.out.symm, hbl⟩
end Go.Proofs.YtgbbljfmngmjeaaGreat
