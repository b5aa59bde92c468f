/- The reference's nets: valid differences, Check, Turned, marks. Conditions stand in the theorems. -/
import Derived.Test.YtgbbljfmngmjeaaGreatRepeatPack
import Derived.Test.YtgbbljfmngmjeaaGreatPlugPack
import Derived.Test.YtgbbljfmngmjeaaGreatGrow
import Derived.Test.YtgbbljfmngmjeaaGreatBasinDefsPack
set_option linter.all false
set_option maxHeartbeats 4000000
set_option maxRecDepth 100000
namespace Go.Proofs.YtgbbljfmngmjeaaGreat
open Go.RowKit

theorem ref4_node (i n : Int) (w : World) : Calls Tryz.prog 221 #[I i, I n] w fun e w' => e = .returned (.bool (decide (0 ≤ i) && decide (i < n))) ∧ w = w' := by
 rcases ilt i 0 with h1 | h1
 ·rw [show decide (0 ≤ i) = false from decide_eq_false (by omega), Bool.false_and]
  have h2 : decide (0 ≤ i) = false := decide_eq_false (by omega)
  go_enter Tryz.func221, Tryz.ntmps221
  go_wp2
  go_ret
  exact ⟨(by first | rfl | (simp <;> omega)), rfl⟩
 ·rw [show decide (0 ≤ i) = true from decide_eq_true h1, Bool.true_and]
  go_enter Tryz.func221, Tryz.ntmps221
  go_wp2
  go_ret
  exact ⟨(by first | rfl | (simp <;> omega)), rfl⟩
theorem node4_is {i n : Int} {b : Bool} (h : (decide (0 ≤ i) && decide (i < n)) = b) (w : World) : Calls Tryz.prog 221 #[I i, I n] w fun e w' => e = .returned (.bool b) ∧ w = w' := h ▸ ref4_node i n w
theorem diffOk_eq {n : Int} {d : Diff} : diffOk n d = ((decide (0 ≤ d.frm) && decide (d.frm < n)) && (decide (0 ≤ d.to) && decide (d.to < n)) && (decide (-1073741824 ≤ d.most) && decide (d.most ≤ 1073741824))) := by
 unfold diffOk inB
 rw [Bool.eq_iff_iff]
 simp only [Bool.and_eq_true, decide_eq_true_eq]
 omega
theorem ref4_Valid (n : Int) (d : Diff) (w : World) : Calls Tryz.prog 217 #[.agg #[I d.frm, I d.to, I d.most], I n] w fun e w' => e = .returned (.bool (diffOk n d)) ∧ Below w.heap.size w w' := by
 rw [diffOk_eq]
 cases g0 : (decide (0 ≤ d.frm) && decide (d.frm < n)) with
 | false =>
  simp only [Bool.false_and]
  go_enter Tryz.func217, Tryz.ntmps217
  go_wp2_with (go_at_call 221; refine (node4_is (by assumption) _).mono ?_; rintro e w' ⟨rfl, rfl⟩)
  go_ret
  exact ⟨(by first | rfl | (simp <;> omega)), below1 _ _⟩
 | true =>
  cases g1 : (decide (0 ≤ d.to) && decide (d.to < n)) with
  | false =>
   simp only [Bool.false_and, Bool.true_and]
   go_enter Tryz.func217, Tryz.ntmps217
   go_wp2_with (go_at_call 221; refine (node4_is (by assumption) _).mono ?_; rintro e w' ⟨rfl, rfl⟩)
   go_ret
   exact ⟨(by first | rfl | (simp <;> omega)), below1 _ _⟩
  | true =>
   simp only [Bool.true_and]
   rcases ilt d.most (-1073741824) with h | h
   ·have h2 : decide (-1073741824 ≤ d.most) = false := decide_eq_false (by omega)
    rw [h2, Bool.false_and]
    go_enter Tryz.func217, Tryz.ntmps217
    go_wp2_with (go_at_call 221; refine (node4_is (by assumption) _).mono ?_; rintro e w' ⟨rfl, rfl⟩)
    go_ret
    exact ⟨(by first | rfl | (simp <;> omega)), below1 _ _⟩
   ·rw [decide_eq_true h, Bool.true_and]
    go_enter Tryz.func217, Tryz.ntmps217
    go_wp2_with (go_at_call 221; refine (node4_is (by assumption) _).mono ?_; rintro e w' ⟨rfl, rfl⟩)
    go_ret
    exact ⟨(by first | rfl | (simp <;> omega)), below1 _ _⟩

theorem netE_bad {n : Int} {ds : List Diff} (h : n < 1 ∨ 256 < n ∨ 4096 < ds.length) : netE n ds = 40 := by
 unfold netE netOk inB
 rw [if_neg]
 simp only [Bool.and_eq_true, decide_eq_true_eq]
 omega
theorem netE_good {n : Int} {ds : List Diff} (h1 : 1 ≤ n) (h2 : n ≤ 256) (h3 : ds.length ≤ 4096) {q : Bool} (h : ds.all (diffOk n) = q) : netE n ds = if q then 0 else 40 := by
 unfold netE netOk
 rw [h, inB_true.2 ⟨h1, h2⟩, decide_eq_true h3]
 cases q <;> rfl
theorem ref4_Check (vd : Value) (n : Int) (ds : List Diff) (w : World) (hd : Sl w 3 Diff.cells vd ds) :
  Calls Tryz.prog 211 #[.agg #[I n, vd]] w fun e w' => e = .returned (I (netE n ds)) ∧ Below w.heap.size w w' := by
 obtain ⟨A, c, rfl, _, _, hlen, hA⟩ := hd.open_
 replace hd := hide hd
 replace hA := hide hA
 rcases ilt n 1 with h1 | h1
 ·rw [netE_bad (.inl h1)]
  go_enter Tryz.func211, Tryz.ntmps211
  go_wp2_with fail
  go_ret
  exact ⟨rfl, below1 _ _⟩
 rcases ilt 256 n with h2 | h2
 ·rw [netE_bad (.inr (.inl h2))]
  go_enter Tryz.func211, Tryz.ntmps211
  go_wp2_with fail
  go_ret
  exact ⟨rfl, below1 _ _⟩
 rcases Nat.lt_or_ge 4096 ds.length with h3 | h3
 ·rw [netE_bad (.inr (.inr h3))]
  go_enter Tryz.func211, Tryz.ntmps211
  go_wp2_with fail
  go_ret
  exact ⟨rfl, below1 _ _⟩
 obtain ⟨q, hq⟩ : ∃ q, ds.all (diffOk n) = q := ⟨_, rfl⟩
 rw [netE_good h1 h2 h3 hq]
 replace hq := hide hq
 go_enter Tryz.func211, Tryz.ntmps211
 go_wp2_with fail
 obtain ⟨W1, hW1⟩ : ∃ W1, W1 = w.alloc (.cells #[I n, .slice A ds.length c] 189) := ⟨_, rfl⟩
 have hk := Blk.new w 189 #[I n, .slice A ds.length c]
 have hb : Below w.heap.size w W1 := by rw [hW1]; exact below1 _ _
 rw [← hW1] at hk ⊢
 clear hW1
 obtain ⟨g, hg⟩ : ∃ g, w.heap.size = g := ⟨_, rfl⟩
 rw [hg] at hk ⊢
 replace hg := hide hg
 replace hb := hide hb
 replace hk := hide hk
 go_loopw [3] (fun i wr => ∃ k : Nat, k ≤ ds.length ∧ i = I k ∧ Hid (Upto (diffOk n) ds k) ∧ Hid (Below W1.heap.size W1 wr)) (fun i _ => ds.length - (intOf i).toNat)
 case atStart => exact ⟨0, Nat.zero_le _, rfl, hide (Upto.zero _ _), hide (Below.refl _ _)⟩
 case round =>
  obtain ⟨k, hkl, rfl, hu, hbw⟩ := hrel
  have hk2 := hk.out.below hbw.out hk.out.lt
  obtain ⟨c0, c1⟩ := hk2.cells2
  have zg := hk2.lt
  clear hk2
  by_cases hlt : k < ds.length
  ·obtain ⟨ga, oa, rfl, _⟩ := hA.out k hlt
   obtain ⟨x, hx⟩ := getElem?_of_lt hlt
   obtain ⟨zx, e0, e1, e2⟩ := (hd.out.mono (bup hb.out hbw.out)).diff_at hx
   have JV := hide (fun w => ref4_Valid n x w)
   obtain ⟨o, ho⟩ : ∃ o, diffOk n x = o := ⟨_, rfl⟩
   rw [ho] at JV
   replace hx := hide hx
   replace ho := hide ho
   cases o with
   | false =>
    have hqf : q = false := hq.out.symm.trans (all_bad hx.out ho.out)
    subst hqf
    go_wp2_with fail
    (refine wp_grow ?_; (repeat go_big_quiet_step ((go_at_call 217; exact calls_grew (JV.out _)))); refine wp_grow0 ?_; intro W1 hW1)
    go_wp2_with fail
    go_ret
    exact ⟨rfl, bup (bup hb.out hbw.out) hW1⟩
   | true =>
    have hu2 := hide (hu.out.succ hx.out ho.out)
    go_wp2_with fail
    (refine wp_grow ?_; (repeat go_big_quiet_step ((go_at_call 217; exact calls_grew (JV.out _)))); refine wp_grow0 ?_; intro W1 hW1)
    go_wp2_with fail
    go_roundw
    case rel => exact ⟨k + 1, by omega, by go_num, hu2, hide (bup hbw.out hW1)⟩
    case measure => simp [intOf]; omega
  ·have he : k = ds.length := by omega
   subst he
   have hqf : q = true := hq.out.symm.trans hu.out.all
   subst hqf
   go_wp2_with fail
   go_ret
   exact ⟨rfl, bup hb.out hbw.out⟩

def marksF (n : Nat) (all : Bool) (one : Int) : List Bool := (List.range n).map fun (i : Nat) => all || decide ((i : Int) = one)
theorem marksF_succ (n : Nat) (all : Bool) (one : Int) : marksF (n + 1) all one = marksF n all one ++ [all || decide ((n : Int) = one)] := by simp [marksF, List.range_succ]
theorem marksF_len (n : Nat) (all : Bool) (one : Int) : (marksF n all one).length = n := by simp [marksF]
theorem ref4_marks (vd : Value) (n : Nat) (ds : List Diff) (all : Bool) (one : Int) (w : World) (hd : Sl w 3 Diff.cells vd ds) (hn : n ≤ 256) :
  Calls Tryz.prog 202 #[.agg #[I n, vd], .bool all, I one] w fun e w' => ∃ v, e = .returned v ∧ Own w' w.heap.size 4 1 boolC v (marksF n all one) ∧ Below w.heap.size w w' := by
 obtain ⟨A, c, rfl, _⟩ := hd.open_
 clear hd
 go_enter Tryz.func202, Tryz.ntmps202
 go_wp2_with fail
 obtain ⟨W1, hW1⟩ : ∃ W1, W1 = w.alloc (.cells #[I n, .slice A ds.length c] 189) := ⟨_, rfl⟩
 have hk := Blk.new w 189 #[I n, .slice A ds.length c]
 have hb : Below w.heap.size w W1 := by rw [hW1]; exact below1 _ _
 have hs : W1.heap.size = w.heap.size + 1 := by rw [hW1]; simp
 rw [← hW1] at hk ⊢
 clear hW1
 obtain ⟨g, hg⟩ : ∃ g, w.heap.size = g := ⟨_, rfl⟩
 rw [hg] at hk hs ⊢
 replace hb := hide hb
 replace hk := hide hk
 replace hs := hide hs
 go_loopw [7, 8] (fun v i wr => ∃ k : Nat, k ≤ n ∧ i = I k ∧ Hid (Own wr (g + 1) 4 1 boolC v (marksF k all one)) ∧ Hid (Below (g + 1) W1 wr)) (fun _ i _ => n - (intOf i).toNat)
 case atStart => exact ⟨0, Nat.zero_le _, rfl, hide (Own.nil_ _ _ _ _ _), hide (by rw [← hs.out]; exact Below.refl _ _)⟩
 case round =>
  obtain ⟨k, hkl, rfl, ho, hbw⟩ := hrel
  have c0 : wr.cell? ⟨g, 0, none⟩ = some (I n) := (hk.out.below hbw.out (by omega)).cell 0
  have zg : g < wr.heap.size := (hk.out.below hbw.out (by omega)).lt
  by_cases hlt : k < n
  ·have hl : (marksF k all one).length ≤ 256 := by rw [marksF_len]; omega
   obtain ⟨q, hq⟩ : ∃ q, (all || decide ((k : Int) = one)) = q := ⟨_, rfl⟩
   have hq2 : ((k : Int) == one) = decide ((k : Int) = one) := rfl
   have hsz : g + 1 ≤ wr.heap.size := by omega
   replace hl := hide hl
   cases all with
   | true =>
    replace hq := hide (show true = q by simpa using hq)
    go_wp2_with (at_builtin; refine wp_push el_bool boolC_len boolC_one rfl (.tmp 15) (.tmp 22) rfl (g + 1) rfl (ho.out.alloc _) true rfl ?c1 ?c2 ?c3 ?c4 ?_)
    case c1 => exact new_cells (by simp) _ (boolC true)
    case c2 => have := hl.out; omega
    case c3 => have := hl.out; omega
    case c4 => simp; omega
    intro v' w1 hown hbel _
    go_wp2_with fail
    go_roundw
    case rel =>
     refine ⟨k + 1, by omega, by go_num, hide ?_, hide ((hbw.out.alloc (by omega) _).trans hbel)⟩
     rw [marksF_succ]
     simpa using hown
    case measure => simp [intOf]; omega
   | false =>
    replace hq := hide (show decide ((k : Int) = one) = q by simpa using hq)
    go_wp2_with (at_builtin; refine wp_push el_bool boolC_len boolC_one rfl (.tmp 15) (.tmp 22) rfl (g + 1) rfl (ho.out.alloc _) (decide ((k : Int) = one)) rfl ?c1 ?c2 ?c3 ?c4 ?_)
    case c1 => exact new_cells (by simp) _ (boolC _)
    case c2 => have := hl.out; omega
    case c3 => have := hl.out; omega
    case c4 => simp; omega
    intro v' w1 hown hbel _
    go_wp2_with fail
    go_roundw
    case rel =>
     refine ⟨k + 1, by omega, by go_num, hide ?_, hide ((hbw.out.alloc (by omega) _).trans hbel)⟩
     rw [marksF_succ]
     simpa using hown
    case measure => simp [intOf]; omega
  ·have he : k = n := by omega
   subst he
   go_wp2_with fail
   go_ret
   exact ⟨_, rfl, by rw [hg]; exact ho.out.mono (by omega), by rw [hg]; exact (hg ▸ hb.out).trans (hbw.out.mono (by omega))⟩

theorem ref4_Turned (vd : Value) (nodes : Int) (ds : List Diff) (w : World) (hd : Sl w 3 Diff.cells vd ds) (hb : ds.length ≤ 65536) :
  Calls Tryz.prog 210 #[.agg #[I nodes, vd]] w fun e w' => ∃ v, e = .returned (.agg #[I nodes, v]) ∧ Own w' w.heap.size 245 3 Diff.cells v (ds.map turnD) ∧ Below w.heap.size w w' := by
 obtain ⟨A, c, rfl, _, _, hlen, hA⟩ := hd.open_
 replace hd := hide hd
 replace hA := hide hA
 go_enter Tryz.func210, Tryz.ntmps210
 go_wp2_with fail
 obtain ⟨W1, hW1⟩ : ∃ W1, W1 = (w.alloc (Obj.cells #[I nodes, Value.slice A ds.length c] 189)).alloc (Obj.cells #[Value.int IntKind.i64 0, Value.slice none 0 0] 189) := ⟨_, rfl⟩
 have hbl : Below w.heap.size w W1 := by rw [hW1]; exact below2 _ _ _
 have hs1 : W1.heap.size = w.heap.size + 1 + 1 := by rw [hW1]; simp
 have hk1 : Blk W1 (w.heap.size + 1) 189 #[Value.int IntKind.i64 0, Value.slice none 0 0] := by
  rw [hW1]; have := Blk.new (w.alloc (Obj.cells #[I nodes, Value.slice A ds.length c] 189)) 189 #[Value.int IntKind.i64 0, Value.slice none 0 0]
  simpa using this
 have hk0 : Blk W1 w.heap.size 189 #[I nodes, Value.slice A ds.length c] := by
  rw [hW1]; exact (Blk.new w 189 #[I nodes, Value.slice A ds.length c]).alloc _
 rw [← hW1]
 have hB : ∃ B, B = w.heap.size + 1 + 1 := ⟨_, rfl⟩
 obtain ⟨B, hB⟩ := hB
 rw [← hB] at hs1 ⊢
 have hlw : w.heap.size + 1 < B := by omega
 have hk2 : Blk (W1.alloc (Obj.cells #[Value.int IntKind.i64 nodes, Value.slice none 0 0] 189)) B 189 #[I nodes, Value.slice none 0 0] := by rw [← hs1]; exact Blk.new _ _ _
 replace hk0 := hide hk0
 replace hk1 := hide hk1
 replace hk2 := hide hk2
 replace hs1 := hide hs1
 clear hW1 hB
 go_loopw [4, 5] (fun i _ wr => ∃ k : Nat, k ≤ ds.length ∧ i = I k ∧ (∃ v, Hid (Blk wr B 189 #[I nodes, v]) ∧ Hid (Own wr (B + 1) 245 3 Diff.cells v ((ds.take k).map turnD))) ∧ Below B W1 wr ∧ B < wr.heap.size) (fun i _ _ => ds.length - (intOf i).toNat)
 case atStart => exact ⟨0, Nat.zero_le _, rfl, ⟨_, hk2, hide (Own.nil_ _ _ _ _ _)⟩, (Below.refl _ _).alloc (by rw [hs1.out]; exact Nat.le_refl _) _, hk2.out.lt⟩
 case round =>
  obtain ⟨k, hk, rfl, ⟨v, hv, ho⟩, hbr, hBs⟩ := hrel
  have r1' : wr.cell? ⟨w.heap.size, 1, none⟩ = some (Value.slice A ds.length c) := (hk0.out.below hbr (by omega)).cell 1
  have zr' : w.heap.size < wr.heap.size := by omega
  by_cases hlt : k < ds.length
  ·obtain ⟨b, off, rfl, hbw⟩ := hA.out k hlt
   obtain ⟨x, hx⟩ := getElem?_of_lt hlt
   have hbe : Below w.heap.size w wr := hbl.trans (hbr.mono (by omega))
   obtain ⟨_, e0, e1, e2⟩ := ((unhide hd).mono hbe).diff_at hx
   have c1 : wr.cell? ⟨B, 1, none⟩ = some v := hv.out.cell 1
   have hl : ((ds.take k).map turnD).length ≤ 65536 := by simp; omega
   replace hx := hide hx
   replace hl := hide hl
   clear hA hk1 hk2
   go_wp2_with (at_builtin; refine wp_push el_Diff Diff.cells_len Diff.cells_one rfl (.tmp 22) (.tmp 30) rfl (B + 1) rfl ((ho.out.alloc _).alloc _) (turnD x) rfl ?c1 ?c2 ?c3 ?c4 ?_)
   case c1 => exact new_cells (by simp) _ (turnD x).cells
   case c2 => have := hl.out; omega
   case c3 => have := hl.out; omega
   case c4 => simp; omega
   intro v' w1 hown hbel _
   obtain ⟨A1, n1, k1, rfl⟩ := hown.shape
   have hv1 := ((hv.out.alloc _).alloc _).below hbel (by omega)
   have c1' : w1.cell? ⟨B, 1, none⟩ = some v := hv1.cell 1
   have f1' : w1.frozen? ⟨B, 1, none⟩ = false := hv1.frozen 1
   have hv2 := hide (hv1.set_ 1 (.slice A1 n1 k1))
   have hs2 : B < w1.heap.size := hv1.lt
   have ho2 := hide (hown.set_below (p := ⟨B, 1, none⟩) (by show B < B + 1; omega) (.slice A1 n1 k1))
   have hb2 := hide ((((hbr.alloc (by omega) _).alloc (by simp; omega) _).trans (hbel.mono (by omega))).setCell (p := ⟨B, 1, none⟩) (Nat.le_refl _) (.slice A1 n1 k1))
   clear hown hbel hv ho hbr c1 hv1
   go_wp2_with fail
   go_roundw
   case rel =>
    refine ⟨k + 1, by omega, by go_num, ⟨_, hide (by simpa using hv2.out), hide ?_⟩, hb2.out, by simpa using hs2⟩
    rw [take_succ_of hx.out, List.map_append]
    simpa using ho2.out
   case measure => simp [intOf]; omega
  ·have he : k = ds.length := by omega
   subst he
   obtain ⟨A1, n1, k1, rfl⟩ := ho.out.shape
   obtain ⟨c0, c1⟩ := hv.out.cells2
   have hr := hk1.out.below hbr (by omega)
   obtain ⟨r0, r1⟩ := hr.cells2
   have s0 : wr.frozen? ⟨w.heap.size + 1, 0, none⟩ = false := hr.frozen 0
   have s1 : wr.frozen? ⟨w.heap.size + 1, 1, none⟩ = false := hr.frozen 1
   have hr2 := (hr.set_ 0 (Value.int .i64 nodes)).set_ 1 (.slice A1 n1 k1)
   have q0 := hide (show _ = some (I nodes) from hr2.cell 0)
   have q1 := hide (show _ = some (Value.slice A1 n1 k1) from hr2.cell 1)
   have ho2 := hide (((ho.out.mono (by omega : w.heap.size + 2 ≤ B + 1)).set_below (p := ⟨w.heap.size + 1, 0, none⟩) (by show w.heap.size + 1 < _; omega) (Value.int .i64 nodes)).set_below (p := ⟨w.heap.size + 1, 1, none⟩) (by show w.heap.size + 1 < _; omega) (.slice A1 n1 k1))
   have hb2 := hide (((hbl.trans (hbr.mono (by omega))).setCell (p := ⟨w.heap.size + 1, 0, none⟩) (by show _ ≤ w.heap.size + 1; omega) (Value.int .i64 nodes)).setCell (p := ⟨w.heap.size + 1, 1, none⟩) (by show _ ≤ w.heap.size + 1; omega) (.slice A1 n1 k1))
   clear hA hk1 hk2 hr hr2 ho hv hbr
   go_wp2_with fail
   refine bodyPost_ret (v := .agg #[I nodes, .slice A1 n1 k1]) (by simp [results, Tryz.results210, go_sem, q0.out, q1.out]) rfl ⟨_, rfl, ?_, hb2.out⟩
   simpa using ho2.out.mono (by omega)
end Go.Proofs.YtgbbljfmngmjeaaGreat
