/- The reference's Lengths: passes over all differences until one changes nothing. Conditions stand in the theorems. -/
import Derived.Test.YtgbbljfmngmjeaaGreatRefD
import Derived.Test.YtgbbljfmngmjeaaGreatRefNetPack
import Derived.Test.YtgbbljfmngmjeaaGreatBasinDefsPack
import Derived.Test.YtgbbljfmngmjeaaGreatBasin7Pack
import Derived.Test.YtgbbljfmngmjeaaGreatGrowTail
import Derived.OneCell
import Derived.Deep.DeepCutAuto
import Derived.Test.YtgbbljfmngmjeaaGreatReachPack
import Derived.Test.YtgbbljfmngmjeaaGreatRound
import Derived.Test.YtgbbljfmngmjeaaGreatRefY
import Derived.Test.YtgbbljfmngmjeaaGreatBasin11Pack
set_option linter.all false
set_option maxHeartbeats 8000000
set_option maxRecDepth 100000
namespace Go.Proofs.YtgbbljfmngmjeaaGreat
open Go.RowKit

theorem flat_setL {α : Type} {enc : α → List Value} {y : α} {u : Value} (hlen : ∀ x, (enc x).length = 1) (hu : enc y = [u]) : ∀ (xs : List α) (i : Nat), (xs.set i y).flatMap enc = (xs.flatMap enc).set i u
 | [], i => by simp
 | x :: xs, 0 => by
  obtain ⟨a, ha⟩ : ∃ a, enc x = [a] := List.length_eq_one_iff.1 (hlen x)
  simp [hu, ha]
 | x :: xs, i + 1 => by
  obtain ⟨a, ha⟩ : ∃ a, enc x = [a] := List.length_eq_one_iff.1 (hlen x)
  simp [ha, flat_setL hlen hu xs i]
theorem Own.addr {α : Type} {w : World} {base e k : Nat} {enc : α → List Value} {v : Value} {xs : List α} (h : Own w base e k enc v xs) (hlen : ∀ x, (enc x).length = k) (hk : 0 < k) (hp : 0 < xs.length) : ∃ g c cur, v = .slice (some ⟨g, 0, none⟩) xs.length c ∧ base ≤ g ∧ w.heap[g]? = some (.cells cur e (0, 0)) := by
 obtain ⟨h1, h2⟩ := h
 rcases h2 with ⟨rfl, hn⟩ | ⟨g, cap, cur, rfl, hb, hh, _⟩
 ·omega
 ·exact ⟨g, cap, cur, rfl, hb, hh⟩
theorem Own.setL_at {α : Type} {w : World} {base e g n cap i : Nat} {enc : α → List Value} {xs : List α} (hlen : ∀ x, (enc x).length = 1) (h : Own w base e 1 enc (.slice (some ⟨g, 0, none⟩) n cap) xs) (hi : i < xs.length) {y : α} {u : Value} (hu : enc y = [u]) :
  Own (w.setCell ⟨g, i, none⟩ u) base e 1 enc (.slice (some ⟨g, 0, none⟩) n cap) (xs.set i y) := by
 obtain ⟨h1, h2⟩ := h
 rcases h2 with ⟨hv, _⟩ | ⟨g', cap', cur, hv, hb, hh, hn, hc, hs, ht⟩
 ·cases hv
 ·injection hv with hv1 hv2 hv3
  injection hv1 with hv1
  injection hv1 with hv1
  subst hv1 hv3
  refine ⟨by simp [flat_len hlen], .inr ⟨g, cap, cur.setIfInBounds i u, by rw [hv2, List.length_set], hb, (show Blk w g e cur from hh).set_ i u, by simpa using hn, hc, by simpa using hs, ?_⟩⟩
  rw [flat_setL hlen hu, List.length_set, ← ht, Array.toList_setIfInBounds, List.take_set]
theorem Own.set_far {α : Type} {w : World} {base e k : Nat} {enc : α → List Value} {v : Value} {xs : List α} (h : Own w base e k enc v xs) {a : Addr} (ha : v.ownBlock ≠ some a.block) (u : Value) : Own (w.setCell a u) base e k enc v xs := ownsRow_setCell_other h ha u
theorem Own.frozen {α : Type} {w : World} {base e k g n c : Nat} {enc : α → List Value} {xs : List α} (h : Own w base e k enc (.slice (some ⟨g, 0, none⟩) n c) xs) (i : Nat) : w.frozen? ⟨g, i, none⟩ = false := by
 rcases h.2 with ⟨hv, _⟩ | ⟨g', cap', cur, hv, hb, hh, _⟩
 ·cases hv
 ·injection hv with hv1 _ _
  injection hv1 with hv1
  injection hv1 with hv1
  subst hv1
  exact Blk.frozen (t := e) (cs := cur) hh i
def LenAt (w : World) (base g4 c4 g5 c5 n : Nat) (s : Wk) : Prop :=
 Own w base 3 1 intC (.slice (some ⟨g4, 0, none⟩) n c4) s.long ∧ Own w base 4 1 boolC (.slice (some ⟨g5, 0, none⟩) n c5) s.has ∧ g4 ≠ g5
theorem LenAt.grow {w w' : World} {base g4 c4 g5 c5 n : Nat} {s : Wk} (h : LenAt w base g4 c4 g5 c5 n s) (hb : Below w.heap.size w w') : LenAt w' base g4 c4 g5 c5 n s := ⟨h.1.below hb, h.2.1.below hb, h.2.2⟩
theorem LenAt.lt {w : World} {base g4 c4 g5 c5 n : Nat} {s : Wk} (h : LenAt w base g4 c4 g5 c5 n s) : (base ≤ g4 ∧ g4 < w.heap.size) ∧ base ≤ g5 ∧ g5 < w.heap.size := ⟨ownBlock_lt h.1 g4 rfl, ownBlock_lt h.2.1 g5 rfl⟩
theorem LenAt.int_at {w : World} {base g4 c4 g5 c5 n i : Nat} {s : Wk} {x : Int} (h : LenAt w base g4 c4 g5 c5 n s) (hl : s.long.length ≤ 256) (hx : s.long[i]? = some x) : w.cell? ⟨g4, i, none⟩ = some (I x) ∧ w.frozen? ⟨g4, i, none⟩ = false := by
 have hn : s.long.length = n := by
  rcases h.1.2 with ⟨hv, _⟩ | ⟨g', cap', cur, hv, _⟩
  ·cases hv
  ·injection hv with _ hn _; exact hn.symm
 have h1 := h.1
 rw [← hn] at h1
 have := ((h1.sl intC_len (by omega)).int_at hx).2
 rw [Nat.zero_add] at this
 exact ⟨this, h.1.frozen i⟩
theorem LenAt.bool_at {w : World} {base g4 c4 g5 c5 n i : Nat} {s : Wk} {x : Bool} (h : LenAt w base g4 c4 g5 c5 n s) (hl : s.has.length ≤ 256) (hx : s.has[i]? = some x) : w.cell? ⟨g5, i, none⟩ = some (.bool x) ∧ w.frozen? ⟨g5, i, none⟩ = false := by
 have hn : s.has.length = n := by
  rcases h.2.1.2 with ⟨hv, _⟩ | ⟨g', cap', cur, hv, _⟩
  ·cases hv
  ·injection hv with _ hn _; exact hn.symm
 have h1 := h.2.1
 rw [← hn] at h1
 have := ((h1.sl boolC_len (by omega)).bool_at hx).2
 rw [Nat.zero_add] at this
 exact ⟨this, h.2.1.frozen i⟩
theorem LenAt.set {w : World} {base g4 c4 g5 c5 n i : Nat} {s : Wk} (h : LenAt w base g4 c4 g5 c5 n s) (h1 : i < s.long.length) (h2 : i < s.has.length) (x : Int) (la : List Int) (ch : Int) :
  LenAt ((w.setCell ⟨g4, i, none⟩ (I x)).setCell ⟨g5, i, none⟩ (.bool true)) base g4 c4 g5 c5 n ⟨s.long.set i x, s.has.set i true, la, ch⟩ :=
 ⟨(h.1.setL_at intC_len h1 (y := x) rfl).set_far (by show some g4 ≠ some g5; intro e; exact h.2.2 (Option.some.inj e)) _, (h.2.1.set_far (by show some g5 ≠ some g4; intro e; exact h.2.2 (Option.some.inj e).symm) _).setL_at boolC_len h2 (y := true) rfl, h.2.2⟩
theorem wkTo_succ {ds : List Diff} {s : Wk} {e : Nat} {d : Diff} (h : ds[e]? = some d) : wkTo ds s (e + 1) = wkStep (wkTo ds s e) e d := by
 have : ds.getD e default = d := by simp [List.getD_eq_getElem?_getD, h]
 show wkStep (wkTo ds s e) e (ds.getD e default) = _
 rw [this]
theorem lenRun_succ (ds : List Diff) (f : Nat) (s : Wk) : lenRun ds (f + 1) s = if (wkPass ds s).ch < 0 then (wkPass ds s, true) else lenRun ds f (wkPass ds s) := rfl
theorem getD_cell {α : Type} {l : List α} {i : Nat} (h : i < l.length) (d : α) : l[i]? = some (l.getD i d) := by simp [List.getD_eq_getElem?_getD, List.getElem?_eq_getElem h]
theorem ref4_Lengths (vd vm : Value) (n : Nat) (ds : List Diff) (ms : List Bool) (w : World) (hd : Sl w 3 Diff.cells vd ds) (hm : Sl w 1 boolC vm ms) (hml : ms.length = n) (h1 : 1 ≤ n) (hn : n ≤ 256) (hdl : ds.length ≤ 4096) (hok : ∀ d ∈ ds, diffOk n d = true) :
  Calls Tryz.prog 201 #[.agg #[I n, vd], vm] w fun e w' => ∃ v1 v2, e = .returned (.tuple #[v1, v2, .bool (lenRun ds (n + 1) ⟨List.replicate n 0, ms, List.replicate n (-1), -1⟩).2]) ∧
   Own w' w.heap.size 3 1 intC v1 (lenRun ds (n + 1) ⟨List.replicate n 0, ms, List.replicate n (-1), -1⟩).1.long ∧ Own w' w.heap.size 4 1 boolC v2 (lenRun ds (n + 1) ⟨List.replicate n 0, ms, List.replicate n (-1), -1⟩).1.has ∧ Below w.heap.size w w' := by
 obtain ⟨A, c, rfl, _, _, hlen, hA⟩ := hd.open_
 obtain ⟨M, cm, rfl, _, _, _, hM⟩ := hm.open_
 have hds := fun d (h : d ∈ ds) => (show (0 ≤ d.frm ∧ d.frm < n ∧ 0 ≤ d.to ∧ d.to < n) ∧ -1073741824 ≤ d.most ∧ d.most ≤ 1073741824 from by
  have := hok d h
  rw [diffOk_eq] at this
  simp only [Bool.and_eq_true, decide_eq_true_eq] at this
  omega)
 obtain ⟨s0, hs0⟩ : ∃ s0 : Wk, (⟨List.replicate n 0, ms, List.replicate n (-1), -1⟩ : Wk) = s0 := ⟨_, rfl⟩
 have hl0 : s0.long = List.replicate n 0 := by rw [← hs0]
 have hh0 : s0.has = ms := by rw [← hs0]
 rw [hs0]
 clear hok hs0
 replace hd := hide hd
 replace hA := hide hA
 replace hm := hide hm
 replace hM := hide hM
 replace hds := hide hds
 replace hl0 := hide hl0
 replace hh0 := hide hh0
 replace hml := hide hml
 go_enter Tryz.func201, Tryz.ntmps201
 go_wp2_with fail
 obtain ⟨WN, hWN⟩ : ∃ WN, WN = w.alloc (.cells #[I n, .slice A ds.length c] 189) := ⟨_, rfl⟩
 have hk := Blk.new w 189 #[I n, .slice A ds.length c]
 have hb : Below w.heap.size w WN := by rw [hWN]; exact below1 _ _
 have hs : WN.heap.size = w.heap.size + 1 := by rw [hWN]; simp
 rw [← hWN] at hk ⊢
 clear hWN
 obtain ⟨g, hg⟩ : ∃ g, w.heap.size = g := ⟨_, rfl⟩
 rw [hg] at hk hs ⊢
 replace hb := hide hb
 replace hk := hide hk
 replace hs := hide hs
 go_loopw [4, 5, 7] (fun v u i wr => ∃ k : Nat, k ≤ n ∧ i = I k ∧ Hid (Own wr (g + 1) 3 1 intC v (List.replicate k 0)) ∧ Hid (Own wr (g + 1) 4 1 boolC u (ms.take k)) ∧ Hid (Below (g + 1) WN wr)) (fun _ _ i _ => n - (intOf i).toNat)
 case atStart => exact ⟨0, Nat.zero_le _, rfl, hide (Own.nil_ _ _ _ _ _), hide (Own.nil_ _ _ _ _ _), hide (by rw [← hs.out]; exact Below.refl _ _)⟩
 case round =>
  obtain ⟨k, hkl, rfl, ho, hu, hbw⟩ := hrel
  have c0 : wr.cell? ⟨g, 0, none⟩ = some (I n) := (hk.out.below hbw.out (by omega)).cell 0
  have zg : g < wr.heap.size := (hk.out.below hbw.out (by omega)).lt
  have hsz : g + 1 ≤ wr.heap.size := by omega
  have hbe : Below w.heap.size w wr := hb.out.trans (by rw [hg]; exact hbw.out.mono (by omega))
  by_cases hlt : k < n
  ·obtain ⟨q, hq⟩ := getElem?_of_lt (xs := ms) (k := k) (by rw [hml.out]; exact hlt)
   obtain ⟨gm, om, rfl, hgm⟩ := hM.out k (by rw [hml.out]; exact hlt)
   obtain ⟨zm, em⟩ := (hm.out.mono hbe).bool_at hq
   have km : (k : Int) < (ms.length : Int) := by rw [hml.out]; omega
   obtain ⟨A1, n1, k1, rfl⟩ := ho.out.shape
   obtain ⟨A2, n2, k2, rfl⟩ := hu.out.shape
   replace hq := hide hq
   replace hlt := hide hlt
   go_wp2_with (at_builtin; refine wp_push_by el_int intC_len intC_one rfl (.tmp 18) (.tmp 19) rfl (g + 1) rfl (ho.out.alloc _) 0 rfl ?c1 ?c2 ?c3 ?c4 ?_)
   case c1 => exact new_cells (by simp) _ (intC 0)
   case c2 => simp; have := hlt.out; omega
   case c3 => simp; have := hlt.out; omega
   case c4 => simp; omega
   intro v' w1 hown hgr
   have hu1 := hide (Own.other (hu.out.alloc (.cells #[I 0] 3)) (ho.out.alloc _) (by decide) hgr)
   have hb1 := (hbw.out.alloc hsz (.cells #[I 0] 3)).grown hgr (by simp; omega) (fun g' hg' => (ownBlock_lt ho.out g' hg').1)
   have em1 : w1.cell? ⟨gm, om + k, none⟩ = some (.bool q) := (((hm.out.mono (hb.out.trans (by rw [hg]; exact hb1.mono (by omega)))).bool_at hq.out)).2
   have zm1 : gm < w1.heap.size := by have := hb1.size; have := hs.out; omega
   have hsz1 : g + 1 ≤ w1.heap.size := by have := hb1.size; have := hs.out; omega
   have hl : (ms.take k).length ≤ 256 := by rw [List.length_take]; omega
   obtain ⟨A1, n1, k1, rfl⟩ := hown.shape
   replace hown := hide hown
   replace hl := hide hl
   replace hb1 := hide hb1
   clear ho hu hgr em zm hbw hbe c0
   go_wp2_with (at_builtin; refine wp_push_by el_bool boolC_len boolC_one rfl (.tmp 21) (.tmp 26) rfl (g + 1) rfl (hu1.out.alloc _) q rfl ?d1 ?d2 ?d3 ?d4 ?_)
   case d1 => exact new_cells (by simp) _ (boolC q)
   case d2 => have := hl.out; omega
   case d3 => have := hl.out; omega
   case d4 => simp; omega
   intro u' w2 hown2 hgr2
   have ho2 := hide (Own.other (hown.out.alloc (.cells #[.bool q] 4)) (hu1.out.alloc _) (by decide) hgr2)
   have hb2 := (hb1.out.alloc hsz1 (.cells #[.bool q] 4)).grown hgr2 (by simp; omega) (fun g' hg' => (ownBlock_lt hu1.out g' hg').1)
   go_wp2_with fail
   go_roundw
   case rel => exact ⟨k + 1, by have := hlt.out; omega, by go_num, hide (by have := ho2.out; simpa [List.replicate_succ'] using this), hide (by rw [take_succ_of hq.out]; exact hown2), hide hb2⟩
   case measure => simp [intOf]; have := hlt.out; omega
  ·have he : n = k := by omega
   subst he
   have htk : ms.take n = ms := List.take_of_length_le (by rw [hml.out]; exact Nat.le_refl _)
   have e4 : s0.long.length = n := by rw [hl0.out, List.length_replicate]
   have e5 : s0.has.length = n := by rw [hh0.out]; exact hml.out
   rw [htk, ← hh0.out] at hu
   rw [← hl0.out] at ho
   obtain ⟨g4, c4, cur4, rfl, hb4, hh4⟩ := ho.out.addr intC_len (by omega) (by omega)
   obtain ⟨g5, c5, cur5, rfl, hb5, hh5⟩ := hu.out.addr boolC_len (by omega) (by omega)
   have hL : LenAt wr (g + 1) g4 c4 g5 c5 n s0 := ⟨by have := ho.out; rwa [e4] at this, by have := hu.out; rwa [e5] at this, fun e => by
    subst e
    rw [hh4] at hh5
    cases hh5⟩
   have hW0 : Within 0 s0.long := fun i => by rw [hl0.out, List.getD_eq_getElem?_getD, List.getElem?_replicate]; split <;> simp
   rw [e4, e5]
   clear htk hM hm hl0 hh0 hh4 hh5 ho hu
   replace hL := hide hL
   replace e4 := hide e4
   replace e5 := hide e5
   replace hW0 := hide hW0
   replace hbe := hide hbe
   have c0 := hide c0
   go_wp2_with fail
   go_loopw [4, 5, 6, 8, 9, 10, 11] (fun v4 v5 _ kk _ _ _ w2 => ∃ (j : Nat) (s : Wk), j ≤ n + 1 ∧ kk = I j ∧ v4 = .slice (some ⟨g4, 0, none⟩) n c4 ∧ v5 = .slice (some ⟨g5, 0, none⟩) n c5 ∧ Hid (LenAt w2 (g + 1) g4 c4 g5 c5 n s) ∧ Hid (s.long.length = n ∧ s.has.length = n) ∧ Hid (Within (j * 4398046511104) s.long) ∧ Hid (lenRun ds (n + 1) s0 = lenRun ds (n + 1 - j) s) ∧ Hid (Below (g + 1) WN w2)) (fun _ _ _ kk _ _ _ _ => n + 1 - (intOf kk).toNat)
   case atStart => exact ⟨0, s0, Nat.zero_le _, rfl, rfl, rfl, hL, hide ⟨e4.out, e5.out⟩, hide (by simpa using hW0.out), hide rfl, hbw⟩
   case round =>
    clear hL hbw hbe hW0 e4 e5 hb4 hb5 c0 hsz zg hlt hkl
    obtain ⟨j, s, hj, rfl, rfl, rfl, hL, hln, hWi, hrun, hbw⟩ := hrel
    have hkb := hk.out.below hbw.out (by omega)
    have c0 := hkb.cell 0
    have c1 := hkb.cell 1
    have zg := hkb.lt
    simp at c0 c1
    clear hkb
    by_cases hlt : j ≤ n
    ·have kj : (j : Int) ≤ (n : Int) := by omega
     obtain ⟨t0, ht0⟩ : ∃ t, wkPass ds s = t := ⟨_, rfl⟩
     have hrun2 : lenRun ds (n + 1 - j) s = if t0.ch < 0 then (t0, true) else lenRun ds (n + 1 - (j + 1)) t0 := by
      rw [show n + 1 - j = (n + 1 - (j + 1)) + 1 by omega, lenRun_succ, ht0]
     rw [hrun2] at hrun
     replace hrun := hide hrun.out
     replace ht0 := hide ht0
     clear hrun2
     go_wp2_with fail
     clear c0 c1 zg
     go_loopw [9, 10, 11] (fun b i _ wi => ∃ e : Nat, e ≤ ds.length ∧ i = I e ∧ b = .bool (decide (0 ≤ (wkTo ds s e).ch)) ∧ Hid (LenAt wi (g + 1) g4 c4 g5 c5 n (wkTo ds s e)) ∧ Hid (Below (g + 1) WN wi)) (fun _ i _ _ => ds.length - (intOf i).toNat)
     case atStart => exact ⟨0, Nat.zero_le _, rfl, by simp [wkTo], hide ⟨hL.out.1, hL.out.2.1, hL.out.2.2⟩, hbw⟩
     case round =>
      clear hL hbw
      obtain ⟨e, he, rfl, rfl, hL, hbw⟩ := hrel
      have hkb := hk.out.below hbw.out (by omega)
      have c1 := hkb.cell 1
      have zg := hkb.lt
      simp at c1
      clear hkb
      have hlt2 := wkTo_len ds s e
      have hwt := wkTo_within (fun d hd' => (hds.out d hd').2) hWi.out e he
      by_cases hle : e < ds.length
      ·obtain ⟨⟨df, dt, dm⟩, hx⟩ := getElem?_of_lt hle
       obtain ⟨⟨f0, f1, v0, v1⟩, m0, m1⟩ := hds.out _ (List.mem_of_getElem? hx)
       simp only at f0 f1 v0 v1 m0 m1
       obtain ⟨f, rfl⟩ : ∃ f : Nat, df = f := ⟨df.toNat, by omega⟩
       obtain ⟨v, rfl⟩ : ∃ v : Nat, dt = v := ⟨dt.toNat, by omega⟩
       have fn : f < n := by omega
       have vn : v < n := by omega
       obtain ⟨ga, oa, rfl, hga⟩ := hA.out e hle
       obtain ⟨za, a0, a1, a2⟩ := (hd.out.mono (hb.out.trans (by rw [hg]; exact hbw.out.mono (by omega)))).diff_at hx
       have hstep := wkTo_succ (s := s) hx
       obtain ⟨t, ht⟩ : ∃ t, wkTo ds s e = t := ⟨_, rfl⟩
       rw [ht] at hL hstep hlt2 hwt ⊢
       have hwt1 := hwt f
       have hwt2 := hwt v
       have l4 : t.long.length = n := hlt2.1.trans hln.out.1
       have l5 : t.has.length = n := hlt2.2.1.trans hln.out.2
       have X0 := getD_cell (l := t.long) (i := f) (by omega) 0
       have Y0 := getD_cell (l := t.long) (i := v) (by omega) 0
       have P0 := getD_cell (l := t.has) (i := f) (by omega) false
       have Q0 := getD_cell (l := t.has) (i := v) (by omega) false
       have hB : wkB t ⟨(f : Int), (v : Int), dm⟩ = (t.has.getD f false && (!t.has.getD v false || decide (t.long.getD f 0 + dm < t.long.getD v 0))) := rfl
       have hS : wkStep t e ⟨(f : Int), (v : Int), dm⟩ = if wkB t ⟨(f : Int), (v : Int), dm⟩ then ⟨t.long.set v (t.long.getD f 0 + dm), t.has.set v true, t.last.set v e, (v : Int)⟩ else t := rfl
       rw [hB] at hS
       rw [hS] at hstep
       clear hB hS ht hlt2 hwt
       obtain ⟨X, hX⟩ : ∃ X, t.long.getD f 0 = X := ⟨_, rfl⟩
       obtain ⟨Y, hY⟩ : ∃ Y, t.long.getD v 0 = Y := ⟨_, rfl⟩
       obtain ⟨p, hp⟩ : ∃ p, t.has.getD f false = p := ⟨_, rfl⟩
       obtain ⟨q, hq⟩ : ∃ q, t.has.getD v false = q := ⟨_, rfl⟩
       rw [hX] at X0 hwt1
       rw [hY] at Y0 hwt2
       rw [hp] at P0
       rw [hq] at Q0
       rw [hX, hY, hp, hq] at hstep
       clear hX hY hp hq
       have hwr : IntKind.i64.wrap (X + dm) = X + dm := IntWalk.i64_in _ (by omega)
       have nf : (f : Int) < (n : Int) := by omega
       have nv : (v : Int) < (n : Int) := by omega
       have nf0 : (0 : Int) ≤ (f : Int) := by omega
       have nv0 : (0 : Int) ≤ (v : Int) := by omega
       clear f0 f1 v0 v1 hwt1 hwt2 m0 m1
       simp only at a0 a1 a2
       replace hx := hide hx
       replace hstep := hide hstep
       go_upto_region 14 with fail
       obtain ⟨w5, hw5⟩ : ∃ w5, w5 = wr.alloc (.cells #[I f, I v, I dm] 245) := ⟨_, rfl⟩
       have hg5 : Below wr.heap.size wr w5 := by rw [hw5]; exact below1 _ _
       have kD : Blk w5 wr.heap.size 245 #[I f, I v, I dm] := by rw [hw5]; exact Blk.new _ _ _
       have hL5 := hL.out.grow hg5
       have hb5 : Below (g + 1) WN w5 := hbw.out.trans (hg5.mono (by omega))
       have hlt5 := hL.out.lt
       rw [← hw5]
       clear hw5 a0 a1 a2 za hL hbw
       obtain ⟨bD, hbD⟩ : ∃ b, wr.heap.size = b := ⟨_, rfl⟩
       rw [hbD] at kD hlt5 hg5 ⊢
       obtain ⟨d0, d1, d2⟩ := kD.cells3
       have zD := kD.lt
       have x0 := (hL5.int_at (by omega) X0).1
       have y0 := (hL5.int_at (by omega) Y0).1
       have p0 := (hL5.bool_at (by omega) P0).1
       have q0 := (hL5.bool_at (by omega) Q0).1
       have z4 : g4 < w5.heap.size := hL5.lt.1.2
       have z5 : g5 < w5.heap.size := hL5.lt.2.2
       have zg5 : g + 1 ≤ w5.heap.size := by omega
       replace X0 := hide X0
       replace Y0 := hide Y0
       replace P0 := hide P0
       replace Q0 := hide Q0
       replace hL5 := hide hL5
       replace hb5 := hide hb5
       replace kD := hide kD
       replace l4 := hide l4
       replace l5 := hide l5
       cases p with
       | false =>
        have hst := hide (show wkTo ds s (e + 1) = t by rw [hstep.out]; simp)
        (refine wp_grow ?_; (repeat go_big_quiet_step (fail)); refine wp_grow0 ?_; intro W1 hW1)
        go_wp2_with fail
        go_roundw
        case rel => exact ⟨e + 1, by omega, by go_num, by rw [hst.out], hide (by rw [hst.out]; exact hL5.out.grow hW1), hide (hb5.out.trans (hW1.mono (by omega)))⟩
        case measure => simp [intOf]; omega
       | true =>
       rcases (show (q = true ∧ ¬ X + dm < Y) ∨ (q = false ∨ (q = true ∧ X + dm < Y)) by cases q <;> simp <;> omega) with ⟨rfl, hno⟩ | hyes
       ·have hst := hide (show wkTo ds s (e + 1) = t by rw [hstep.out]; simp [hno])
        (refine wp_grow ?_; (repeat go_big_quiet_step (fail)); refine wp_grow0 ?_; intro W1 hW1)
        go_wp2_with fail
        go_roundw
        case rel => exact ⟨e + 1, by omega, by go_num, by rw [hst.out], hide (by rw [hst.out]; exact hL5.out.grow hW1), hide (hb5.out.trans (hW1.mono (by omega)))⟩
        case measure => simp [intOf]; omega
       ·have hst := hide (show wkTo ds s (e + 1) = ⟨t.long.set v (X + dm), t.has.set v true, t.last.set v e, (v : Int)⟩ by
         rw [hstep.out, if_pos]
         rcases hyes with rfl | ⟨rfl, h⟩
         ·simp
         ·simp [h])
        rcases hyes with rfl | ⟨rfl, hlt'⟩
        all_goals
         (refine wp_grow ?_; (repeat go_big_quiet_step (fail)); refine wp_grow0 ?_; intro W1 hW1)
         have hWa := hide hW1
         have hL6 := hL5.out.grow hW1
         have kE := kD.out.grow hW1
         clear d0 d1 d2 x0 y0 p0 q0 hW1
         obtain ⟨d0, d1, d2⟩ := kE.cells3
         have zE := kE.lt
         have x0 := (hL6.int_at (by have := l4.out; omega) X0.out).1
         have y0 := (hL6.int_at (by have := l4.out; omega) Y0.out).1
         have y9 : g4 < W1.heap.size := hL6.lt.1.2
         replace kE := hide kE
         replace hL6 := hide hL6
         go_wp2_with fail
         (refine wp_region_grow_tail 12 (by kernel_rfl) (by kernel_rfl) ?_; simp only [List.take_succ_cons, List.take_zero, List.drop_succ_cons, List.drop_zero]; (repeat go_big_quiet_step ((skip))); refine wpQuiet_nil ?_; rintro W1 ⟨⟨_, hW1⟩, rfl⟩)
         have hL7 := hL6.out.grow hW1
         have kF := kE.out.grow hW1
         clear d0 d1 d2 x0 y0 zE y9
         obtain ⟨d0, d1, d2⟩ := kF.cells3
         have zE := kF.lt
         obtain ⟨y0, fy⟩ := hL7.int_at (by have := l4.out; omega) Y0.out
         obtain ⟨q0, fq⟩ := hL7.bool_at (by have := l5.out; omega) Q0.out
         have y9 : g4 < W1.heap.size := hL7.lt.1.2
         have q9 : g5 < W1.heap.size := hL7.lt.2.2
         have n1 : bD ≠ g4 := by omega
         have n2 : g4 ≠ bD := by omega
         have n3 : bD ≠ g5 := by omega
         have n4 : g5 ≠ bD := by omega
         have n5 : g4 ≠ g5 := hL7.2.2
         have n6 : g5 ≠ g4 := fun e => n5 e.symm
         have hbB := hide (((hb5.out.trans (hWa.out.mono zg5)).trans (hW1.mono (by have := hWa.out.size; omega))).setCell (p := ⟨g4, v, none⟩) (show g + 1 ≤ g4 by omega) (I (X + dm)) |>.setCell (p := ⟨g5, v, none⟩) (show g + 1 ≤ g5 by omega) (.bool true))
         have hLS := hide (hL7.set (i := v) (by have := l4.out; omega) (by have := l5.out; omega) (X + dm) (t.last.set v e) v)
         clear hL7 hL5 hL6 hb5 hWa hW1 kD kE kF X0 Y0 P0 Q0 hstep
         go_wp2_with fail
         go_roundw
         case rel => exact ⟨e + 1, by omega, by go_num, by rw [hst.out]; simp, hide (by rw [hst.out]; exact hLS.out), hbB⟩
         case measure => simp [intOf]; omega
      ·have hee : e = ds.length := by omega
       subst hee
       have e1 : wkTo ds s ds.length = t0 := ht0.out
       rw [e1] at hL hlt2 hwt ⊢
       have hW2 := hide (hwt.mono (show (j : Int) * 4398046511104 + 1073741824 * ((ds.length : Nat) : Int) ≤ ((j + 1 : Nat) : Int) * 4398046511104 by omega))
       have hl2 := hide (⟨hlt2.1.trans hln.out.1, hlt2.2.1.trans hln.out.2⟩ : t0.long.length = n ∧ t0.has.length = n)
       clear hlt2 hwt e1
       rcases ilt t0.ch 0 with hc | hc
       ·have q1 : decide (0 ≤ t0.ch) = false := decide_eq_false (by omega)
        have hL9 := hide hL.out
        have hr2 := hide (hrun.out.trans (if_pos hc))
        go_wp2_with fail
        refine bodyPost_ret (v := .tuple #[.slice (some ⟨g4, 0, none⟩) n c4, .slice (some ⟨g5, 0, none⟩) n c5, .bool true]) (by simp [results, Tryz.results201, go_sem]) rfl ?_
        rw [hr2.out]
        have o1 := hL9.out.1
        have o2 := hL9.out.2.1
        refine ⟨_, _, rfl, by rw [hg]; exact o1.mono (by omega), by rw [hg]; exact o2.mono (by omega), by rw [hg]; exact (hg ▸ hb.out).trans (hbw.out.mono (by omega))⟩
       ·have q1 : decide (0 ≤ t0.ch) = true := decide_eq_true hc
        have hr2 := hide (hrun.out.trans (if_neg (by omega)))
        go_wp2_with fail
        go_roundw
        case rel => exact ⟨j + 1, t0, by omega, by go_num, rfl, rfl, hL, hl2, hW2, hr2, hbw⟩
        case measure => simp [intOf]; omega
    ·have hj2 : n + 1 - j = 0 := by omega
     have kj : (n : Int) < (j : Int) := by omega
     go_wp2_with fail
     refine bodyPost_ret (v := .tuple #[.slice (some ⟨g4, 0, none⟩) n c4, .slice (some ⟨g5, 0, none⟩) n c5, .bool false]) (by simp [results, Tryz.results201, go_sem]) rfl ?_
     rw [hrun.out, hj2]
     have o1 := hL.out.1
     have o2 := hL.out.2.1
     refine ⟨_, _, rfl, by rw [hg]; exact o1.mono (by omega), by rw [hg]; exact o2.mono (by omega), by rw [hg]; exact (hg ▸ hb.out).trans (hbw.out.mono (by omega))⟩

theorem NetOk.good {n : Nat} {ds : List Diff} (N : NetOk n ds) : ∀ d ∈ ds, diffOk n d = true := fun d hd => by
 have h1 := N.hds d hd
 have h2 := N.hdm d hd
 rw [diffOk_eq]
 simp only [Bool.and_eq_true, decide_eq_true_eq]
 omega
theorem marks_all (n : Nat) : marksF n true 0 = (wkInit n (allF n)).has := by
 have h := allHas_init (n := n)
 refine List.ext_getElem? fun i => ?_
 rcases Nat.lt_or_ge i n with hi | hi
 ·have h2 := getD_cell (l := (wkInit n (allF n)).has) (i := i) (by rw [h.1]; exact hi) false
  rw [h2, h.2 i hi]
  simp [marksF, hi]
 ·rw [List.getElem?_eq_none (by rw [marksF_len]; exact hi), List.getElem?_eq_none (by rw [h.1]; exact hi)]
theorem marks_one {n : Nat} : marksF n false 0 = (wkInit n [0]).has := by
 refine List.ext_getElem? fun i => ?_
 rcases Nat.lt_or_ge i n with hi | hi
 ·simp only [marksF, wkInit, List.foldl_cons, List.foldl_nil, Bool.false_or, List.getElem?_map, List.getElem?_range hi, Option.map_some, List.getElem?_set, List.getElem?_replicate, hi, if_true, List.length_replicate]
  cases i with
  | zero => simp [hi]
  | succ k =>
   simp
   omega
 ·rw [List.getElem?_eq_none (by rw [marksF_len]; exact hi), List.getElem?_eq_none (by rw [(wkInit_len n [0]).2.1]; exact hi)]
theorem ref4_Solvable (vd : Value) (n : Nat) (ds : List Diff) (w : World) (N : NetOk n ds) (hd : Sl w 3 Diff.cells vd ds) :
  Calls Tryz.prog 177 #[.agg #[I n, vd]] w fun e w' => e = .returned (.bool (decide ((growF n ds (allF n)).2 < 0))) ∧ Below w.heap.size w w' := by
 obtain ⟨A, c, rfl, _⟩ := hd.open_
 have hn := N.hn
 have HM := hide (fun w' (hb : Below w.heap.size w w') => ref4_marks (.slice A ds.length c) n ds true 0 w' (hd.mono hb) hn)
 have HL := fun (vm : Value) w' (hb : Below w.heap.size w w') (hm : Sl w' 1 boolC vm (marksF n true 0)) => ref4_Lengths (.slice A ds.length c) vm n ds (marksF n true 0) w' (hd.mono hb) hm (marksF_len _ _ _) N.h1 hn N.hdl N.good
 have e1 : (⟨List.replicate n 0, marksF n true 0, List.replicate n (-1), -1⟩ : Wk) = wkInit n (allF n) := by rw [marks_all]; rfl
 rw [e1, len_solvable N.hds N.h1] at HL
 obtain ⟨q, hq⟩ : ∃ q, decide ((growF n ds (allF n)).2 < 0) = q := ⟨_, rfl⟩
 rw [hq] at HL ⊢
 have hml : (marksF n true 0).length ≤ 140737488355328 := by rw [marksF_len]; omega
 replace HL := hide HL
 replace hml := hide hml
 clear hq e1 hd N
 go_enter Tryz.func177, Tryz.ntmps177
 go_wp2_with fail
 obtain ⟨w1, hw1⟩ : ∃ w1, w1 = w.alloc (.cells #[I n, .slice A ds.length c] 189) := ⟨_, rfl⟩
 have hk := Blk.new w 189 #[I n, .slice A ds.length c]
 have hb : Below w.heap.size w w1 := by rw [hw1]; exact below1 _ _
 rw [← hw1] at hk ⊢
 clear hw1
 obtain ⟨g, hg⟩ : ∃ g, w.heap.size = g := ⟨_, rfl⟩
 rw [hg] at hk ⊢
 have HS := hide (fun (W : World) (h : Below w1.heap.size w1 W) => (show W.cell? ⟨g, 0, none⟩ = some (I n) ∧ W.cell? ⟨g, 1, none⟩ = some (.slice A ds.length c) from ⟨(hk.below h hk.lt).cell 0, (hk.below h hk.lt).cell 1⟩))
 replace hb := hide hb
 clear hk
 refine wp_zgo HS 10 fun hHeld => ?_
 have wB : Below w1.heap.size w1 w1.drew := (Below.refl _ _).drew
 (refine zg_tk 0 ?_; refine zg_tk 1 ?_; (try go_frame))
 (refine zg_rd 2 fun K_ hK_ => ?_; go_simp; (refine (HM.out _ (bup hb.out wB)).mono ?_; rintro e w2 ⟨vm, rfl, hom, hb2⟩); refine hK_.out _ _ ?_ (fun hHeld => ?_); rotate_left; clear hK_ K_; (try go_frame); rotate_left)
 ·exact HS.out _ (bup wB hb2)
 (refine zg_rd 3 fun K_ hK_ => ?_; go_simp; (refine (HL.out vm w2 (bup (bup hb.out wB) hb2) (hom.sl boolC_len hml.out)).mono ?_; rintro e w3 ⟨v1, v2, rfl, _, _, hb3⟩); refine hK_.out _ _ ?_ (fun hHeld => ?_); rotate_left; clear hK_ K_; (try go_frame); rotate_left)
 ·exact HS.out _ (bup (bup wB hb2) hb3)
 (refine zg_tk 4 ?_; refine zg_tk 5 ?_; refine zg_tk 6 ?_; refine zg_tk 7 ?_; refine zg_tk 8 ?_; refine zg_tk 9 ?_; (try go_frame))
 (refine zg_ls 10 fun K_ hK_ => ?_; go_simp; skip; refine hK_.out _ _ ?_; clear hK_ K_; (try go_frame))
 go_wp2_with fail
 go_ret
 exact ⟨rfl, bup (bup (bup hb.out wB) hb2) hb3⟩

theorem endsE_zero {n : Nat} {ds : List Diff} (h : (growF n ds (allF n)).2 < 0) {q : Bool} (hq : (growF n ds [0]).1.has.any (fun x => x == false) = q) : endsE n ds = if q then 42 else 0 := by
 unfold endsE
 rw [if_neg (by omega), hq]
theorem ref4_Top (vd : Value) (n : Nat) (ds : List Diff) (w : World) (N : NetOk n ds) (hd : Sl w 3 Diff.cells vd ds) :
  Calls Tryz.prog 191 #[.agg #[I n, vd]] w fun e w' => ∃ v, e = .returned (.tuple #[v, I (endsE n ds)]) ∧ (endsE n ds = 0 → Own w' w.heap.size 3 1 intC v (endsL n ds)) ∧ (endsE n ds ≠ 0 → v = .slice none 0 0) ∧ Below w.heap.size w w' := by
 obtain ⟨A, c, rfl, _⟩ := hd.open_
 have hn := N.hn
 have HC := fun w' (hb : Below w.heap.size w w') => ref4_Check (.slice A ds.length c) n ds w' (hd.mono hb)
 rw [N.netE] at HC
 have HS := fun w' (hb : Below w.heap.size w w') => ref4_Solvable (.slice A ds.length c) n ds w' N (hd.mono hb)
 have HM := hide (fun w' (hb : Below w.heap.size w w') => ref4_marks (.slice A ds.length c) n ds false 0 w' (hd.mono hb) hn)
 have HL := fun (vm : Value) w' (hb : Below w.heap.size w w') (hm : Sl w' 1 boolC vm (marksF n false 0)) => ref4_Lengths (.slice A ds.length c) vm n ds (marksF n false 0) w' (hd.mono hb) hm (marksF_len _ _ _) N.h1 hn N.hdl N.good
 have e1 : (⟨List.replicate n 0, marksF n false 0, List.replicate n (-1), -1⟩ : Wk) = wkInit n [0] := by rw [marks_one]; rfl
 rw [e1] at HL
 have hml : (marksF n false 0).length ≤ 140737488355328 := by rw [marksF_len]; omega
 have hgl := (growF_len n ds [0])
 by_cases hneg : (growF n ds (allF n)).2 < 0
 case neg =>
  have hE : endsE n ds = 41 := by unfold endsE; rw [if_pos (by omega)]
  rw [decide_eq_false hneg] at HS
  rw [hE]
  replace HC := hide HC
  replace HS := hide HS
  clear hneg hE HL e1 hml hgl hd N
  go_enter Tryz.func191, Tryz.ntmps191
  go_wp2_with fail
  go_at_call 211
  refine (HC.out _ (below1 _ _)).mono ?_
  rintro e w1 ⟨rfl, hb1⟩
  have k0 := (Blk.new w 189 #[I n, .slice A ds.length c]).grow hb1
  have a0 := k0.cell 0
  have a1 := k0.cell 1
  have hlt := k0.lt
  clear k0
  go_wp2_with fail
  go_at_call 177
  refine (HS.out _ (bup (below1 _ _) hb1)).mono ?_
  rintro e w2 ⟨rfl, hb2⟩
  go_wp2_with fail
  go_ret2
  exact ⟨.slice none 0 0, rfl, fun h => absurd h (by decide), fun _ => rfl, bup (bup (below1 _ _) hb1) hb2⟩
 case pos =>
  rw [decide_eq_true hneg] at HS
  rw [len_top N.hds N.h1 hneg] at HL
  obtain ⟨q, hq⟩ : ∃ q, (growF n ds [0]).1.has.any (fun x => x == false) = q := ⟨_, rfl⟩
  have hE := endsE_zero hneg hq
  rw [hE]
  have hEl : endsL n ds = (growF n ds [0]).1.long := rfl
  rw [hEl]
  obtain ⟨S, hS⟩ : ∃ S, (growF n ds [0]).1 = S := ⟨_, rfl⟩
  rw [hS] at HL hq hgl ⊢
  simp only at HL
  have hl1 := hgl.1
  have hl2 := hgl.2
  clear hneg hE hEl hS hgl e1 N hd
  replace HC := hide HC
  replace HS := hide HS
  replace HL := hide HL
  replace hml := hide hml
  replace hq := hide hq
  replace hl1 := hide hl1
  replace hl2 := hide hl2
  go_enter Tryz.func191, Tryz.ntmps191
  go_wp2_with fail
  go_at_call 211
  refine (HC.out _ (below1 _ _)).mono ?_
  rintro e w1 ⟨rfl, hb1⟩
  have k0 := (Blk.new w 189 #[I n, .slice A ds.length c]).grow hb1
  have a0 := k0.cell 0
  have a1 := k0.cell 1
  have hlt := k0.lt
  go_wp2_with fail
  go_at_call 177
  refine (HS.out _ (bup (below1 _ _) hb1)).mono ?_
  rintro e w2 ⟨rfl, hb2⟩
  replace k0 := k0.grow hb2
  have hb := hide (bup (bup (below1 w (.cells #[I n, .slice A ds.length c] 189)) hb1) hb2)
  clear a0 a1 hlt hb1 hb2
  obtain ⟨g, hg⟩ : ∃ g, w.heap.size = g := ⟨_, rfl⟩
  rw [hg] at k0 ⊢
  have hk := hide k0
  have KS := hide (fun (W : World) (h : Below w2.heap.size w2 W) => (show W.cell? ⟨g, 0, none⟩ = some (I n) ∧ W.cell? ⟨g, 1, none⟩ = some (.slice A ds.length c) from ⟨(hk.out.below h hk.out.lt).cell 0, (hk.out.below h hk.out.lt).cell 1⟩))
  clear k0
  go_wp2_with fail
  refine wp_zgo KS 10 fun hHeld => ?_
  have wB : Below w2.heap.size w2 w2.drew := (Below.refl _ _).drew
  (refine zg_tk 0 ?_; refine zg_tk 1 ?_; (try go_frame))
  (refine zg_rd 2 fun K_ hK_ => ?_; go_simp; (refine (HM.out _ (bup hb.out wB)).mono ?_; rintro e w3 ⟨vm, rfl, hom, hb3⟩); refine hK_.out _ _ ?_ (fun hHeld => ?_); rotate_left; clear hK_ K_; (try go_frame); rotate_left)
  ·exact KS.out _ (bup wB hb3)
  (refine zg_rd 3 fun K_ hK_ => ?_; go_simp; (refine (HL.out vm w3 (bup (bup hb.out wB) hb3) (hom.sl boolC_len hml.out)).mono ?_; rintro e w4 ⟨v1, v2, rfl, ho1, ho2, hb4⟩); refine hK_.out _ _ ?_ (fun hHeld => ?_); rotate_left; clear hK_ K_; (try go_frame); rotate_left)
  ·exact KS.out _ (bup (bup wB hb3) hb4)
  (refine zg_tk 4 ?_; refine zg_tk 5 ?_; refine zg_tk 6 ?_; refine zg_tk 7 ?_; refine zg_tk 8 ?_; refine zg_tk 9 ?_; (try go_frame))
  (refine zg_ls 10 fun K_ hK_ => ?_; go_simp; skip; refine hK_.out _ _ ?_; clear hK_ K_; (try go_frame))
  have hbA := hide (bup (bup (bup hb.out wB) hb3) hb4)
  have c0 : w4.cell? ⟨g, 0, none⟩ = some (I n) := ((hk.out.grow (bup (bup wB hb3) hb4))).cell 0
  have zg : g < w4.heap.size := (hk.out.grow (bup (bup wB hb3) hb4)).lt
  have hoA := hide (ho1.mono (show w.heap.size ≤ w3.heap.size by have := (bup (bup hb.out wB) hb3).size; omega))
  have hoB := hide (ho2.sl boolC_len (by rw [hl2.out]; omega))
  obtain ⟨A1, n1, k1, rfl⟩ := ho1.shape
  obtain ⟨A2, n2, k2, hv2⟩ := ho2.shape
  obtain ⟨B2, m2, hv, _, _, _, hB⟩ := hoB.out.open_
  subst hv
  replace hB := hide hB
  clear KS hk hb wB hHeld hom hb3 ho1 ho2 hb4 hv2
  go_wp2_with fail
  go_loopw [2, 3, 7] (fun _ _ i wr => ∃ k : Nat, k ≤ n ∧ i = I k ∧ Hid (AllTo (fun j => S.has.getD j false) k) ∧ wr = w4) (fun _ _ i _ => n - (intOf i).toNat)
  case atStart => exact ⟨0, Nat.zero_le _, rfl, hide (AllTo.zero _), rfl⟩
  case round =>
   obtain ⟨k, hkl, rfl, ha, rfl⟩ := hrel
   by_cases hlt : k < n
   ·have hx := getD_cell (l := S.has) (i := k) (by rw [hl2.out]; exact hlt) false
    obtain ⟨ga, oa, rfl, _⟩ := hB.out k (by rw [hl2.out]; exact hlt)
    obtain ⟨zx, ex⟩ := hoB.out.bool_at hx
    have kl : (k : Int) < (S.has.length : Int) := by rw [hl2.out]; omega
    replace hx := hide hx
    cases hb : S.has.getD k false with
    | false =>
     rw [hb] at ex
     have hqt : q = true := by
      rw [← hq.out, List.any_eq_true]
      exact ⟨false, List.mem_of_getElem? (by rw [hx.out, hb]), rfl⟩
     subst hqt
     go_wp2_with fail
     go_ret2
     exact ⟨.slice none 0 0, rfl, rfl, by rw [← hg]; exact hbA.out⟩
    | true =>
     rw [hb] at ex
     have ha2 := hide (ha.out.succ hb)
     go_wp2_with fail
     go_roundw
     case rel => exact ⟨k + 1, by omega, by go_num, ha2, by first | rfl | trivial⟩
     case measure => simp [intOf]; omega
   ·have he : k = n := by omega
    have hqf : q = false := by
     rw [← hq.out, List.any_eq_false]
     intro x hx
     obtain ⟨i, hi, rfl⟩ := List.getElem_of_mem hx
     have := ha.out i (by have := hl2.out; omega)
     simp only [List.getD_eq_getElem?_getD, List.getElem?_eq_getElem hi, Option.getD_some] at this
     simp [this]
    subst hqf
    go_wp2_with fail
    go_ret2
    exact ⟨.slice A1 n1 k1, rfl, by first | exact ⟨fun _ => by rw [← hg]; exact hoA.out, fun h => absurd rfl h, by rw [← hg]; exact hbA.out⟩ | exact ⟨by rw [← hg]; exact hoA.out, by rw [← hg]; exact hbA.out⟩⟩

theorem ref4_Bottom (vd : Value) (n : Nat) (ds : List Diff) (w : World) (N : NetOk n ds) (hd : Sl w 3 Diff.cells vd ds) :
  Calls Tryz.prog 189 #[.agg #[I n, vd]] w fun e w' => ∃ v, e = .returned (.tuple #[v, I (endsE n (ds.map turnD))]) ∧ (endsE n (ds.map turnD) = 0 → Own w' w.heap.size 3 1 intC v (botL n ds)) ∧ (endsE n (ds.map turnD) ≠ 0 → v = .slice none 0 0) ∧ Below w.heap.size w w' := by
 obtain ⟨A, c, rfl, _⟩ := hd.open_
 have hn := N.hn
 have hwi : Within 1125899906842624 (endsL n (ds.map turnD)) := growF_within (n := n) [0] N.turn.hdm N.turn.hdl N.hn
 have hln : (endsL n (ds.map turnD)).length = n := (growF_len n (ds.map turnD) [0]).1
 have hbl : botL n ds = (endsL n (ds.map turnD)).map fun x => -x := rfl
 rw [hbl]
 have HT := hide (fun w' (hb : Below w.heap.size w w') => ref4_Turned (.slice A ds.length c) n ds w' (hd.mono hb) (by have := N.hdl; omega))
 have HP := fun (vt : Value) w' (hv : Sl w' 3 Diff.cells vt (ds.map turnD)) => ref4_Top vt n (ds.map turnD) w' N.turn hv
 have hll : (ds.map turnD).length ≤ 140737488355328 := by have := N.hdl; simp; omega
 obtain ⟨b, hb⟩ : ∃ b, endsE n (ds.map turnD) = b := ⟨_, rfl⟩
 obtain ⟨L, hL⟩ : ∃ L, endsL n (ds.map turnD) = L := ⟨_, rfl⟩
 simp only [hb, hL] at HP hwi hln ⊢
 clear hb hL hbl hd N
 replace HP := hide HP
 replace hll := hide hll
 replace hwi := hide hwi
 replace hln := hide hln
 go_enter Tryz.func189, Tryz.ntmps189
 go_wp2_with fail
 go_at_call 210
 refine (HT.out _ (below1 _ _)).mono ?_
 rintro e w1 ⟨vt, rfl, hot, hb1⟩
 go_wp2_with fail
 go_at_call 191
 refine (HP.out vt w1 (hot.sl Diff.cells_len hll.out)).mono ?_
 rintro e w2 ⟨v, rfl, h1, h2, hb2⟩
 have hbA := hide (bup (bup (below1 w (.cells #[I n, .slice A ds.length c] 189)) hb1) hb2)
 have hsz := hide (show w.heap.size ≤ w2.heap.size from hbA.out.size)
 clear hb1
 by_cases hb0 : b = 0
 case neg =>
  have hv := h2 hb0
  subst hv
  have hbn : (b != 0) = true := by simpa using hb0
  replace hb0 := hide hb0
  go_wp2_with fail
  go_ret2
  exact ⟨.slice none 0 0, rfl, fun h => absurd h hb0.out, fun _ => rfl, hbA.out⟩
 case pos =>
  subst hb0
  have ho := h1 rfl
  have hsl := hide (ho.sl intC_len (by rw [hln.out]; omega))
  obtain ⟨A1, n1, hv, _, _, _, hA1⟩ := hsl.out.open_
  subst hv
  replace hA1 := hide hA1
  clear h1 h2 ho hot hb2
  obtain ⟨g, hg⟩ : ∃ g, w2.heap.size = g := ⟨_, rfl⟩
  replace hg := hide hg
  go_wp2_with fail
  go_loopw [6, 7] (fun v i wr => ∃ k : Nat, k ≤ L.length ∧ i = I k ∧ Hid (Own wr g 3 1 intC v ((L.take k).map fun x => -x)) ∧ Hid (Below g w2 wr)) (fun _ i _ => L.length - (intOf i).toNat)
  case atStart => exact ⟨0, Nat.zero_le _, rfl, hide (Own.nil_ _ _ _ _ _), hide (by rw [← hg.out]; exact Below.refl _ _)⟩
  case round =>
   obtain ⟨k, hkl, rfl, ho, hbw⟩ := hrel
   by_cases hlt : k < L.length
   ·obtain ⟨x, hx⟩ := getElem?_of_lt hlt
    obtain ⟨ga, oa, rfl, _⟩ := hA1.out k hlt
    obtain ⟨zx, ex⟩ := (hsl.out.mono (by rw [hg.out]; exact hbw.out)).int_at hx
    have hxb := hwi.out k
    rw [List.getD_eq_getElem?_getD, hx, Option.getD_some] at hxb
    have hneg : IntKind.i64.wrap (-x) = -x := IntWalk.i64_in _ (by omega)
    have hsz2 : g ≤ wr.heap.size := by have := hbw.out.size; have := hg.out; omega
    have hl : ((L.take k).map fun x => -x).length ≤ 256 := by rw [List.length_map, List.length_take]; have := hln.out; omega
    replace hl := hide hl
    replace hx := hide hx
    clear hxb
    go_wp2_with (at_builtin; refine wp_push el_int intC_len intC_one rfl (.tmp 23) (.tmp 29) rfl g rfl (ho.out.alloc _) (-x) rfl ?c1 ?c2 ?c3 ?c4 ?_)
    case c1 => exact new_cells (by simp) _ (intC (-x))
    case c2 => have := hl.out; omega
    case c3 => have := hl.out; omega
    case c4 => simp; omega
    intro v' w3 hown hbel _
    go_wp2_with fail
    go_roundw
    case rel =>
     refine ⟨k + 1, by omega, by go_num, hide ?_, hide ((hbw.out.alloc hsz2 _).trans hbel)⟩
     rw [take_succ_of hx.out, List.map_append]
     simpa [List.map_take] using hown
    case measure => simp [intOf]; omega
   ·have he : k = L.length := by omega
    subst he
    go_wp2_with fail
    go_ret2
    have h1 := ho.out
    rw [List.take_length] at h1
    have h2 := h1.mono (show w.heap.size ≤ g by have := hsz.out; have := hg.out; omega)
    have h3 := hbA.out.trans (hbw.out.mono (show w.heap.size ≤ g by have := hsz.out; have := hg.out; omega))
    exact ⟨_, rfl, by first | exact ⟨fun _ => h2, fun h => absurd rfl h, h3⟩ | exact ⟨h2, h3⟩⟩

theorem take_at {l : List Int} {a c : Nat} {y : Int} (h : l[a + c]? = some y) : (l.drop a).take (c + 1) = (l.drop a).take c ++ [y] := by
 have : (l.drop a)[c]? = some y := by rw [List.getElem?_drop]; exact h
 rw [List.take_add_one, this]
 rfl
theorem ref5_shape (s : Scene) (V : SceneV) (vx : Value) (l : List Int) (w : World) (hs : SceneAt w s V) (hl : Sl w 1 intC vx l) (hlN : l.length = 1 + s.days.length * s.basin.cells.length) (hn : s.basin.cells.length ≤ 12) (hm : s.days.length ≤ 16) :
  Calls Tryz.prog 190 #[s.v V, vx] w fun e w' => ∃ v, e = .returned v ∧ RowsAt w' w.heap.size v (rowsF s.basin.cells.length s.days.length l) ∧ Below w.heap.size w w' := by
 obtain ⟨vc, vp, vd, vs, vh⟩ := V
 have h1 : Sl w 4 Cell.cells vc s.basin.cells := hs.cells
 have h2 : Sl w 2 pairC vp s.basin.pairs := hs.pairs
 have h3 : Sl w 1 intC vd s.days := hs.days
 have h4 : Sl w 5 Sight.cells vs s.sights := hs.sights
 have h5 : Sl w 5 Change.cells vh s.changes := hs.changes
 obtain ⟨Ac, nc, rfl, _⟩ := h1.open_
 obtain ⟨Ap, np, rfl, _⟩ := h2.open_
 obtain ⟨Ad, nd, rfl, _⟩ := h3.open_
 obtain ⟨As, ns, rfl, _⟩ := h4.open_
 obtain ⟨Ah, nh, rfl, _⟩ := h5.open_
 obtain ⟨X, cx, rfl, _, _, _, hX⟩ := hl.open_
 have HN := fun (c d : Int) (hc : 0 ≤ c ∧ c ≤ 12) (hd : 0 ≤ d ∧ d ≤ 16) w' (hb : Below w.heap.size w w') => ref5_node s ⟨.slice Ac s.basin.cells.length nc, .slice Ap s.basin.pairs.length np, .slice Ad s.days.length nd, .slice As s.sights.length ns, .slice Ah s.changes.length nh⟩ c d w' (hs.mono hb) hc hd hn
 unfold Scene.v at *
 simp only at HN ⊢
 clear hs h1 h2 h3 h4 h5
 obtain ⟨n, hn'⟩ : ∃ n, s.basin.cells.length = n := ⟨_, rfl⟩
 obtain ⟨m, hm'⟩ : ∃ m, s.days.length = m := ⟨_, rfl⟩
 simp only [hn', hm'] at HN hlN hn hm ⊢
 have hN3 : l.length ≤ 193 := by have := Nat.mul_le_mul hm hn; omega
 clear hn' hm'
 replace hlN := hide hlN
 replace HN := hide HN
 replace hl := hide hl
 replace hX := hide hX
 go_enter Tryz.func190, Tryz.ntmps190
 go_wp2_with fail
 obtain ⟨w1, hw1⟩ : ∃ W, W = w.alloc (.cells #[.slice Ac n nc, .slice Ap s.basin.pairs.length np, I s.basin.gain, I s.basin.slack, I s.basin.deep, .slice Ad m nd, .slice As s.sights.length ns, .slice Ah s.changes.length nh] 42) := ⟨_, rfl⟩
 obtain ⟨kS, B0⟩ := blkw hw1
 have hz1 : w1.heap.size = w.heap.size + 1 := by rw [hw1]; simp
 rw [← hw1]
 clear hw1
 obtain ⟨g, hg⟩ : ∃ g, w.heap.size = g := ⟨_, rfl⟩
 rw [hg] at kS hz1 ⊢
 replace hg := hide hg
 replace kS := hide kS
 replace B0 := hide B0
 replace hz1 := hide hz1
 go_loopw [5, 6, 7, 8] (fun v i _ _ wr => ∃ k : Nat, k ≤ m ∧ i = I k ∧ Hid (RowsAt wr (g + 1) v (rowsF n k l)) ∧ Hid (Below (g + 1) w1 wr)) (fun _ i _ _ _ => m - (intOf i).toNat)
 case atStart => exact ⟨0, Nat.zero_le _, rfl, hide ⟨[], rfl, Own.nil_ _ _ _ _ _, fun i l h => by simp [rowsF] at h⟩, hide (by rw [← hz1.out]; exact Below.refl _ _)⟩
 case round =>
  obtain ⟨k, hk, rfl, hR, hb⟩ := hrel
  have kR := kS.out.below hb.out (by omega)
  have c0 := kR.cell 0
  have c5 := kR.cell 5
  have zg := kR.lt
  simp at c0 c5
  have hsz : g + 1 ≤ wr.heap.size := by omega
  clear kR
  by_cases hlt : k < m
  ·obtain ⟨kn, hkn⟩ : ∃ q : Nat, k * n = q := ⟨_, rfl⟩
   have h1 : (k : Int) * (n : Int) = (kn : Int) := by rw [← hkn]; simp
   have h3 : kn + n ≤ m * n := by
    have := Nat.mul_le_mul_right n (show k + 1 ≤ m from hlt)
    rw [Nat.add_mul, hkn] at this
    omega
   obtain ⟨N2, hN2⟩ : ∃ N, wr.heap.size = N := ⟨_, rfl⟩
   have hbo : Hid (Below w.heap.size w wr) := hide (B0.out.trans (hb.out.mono (by have := hg.out; omega)))
   obtain ⟨wo, hwo⟩ : ∃ W, W = wr := ⟨_, rfl⟩
   have hRo := hR
   rw [← hwo] at hRo
   have hwo2 := hide hwo
   clear hwo
   go_wp2_with fail
   go_loopw [7, 8] (fun v i wi => ∃ c : Nat, c ≤ n ∧ i = I c ∧ Hid (Own wi N2 3 1 intC v ((l.drop (1 + kn)).take c)) ∧ Hid (Below N2 wr wi)) (fun _ i _ => n - (intOf i).toNat)
   case atStart => exact ⟨0, Nat.zero_le _, rfl, hide (by simpa using Own.nil_ wr N2 _ 1 intC), hide (by rw [← hN2]; exact Below.refl _ _)⟩
   case round =>
    obtain ⟨c, hc, rfl, ho, hbi⟩ := hrel
    have hsz2 : N2 ≤ wr.heap.size := by have := hbi.out.size; omega
    have hbw := hbo.out.trans (hbi.out.mono (by have := hg.out; omega))
    have kR := kS.out.below (hb.out.trans (hbi.out.mono (by omega))) (by omega)
    obtain ⟨a0, a1, a2, a3, a4, a5, a6, a7⟩ := kR.cells8
    have zg2 := kR.lt
    clear kR
    by_cases hlt2 : c < n
    ·have hP : nodeF n c k = ((1 + kn + c : Nat) : Int) := by unfold nodeF; rw [h1]; push_cast; omega
     obtain ⟨y, hy⟩ := getElem?_of_lt (xs := l) (k := 1 + kn + c) (by have := hlN.out; omega)
     have HK := HN.out c k (by omega) (by omega)
     rw [hP] at HK
     replace HK := hide HK
     obtain ⟨gx, ox, rfl, _⟩ := hX.out (1 + kn + c) (by have := hlN.out; omega)
     have kx1 : (0 : Int) ≤ ((1 + kn + c : Nat) : Int) := by omega
     have kx2 : ((1 + kn + c : Nat) : Int) < (l.length : Int) := by have := hlN.out; omega
     have hl2 : ((l.drop (1 + kn)).take c).length ≤ 193 := by simp; omega
     replace hy := hide hy
     replace hl2 := hide hl2
     clear hP
     go_wp2_with (first | (go_at_call 198; refine (HK.out _ hbw).mono ?_; rintro e w2 ⟨rfl, hb2⟩; have ho2 := ho.out.below hb2; obtain ⟨zx, ex⟩ := (hl.out.mono (bup hbw hb2)).int_at hy.out) | (at_builtin; refine wp_push el_int intC_len intC_one rfl (.tmp 24) (.tmp 32) rfl N2 rfl (ho2.alloc _) y rfl ?c1 ?c2 ?c3 ?c4 ?_))
     case c1 => exact new_cells (by simp) _ (intC y)
     case c2 => have := hl2.out; omega
     case c3 => have := hl2.out; omega
     case c4 => have := hb2.size; simp; omega
     intro v' w3 hown hbel _
     go_wp2_with fail
     go_roundw
     case rel =>
      refine ⟨c + 1, by omega, by go_num, hide ?_, hide ((hbi.out.trans ((hb2.mono hsz2).alloc (by have := hb2.size; omega) _)).trans hbel)⟩
      rw [take_at hy.out]
      exact hown
     case measure => simp [intOf]; omega
    ·have he : c = n := by omega
     subst he
     obtain ⟨uA, un, uc, rfl⟩ := ho.out.shape
     obtain ⟨vs, g1, g2, g3⟩ := hR.out.below (by rw [hN2]; exact hbi.out)
     have hvl : vs.length ≤ 16 := by rw [g1]; simp [rowsF]; omega
     replace g2 := hide g2
     replace g3 := hide g3
     go_wp2_with (at_builtin; refine wp_push_by el_Ints oneC_len oneC_one rfl (.tmp 34) (.tmp 36) rfl (g + 1) rfl (g2.out.alloc _) ⟨uA, un, uc⟩ rfl ?c1 ?c2 ?c3 ?c4 ?_)
     case c1 => exact new_cells rfl _ (oneC ⟨uA, un, uc⟩)
     case c2 => omega
     case c3 => omega
     case c4 => simp; omega
     intro v' w2 hown hgr
     have hP := hide (RowsAt.push (l := (l.drop (1 + kn)).take c) (u := ⟨uA, un, uc⟩) g1 (g2.out.alloc _) (fun i l hl => by obtain ⟨u, a, b⟩ := g3.out i l hl; exact ⟨u, a, b.alloc _⟩) ((ho.out.mono (by omega)).alloc _) hgr hown)
     have hb2 := hide ((((hb.out.trans (hbi.out.mono (by omega))).alloc (by omega) (.cells #[.slice uA un uc] 38)).grown hgr (by simp; omega) (fun g e => (ownBlock_lt g2.out g e).1)))
     have hrs := hide (rowsF_succ c k l)
     rw [hkn] at hrs
     clear hgr hown g2 g3
     go_wp2_with fail
     go_roundw
     case rel => exact ⟨k + 1, by omega, by go_num, hide (by rw [hrs.out]; exact hP.out), hb2⟩
     case measure => simp [intOf]; omega
  ·have he : k = m := by omega
   subst he
   go_wp2_with fail
   go_ret
   exact ⟨_, rfl, RowsAt.le hR.out (by have := hg.out; omega), by first | exact B0.out.trans (hb.out.mono (by have := hg.out; omega)) | (rw [← hg.out]; exact B0.out.trans (hb.out.mono (by have := hg.out; omega)))⟩
end Go.Proofs.YtgbbljfmngmjeaaGreat
