/- The reference's fill and Fill, and when two lists of weathers are the same. Conditions stand in the theorems. -/
import Derived.Test.YtmjfdobjnnfafaaGreatDoorSpring14
import Derived.Test.YtmjfdobjnnfafaaGreatDoorRef7
import Derived.Deep.DeepCutAuto
import Derived.Test.YtmjfdobjnnfafaaGreatDoorAgainSpring10
set_option linter.all false
set_option maxRecDepth 100000
set_option maxHeartbeats 8000000
namespace Go.Proofs.YtmjfdobjnnfafaaGreatDoor
open Go.RowKit

theorem ref_stretch (a b : Int) (w : World) : Calls Tryz.prog 114 #[I a, I b] w fun e w' => e = .returned (I (stretchE a b)) ∧ w = w' := by
 rcases ilt a 0 with h1 | h1
 ·have hE : stretchE a b = 1 := by simp [stretchE, h1]
  rw [hE]
  go_enter Tryz.func114, Tryz.ntmps114
  go_wp2
  go_ret
  exact ⟨rfl, rfl⟩
 ·rcases ilt a b with h2 | h2
  ·rcases ilt 1048576 b with h3 | h3
   ·have hE : stretchE a b = 1 := by simp [stretchE, h3]
    rw [hE]
    have h4 : ¬ a < 0 := by omega
    go_enter Tryz.func114, Tryz.ntmps114
    go_wp2
    go_ret
    exact ⟨rfl, rfl⟩
   ·have h4 : ¬ a < 0 := by omega
    have h5 : ¬ b ≤ a := by omega
    have h6 : ¬ 1048576 < b := by omega
    have k1 : IntKind.i64.wrap (b - a) = b - a := IntWalk.i64_in _ (by omega)
    rcases ilt 512 (b - a) with h7 | h7
    ·have hE : stretchE a b = 2 := by simp [stretchE, h4, h5, h6, h7]
     rw [hE]
     go_enter Tryz.func114, Tryz.ntmps114
     go_wp2
     go_ret
     exact ⟨rfl, rfl⟩
    ·have h8 : ¬ 512 < b - a := by omega
     have hE : stretchE a b = 0 := by simp [stretchE, h4, h5, h6, h8]
     rw [hE]
     go_enter Tryz.func114, Tryz.ntmps114
     go_wp2
     go_ret
     exact ⟨rfl, rfl⟩
  ·have hE : stretchE a b = 1 := by simp [stretchE, h2]
   rw [hE]
   have h4 : ¬ a < 0 := by omega
   go_enter Tryz.func114, Tryz.ntmps114
   go_wp2
   go_ret
   exact ⟨rfl, rfl⟩

theorem fillF_snoc (c : Climate) (l : List Weather) (a : Int) (k : Nat) (t : Bool) : fillF c l a (k + 1) t = fillF c l a k t ++ [warmW c l t (a + k)] := by
 simp [fillF, List.range_succ]
theorem fillF_len (c : Climate) (l : List Weather) (a : Int) (k : Nat) (t : Bool) : (fillF c l a k t).length = k := by simp [fillF]
theorem ref_fill (c : Climate) (v : Value) (l : List Weather) (a : Int) (n : Nat) (t : Bool) (w : World) (hc : ClimOk c) (hl : ∀ x ∈ l, WeaOk c x) (ha : 0 ≤ a) (hn : n ≤ 512) (hb : a + n ≤ 1048576) (hv : Sl w 3 Weather.cells v l) :
  Calls Tryz.prog 115 #[c.v, v, I a, I (a + n), .bool t] w fun e w' => ∃ vr, e = .returned vr ∧ Own w' w.heap.size 36 3 Weather.cells vr (fillF c l a n t) ∧ Below w.heap.size w w' := by
 have HG := hide (fun (d : Int) (hd : 0 ≤ d ∧ d ≤ 1048576) w hv => ref_gap c v l d w hc hd hl hv)
 have HW : Hid (∀ d : Int, warmW c l true d = ⟨d, (gapF c l d).thi, (gapF c l d).rlo⟩) := hide (fun d => rfl)
 have HK : Hid (∀ d : Int, warmW c l false d = ⟨d, (gapF c l d).tlo, (gapF c l d).rhi⟩) := hide (fun d => rfl)
 obtain ⟨A, nl, rfl, _⟩ := hv.open_
 replace hv := hide hv
 unfold Climate.v at *
 go_enter Tryz.func115, Tryz.ntmps115
 go_wp2_with fail
 obtain ⟨W1, hW1⟩ : ∃ W1, W1 = w.alloc (.cells (c8 c) 25) := ⟨_, rfl⟩
 have kC := hide (show Blk W1 w.heap.size 25 (c8 c) by rw [hW1]; exact Blk.new _ _ _)
 have kB : Below w.heap.size w W1 := by rw [hW1]; exact below1 _ _
 have hB : ∃ B, w.heap.size + 1 = B := ⟨_, rfl⟩
 obtain ⟨B, hB⟩ := hB
 have hBW : B = W1.heap.size := by rw [hW1, ← hB]; simp
 rw [← hW1]
 clear hW1
 replace hBW := hide hBW
 go_loopw [11, 12, 13, 14, 15] (fun vo i _ _ _ wr => ∃ k : Nat, k ≤ n ∧ i = I (a + k) ∧ Hid (Own wr B 36 3 Weather.cells vo (fillF c l a k t)) ∧ Hid (Below B W1 wr) ∧ B ≤ wr.heap.size) (fun _ i _ _ _ _ => (a + n - intOf i).toNat)
 case atStart => exact ⟨0, Nat.zero_le _, by simp, hide (Own.nil_ _ _ _ _ _), hide (Below.refl _ _), by have := hBW.out; omega⟩
 case round =>
  obtain ⟨k, hk, rfl, ho, hbr, hBs⟩ := hrel
  by_cases hlt : k < n
  ·have h1 : a + (k : Int) < a + (n : Int) := by omega
   have hd : 0 ≤ a + (k : Int) ∧ a + (k : Int) ≤ 1048576 := by omega
   have HG1 := HG.out (a + k) hd
   have HW1 := HW.out (a + k)
   have HK1 := HK.out (a + k)
   have hsn := fillF_snoc c l a k t
   obtain ⟨G, hG⟩ : ∃ G, gapF c l (a + k) = G := ⟨_, rfl⟩
   rw [hG] at HG1 HW1 HK1
   clear hG HG HW HK
   replace HG1 := hide HG1
   replace HW1 := hide HW1
   replace HK1 := hide HK1
   replace hsn := hide hsn
   have hll : (fillF c l a k t).length = k := fillF_len _ _ _ _ _
   have kC1 := kC.out.below hbr.out (by omega)
   have kBr := bup kB (hbr.out.mono (by have := kB.size; have := hBW.out; omega))
   obtain ⟨_, q0, q1, q2, q3, q4, q5, q6, q7⟩ := kC1.clim
   have k1 : IntKind.i64.wrap (a + (k : Int) + 1) = a + (k : Int) + 1 := IntWalk.i64_in _ (by omega)
   go_upto_region 7 with (go_at_call 109; refine (HG1.out _ (hv.out.mono kBr)).mono ?_; clear HG1; rintro e w2 ⟨rfl, hb2⟩)
   have ho2 := hide (ho.out.below hb2)
   have hbr2 := hide (hbr.out.trans (hb2.mono hBs))
   have hz2 : B ≤ w2.heap.size := Nat.le_trans hBs hb2.size
   obtain ⟨W3, hW3⟩ : ∃ W3, W3 = ((w2.alloc (Obj.cells #[Value.int .i64 G.tlo, Value.int .i64 G.thi] 23)).alloc (Obj.cells #[Value.int .i64 G.rlo, Value.int .i64 G.rhi] 23)).alloc (Obj.cells #[Value.int .i64 (a + k), Value.int .i64 G.tlo, Value.int .i64 G.rhi] 36) := ⟨_, rfl⟩
   have hb3 : Below w2.heap.size w2 W3 := by rw [hW3]; exact below3 _ _ _ _
   have kT : Blk W3 w2.heap.size 23 #[I G.tlo, I G.thi] := by rw [hW3]; exact (blk20 _ _ _ _).alloc _
   have kU : Blk W3 (w2.heap.size + 1) 23 #[I G.rlo, I G.rhi] := by rw [hW3]; exact (blk21 _ _ _ _).alloc _
   have kX : Blk W3 (w2.heap.size + 1 + 1) 36 #[I (a + k), I G.tlo, I G.rhi] := by rw [hW3]; exact blk32p _ _ _ _ _
   rw [← hW3]
   clear hW3 q0 q1 q2 q3 q4 q5 q6 q7 kC1 kBr hb2 ho hbr
   obtain ⟨gX, hgX⟩ : ∃ g, w2.heap.size + 1 + 1 = g := ⟨_, rfl⟩
   obtain ⟨gU, hgU⟩ : ∃ g, w2.heap.size + 1 = g := ⟨_, rfl⟩
   obtain ⟨gT, hgT⟩ : ∃ g, w2.heap.size = g := ⟨_, rfl⟩
   rw [hgX] at kX ⊢
   rw [hgU] at kU ⊢
   rw [hgT] at kT ⊢
   have hgl : w2.heap.size ≤ gX := by omega
   clear hgX hgU hgT
   obtain ⟨t1, t2, t3, t4, t5⟩ := blk_box kT
   obtain ⟨u1, u2, u3, u4, u5⟩ := blk_box kU
   have x0 := kX.cell 0
   have x1 := kX.cell 1
   have x2 := kX.cell 2
   have zX := kX.lt
   have z0 := kX.frozen 0
   have z1 := kX.frozen 1
   have z2 := kX.frozen 2
   replace kX := hide kX
   replace hll := hide hll
   cases t with
   | false =>
    have hO := hide (show Own W3 B 36 3 Weather.cells _ (fillF c l a k false) from ho2.out.below hb3)
    have hbr3 := hide (hbr2.out.trans (hb3.mono hz2))
    have hz3 : B ≤ W3.heap.size := Nat.le_trans hz2 hb3.size
    go_wp2_with (at_builtin; refine wp_push el_Weather Weather.cells_len Weather.cells_one rfl (.tmp 42) (.tmp 44) rfl B rfl (hO.out.alloc _) ⟨a + k, G.tlo, G.rhi⟩ rfl ?c1 ?c2 ?c3 ?c4 ?_)
    case c1 => exact new_cells rfl _ (Weather.cells ⟨a + k, G.tlo, G.rhi⟩)
    case c2 => rw [hll.out]; omega
    case c3 => rw [hll.out]; omega
    case c4 => simp; omega
    intro v' w4 hown hbel _
    clear x0 x1 x2 z0 z1 z2 t1 t2 t3 t4 t5 u1 u2 u3 u4 u5
    rw [← HK1.out, ← hsn.out] at hown
    obtain ⟨A1, n1, c1, rfl⟩ := hown.shape
    replace hown := hide hown
    have hbF := hide ((hbr3.out.alloc (by have := hbr3.out.size; omega) (.cells #[I (a + k), I G.tlo, I G.rhi] 36)).trans hbel)
    have hzF : B ≤ w4.heap.size := Nat.le_trans (Nat.le_trans hz3 (by simp)) hbel.size
    clear hbel
    go_wp2_with fail
    go_roundw
    case rel => exact ⟨k + 1, by omega, by go_num, hown, hbF, hzF⟩
    case measure => simp [intOf]; omega
   | true =>
    obtain ⟨W4, hW4⟩ : ∃ W4, W4 = ((W3.setCell ⟨gX, 0, none⟩ (Value.int .i64 (a + k))).setCell ⟨gX, 1, none⟩ (Value.int .i64 G.thi)).setCell ⟨gX, 2, none⟩ (Value.int .i64 G.rlo) := ⟨_, rfl⟩
    have kX4 : Blk W4 gX 36 #[I (a + k), I G.thi, I G.rlo] := by
     rw [hW4]
     have := ((kX.out.set_ 0 (I (a + k))).set_ 1 (I G.thi)).set_ 2 (I G.rlo)
     simpa using this
    have hb4 : Below w2.heap.size w2 W4 := by rw [hW4]; exact bset (bset (bset hb3 gX 0 hgl _) gX 1 hgl _) gX 2 hgl _
    replace kX4 := hide kX4
    have hO := hide (show Own W4 B 36 3 Weather.cells _ (fillF c l a k true) from ho2.out.below hb4)
    have hbr3 := hide (hbr2.out.trans (hb4.mono hz2))
    have hz3 : B ≤ W4.heap.size := Nat.le_trans hz2 hb4.size
    go_upto_region 9 with fail
    rw [← hW4]
    clear hW4 x0 x1 x2 z0 z1 z2 zX t1 t2 t3 t4 t5 u1 u2 u3 u4 u5
    have x0 := kX4.out.cell 0
    have x1 := kX4.out.cell 1
    have x2 := kX4.out.cell 2
    have zX := kX4.out.lt
    go_wp2_with (at_builtin; refine wp_push el_Weather Weather.cells_len Weather.cells_one rfl (.tmp 42) (.tmp 44) rfl B rfl (hO.out.alloc _) ⟨a + k, G.thi, G.rlo⟩ rfl ?c1 ?c2 ?c3 ?c4 ?_)
    case c1 => exact new_cells rfl _ (Weather.cells ⟨a + k, G.thi, G.rlo⟩)
    case c2 => rw [hll.out]; omega
    case c3 => rw [hll.out]; omega
    case c4 => simp; omega
    intro v' w5 hown hbel _
    clear x0 x1 x2
    rw [← HW1.out, ← hsn.out] at hown
    obtain ⟨A1, n1, c1, rfl⟩ := hown.shape
    replace hown := hide hown
    have hbF := hide ((hbr3.out.alloc (by have := hbr3.out.size; omega) (.cells #[I (a + k), I G.thi, I G.rlo] 36)).trans hbel)
    have hzF : B ≤ w5.heap.size := Nat.le_trans (Nat.le_trans hz3 (by simp)) hbel.size
    clear hbel
    go_wp2_with fail
    go_roundw
    case rel => exact ⟨k + 1, by omega, by go_num, hown, hbF, hzF⟩
    case measure => simp [intOf]; omega
  ·have he : k = n := by omega
   subst he
   obtain ⟨A1, n1, c1, rfl⟩ := ho.out.shape
   go_wp2_with fail
   go_ret
   exact ⟨_, rfl, ho.out.mono (by omega), bup kB (hbr.out.mono (by have := kB.size; have := hBW.out; omega))⟩

theorem ref_Fill (c : Climate) (v : Value) (l : List Weather) (a b : Int) (t : Bool) (w : World) (hv : Sl w 3 Weather.cells v l) :
  Calls Tryz.prog 43 #[c.v, v, I a, I b, .bool t] w fun e w' => ∃ vr, e = .returned (.tuple #[vr, I (fillE c l a b)]) ∧ Own w' w.heap.size 36 3 Weather.cells vr (fillV c l a b t) ∧ Below w.heap.size w w' := by
 have H1 := fun w hv => ref_CheckLog c v l w hv
 have H2 := fun w => ref_stretch a b w
 by_cases hE : logE c l = 0
 ·have h2 := LogOk.of hE
  have hcl := log_clim hE
  rw [hE] at H1
  have hE1 : fillE c l a b = stretchE a b := by simp [fillE, loggedE, hE, askedE, hcl]
  by_cases hs : stretchE a b = 0
  ·obtain ⟨s1, s2, s3, s4⟩ := stretch_ok hs
   obtain ⟨n, hn⟩ := Int.eq_ofNat_of_zero_le (show 0 ≤ b - a by omega)
   obtain rfl : b = a + (n : Int) := by omega
   have hV : fillV c l a (a + n) t = fillF c l a n t := by
    rw [fillV, if_pos (hE1.trans hs), show (a + (n : Int) - a).toNat = n by omega]
   rw [hE1, hs, hV]
   rw [hs] at H2
   have H3 := fun w hv => ref_fill c v l a n t w h2.clim h2.mem s1 (by omega) s3 hv
   obtain ⟨F, hF⟩ : ∃ F, fillF c l a n t = F := ⟨_, rfl⟩
   rw [hF] at H3 ⊢
   clear hE1 hV hs s1 s2 s3 s4 hF h2 hcl hE hn
   unfold Climate.v at *
   replace hv := hide hv
   replace H1 := hide H1
   replace H2 := hide H2
   replace H3 := hide H3
   go_enter Tryz.func43, Tryz.ntmps43
   go_wp2_with (first | (go_at_call 26; refine (H1.out _ (hv.out.mono (below1 _ _))).mono ?_; clear H1; rintro e w1 ⟨rfl, hb1⟩; obtain ⟨_, q0, q1, q2, q3, q4, q5, q6, q7⟩ := ((Blk.new w 25 (c8 c)).grow hb1).clim) | (go_at_call 114; refine (H2.out _).mono ?_; clear H2; rintro e w2 ⟨rfl, rfl⟩) | (go_at_call 115; refine (H3.out _ (hv.out.mono (bup (below1 _ _) hb1))).mono ?_; clear H3; rintro e w3 ⟨vr, rfl, ho, hb3⟩; obtain ⟨A1, n1, k1, rfl⟩ := ho.shape; replace ho := hide ho))
   go_ret2
   exact ⟨_, rfl, ho.out.mono (by have := (bup (below1 _ _) hb1).size; exact this), bup (bup (below1 _ _) hb1) hb3⟩
  ·have hV : fillV c l a b t = [] := by rw [fillV, if_neg (by rw [hE1]; exact hs)]
   rw [hE1, hV]
   obtain ⟨s, hs0⟩ : ∃ s, stretchE a b = s := ⟨_, rfl⟩
   rw [hs0] at hs H2 ⊢
   have hne : (s != 0) = true := by simpa using hs
   clear hE1 hV hs hs0 h2 hcl hE
   unfold Climate.v at *
   replace hv := hide hv
   replace H1 := hide H1
   replace H2 := hide H2
   go_enter Tryz.func43, Tryz.ntmps43
   go_wp2_with (first | (go_at_call 26; refine (H1.out _ (hv.out.mono (below1 _ _))).mono ?_; clear H1; rintro e w1 ⟨rfl, hb1⟩; obtain ⟨_, q0, q1, q2, q3, q4, q5, q6, q7⟩ := ((Blk.new w 25 (c8 c)).grow hb1).clim) | (go_at_call 114; refine (H2.out _).mono ?_; clear H2; rintro e w2 ⟨rfl, rfl⟩))
   go_ret2
   exact ⟨_, rfl, Own.nil_ _ _ _ _ _, bup (below1 _ _) hb1⟩
 ·have hE1 : fillE c l a b = logE c l := by simp [fillE, loggedE, hE]
  have hV : fillV c l a b t = [] := by rw [fillV, if_neg (by rw [hE1]; exact hE)]
  rw [hE1, hV]
  obtain ⟨e0, he0⟩ : ∃ e, logE c l = e := ⟨_, rfl⟩
  rw [he0] at hE H1 ⊢
  have hne : (e0 != 0) = true := by simpa using hE
  clear hE1 hV hE he0 H2
  replace hv := hide hv
  unfold Climate.v at *
  replace H1 := hide H1
  go_enter Tryz.func43, Tryz.ntmps43
  go_wp2_with (first | (go_at_call 26; refine (H1.out _ (hv.out.mono (below1 _ _))).mono ?_; clear H1; rintro e w1 ⟨rfl, hb1⟩; obtain ⟨_, q0, q1, q2, q3, q4, q5, q6, q7⟩ := ((Blk.new w 25 (c8 c)).grow hb1).clim))
  go_ret2
  exact ⟨_, rfl, Own.nil_ _ _ _ _ _, bup (below1 _ _) hb1⟩

/-- Whether two lists are alike, seen from behind place k. -/
theorem same_step {l m : List Weather} {k : Nat} {x y : Weather} (hx : l[k]? = some x) (hy : m[k]? = some y) (h : l.take k = m.take k) (hxy : x = y) : l.take (k + 1) = m.take (k + 1) := by
 rw [take_succ_of hx, take_succ_of hy, h, hxy]
theorem ref_SameWeathers (v u : Value) (l m : List Weather) (w : World) (hv : Sl w 3 Weather.cells v l) (hu : Sl w 3 Weather.cells u m) :
  Calls Tryz.prog 44 #[v, u] w fun e w' => e = .returned (.bool (decide (l = m))) ∧ Below w.heap.size w w' := by
 obtain ⟨A, n, rfl, _, _, hlen, hA⟩ := hv.open_
 obtain ⟨A2, n2, rfl, _, _, hlen2, hA2⟩ := hu.open_
 replace hv := hide hv
 replace hu := hide hu
 replace hA := hide hA
 replace hA2 := hide hA2
 by_cases hq : l.length = m.length
 ·obtain ⟨N, hN⟩ : ∃ N, m.length = N := ⟨_, rfl⟩
  obtain ⟨D, hD⟩ : ∃ D, decide (l = m) = D := ⟨_, rfl⟩
  rw [hD]
  replace hq := hq.trans hN
  have hNb : N ≤ 140737488355328 := by omega
  rw [hq] at hv hA ⊢
  rw [hN] at hu hA2 ⊢
  replace hD := hide hD
  replace hN := hide hN
  replace hq := hide hq
  go_enter Tryz.func44, Tryz.ntmps44
  go_wp2_with fail
  go_loopw [5] (fun i wr => ∃ k : Nat, k ≤ N ∧ i = I k ∧ Hid (l.take k = m.take k) ∧ Hid (Below w.heap.size w wr)) (fun i _ => N - (intOf i).toNat)
  case atStart => exact ⟨0, Nat.zero_le _, rfl, hide (by simp), hide (Below.refl _ _)⟩
  case round =>
   obtain ⟨k, hk, rfl, hsame, hbr⟩ := hrel
   by_cases hlt : k < N
   ·obtain ⟨b, off, rfl, hbw⟩ := hA.out k hlt
    obtain ⟨b2, off2, rfl, hbw2⟩ := hA2.out k hlt
    obtain ⟨x, hx⟩ := getElem?_of_lt (xs := l) (k := k) (by rw [hq.out]; exact hlt)
    obtain ⟨y, hy⟩ := getElem?_of_lt (xs := m) (k := k) (by rw [hN.out]; exact hlt)
    have hv2 := (unhide hv).mono hbr.out
    have hu2 := (unhide hu).mono hbr.out
    rw [← hq.out] at hv2
    rw [← hN.out] at hu2
    obtain ⟨hz1, e0, e1, e2⟩ := hv2.weather_at hx
    obtain ⟨hz2, f0, f1, f2⟩ := hu2.weather_at hy
    clear hv2 hu2
    have hbad : x ≠ y → D = false := fun h => by
     rw [← hD.out, decide_eq_false_iff_not]
     intro he
     rw [he] at hx
     exact h (Option.some.inj (hx.symm.trans hy))
    have hgood := fun h => same_step hx hy hsame.out h
    replace hx := hide hx
    replace hy := hide hy
    clear hv hu hA hA2
    cases h1 : (x.day == y.day) with
    | false =>
     have hd := hide (hbad (fun h => by rw [h] at h1; simp at h1))
     clear hbad hgood
     go_wp2_with fail
     (refine wp_region_grow (by kernel_rfl) (by kernel_rfl) ?_; (repeat (first | go_big_quiet_skip | (go_big_quiet_want; go_big_quiet_op; first | go_big_quiet_on | (apply Exists.intro; refine ⟨fun _ => ?_, ?_⟩; (focus (fail)); go_big_quiet_on)))); refine wpQuiet_nil ?_; rintro W1 ⟨⟨_, hW1⟩, rfl⟩)
     go_wp2_with fail
     go_ret
     exact ⟨ret_bool hd.out.symm, bup hbr.out hW1⟩
    | true =>
     cases h2 : (x.temp == y.temp) with
     | false =>
      have hd := hide (hbad (fun h => by rw [h] at h2; simp at h2))
      clear hbad hgood
      go_wp2_with fail
      (refine wp_region_grow (by kernel_rfl) (by kernel_rfl) ?_; (repeat (first | go_big_quiet_skip | (go_big_quiet_want; go_big_quiet_op; first | go_big_quiet_on | (apply Exists.intro; refine ⟨fun _ => ?_, ?_⟩; (focus (fail)); go_big_quiet_on)))); refine wpQuiet_nil ?_; rintro W1 ⟨⟨_, hW1⟩, rfl⟩)
      go_wp2_with fail
      go_ret
      exact ⟨ret_bool hd.out.symm, bup hbr.out hW1⟩
     | true =>
      cases h3 : (x.rain == y.rain) with
      | false =>
       have hd := hide (hbad (fun h => by rw [h] at h3; simp at h3))
       clear hbad hgood
       go_wp2_with fail
       (refine wp_region_grow (by kernel_rfl) (by kernel_rfl) ?_; (repeat (first | go_big_quiet_skip | (go_big_quiet_want; go_big_quiet_op; first | go_big_quiet_on | (apply Exists.intro; refine ⟨fun _ => ?_, ?_⟩; (focus (fail)); go_big_quiet_on)))); refine wpQuiet_nil ?_; rintro W1 ⟨⟨_, hW1⟩, rfl⟩)
       go_wp2_with fail
       go_ret
       exact ⟨ret_bool hd.out.symm, bup hbr.out hW1⟩
      | true =>
       have hg := hide (hgood (Weather.eq_iff.2 ⟨by simpa using h1, by simpa using h2, by simpa using h3⟩))
       clear hbad hgood
       go_wp2_with fail
       (refine wp_region_grow (by kernel_rfl) (by kernel_rfl) ?_; (repeat (first | go_big_quiet_skip | (go_big_quiet_want; go_big_quiet_op; first | go_big_quiet_on | (apply Exists.intro; refine ⟨fun _ => ?_, ?_⟩; (focus (fail)); go_big_quiet_on)))); refine wpQuiet_nil ?_; rintro W1 ⟨⟨_, hW1⟩, rfl⟩)
       go_wp2_with fail
       go_roundw
       case rel => exact ⟨k + 1, by omega, by go_num, hg, hide (bup hbr.out hW1)⟩
       case measure => simp [intOf]; omega
   ·have he : k = N := by omega
    subst he
    have hd : D = true := by
     have h := hsame.out
     rw [← hD.out, decide_eq_true_iff]
     rwa [List.take_of_length_le (by rw [hq.out]; exact Nat.le_refl _), List.take_of_length_le (by rw [hN.out]; exact Nat.le_refl _)] at h
    replace hd := hide hd
    go_wp2_with fail
    go_ret
    exact ⟨ret_bool hd.out.symm, hbr.out⟩
 ·have hD : decide (l = m) = false := by rw [decide_eq_false_iff_not]; exact fun h => hq (by rw [h])
  rw [hD]
  have h0 : ¬ (l.length : Int) = (m.length : Int) := by omega
  have h1 : ((l.length : Int) == (m.length : Int)) = false := by simpa using h0
  have h2 : ((l.length : Int) != (m.length : Int)) = true := by simpa using h0
  clear hD hv hu hA hA2
  go_enter Tryz.func44, Tryz.ntmps44
  go_wp2_with fail
  go_ret
  exact ⟨rfl, Below.refl _ _⟩
end Go.Proofs.YtmjfdobjnnfafaaGreatDoor
