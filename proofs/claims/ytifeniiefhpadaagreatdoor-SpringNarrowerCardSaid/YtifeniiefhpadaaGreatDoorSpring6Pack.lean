/- The package spring: gaps of a log. Conditions stand in the theorems. -/
import Derived.Test.YtifeniiefhpadaaGreatDoorSpring2Pack
import Derived.Test.YtifeniiefhpadaaGreatDoorBasePack
set_option linter.all false
set_option maxHeartbeats 10000000
set_option maxRecDepth 100000
namespace Go.Proofs.YtifeniiefhpadaaGreatDoor
open Go.RowKit

theorem gapF_snoc {c : Climate} {l : List Weather} {d : Int} {k : Nat} {x : Weather} (hx : l[k]? = some x) : gapF c (l.take (k + 1)) d = gapStep c d (gapF c (l.take k) d) x := by
 unfold gapF
 rw [take_succ_of hx, List.foldl_append]
 rfl
structure GapOk (g : Gap) : Prop where
 tlo : -630000000 ≤ g.tlo ∧ g.tlo ≤ 630000000
 thi : -630000000 ≤ g.thi ∧ g.thi ≤ 630000000
 rlo : 0 ≤ g.rlo ∧ g.rlo ≤ 1000
 rhi : 0 ≤ g.rhi ∧ g.rhi ≤ 1000
theorem swing_bd {c : Climate} {x : Weather} {d : Int} (hc : ClimOk c) (hd : 0 ≤ d ∧ d ≤ 1048576) (hx : WeaOk c x) : 0 ≤ c.swing * sizeF (x.day - d) ∧ c.swing * sizeF (x.day - d) ≤ 629145600 := by
 have h1 := hx.day
 have hs := sizeF_bd (n := x.day - d) (B := 1048576) (by omega) (by omega)
 have h2 := hc.swing
 have := Int.mul_le_mul h2.2 hs.2 hs.1 (show (0 : Int) ≤ 600 by omega)
 exact ⟨Int.mul_nonneg h2.1 hs.1, by omega⟩
theorem gapStep_ok {c : Climate} {d : Int} {g : Gap} {x : Weather} (hc : ClimOk c) (hd : 0 ≤ d ∧ d ≤ 1048576) (hx : WeaOk c x) (hg : GapOk g) : GapOk (gapStep c d g x) := by
 have hs := swing_bd hc hd hx
 have ht := hx.t600 hc
 have hr := hx.rain
 have hw := hc.wettest
 obtain ⟨a1, a2, a3, a4⟩ := hg
 constructor <;> simp only [gapStep]
 ·omega
 ·omega
 ·split <;> omega
 ·split <;> omega
theorem gapF_ok {c : Climate} {d : Int} {l : List Weather} (hc : ClimOk c) (hd : 0 ≤ d ∧ d ≤ 1048576) (hl : ∀ x ∈ l, WeaOk c x) : ∀ k, k ≤ l.length → GapOk (gapF c (l.take k) d)
 | 0, _ => by
  have h1 := hc.cold; have h2 := hc.cw; have h3 := hc.warm; have h4 := hc.wettest
  constructor <;> simp [gapF] <;> omega
 | k + 1, hk => by
  obtain ⟨x, hx⟩ := getElem?_of_lt (xs := l) (k := k) (by omega)
  rw [gapF_snoc hx]
  exact gapStep_ok hc hd (hl x (List.mem_of_getElem? hx)) (gapF_ok hc hd hl k (by omega))
theorem blk_box {w : World} {g : Nat} {t : TypeId} {a b : Value} (h : Blk w g t #[a, b]) : g < w.heap.size ∧ w.cell? ⟨g, 0, none⟩ = some a ∧ w.cell? ⟨g, 1, none⟩ = some b ∧ w.frozen? ⟨g, 0, none⟩ = false ∧ w.frozen? ⟨g, 1, none⟩ = false :=
 ⟨h.lt, h.cell 0, h.cell 1, h.frozen 0, h.frozen 1⟩

theorem Blk.drewN {w : World} {g : Nat} {t : TypeId} {cs : Array Value} (h : Blk w g t cs) (n : Nat) : Blk (w.drewN n) g t cs := h
section
variable {wr : World} {g gt gr : Nat} {t : TypeId} {cs : Array Value} {p q a b r s : Value} {X : Obj} {n : Nat}
theorem gap_keep (h : Blk wr g t cs) (h1 : g ≠ gt) : Blk ((((wr.alloc X).drewN n).setCell ⟨gt, 0, none⟩ a).setCell ⟨gt, 1, none⟩ b) g t cs :=
 (((h.alloc X).drewN n).far (p := ⟨gt, 0, none⟩) h1 a).far (p := ⟨gt, 1, none⟩) h1 b
theorem gap_keep2 (h : Blk wr g t cs) (h1 : g ≠ gr) : Blk ((wr.setCell ⟨gr, 0, none⟩ r).setCell ⟨gr, 1, none⟩ s) g t cs :=
 (h.far (p := ⟨gr, 0, none⟩) h1 r).far (p := ⟨gr, 1, none⟩) h1 s
theorem gap_set (h : Blk wr gt t #[p, q]) : Blk ((((wr.alloc X).drewN n).setCell ⟨gt, 0, none⟩ a).setCell ⟨gt, 1, none⟩ b) gt t #[a, b] := by
 have := (((h.alloc X).drewN n).set_ 0 a).set_ 1 b
 simpa using this
theorem gap_set2 (h : Blk wr gr t #[p, q]) : Blk ((wr.setCell ⟨gr, 0, none⟩ r).setCell ⟨gr, 1, none⟩ s) gr t #[r, s] := by
 have := (h.set_ 0 r).set_ 1 s
 simpa using this
theorem gap_below {B : Nat} {w : World} (h : Below B w wr) (hB : B ≤ wr.heap.size) (h1 : B ≤ gt) : Below B w ((((wr.alloc X).drewN n).setCell ⟨gt, 0, none⟩ a).setCell ⟨gt, 1, none⟩ b) :=
 bset (bset (below_drewN (h.alloc hB X) n) gt 0 h1 a) gt 1 h1 b
theorem gap_below2 {B : Nat} {w : World} (h : Below B w wr) (h1 : B ≤ gr) : Below B w ((wr.setCell ⟨gr, 0, none⟩ r).setCell ⟨gr, 1, none⟩ s) :=
 bset (bset h gr 0 h1 r) gr 1 h1 s
end
theorem ite_max (a b : Int) : (if a < b then b else a) = max a b := by split <;> omega
theorem ite_min (a b : Int) : (if a < b then a else b) = min b a := by split <;> omega

theorem spring_gap (c : Climate) (v : Value) (l : List Weather) (d : Int) (w : World) (hc : ClimOk c) (hd : 0 ≤ d ∧ d ≤ 1048576) (hl : ∀ x ∈ l, WeaOk c x) (hv : Sl w 3 Weather.cells v l) :
  Calls Tryz.prog 36 #[c.v, v, I d] w fun e w' => e = .returned (.tuple #[.agg #[I (gapF c l d).tlo, I (gapF c l d).thi], .agg #[I (gapF c l d).rlo, I (gapF c l d).rhi]]) ∧ Below w.heap.size w w' := by
 obtain ⟨A, n, rfl, _, _, hlen, hA⟩ := hv.open_
 replace hv := hide hv
 replace hA := hide hA
 have hgo := hide (gapF_ok hc hd hl)
 unfold Climate.v
 go_enter Tryz.func36, Tryz.ntmps36
 go_wp2_with fail
 obtain ⟨W1, hW1⟩ : ∃ W1, W1 = ((w.alloc (.cells (c8 c) 25)).alloc (.cells #[I 0, I 0] 23)).alloc (.cells #[I 0, I 0] 23) := ⟨_, rfl⟩
 have hK : ClimAt c w.heap.size W1 := by rw [hW1]; exact (((ClimAt.new c w _).grow (below1 _ _))).grow (below1 _ _)
 have hKB : Blk W1 w.heap.size 25 (c8 c) := by rw [hW1]; exact ((Blk.new w _ _).alloc _).alloc _
 have hw3 : w.heap.size + 3 = W1.heap.size := by rw [hW1]; simp
 have hB : Below w.heap.size w W1 := by rw [hW1]; exact below3 _ _ _ _
 have hR : Blk W1 (w.heap.size + 1) 23 #[I 0, I 0] := by rw [hW1]; exact (blk21 w _ _ _).alloc _
 have hR2 : Blk W1 (w.heap.size + 2) 23 #[I 0, I 0] := by rw [hW1]; exact blk32 w _ _ _ _
 rw [← hW1]
 clear hW1
 obtain ⟨hz, q0, q1, q2, q3, q4, q5, q6, q7⟩ := hK
 have hn1 : W1.heap.size ≠ w.heap.size := by omega
 have hn2 : W1.heap.size + 1 ≠ w.heap.size := by omega
 have hn1' : w.heap.size ≠ W1.heap.size := by omega
 have hn2' : w.heap.size ≠ W1.heap.size + 1 := by omega
 go_region_held3 (fun W => W.cell? ⟨w.heap.size, 0, none⟩ = some (I c.base) ∧ W.cell? ⟨w.heap.size, 1, none⟩ = some (I c.lapse) ∧ W.cell? ⟨w.heap.size, 2, none⟩ = some (I c.swing) ∧ W.cell? ⟨w.heap.size, 3, none⟩ = some (I c.wettest) ∧ W.cell? ⟨w.heap.size, 4, none⟩ = some (I c.coldest) ∧ W.cell? ⟨w.heap.size, 5, none⟩ = some (I c.warmest) ∧ W.cell? ⟨w.heap.size, 6, none⟩ = some (I c.flo) ∧ W.cell? ⟨w.heap.size, 7, none⟩ = some (I c.fhi)) (go_keep) (fail)
 all_goals
  rename_i hS
  clear hS q0 q1 q2 q3 q4 q5 q6 q7 hn1 hn2 hn1' hn2'
 all_goals first
  | (
   obtain ⟨W2, hW2⟩ : ∃ W2, W2 = ((W1.alloc (Obj.cells #[Value.int .i64 c.coldest, Value.int .i64 c.warmest] 23)).alloc (Obj.cells #[Value.int .i64 0, Value.int .i64 c.wettest] 23)).drew := ⟨_, rfl⟩
   rw [← hW2]
   have hT : Blk W2 (W1.heap.size) 23 #[I c.coldest, I c.warmest] := by rw [hW2]; exact (blk20 W1 _ _ _).drew
   have hU : Blk W2 (W1.heap.size + 1) 23 #[I 0, I c.wettest] := by rw [hW2]; exact (blk21 W1 _ _ _).drew
   have hB2 : Below W1.heap.size W1 W2 := by rw [hW2]; exact below_drewN (below2 _ _ _) 1
   clear hW2
   obtain ⟨gt, hgt⟩ : ∃ gt, gt = W1.heap.size := ⟨_, rfl⟩
   obtain ⟨gr, hgr⟩ : ∃ gr, gr = W1.heap.size + 1 := ⟨_, rfl⟩
   have hgn : gt ≠ gr ∧ W1.heap.size ≤ gt ∧ W1.heap.size ≤ gr := by omega
   rw [← hgr] at hU ⊢
   rw [← hgt] at hT ⊢
   clear hgr hgt)
  | (
   obtain ⟨W2, hW2⟩ : ∃ W2, W2 = ((W1.alloc (Obj.cells #[Value.int .i64 0, Value.int .i64 c.wettest] 23)).alloc (Obj.cells #[Value.int .i64 c.coldest, Value.int .i64 c.warmest] 23)).drew := ⟨_, rfl⟩
   rw [← hW2]
   have hT : Blk W2 (W1.heap.size + 1) 23 #[I c.coldest, I c.warmest] := by rw [hW2]; exact (blk21 W1 _ _ _).drew
   have hU : Blk W2 (W1.heap.size) 23 #[I 0, I c.wettest] := by rw [hW2]; exact (blk20 W1 _ _ _).drew
   have hB2 : Below W1.heap.size W1 W2 := by rw [hW2]; exact below_drewN (below2 _ _ _) 1
   clear hW2
   obtain ⟨gt, hgt⟩ : ∃ gt, gt = W1.heap.size + 1 := ⟨_, rfl⟩
   obtain ⟨gr, hgr⟩ : ∃ gr, gr = W1.heap.size := ⟨_, rfl⟩
   have hgn : gt ≠ gr ∧ W1.heap.size ≤ gt ∧ W1.heap.size ≤ gr := by omega
   rw [← hgt] at hT ⊢
   rw [← hgr] at hU ⊢
   clear hgr hgt)
 all_goals
  have hK2 := hide (hKB.grow hB2)
  have hBB := hide (bup hB hB2)
  have hR' := hide (hR.grow hB2)
  have hR2' := hide (hR2.grow hB2)
  have hzz : W1.heap.size ≤ W2.heap.size := hB2.size
  replace hT := hide hT
  replace hU := hide hU
  obtain ⟨hg1, hg2, hg3⟩ := hgn
  clear hR hR2 hB2 hB hKB
  go_wp2_with fail
  go_loopw [23] (fun i wr => ∃ k : Nat, k ≤ l.length ∧ i = I k ∧ Hid (Blk wr gt 23 #[I (gapF c (l.take k) d).tlo, I (gapF c (l.take k) d).thi]) ∧ Hid (Blk wr gr 23 #[I (gapF c (l.take k) d).rlo, I (gapF c (l.take k) d).rhi]) ∧
   Hid (Blk wr w.heap.size 25 (c8 c)) ∧ Hid (Blk wr (w.heap.size + 1) 23 #[I 0, I 0]) ∧ Hid (Blk wr (w.heap.size + 2) 23 #[I 0, I 0]) ∧ Hid (Below w.heap.size w wr)) (fun i _ => l.length - (intOf i).toNat)
  case atStart => exact ⟨0, Nat.zero_le _, rfl, by simpa [gapF] using hT, by simpa [gapF] using hU, hK2, hR', hR2', hBB⟩
  case round =>
   obtain ⟨k, hk, rfl, hTk, hUk, hCk, hR1, hR2, hBk⟩ := hrel
   clear hT hU hK2 hR' hR2' hBB
   have hgk := hgo.out k hk
   by_cases hlt : k < l.length
   ·obtain ⟨b, off, rfl, hbw⟩ := hA.out k hlt
    obtain ⟨x, hx⟩ := getElem?_of_lt hlt
    have hxo := hl x (List.mem_of_getElem? hx)
    have hstep := hide (gapF_snoc (c := c) (d := d) hx)
    obtain ⟨G, hG⟩ : ∃ G, gapF c (l.take k) d = G := ⟨_, rfl⟩
    rw [hG] at hTk hUk hgk hstep
    obtain ⟨hbx, e0, e1, e2⟩ := ((unhide hv).mono hBk.out).weather_at hx
    have hgw := hCk.out.lt
    have q2 : wr.cell? ⟨w.heap.size, 2, none⟩ = some (I c.swing) := hCk.out.cell 2
    obtain ⟨s1, s2⟩ := swing_bd hc hd hxo
    obtain ⟨d1, d2⟩ := hxo.day
    obtain ⟨r1, r2⟩ := hxo.rain
    obtain ⟨p1, p2⟩ := hxo.t600 hc
    obtain ⟨d3, d4⟩ := hd
    obtain ⟨g1, g2⟩ := hgk.tlo
    obtain ⟨g3, g4⟩ := hgk.thi
    obtain ⟨t1, t2, t3, t4, t5⟩ := blk_box hTk.out
    obtain ⟨u1, u2, u3, u4, u5⟩ := blk_box hUk.out
    have k1 : IntKind.i64.wrap (x.day - d) = x.day - d := IntWalk.i64_in _ (by omega)
    have k2 : IntKind.i64.wrap (c.swing * sizeF (x.day - d)) = c.swing * sizeF (x.day - d) := IntWalk.i64_in _ (by omega)
    have HS := hide (fun w => spring_size (x.day - d) w (by omega) (by omega))
    have hmx := hide (show (gapStep c d G x).tlo = max G.tlo (x.temp - c.swing * sizeF (x.day - d)) from rfl)
    have hmn := hide (show (gapStep c d G x).thi = min G.thi (x.temp + c.swing * sizeF (x.day - d)) from rfl)
    have hrl := hide (show (gapStep c d G x).rlo = if x.day = d then x.rain else G.rlo from rfl)
    have hrh := hide (show (gapStep c d G x).rhi = if x.day = d then x.rain else G.rhi from rfl)
    replace hx := hide hx
    replace hG := hide hG
    replace hxo := hide hxo
    replace hgk := hide hgk
    replace hlx := hide hl
    clear hA hl d1 d2 d3 d4
    go_wp2_with fail
    go_quiet ((go_at_call 76; exact Calls.quiet_of_same ((HS.out _).mono fun _ _ h => ⟨h.1, h.2.symm⟩)))
    clear k1 k2
    generalize c.swing * sizeF (x.day - d) = S at *
    by_cases hxd : x.day = d
    ·have hbq : (x.day == d) = true := by simpa using hxd
     have hrl2 := hide (hrl.out.trans (if_pos hxd))
     have hrh2 := hide (hrh.out.trans (if_pos hxd))
     replace hxd := hide hxd
     go_wp2_with fail
     go_roundw
     case rel =>
      refine ⟨k + 1, by omega, by go_num, ?_, ?_, ?_, ?_, ?_, ?_⟩
      ·rw [hstep.out, hmx.out, hmn.out, ← ite_max, ← ite_min]; exact hide (gap_keep2 (gap_set hTk.out) hg1)
      ·rw [hstep.out, hrl2.out, hrh2.out]; exact hide (gap_set2 (gap_keep hUk.out hg1.symm))
      ·exact hide (gap_keep2 (gap_keep hCk.out (by omega)) (by omega))
      ·exact hide (gap_keep2 (gap_keep hR1.out (by omega)) (by omega))
      ·exact hide (gap_keep2 (gap_keep hR2.out (by omega)) (by omega))
      ·exact hide (gap_below2 (gap_below hBk.out (by omega) (by omega)) (by omega))
     case measure => simp [intOf]; omega
    ·have hbq : (x.day == d) = false := by simpa using hxd
     have hrl2 := hide (hrl.out.trans (if_neg hxd))
     have hrh2 := hide (hrh.out.trans (if_neg hxd))
     replace hxd := hide hxd
     go_wp2_with fail
     go_roundw
     case rel =>
      refine ⟨k + 1, by omega, by go_num, ?_, ?_, ?_, ?_, ?_, ?_⟩
      ·rw [hstep.out, hmx.out, hmn.out, ← ite_max, ← ite_min]; exact hide (gap_set hTk.out)
      ·rw [hstep.out, hrl2.out, hrh2.out]; exact hide (gap_keep hUk.out hg1.symm)
      ·exact hide (gap_keep hCk.out (by omega))
      ·exact hide (gap_keep hR1.out (by omega))
      ·exact hide (gap_keep hR2.out (by omega))
      ·exact hide (gap_below hBk.out (by omega) (by omega))
     case measure => simp [intOf]; omega
   ·have he : k = l.length := by omega
    subst he
    rw [List.take_length] at hTk hUk
    obtain ⟨t1, t2, t3, t4, t5⟩ := blk_box hTk.out
    obtain ⟨u1, u2, u3, u4, u5⟩ := blk_box hUk.out
    obtain ⟨v1, v2, v3, v4, v5⟩ := blk_box hR1.out
    obtain ⟨w1, w2, w3, w4, w5⟩ := blk_box hR2.out
    have e1 : gt ≠ w.heap.size + 1 := by omega
    have e2 : gt ≠ w.heap.size + 2 := by omega
    have e3 : gr ≠ w.heap.size + 1 := by omega
    have e4 : gr ≠ w.heap.size + 2 := by omega
    have e5 : w.heap.size + 1 ≠ gt := by omega
    have e6 : w.heap.size + 1 + 1 ≠ gt := by omega
    have e7 : w.heap.size + 1 ≠ gr := by omega
    have e8 : w.heap.size + 1 + 1 ≠ gr := by omega
    clear hA
    go_wp2_with fail
    go_region_held3 (fun W => W.cell? ⟨gt, 0, none⟩ = some (I (gapF c l d).tlo) ∧ W.cell? ⟨gt, 1, none⟩ = some (I (gapF c l d).thi) ∧ W.cell? ⟨gr, 0, none⟩ = some (I (gapF c l d).rlo) ∧ W.cell? ⟨gr, 1, none⟩ = some (I (gapF c l d).rhi)) (go_keep) (fail)
    go_wp2_with fail
    refine bodyPost_ret (v := .tuple #[.agg #[I (gapF c l d).tlo, I (gapF c l d).thi], .agg #[I (gapF c l d).rlo, I (gapF c l d).rhi]]) (by simp [results, Tryz.results36, go_sem, v2, v3, w2, w3]) rfl ⟨rfl, ?_⟩
    exact below_drewN (gap_below2 (gap_below2 hBk.out (by omega)) (by omega)) 1

def loggedE (c : Climate) (l : List Weather) (xs : List Bool) : Int := if logE c l = 0 then askedE c xs else logE c l
theorem spring_logged (c : Climate) (v : Value) (l : List Weather) (vb : Value) (xs : List Bool) (w : World) (hv : Sl w 3 Weather.cells v l) (hb : Sl w 1 boolC vb xs) : Calls Tryz.prog 34 #[c.v, v, vb] w fun e w' => e = .returned (I (loggedE c l xs)) ∧ Below w.heap.size w w' := by
 have H1 := hide (fun w hv => spring_CheckLog c v l w hv)
 have H2 := hide (fun w hv => spring_asked c vb xs w hv)
 replace hv := hide hv
 replace hb := hide hb
 by_cases h : logE c l = 0
 ·have hfin := hide (show loggedE c l xs = askedE c xs by simp [loggedE, h])
  rw [h] at H1
  replace h := hide h
  unfold Climate.v at *
  go_enter Tryz.func34, Tryz.ntmps34
  go_wp2_with (first | (go_at_call 9; refine (H1.out _ (hv.out.mono (below1 _ _))).mono ?_; clear H1; rintro e w1 ⟨rfl, hb1⟩; have hc1 := fun o => (bcell hb1).1 w.heap.size o (by simp <;> omega)) | (go_at_call 44; refine (H2.out _ (hb.out.mono (bup (below1 _ _) hb1))).mono ?_; clear H2; rintro e w2 ⟨rfl, hb2⟩))
  go_ret
  exact ⟨ret_int hfin.out.symm, bup (bup (below1 _ _) hb1) hb2⟩
 ·have hfin := hide (show loggedE c l xs = logE c l by simp [loggedE, h])
  obtain ⟨b, hb'⟩ : ∃ b, logE c l = b := ⟨_, rfl⟩
  rw [hb'] at H1 h hfin
  have h0 : (b != 0) = true := by simpa using h
  replace hb' := hide hb'
  unfold Climate.v at *
  go_enter Tryz.func34, Tryz.ntmps34
  go_wp2_with (first | (go_at_call 9; refine (H1.out _ (hv.out.mono (below1 _ _))).mono ?_; clear H1; rintro e w1 ⟨rfl, hb1⟩; have hc1 := fun o => (bcell hb1).1 w.heap.size o (by simp <;> omega)))
  go_ret
  exact ⟨ret_int hfin.out.symm, bup (below1 _ _) hb1⟩

theorem linkedB_ok {c : Climate} {l : List Weather} (h : linkedB c l = true) : ∀ x ∈ l, WeaOk c x := by
 intro x hx
 obtain ⟨i, hi, rfl⟩ := List.getElem_of_mem hx
 have := List.all_eq_true.1 h i (List.mem_range.2 hi)
 exact .of (linkedAt_ok (List.getElem?_eq_getElem hi) this)
structure LogOk (c : Climate) (l : List Weather) : Prop where
 clim : ClimOk c
 len : l.length ≤ 512
 mem : ∀ x ∈ l, WeaOk c x
 link : linkedB c l = true
theorem LogOk.of {c : Climate} {l : List Weather} (h : logE c l = 0) : LogOk c l := by
 unfold logE at h
 cases h1 : climateOk c with
 | false => rw [h1] at h; simp at h
 | true =>
  rw [h1] at h
  simp only [Bool.true_eq_false, if_false] at h
  split at h
  ·cases h
  ·rename_i h2
   have h3 : linkedB c l = true := by simp at h2; exact h2.2
   exact ⟨.of h1, by omega, linkedB_ok h3, h3⟩
theorem logged_cases (c : Climate) (l : List Weather) (xs : List Bool) : (loggedE c l xs = 0 ∧ LogOk c l ∧ xs.all id = true) ∨ loggedE c l xs ≠ 0 := by
 unfold loggedE
 by_cases h : logE c l = 0
 ·rw [if_pos h]
  rcases asked_cases c xs with ⟨h1, _, h3⟩ | ⟨h1, _⟩
  ·exact .inl ⟨h1, .of h, h3⟩
  ·exact .inr h1
 ·rw [if_neg h]; exact .inr h
theorem spring_logged_lit (c : Climate) (v : Value) (l : List Weather) (xs : List Bool) (w : World) (g : Nat) (hv : Sl w 3 Weather.cells v l) (hg : Blk w g 4 (xs.map Value.bool).toArray) (hn : xs.length ≤ 1000) : Calls Tryz.prog 34 #[.agg (c8 c), v, .slice (some ⟨g, 0, none⟩) xs.length xs.length] w fun e w' => e = .returned (I (loggedE c l xs)) ∧ Below w.heap.size w w' :=
 spring_logged c v l _ xs w hv (sl_lit hg (by simp [flat_bool]) 1 boolC_len hn)

theorem Blk.clim {c : Climate} {w : World} {g : Nat} {t : TypeId} (h : Blk w g t (c8 c)) : ClimAt c g w :=
 ⟨h.lt, h.cell 0, h.cell 1, h.cell 2, h.cell 3, h.cell 4, h.cell 5, h.cell 6, h.cell 7⟩
def gapE (c : Climate) (l : List Weather) (d : Int) : Int := loggedE c l [inB d 0 1048576]
def gapV (c : Climate) (l : List Weather) (d : Int) : Gap := if gapE c l d = 0 then gapF c l d else ⟨0, 0, 0, 0⟩
theorem blk43 (w : World) (t : TypeId) (cs : Array Value) (a b o : Obj) : Blk ((((w.alloc a).alloc b).alloc o).alloc (.cells cs t)).drew (w.heap.size + 3) t cs := by
 have := Blk.new (((w.alloc a).alloc b).alloc o) t cs
 have h : Blk ((((w.alloc a).alloc b).alloc o).alloc (.cells cs t)) (w.heap.size + 3) t cs := by simpa using this
 exact h
theorem spring_Gap (c : Climate) (v : Value) (l : List Weather) (d : Int) (w : World) (hv : Sl w 3 Weather.cells v l) :
  Calls Tryz.prog 10 #[c.v, v, I d] w fun e w' => e = .returned (.tuple #[.agg #[I (gapV c l d).tlo, I (gapV c l d).thi], .agg #[I (gapV c l d).rlo, I (gapV c l d).rhi], I (gapE c l d)]) ∧ Below w.heap.size w w' := by
 rcases logged_cases c l [inB d 0 1048576] with ⟨h1, h2, h3⟩ | h1
 ·have hd : 0 ≤ d ∧ d ≤ 1048576 := by simp at h3; exact inB_true.1 h3
  have H1 := hide (fun w hv => spring_gap c v l d w h2.clim hd h2.mem hv)
  have hE : gapE c l d = 0 := h1
  have hV : gapV c l d = gapF c l d := by simp [gapV, hE]
  rw [hE, hV]
  obtain ⟨G, hG⟩ : ∃ G, gapF c l d = G := ⟨_, rfl⟩
  rw [hG] at H1 ⊢
  replace h1 := hide h1
  replace hv := hide hv
  clear hE hV h2 h3 hd hG
  unfold Climate.v at *
  go_enter Tryz.func10, Tryz.ntmps10
  go_wp2_with fail
  go_region_held3 (fun W => W.cell? ⟨w.heap.size, 0, none⟩ = some (I c.base) ∧ W.cell? ⟨w.heap.size, 1, none⟩ = some (I c.lapse) ∧ W.cell? ⟨w.heap.size, 2, none⟩ = some (I c.swing) ∧ W.cell? ⟨w.heap.size, 3, none⟩ = some (I c.wettest) ∧ W.cell? ⟨w.heap.size, 4, none⟩ = some (I c.coldest) ∧ W.cell? ⟨w.heap.size, 5, none⟩ = some (I c.warmest) ∧ W.cell? ⟨w.heap.size, 6, none⟩ = some (I c.flo) ∧ W.cell? ⟨w.heap.size, 7, none⟩ = some (I c.fhi)) (go_keep) (first | (go_at_call 35; refine (spring_day _ _).mono ?_; rintro e w' ⟨rfl, rfl⟩) | (go_at_call 34; refine (spring_logged_lit c _ l [inB d 0 1048576] _ _ (hv.out.mono (below_drewN (below4 _ _ _ _ _) 1)) (blk43 _ _ _ _ _ _) (by simp)).mono ?_; rw [h1.out]; rintro e w1 ⟨rfl, hb1⟩; have hc1 := fun o => (bcell hb1).1 w.heap.size o (by simp <;> omega)))
  have hB1 := below_drew' hb1
  have kC : Blk w1 w.heap.size 25 (c8 c) := ((((Blk.new w _ _).alloc _).alloc _).alloc _).grow hB1
  have k1 : Blk w1 (w.heap.size + 1) 23 #[I 0, I 0] := (((blk21 w _ _ _).alloc _).alloc _).grow hB1
  have k2 : Blk w1 (w.heap.size + 2) 23 #[I 0, I 0] := ((blk32 w _ _ _ _).alloc _).grow hB1
  have kB := bup (below4 _ _ _ _ _) hB1
  have kz := hB1.size
  simp at kz
  rename_i hS
  clear hS hc1 hb1 hB1
  replace k1 := hide k1
  replace k2 := hide k2
  obtain ⟨_, q0, q1, q2, q3, q4, q5, q6, q7⟩ := kC.clim
  clear kC
  go_wp2_with (go_at_call 36; refine (H1.out _ (hv.out.mono kB)).mono ?_; clear H1; rintro e w2 ⟨rfl, hb2⟩; have j1 := hide (k1.out.grow hb2); have j2 := hide (k2.out.grow hb2); have jB := bup kB hb2; have jz := hb2.size; clear k1 k2 q0 q1 q2 q3 q4 q5 q6 q7)
  obtain ⟨W3, hW3⟩ : ∃ W3, W3 = (w2.alloc (Obj.cells #[Value.int .i64 G.tlo, Value.int .i64 G.thi] 23)).alloc (Obj.cells #[Value.int .i64 G.rlo, Value.int .i64 G.rhi] 23) := ⟨_, rfl⟩
  rw [← hW3]
  have hT : Blk W3 w2.heap.size 23 #[I G.tlo, I G.thi] := by rw [hW3]; exact blk20 _ _ _ _
  have hU : Blk W3 (w2.heap.size + 1) 23 #[I G.rlo, I G.rhi] := by rw [hW3]; exact blk21 _ _ _ _
  have hR1 : Blk W3 (w.heap.size + 1) 23 #[I 0, I 0] := by rw [hW3]; exact (j1.out.alloc _).alloc _
  have hR2 : Blk W3 (w.heap.size + 2) 23 #[I 0, I 0] := by rw [hW3]; exact (j2.out.alloc _).alloc _
  have hB3 : Below w.heap.size w W3 := by rw [hW3]; exact bup jB (below2 _ _ _)
  clear hW3 j1 j2 jB
  obtain ⟨t1, t2, t3, t4, t5⟩ := blk_box hT
  obtain ⟨u1, u2, u3, u4, u5⟩ := blk_box hU
  obtain ⟨v1, v2, v3, v4, v5⟩ := blk_box hR1
  obtain ⟨w1', w2', w3', w4', w5'⟩ := blk_box hR2
  have e1 : w2.heap.size ≠ w.heap.size + 1 := by omega
  have e2 : w2.heap.size ≠ w.heap.size + 2 := by omega
  have e3 : w2.heap.size + 1 ≠ w.heap.size + 1 := by omega
  have e4 : w2.heap.size + 1 ≠ w.heap.size + 2 := by omega
  have e5 : w.heap.size + 1 ≠ w2.heap.size := by omega
  have e6 : w.heap.size + 1 + 1 ≠ w2.heap.size := by omega
  have e7 : w.heap.size + 1 ≠ w2.heap.size + 1 := by omega
  have e8 : w.heap.size + 1 + 1 ≠ w2.heap.size + 1 := by omega
  generalize hgt : w2.heap.size = gt at *
  generalize hgr : gt + 1 = gr at *
  clear hgr hgt hT hU hR1 hR2
  go_region_held3 (fun W => W.cell? ⟨gt, 0, none⟩ = some (I G.tlo) ∧ W.cell? ⟨gt, 1, none⟩ = some (I G.thi) ∧ W.cell? ⟨gr, 0, none⟩ = some (I G.rlo) ∧ W.cell? ⟨gr, 1, none⟩ = some (I G.rhi)) (go_keep) (fail)
  go_wp2_with fail
  refine bodyPost_ret (v := .tuple #[.agg #[I G.tlo, I G.thi], .agg #[I G.rlo, I G.rhi], I 0]) (by simp [results, Tryz.results10, go_sem, v2, v3, w2', w3']) rfl ⟨rfl, ?_⟩
  exact below_drewN (gap_below2 (gap_below2 hB3 (by omega)) (by omega)) 1
 ·obtain ⟨b, hb⟩ : ∃ b, loggedE c l [inB d 0 1048576] = b := ⟨_, rfl⟩
  have hE : gapE c l d = b := hb
  rw [hb] at h1
  have hV : gapV c l d = ⟨0, 0, 0, 0⟩ := by simp only [gapV, hE]; rw [if_neg h1]
  rw [hE, hV]
  have h0 : (b != 0) = true := by simpa using h1
  replace hb := hide hb
  replace hv := hide hv
  clear hE hV
  unfold Climate.v at *
  go_enter Tryz.func10, Tryz.ntmps10
  go_wp2_with fail
  go_region_held3 (fun W => W.cell? ⟨w.heap.size, 0, none⟩ = some (I c.base) ∧ W.cell? ⟨w.heap.size, 1, none⟩ = some (I c.lapse) ∧ W.cell? ⟨w.heap.size, 2, none⟩ = some (I c.swing) ∧ W.cell? ⟨w.heap.size, 3, none⟩ = some (I c.wettest) ∧ W.cell? ⟨w.heap.size, 4, none⟩ = some (I c.coldest) ∧ W.cell? ⟨w.heap.size, 5, none⟩ = some (I c.warmest) ∧ W.cell? ⟨w.heap.size, 6, none⟩ = some (I c.flo) ∧ W.cell? ⟨w.heap.size, 7, none⟩ = some (I c.fhi)) (go_keep) (first | (go_at_call 35; refine (spring_day _ _).mono ?_; rintro e w' ⟨rfl, rfl⟩) | (go_at_call 34; refine (spring_logged_lit c _ l [inB d 0 1048576] _ _ (hv.out.mono (below_drewN (below4 _ _ _ _ _) 1)) (blk43 _ _ _ _ _ _) (by simp)).mono ?_; rw [hb.out]; rintro e w1 ⟨rfl, hb1⟩; have hc1 := fun o => (bcell hb1).1 w.heap.size o (by simp <;> omega)))
  have hB1 := below_drew' hb1
  have k1 : Blk w1 (w.heap.size + 1) 23 #[I 0, I 0] := (((blk21 w _ _ _).alloc _).alloc _).grow hB1
  have k2 : Blk w1 (w.heap.size + 2) 23 #[I 0, I 0] := ((blk32 w _ _ _ _).alloc _).grow hB1
  have kB := bup (below4 _ _ _ _ _) hB1
  rename_i hS
  clear hS hc1 hb1 hB1
  obtain ⟨v1, v2, v3, v4, v5⟩ := blk_box k1
  obtain ⟨w1', w2', w3', w4', w5'⟩ := blk_box k2
  clear k1 k2
  go_wp2_with fail
  refine bodyPost_ret (v := .tuple #[.agg #[I 0, I 0], .agg #[I 0, I 0], I b]) (by simp [results, Tryz.results10, go_sem, v2, v3, w2', w3']) rfl ⟨rfl, ?_⟩
  exact gap_below2 (gap_below2 kB (by omega)) (by omega)

theorem Gives.mono {P : Program} {α : Type} {g : Nat} {cap : Array Value} {mk : α → Value} {p : α → Bool} {w w' : World} {xs : List α} (h : Gives P g cap mk p w xs) (hb : Below w.heap.size w w') : Gives P g cap mk p w' xs :=
 fun W x hx hW => h W x hx (bup hb hW)
theorem all_any_not {α : Type} (p : α → Bool) (xs : List α) : (!xs.any fun x => !p x) = xs.all p := by
 induction xs with
 | nil => rfl
 | cons x xs ih => simp only [List.any_cons, List.all_cons, Bool.not_or, Bool.not_not, ih]

theorem all1_Weather (g : Nat) (cap : Array Value) (p : Weather → Bool) (w : World) (xs : List Weather) (B : Nat) (eg : ∀ args w, (callFunc g args).run Tryz.prog w = .ok (.enter g args) w)
  (hB : w.cell? ⟨B, 0, none⟩ = some (.func (.func g) #[] cap)) (hBw : B < w.heap.size) (hp : Gives Tryz.prog g cap (fun x : Weather => .agg #[I x.day, I x.temp, I x.rain]) p w xs) :
  Gives Tryz.prog 105 #[.pointer (some ⟨B, 0, none⟩)] (fun x : Weather => .agg #[I x.day, I x.temp, I x.rain]) (fun x => !p x) w xs := by
 intro W x hx hb
 have H := fun (o : Obj) => hp (W.alloc o) x hx (bup hb (below1 _ _))
 have hc' := (hb.cell (p := ⟨B, 0, none⟩) hBw).trans hB
 have hB' : B < W.heap.size := Nat.lt_of_lt_of_le hBw hb.size
 obtain ⟨q, hq⟩ : ∃ q, p x = q := ⟨_, rfl⟩
 simp only [hq] at H ⊢
 replace H := hide H
 clear hp hB hBw hq
 go_enter Tryz.func105, Tryz.ntmps105
 go_wp2_with (go_at_fn g; refine (H.out _).mono ?_; rintro e w' ⟨rfl, hb1⟩)
 go_ret
 exact ⟨rfl, bup (below1 _ _) hb1⟩
theorem all_Weather (v : Value) (xs : List Weather) (g : Nat) (cap : Array Value) (p : Weather → Bool) (w : World) (hv : Sl w 3 Weather.cells v xs) (eg : ∀ args w, (callFunc g args).run Tryz.prog w = .ok (.enter g args) w)
  (hp : Gives Tryz.prog g cap (fun x : Weather => .agg #[I x.day, I x.temp, I x.rain]) p w xs) :
  Calls Tryz.prog 80 #[v, .func (.func g) #[] cap] w fun e w' => e = .returned (.bool (xs.all p)) ∧ Below w.heap.size w w' := by
 have hfin := hide (all_any_not p xs)
 replace hv := hide hv
 replace hp := hide hp
 go_enter Tryz.func80, Tryz.ntmps80
 go_wp2_with fail
 go_at_call 104
 refine (containsFunc_Weather _ xs _ _ (fun x => !p x) _ (hv.out.mono (below1 _ _)) (enters_of Tryz.func105 (by kernel_rfl) rfl) (all1_Weather g cap p _ xs _ eg (by simp [go_sem]) (by simp) (hp.out.mono (below1 _ _)))).mono ?_
 generalize xs.any (fun x => !p x) = q at hfin ⊢
 rintro e w' ⟨rfl, hb⟩
 go_wp2
 go_ret
 exact ⟨ret_bool hfin.out, bup (below1 _ _) hb⟩

def nextTo (days : List Weather) (x : Weather) : Nat := (min (max (x.day - (days.getD 0 default).day) 0) (days.length - 1)).toNat
theorem agreesAt_eq {c : Climate} {days : List Weather} {x y : Weather} (h : days[nextTo days x]? = some y) : agreesAt c days x = (nearB c x y && (decide (x.day ≠ y.day) || decide (x = y))) := by
 have h2 : days.getD (min (max (x.day - (days.getD 0 default).day) 0) (days.length - 1)).toNat default = y := getD_of h
 simp only [agreesAt, h2]
theorem Weather.eq_iff {x y : Weather} : x = y ↔ x.day = y.day ∧ x.temp = y.temp ∧ x.rain = y.rain := by
 cases x; cases y; simp
theorem agrees1 (c : Climate) (days : List Weather) (v : Value) (x : Weather) (d0 : Int) (pf pd pc : Nat) (w : World) (hc : ClimOk c) (hx : WeaOk c x) (hl : 0 < days.length) (hln : days.length ≤ 512) (hd : ∀ y ∈ days, WeaOk c y) (h0 : d0 = (days.getD 0 default).day) (hv : Sl w 3 Weather.cells v days)
  (k0 : w.cell? ⟨pf, 0, none⟩ = some (I d0)) (k1 : w.cell? ⟨pd, 0, none⟩ = some v) (k2 : ClimAt c pc w) (hpf : pf < w.heap.size) (hpd : pd < w.heap.size) :
  Calls Tryz.prog 81 #[.agg #[I x.day, I x.temp, I x.rain], .pointer (some ⟨pf, 0, none⟩), .pointer (some ⟨pd, 0, none⟩), .pointer (some ⟨pc, 0, none⟩)] w fun e w' => e = .returned (.bool (agreesAt c days x)) ∧ Below w.heap.size w w' := by
 obtain ⟨A, n, rfl, _, _, hlen, hA⟩ := hv.open_
 obtain ⟨b, off, rfl, hbw⟩ := hA 0 hl
 obtain ⟨y0, hy0⟩ := getElem?_of_lt hl
 have hy0o := hd y0 (List.mem_of_getElem? hy0)
 have hd0 : d0 = y0.day := by rw [h0, getD_of hy0]
 obtain ⟨hpc, q0, q1, q2, q3, q4, q5, q6, q7⟩ := k2
 obtain ⟨a1, a2⟩ := hx.day
 obtain ⟨a3, a4⟩ := hy0o.day
 obtain ⟨k, hk⟩ : ∃ k, nextTo days x = k := ⟨_, rfl⟩
 have hkk : k = (min (max (x.day - d0) 0) (days.length - 1)).toNat := by rw [← hk, h0]; rfl
 have hkl : k < days.length := by rw [hkk]; omega
 obtain ⟨y, hy⟩ := getElem?_of_lt hkl
 have hyo := hd y (List.mem_of_getElem? hy)
 have heq := agreesAt_eq (c := c) (x := x) (y := y) (by rw [hk]; exact hy)
 have HN := fun w => spring_near c x y w hc hx hyo
 obtain ⟨_, e0, e1, e2⟩ := hv.weather_at hy
 rw [heq]
 have hki : (if x.day - d0 < 0 then 0 else x.day - d0) < (days.length : Int) - 1 ∨ True := .inr trivial
 clear hk heq hv hA h0 hy0 hx hyo hd hki
 unfold Climate.v Weather.v at HN
 replace HN := hide HN
 have k3 : IntKind.i64.wrap (x.day - d0) = x.day - d0 := IntWalk.i64_in _ (by omega)
 have k4 : IntKind.i64.wrap ((days.length : Int) - 1) = (days.length : Int) - 1 := IntWalk.i64_in _ (by omega)
 have hc4 : ∀ D : Bool, (decide (x.day ≠ y.day) || D) = if x.day = y.day then D else true := fun D => by by_cases h : x.day = y.day <;> simp [h]
 rw [hc4]
 have hkc : (x.day < d0 ∧ k = 0) ∨ (d0 ≤ x.day ∧ (days.length : Int) - 1 < x.day - d0 ∧ ((days.length : Int) - 1 = (k : Int))) ∨ (d0 ≤ x.day ∧ x.day - d0 ≤ (days.length : Int) - 1 ∧ x.day - d0 = (k : Int)) := by omega
 clear hkk hd0 a1 a2 a3 a4 hc4
 replace hy := hide hy
 rcases hkc with ⟨c1, rfl⟩ | ⟨c1, c2, c3⟩ | ⟨c1, c2, c3⟩
 ·rw [Nat.zero_mul, Nat.add_zero] at e0 e1 e2
  cases hnr : nearB c x y with
  | false =>
   rw [hnr] at HN
   rw [Bool.false_and]
   replace hnr := hide hnr
   go_enter Tryz.func81, Tryz.ntmps81
   go_wp2_with fail
   skip
   clear k3 k4
   (refine wp_grow ?_; (repeat go_big_quiet_step ((go_at_call 75; exact calls_grew (HN.out _)))); refine wp_grow0 ?_; intro W1 hW1)
   go_wp2_with fail
   go_ret
   exact ⟨rfl, bup (below1 _ _) hW1⟩
  | true =>
   rw [hnr] at HN
   rw [Bool.true_and]
   replace hnr := hide hnr
   by_cases hdd : x.day = y.day
   ·have hb1 : (x.day != y.day) = false := by simpa using hdd
    have hb2 : (x.day == y.day) = true := by simpa using hdd
    rw [if_pos hdd]
    cases ht : (x.temp == y.temp) with
    | false =>
     rw [show decide (x = y) = false by rw [decide_eq_false_iff_not, Weather.eq_iff]; simp at ht; exact fun h => ht h.2.1]
     replace hdd := hide hdd
     go_enter Tryz.func81, Tryz.ntmps81
     go_wp2_with fail
     skip
     clear k3 k4
     (refine wp_grow ?_; (repeat go_big_quiet_step ((go_at_call 75; exact calls_grew (HN.out _)))); refine wp_grow0 ?_; intro W1 hW1)
     go_wp2_with fail
     go_ret
     exact ⟨rfl, bup (below1 _ _) hW1⟩
    | true =>
     cases hr : (x.rain == y.rain) with
     | false =>
      rw [show decide (x = y) = false by rw [decide_eq_false_iff_not, Weather.eq_iff]; simp at hr; exact fun h => hr h.2.2]
      replace hdd := hide hdd
      go_enter Tryz.func81, Tryz.ntmps81
      go_wp2_with fail
      skip
      clear k3 k4
      (refine wp_grow ?_; (repeat go_big_quiet_step ((go_at_call 75; exact calls_grew (HN.out _)))); refine wp_grow0 ?_; intro W1 hW1)
      go_wp2_with fail
      go_ret
      exact ⟨rfl, bup (below1 _ _) hW1⟩
     | true =>
      rw [show decide (x = y) = true by rw [decide_eq_true_iff, Weather.eq_iff]; exact ⟨hdd, by simpa using ht, by simpa using hr⟩]
      replace hdd := hide hdd
      go_enter Tryz.func81, Tryz.ntmps81
      go_wp2_with fail
      skip
      clear k3 k4
      (refine wp_grow ?_; (repeat go_big_quiet_step ((go_at_call 75; exact calls_grew (HN.out _)))); refine wp_grow0 ?_; intro W1 hW1)
      go_wp2_with fail
      go_ret
      exact ⟨rfl, bup (below1 _ _) hW1⟩
   ·have hb1 : (x.day != y.day) = true := by simpa using hdd
    rw [if_neg hdd]
    go_enter Tryz.func81, Tryz.ntmps81
    go_wp2_with fail
    skip
    clear k3 k4
    (refine wp_grow ?_; (repeat go_big_quiet_step ((go_at_call 75; exact calls_grew (HN.out _)))); refine wp_grow0 ?_; intro W1 hW1)
    go_wp2_with fail
    go_ret
    exact ⟨rfl, bup (below1 _ _) hW1⟩
 ·replace c3 := hide c3
  cases hnr : nearB c x y with
  | false =>
   rw [hnr] at HN
   rw [Bool.false_and]
   replace hnr := hide hnr
   go_enter Tryz.func81, Tryz.ntmps81
   go_wp2_with fail
   rw [c3.out]
   clear k3 k4
   (refine wp_grow ?_; (repeat go_big_quiet_step ((go_at_call 75; exact calls_grew (HN.out _)))); refine wp_grow0 ?_; intro W1 hW1)
   go_wp2_with fail
   go_ret
   exact ⟨rfl, bup (below1 _ _) hW1⟩
  | true =>
   rw [hnr] at HN
   rw [Bool.true_and]
   replace hnr := hide hnr
   by_cases hdd : x.day = y.day
   ·have hb1 : (x.day != y.day) = false := by simpa using hdd
    have hb2 : (x.day == y.day) = true := by simpa using hdd
    rw [if_pos hdd]
    cases ht : (x.temp == y.temp) with
    | false =>
     rw [show decide (x = y) = false by rw [decide_eq_false_iff_not, Weather.eq_iff]; simp at ht; exact fun h => ht h.2.1]
     replace hdd := hide hdd
     go_enter Tryz.func81, Tryz.ntmps81
     go_wp2_with fail
     rw [c3.out]
     clear k3 k4
     (refine wp_grow ?_; (repeat go_big_quiet_step ((go_at_call 75; exact calls_grew (HN.out _)))); refine wp_grow0 ?_; intro W1 hW1)
     go_wp2_with fail
     go_ret
     exact ⟨rfl, bup (below1 _ _) hW1⟩
    | true =>
     cases hr : (x.rain == y.rain) with
     | false =>
      rw [show decide (x = y) = false by rw [decide_eq_false_iff_not, Weather.eq_iff]; simp at hr; exact fun h => hr h.2.2]
      replace hdd := hide hdd
      go_enter Tryz.func81, Tryz.ntmps81
      go_wp2_with fail
      rw [c3.out]
      clear k3 k4
      (refine wp_grow ?_; (repeat go_big_quiet_step ((go_at_call 75; exact calls_grew (HN.out _)))); refine wp_grow0 ?_; intro W1 hW1)
      go_wp2_with fail
      go_ret
      exact ⟨rfl, bup (below1 _ _) hW1⟩
     | true =>
      rw [show decide (x = y) = true by rw [decide_eq_true_iff, Weather.eq_iff]; exact ⟨hdd, by simpa using ht, by simpa using hr⟩]
      replace hdd := hide hdd
      go_enter Tryz.func81, Tryz.ntmps81
      go_wp2_with fail
      rw [c3.out]
      clear k3 k4
      (refine wp_grow ?_; (repeat go_big_quiet_step ((go_at_call 75; exact calls_grew (HN.out _)))); refine wp_grow0 ?_; intro W1 hW1)
      go_wp2_with fail
      go_ret
      exact ⟨rfl, bup (below1 _ _) hW1⟩
   ·have hb1 : (x.day != y.day) = true := by simpa using hdd
    rw [if_neg hdd]
    go_enter Tryz.func81, Tryz.ntmps81
    go_wp2_with fail
    rw [c3.out]
    clear k3 k4
    (refine wp_grow ?_; (repeat go_big_quiet_step ((go_at_call 75; exact calls_grew (HN.out _)))); refine wp_grow0 ?_; intro W1 hW1)
    go_wp2_with fail
    go_ret
    exact ⟨rfl, bup (below1 _ _) hW1⟩
 ·replace c3 := hide c3
  cases hnr : nearB c x y with
  | false =>
   rw [hnr] at HN
   rw [Bool.false_and]
   replace hnr := hide hnr
   go_enter Tryz.func81, Tryz.ntmps81
   go_wp2_with fail
   rw [c3.out]
   clear k3 k4
   (refine wp_grow ?_; (repeat go_big_quiet_step ((go_at_call 75; exact calls_grew (HN.out _)))); refine wp_grow0 ?_; intro W1 hW1)
   go_wp2_with fail
   go_ret
   exact ⟨rfl, bup (below1 _ _) hW1⟩
  | true =>
   rw [hnr] at HN
   rw [Bool.true_and]
   replace hnr := hide hnr
   by_cases hdd : x.day = y.day
   ·have hb1 : (x.day != y.day) = false := by simpa using hdd
    have hb2 : (x.day == y.day) = true := by simpa using hdd
    rw [if_pos hdd]
    cases ht : (x.temp == y.temp) with
    | false =>
     rw [show decide (x = y) = false by rw [decide_eq_false_iff_not, Weather.eq_iff]; simp at ht; exact fun h => ht h.2.1]
     replace hdd := hide hdd
     go_enter Tryz.func81, Tryz.ntmps81
     go_wp2_with fail
     rw [c3.out]
     clear k3 k4
     (refine wp_grow ?_; (repeat go_big_quiet_step ((go_at_call 75; exact calls_grew (HN.out _)))); refine wp_grow0 ?_; intro W1 hW1)
     go_wp2_with fail
     go_ret
     exact ⟨rfl, bup (below1 _ _) hW1⟩
    | true =>
     cases hr : (x.rain == y.rain) with
     | false =>
      rw [show decide (x = y) = false by rw [decide_eq_false_iff_not, Weather.eq_iff]; simp at hr; exact fun h => hr h.2.2]
      replace hdd := hide hdd
      go_enter Tryz.func81, Tryz.ntmps81
      go_wp2_with fail
      rw [c3.out]
      clear k3 k4
      (refine wp_grow ?_; (repeat go_big_quiet_step ((go_at_call 75; exact calls_grew (HN.out _)))); refine wp_grow0 ?_; intro W1 hW1)
      go_wp2_with fail
      go_ret
      exact ⟨rfl, bup (below1 _ _) hW1⟩
     | true =>
      rw [show decide (x = y) = true by rw [decide_eq_true_iff, Weather.eq_iff]; exact ⟨hdd, by simpa using ht, by simpa using hr⟩]
      replace hdd := hide hdd
      go_enter Tryz.func81, Tryz.ntmps81
      go_wp2_with fail
      rw [c3.out]
      clear k3 k4
      (refine wp_grow ?_; (repeat go_big_quiet_step ((go_at_call 75; exact calls_grew (HN.out _)))); refine wp_grow0 ?_; intro W1 hW1)
      go_wp2_with fail
      go_ret
      exact ⟨rfl, bup (below1 _ _) hW1⟩
   ·have hb1 : (x.day != y.day) = true := by simpa using hdd
    rw [if_neg hdd]
    go_enter Tryz.func81, Tryz.ntmps81
    go_wp2_with fail
    rw [c3.out]
    clear k3 k4
    (refine wp_grow ?_; (repeat go_big_quiet_step ((go_at_call 75; exact calls_grew (HN.out _)))); refine wp_grow0 ?_; intro W1 hW1)
    go_wp2_with fail
    go_ret
    exact ⟨rfl, bup (below1 _ _) hW1⟩
end Go.Proofs.YtifeniiefhpadaaGreatDoor
