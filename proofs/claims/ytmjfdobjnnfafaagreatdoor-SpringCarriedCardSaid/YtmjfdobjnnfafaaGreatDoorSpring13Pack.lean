/- The package spring: Change. Conditions stand in the theorems. -/
import Derived.Test.YtmjfdobjnnfafaaGreatDoorSpring11Pack
set_option linter.all false
namespace Go.Proofs.YtmjfdobjnnfafaaGreatDoor
open Go.RowKit

set_option maxRecDepth 100000 in
theorem spring_stretch (a b : Int) (w : World) : Calls Tryz.prog 112 #[I a, I b] w fun e w' => e = .returned (I (stretchE a b)) ∧ w = w' := by
  rcases ilt a 0 with h1 | h1
  · have hE : stretchE a b = 1 := by simp [stretchE, h1]
    rw [hE]
    go_enter Tryz.func112, Tryz.ntmps112
    go_wp2
    go_ret
    exact ⟨rfl, rfl⟩
  · rcases ilt a b with h2 | h2
    · rcases ilt 1048576 b with h3 | h3
      · have hE : stretchE a b = 1 := by simp [stretchE, h3]
        rw [hE]
        have h4 : ¬ a < 0 := by omega
        go_enter Tryz.func112, Tryz.ntmps112
        go_wp2
        go_ret
        exact ⟨rfl, rfl⟩
      · have h4 : ¬ a < 0 := by omega
        have h5 : ¬ b ≤ a := by omega
        have h6 : ¬ 1048576 < b := by omega
        have k1 : IntKind.i64.wrap (b - a) = b - a := IntWalk.i64_in _ (by omega)
        rcases ilt 512 (b - a) with h7 | h7
        · have hE : stretchE a b = 2 := by simp [stretchE, h4, h5, h6, h7]
          rw [hE]
          go_enter Tryz.func112, Tryz.ntmps112
          go_wp2
          go_ret
          exact ⟨rfl, rfl⟩
        · have h8 : ¬ 512 < b - a := by omega
          have hE : stretchE a b = 0 := by simp [stretchE, h4, h5, h6, h8]
          rw [hE]
          go_enter Tryz.func112, Tryz.ntmps112
          go_wp2
          go_ret
          exact ⟨rfl, rfl⟩
    · have hE : stretchE a b = 1 := by simp [stretchE, h2]
      rw [hE]
      have h4 : ¬ a < 0 := by omega
      go_enter Tryz.func112, Tryz.ntmps112
      go_wp2
      go_ret
      exact ⟨rfl, rfl⟩
theorem stretch_ok {a b : Int} (h : stretchE a b = 0) : 0 ≤ a ∧ a < b ∧ b ≤ 1048576 ∧ b - a ≤ 512 := by
  unfold stretchE at h
  split at h
  · cases h
  split at h
  · cases h
  omega

def changeE (c : Climate) (l : List Weather) (h a b : Int) : Int := if loggedE c l [heightB h] = 0 then stretchE a b else loggedE c l [heightB h]
def changeV (c : Climate) (l : List Weather) (h a b : Int) : Int × Int := if changeE c l h a b = 0 then changeF c l h a b else (0, 0)
theorem changeF_eq {c : Climate} {l : List Weather} {h a : Int} {n : Nat} (hc : ClimOk c) (hl : ∀ x ∈ l, WeaOk c x) : changeF c l h a (a + n) = (clipF (lowA c h (fillA c l a true hc hl n)), clipF (highA c h (fillA c l a false hc hl n))) := by
  have e : (a + (n : Int) - a).toNat = n := by omega
  simp only [changeF, e, ← fillA_val (hc := hc) (hl := hl), List.foldl_map, lowA, highA]
theorem blk32f (w : World) (t : TypeId) (cs : Array Value) (o o' : Obj) : Blk (((w.alloc o).alloc o').alloc (.cells cs t)).drew (w.heap.size + 2) t cs := blk32 w t cs o o'

set_option maxRecDepth 100000 in
set_option maxHeartbeats 4000000 in
theorem spring_Change (c : Climate) (v : Value) (l : List Weather) (h a b : Int) (w : World) (hv : Sl w 3 Weather.cells v l) :
    Calls Tryz.prog 52 #[c.v, v, I h, I a, I b] w fun e w' => e = .returned (.tuple #[.agg #[I (changeV c l h a b).1, I (changeV c l h a b).2], I (changeE c l h a b)]) ∧ Below w.heap.size w w' := by
  rcases logged_cases c l [heightB h] with ⟨h1, h2, h3⟩ | h1
  · have hh : 0 ≤ h ∧ h ≤ 9000 := by simp at h3; exact heightB_bd h3
    have hE : changeE c l h a b = stretchE a b := by simp [changeE, h1]
    by_cases hs : stretchE a b = 0
    · obtain ⟨s1, s2, s3, s4⟩ := stretch_ok hs
      obtain ⟨n, hn⟩ := Int.eq_ofNat_of_zero_le (show 0 ≤ b - a by omega)
      obtain rfl : b = a + (n : Int) := by omega
      have hV : changeV c l h a (a + n) = (clipF (lowA c h (fillA c l a true h2.clim h2.mem n)), clipF (highA c h (fillA c l a false h2.clim h2.mem n))) := by rw [changeV, if_pos (hE.trans hs), changeF_eq h2.clim h2.mem]
      have H1 := fun w hv => spring_change c v l h a n w h2.clim h2.mem hh s1 (by omega) s3 hv
      have H2 := fun w => spring_stretch a (a + n) w
      rw [hs] at H2
      rw [hE, hs, hV]
      simp only []
      obtain ⟨lo, hlo⟩ : ∃ lo, clipF (lowA c h (fillA c l a true h2.clim h2.mem n)) = lo := ⟨_, rfl⟩
      obtain ⟨hi, hhi⟩ : ∃ hi, clipF (highA c h (fillA c l a false h2.clim h2.mem n)) = hi := ⟨_, rfl⟩
      rw [hlo, hhi]
      simp only [hlo, hhi] at H1
      replace H1 := hide H1
      replace H2 := hide H2
      replace h1 := hide h1
      replace hv := hide hv
      clear hE hV h2 h3 hh hlo hhi hs hn s1 s2 s3 s4
      unfold Climate.v at *
      go_enter Tryz.func52, Tryz.ntmps52
      go_wp2_with fail
      go_region_held3 (fun W => W.cell? ⟨w.heap.size, 0, none⟩ = some (I c.base) ∧ W.cell? ⟨w.heap.size, 1, none⟩ = some (I c.lapse) ∧ W.cell? ⟨w.heap.size, 2, none⟩ = some (I c.swing) ∧ W.cell? ⟨w.heap.size, 3, none⟩ = some (I c.wettest) ∧ W.cell? ⟨w.heap.size, 4, none⟩ = some (I c.coldest) ∧ W.cell? ⟨w.heap.size, 5, none⟩ = some (I c.warmest) ∧ W.cell? ⟨w.heap.size, 6, none⟩ = some (I c.flo) ∧ W.cell? ⟨w.heap.size, 7, none⟩ = some (I c.fhi)) (go_keep) (first | (go_at_call 98; refine (spring_height _ _).mono ?_; rintro e w' ⟨rfl, rfl⟩) | (go_at_call 106; refine (spring_logged_lit c _ l [heightB h] _ _ (hv.out.mono (below_drewN (below3 _ _ _ _) 1)) (blk32f _ _ _ _ _) (by simp)).mono ?_; rw [h1.out]; rintro e w1 ⟨rfl, hb1⟩; have hc1 := fun o => (bcell hb1).1 w.heap.size o (by simp <;> omega)))
      have hB1 := below_drew' hb1
      have kR : Blk w1 (w.heap.size + 1) 23 #[I 0, I 0] := (((blk21 w _ _ _).alloc _)).grow hB1
      have kC : Blk w1 w.heap.size 25 #[I c.base, I c.lapse, I c.swing, I c.wettest, I c.coldest, I c.warmest, I c.flo, I c.fhi] := (((Blk.new w _ _).alloc _).alloc _).grow hB1
      have kB := hide (bup (below3 _ _ _ _) hB1)
      replace kR := hide kR
      rename_i hS
      clear hS hc1 hb1 hB1
      obtain ⟨_, q0, q1, q2, q3, q4, q5, q6, q7⟩ := kC.clim
      clear kC
      go_upto_region 7 with (first | (go_at_call 112; refine (H2.out _).mono ?_; clear H2; rintro e w' ⟨rfl, rfl⟩))
      go_wp2_with (go_at_call 134; refine (H1.out _ (hv.out.mono kB.out)).mono ?_; clear H1; rintro e w2 ⟨rfl, hb2⟩; have kR2 := kR.out.grow hb2; obtain ⟨zr, r0, r1, r2, r3⟩ := blk_box kR2; clear q0 q1 q2 q3 q4 q5 q6 q7)
      refine bodyPost_ret (v := .tuple #[.agg #[I lo, I hi], I 0]) (by simp [results, Tryz.results52, go_sem, r0, r1]) rfl ⟨rfl, ?_⟩
      exact gap_below2 (bup kB.out hb2) (by omega)
    · have hV : changeV c l h a b = (0, 0) := by rw [changeV, if_neg (by rw [hE]; exact hs)]
      have H2 := fun w => spring_stretch a b w
      rw [hE, hV]
      obtain ⟨x, hx⟩ : ∃ x, stretchE a b = x := ⟨_, rfl⟩
      rw [hx] at hs ⊢
      simp only [hx] at H2
      have hx0 : (x != 0) = true := by simpa using hs
      replace H2 := hide H2
      replace h1 := hide h1
      replace hv := hide hv
      clear hE hV h2 h3 hh hx
      unfold Climate.v at *
      go_enter Tryz.func52, Tryz.ntmps52
      go_wp2_with fail
      go_region_held3 (fun W => W.cell? ⟨w.heap.size, 0, none⟩ = some (I c.base) ∧ W.cell? ⟨w.heap.size, 1, none⟩ = some (I c.lapse) ∧ W.cell? ⟨w.heap.size, 2, none⟩ = some (I c.swing) ∧ W.cell? ⟨w.heap.size, 3, none⟩ = some (I c.wettest) ∧ W.cell? ⟨w.heap.size, 4, none⟩ = some (I c.coldest) ∧ W.cell? ⟨w.heap.size, 5, none⟩ = some (I c.warmest) ∧ W.cell? ⟨w.heap.size, 6, none⟩ = some (I c.flo) ∧ W.cell? ⟨w.heap.size, 7, none⟩ = some (I c.fhi)) (go_keep) (first | (go_at_call 98; refine (spring_height _ _).mono ?_; rintro e w' ⟨rfl, rfl⟩) | (go_at_call 106; refine (spring_logged_lit c _ l [heightB h] _ _ (hv.out.mono (below_drewN (below3 _ _ _ _) 1)) (blk32f _ _ _ _ _) (by simp)).mono ?_; rw [h1.out]; rintro e w1 ⟨rfl, hb1⟩; have hc1 := fun o => (bcell hb1).1 w.heap.size o (by simp <;> omega)))
      have hB1 := below_drew' hb1
      have kR : Blk w1 (w.heap.size + 1) 23 #[I 0, I 0] := (((blk21 w _ _ _).alloc _)).grow hB1
      have kB := hide (bup (below3 _ _ _ _) hB1)
      obtain ⟨zr, r0, r1, r2, r3⟩ := blk_box kR
      rename_i hS
      clear hS hc1 hb1 hB1
      go_wp2_with (go_at_call 112; refine (H2.out _).mono ?_; clear H2; rintro e w' ⟨rfl, rfl⟩)
      refine bodyPost_ret (v := .tuple #[.agg #[I 0, I 0], I x]) (by simp [results, Tryz.results52, go_sem, r0, r1]) rfl ⟨rfl, ?_⟩
      exact gap_below2 kB.out (by omega)
  · have hE : changeE c l h a b = loggedE c l [heightB h] := by simp [changeE, h1]
    have hV : changeV c l h a b = (0, 0) := by rw [changeV, if_neg (by rw [hE]; exact h1)]
    rw [hE, hV]
    obtain ⟨x, hx⟩ : ∃ x, loggedE c l [heightB h] = x := ⟨_, rfl⟩
    rw [hx] at h1 ⊢
    have hx0 : (x != 0) = true := by simpa using h1
    replace hx := hide hx
    replace hv := hide hv
    clear hE hV
    unfold Climate.v at *
    go_enter Tryz.func52, Tryz.ntmps52
    go_wp2_with fail
    go_region_held3 (fun W => W.cell? ⟨w.heap.size, 0, none⟩ = some (I c.base) ∧ W.cell? ⟨w.heap.size, 1, none⟩ = some (I c.lapse) ∧ W.cell? ⟨w.heap.size, 2, none⟩ = some (I c.swing) ∧ W.cell? ⟨w.heap.size, 3, none⟩ = some (I c.wettest) ∧ W.cell? ⟨w.heap.size, 4, none⟩ = some (I c.coldest) ∧ W.cell? ⟨w.heap.size, 5, none⟩ = some (I c.warmest) ∧ W.cell? ⟨w.heap.size, 6, none⟩ = some (I c.flo) ∧ W.cell? ⟨w.heap.size, 7, none⟩ = some (I c.fhi)) (go_keep) (first | (go_at_call 98; refine (spring_height _ _).mono ?_; rintro e w' ⟨rfl, rfl⟩) | (go_at_call 106; refine (spring_logged_lit c _ l [heightB h] _ _ (hv.out.mono (below_drewN (below3 _ _ _ _) 1)) (blk32f _ _ _ _ _) (by simp)).mono ?_; rw [hx.out]; rintro e w1 ⟨rfl, hb1⟩; have hc1 := fun o => (bcell hb1).1 w.heap.size o (by simp <;> omega)))
    have hB1 := below_drew' hb1
    have kR : Blk w1 (w.heap.size + 1) 23 #[I 0, I 0] := (((blk21 w _ _ _).alloc _)).grow hB1
    have kB := hide (bup (below3 _ _ _ _) hB1)
    obtain ⟨zr, r0, r1, r2, r3⟩ := blk_box kR
    rename_i hS
    clear hS hc1 hb1 hB1
    go_wp2_with fail
    refine bodyPost_ret (v := .tuple #[.agg #[I 0, I 0], I x]) (by simp [results, Tryz.results52, go_sem, r0, r1]) rfl ⟨rfl, ?_⟩
    exact gap_below2 kB.out (by omega)
end Go.Proofs.YtmjfdobjnnfafaaGreatDoor
/- The package spring: the factors of a climate, one by one. Conditions stand in the theorems. -/
namespace Go.Proofs.YtmjfdobjnnfafaaGreatDoor
open Go.RowKit Go.Shelf
attribute [local go_sem] Oper.semAt_some

set_option maxRecDepth 100000 in
theorem spring_factors (c : Climate) (w : World) : Calls Tryz.prog 187 #[c.v] w fun e w' =>
    e = .returned (.func (.func 226) #[] #[.pointer (some ⟨w.heap.size, 0, none⟩)]) ∧ ClimAt c w.heap.size w' ∧ w'.heap.size = w.heap.size + 1 ∧ Below w.heap.size w w' := by
  unfold Climate.v
  go_enter Tryz.func187, Tryz.ntmps187
  go_wp2
  go_ret
  exact ⟨rfl, ClimAt.new c w _, by simp, below1 _ _⟩

abbrev FacC (c : Climate) : Type := { f : Int // c.flo ≤ f ∧ f ≤ c.fhi }
def nFac (c : Climate) : Nat := (c.fhi - c.flo + 1).toNat
def facA (c : Climate) (hc : ClimOk c) (k : Nat) : List (FacC c) := (List.range k).map fun (i : Nat) => ⟨min (c.flo + (i : Int)) c.fhi, by have := hc.fl; omega⟩
theorem facA_succ {c : Climate} {hc : ClimOk c} (k : Nat) : facA c hc (k + 1) = facA c hc k ++ [⟨min (c.flo + (k : Int)) c.fhi, by have := hc.fl; omega⟩] := by
  simp [facA, List.range_succ]
theorem facA_len {c : Climate} {hc : ClimOk c} (k : Nat) : (facA c hc k).length = k := by simp [facA]

set_option maxRecDepth 100000 in
set_option maxHeartbeats 4000000 in
theorem factors1_stops (c : Climate) (bC n₀ : Nat) (X : Nat → Prop) (w : World) (hc : ClimOk c) (hn₀ : n₀ ≤ w.heap.size) (hread : ∀ W, Keep n₀ X w W → ClimAt c bC W) :
    SeqStopsK Fence.wide 3 Tryz.prog 226 #[.pointer (some ⟨bC, 0, none⟩)]
      (fun x : FacC c => #[I x.1]) (Keep n₀ X) (fun ys => ys = facA c hc (nFac c)) (fun _ => True) (nFac c) w := by
  intro lr J Jx W0 hW0 hJ hJx hY h0
  obtain ⟨_, q0, q1, q2, q3, q4, q5, q6, q7⟩ := hread W0 (Keep.of_below hW0 hn₀)
  obtain ⟨n, hn⟩ : ∃ n, nFac c = n := ⟨_, rfl⟩
  have hfl := hc.flo2
  have hfh := hc.fhi2
  have hnn : c.flo + (n : Int) = c.fhi + 1 := by have := hc.fl; rw [← hn]; unfold nFac; omega
  rw [hn] at hY ⊢
  clear hn
  refine callsIn_of_wp Tryz.func226 rfl trivial ?_ rfl
  simp only [Tryz.ntmps226, List.size_toArray, List.length_cons, List.length_nil, Nat.reduceAdd, Nat.reduceSub, Array.replicate_succ, Array.replicate_zero, List.push_toArray, List.append_toArray, List.nil_append, List.cons_append]
  refine wpIn_wide.2 ?_
  go_wp2_with fail
  go_loopw [3] (fun fv wr => ∃ k : Nat, k ≤ n ∧ fv = I (c.flo + k) ∧ Keep n₀ X w wr ∧ Hid (J (facA c hc k) wr) ∧ W0.heap.size ≤ wr.heap.size) (fun fv _ => n - (intOf fv - c.flo).toNat)
  case atStart => exact ⟨0, Nat.zero_le _, by simp, Keep.of_below hW0 hn₀, hide h0, Nat.le_refl _⟩
  case round =>
    obtain ⟨k, hk, rfl, hkp, hj, hsz⟩ := hrel
    clear q0 q1 q2 q3 q4 q5 q6 q7
    obtain ⟨_, q0, q1, q2, q3, q4, q5, q6, q7⟩ := hread wr hkp
    by_cases hlt : k < n
    · have hle : c.flo + (k : Int) ≤ c.fhi := by omega
      have hx : min (c.flo + (k : Int)) c.fhi = c.flo + k := by omega
      have k1 : IntKind.i64.wrap (c.flo + (k : Int) + 1) = c.flo + (k : Int) + 1 := IntWalk.i64_in _ (by omega)
      go_upto_region 3 with fail
      obtain ⟨fn, tmps, assign, body, hy, hR⟩ := hY (facA c hc k) ⟨min (c.flo + (k : Int)) c.fhi, by have := hc.fl; omega⟩ wr hj.out (by rw [facA_len]; exact hlt)
      rw [← facA_succ] at hR
      simp only [hx] at hy
      replace hj := hide hj
      replace hx := hide hx
      refine (wpIn_wide (n := 3)).1 ?_
      gi_wp2
      refine hR.mono ?_
      rintro e W3 (⟨rfl, hJ3, hk3⟩ | ⟨rfl, hJx3⟩)
      · replace hJ3 := hide hJ3
        gi_wp2
        go_wp2_with fail
        go_roundw
        case rel => exact ⟨k + 1, by omega, by go_num, hkp.trans hk3, hJ3, Nat.le_trans hsz hk3.size⟩
        case measure => simp [intOf]; omega
      · gi_wp2
        go_wp2_with fail
        refine bodyPost_ret (results_none rfl _ _ _) rfl ?_
        exact ⟨⟨_, rfl⟩, .inr ⟨_, trivial, hJx3⟩⟩
    · have he : k = n := by omega
      subst he
      have hle : ¬ (c.flo + (k : Int) ≤ c.fhi) := by omega
      replace hj := hj.out
      go_wp2_with fail
      go_end0
      exact ⟨⟨_, rfl⟩, .inl hj⟩
end Go.Proofs.YtmjfdobjnnfafaaGreatDoor
