/- The package crew: CheckTrip. Conditions stand in the theorem. -/
import Derived.Test.YtgbbljfmngmjeaaGreatCrew9Pack
import Derived.Test.YtgbbljfmngmjeaaGreatWat5Pack
set_option linter.all false
set_option maxHeartbeats 8000000
set_option maxRecDepth 100000
namespace Go.Proofs.YtgbbljfmngmjeaaGreat
open Go.RowKit

def tripQ (ss : List Site) (ts : List Track) (c : Crew) (l cs : List Int) : Bool := hiredB ss c && walkedB ts l && visitsB ss cs
def tripZ (ss : List Site) (ts : List Track) (s : Scene) (c : Crew) (day : Int) (l cs : List Int) : Int :=
 if followB ss ts c.hut l cs = false then 71 else if (l.all fun no => safeB (hwF s day) (trackAt ts no)) = false then 72
 else if lightF day < clockF c (sumF ts l) cs.length then 2 else 0
def checkE (ss : List Site) (ts : List Track) (s : Scene) (c : Crew) (day : Int) (l cs : List Int) : Int :=
 if seenE ss ts s day (tripQ ss ts c l cs) ≠ 0 then seenE ss ts s day (tripQ ss ts c l cs) else tripZ ss ts s c day l cs
theorem eg_check1 : ∀ args w, (callFunc 107 args).run Tryz.prog w = .ok (.enter 107 args) w := enters_of Tryz.func107 (by kernel_rfl) rfl
theorem crew_check1 (gr gc gl gk : Nat) (vs vt vl vk : Value) (ss : List Site) (ts : List Track) (c : Crew) (l cs : List Int) (w : World) (hs : Sl w 3 Site.cells vs ss) (ht : Sl w 6 Track.cells vt ts) (hl : Sl w 1 intC vl l) (hk : Sl w 1 intC vk cs)
  (hR : Blk w gr 25 #[vs, vt]) (hC : Blk w gc 44 #[I c.hut, I c.work, I c.load]) (hL : w.cell? ⟨gl, 0, none⟩ = some vl) (hK : w.cell? ⟨gk, 0, none⟩ = some vk) :
  Calls Tryz.prog 107 #[.pointer (some ⟨gr, 0, none⟩), .pointer (some ⟨gc, 0, none⟩), .pointer (some ⟨gl, 0, none⟩), .pointer (some ⟨gk, 0, none⟩)] w fun e w' => e = .returned (.bool (tripQ ss ts c l cs)) ∧ Below w.heap.size w w' := by
 have JH := hide (fun w' (hb : Below w.heap.size w w') => crew_hired vs vt ss c w' (hs.mono hb))
 have JW := hide (fun w' (hb : Below w.heap.size w w') => crew_walked vs vt vl ts l w' (ht.mono hb) (hl.mono hb))
 have JV := hide (fun w' (hb : Below w.heap.size w w') => crew_visits vs vt vk ss cs w' (hs.mono hb) (hk.mono hb))
 have zL := World.block_lt_of_cell? _ _ hL
 have zK := World.block_lt_of_cell? _ _ hK
 have kF := hide (fun (W : World) (hW : Below w.heap.size w W) => (show (W.cell? ⟨gr, 0, none⟩ = some vs ∧ W.cell? ⟨gr, 1, none⟩ = some vt) ∧ (W.cell? ⟨gc, 0, none⟩ = some (I c.hut) ∧ W.cell? ⟨gc, 1, none⟩ = some (I c.work) ∧ W.cell? ⟨gc, 2, none⟩ = some (I c.load)) ∧ W.cell? ⟨gl, 0, none⟩ = some vl ∧ W.cell? ⟨gk, 0, none⟩ = some vk from ⟨(hR.grow hW).cells2, (hC.grow hW).cells3, (hW.cell (p := ⟨gl, 0, none⟩) zL).trans hL, (hW.cell (p := ⟨gk, 0, none⟩) zK).trans hK⟩))
 have zF := hide (fun (W : World) (hW : Below w.heap.size w W) => (show gr < W.heap.size ∧ gc < W.heap.size ∧ gl < W.heap.size ∧ gk < W.heap.size from ⟨(hR.grow hW).lt, (hC.grow hW).lt, Nat.lt_of_lt_of_le zL hW.size, Nat.lt_of_lt_of_le zK hW.size⟩))
 obtain ⟨A, n, rfl, _⟩ := hs.open_
 obtain ⟨A', n', rfl, _⟩ := ht.open_
 obtain ⟨Al, nl, rfl, _⟩ := hl.open_
 obtain ⟨Ak, nk, rfl, _⟩ := hk.open_
 have hQ := hide (show tripQ ss ts c l cs = (hiredB ss c && walkedB ts l && visitsB ss cs) from rfl)
 obtain ⟨Q, hQQ⟩ : ∃ q, tripQ ss ts c l cs = q := ⟨_, rfl⟩
 obtain ⟨a, ha⟩ : ∃ q, hiredB ss c = q := ⟨_, rfl⟩
 obtain ⟨b, hb⟩ : ∃ q, walkedB ts l = q := ⟨_, rfl⟩
 obtain ⟨d, hd⟩ : ∃ q, visitsB ss cs = q := ⟨_, rfl⟩
 rw [hQQ, ha, hb, hd] at hQ
 rw [ha] at JH
 rw [hb] at JW
 rw [hd] at JV
 rw [hQQ]
 clear hs ht hl hk hR hC hL hK zL zK ha hb hd hQQ
 obtain ⟨⟨r0, r1⟩, ⟨c0, c1, c2⟩, l0, k0⟩ := kF.out w (Below.refl _ _)
 obtain ⟨z1, z2, z3, z4⟩ := zF.out w (Below.refl _ _)
 rcases a with _ | _
 ·go_enter Tryz.func107, Tryz.ntmps107
  go_wp2_with (go_at_call 92; refine (JH.out _ (Below.refl _ _)).mono ?_; rintro e w2 ⟨rfl, hb2⟩)
  go_ret
  exact ⟨ret_bool (by rw [hQ.out]; rfl), hb2⟩
 ·rcases b with _ | _
  ·go_enter Tryz.func107, Tryz.ntmps107
   go_wp2_with (first | (go_at_call 92; refine (JH.out _ (Below.refl _ _)).mono ?_; clear r0 r1 c0 c1 c2 l0 k0 z1 z2 z3 z4; rintro e w2 ⟨rfl, hb2⟩; obtain ⟨⟨r0, r1⟩, ⟨c0, c1, c2⟩, l0, k0⟩ := kF.out _ hb2; obtain ⟨z1, z2, z3, z4⟩ := zF.out _ hb2) | (go_at_call 102; refine (JW.out _ hb2).mono ?_; rintro e w3 ⟨rfl, hb3⟩))
   go_ret
   exact ⟨ret_bool (by rw [hQ.out]; rfl), bup hb2 hb3⟩
  ·go_enter Tryz.func107, Tryz.ntmps107
   go_wp2_with (first | (go_at_call 92; refine (JH.out _ (Below.refl _ _)).mono ?_; clear r0 r1 c0 c1 c2 l0 k0 z1 z2 z3 z4; rintro e w2 ⟨rfl, hb2⟩; obtain ⟨⟨r0, r1⟩, ⟨c0, c1, c2⟩, l0, k0⟩ := kF.out _ hb2; obtain ⟨z1, z2, z3, z4⟩ := zF.out _ hb2) | (go_at_call 102; refine (JW.out _ hb2).mono ?_; clear r0 r1 c0 c1 c2 l0 k0 z1 z2 z3 z4; rintro e w3 ⟨rfl, hb3⟩; obtain ⟨⟨r0, r1⟩, ⟨c0, c1, c2⟩, l0, k0⟩ := kF.out _ (bup hb2 hb3); obtain ⟨z1, z2, z3, z4⟩ := zF.out _ (bup hb2 hb3)) | (go_at_call 103; refine (JV.out _ (bup hb2 hb3)).mono ?_; rintro e w4 ⟨rfl, hb4⟩))
   go_ret
   exact ⟨ret_bool (by rw [hQ.out]; rfl), bup (bup hb2 hb3) hb4⟩

theorem tripQ_true {ss : List Site} {ts : List Track} {c : Crew} {l cs : List Int} (h : tripQ ss ts c l cs = true) : hiredB ss c = true ∧ walkedB ts l = true ∧ visitsB ss cs = true := by
 simp only [tripQ, Bool.and_eq_true] at h
 exact ⟨h.1.1, h.1.2, h.2⟩
theorem crew_CheckTrip (vs vt vl vk : Value) (ss : List Site) (ts : List Track) (s : Scene) (V : SceneV) (c : Crew) (day : Int) (l cs : List Int) (w : World) (hs : Sl w 3 Site.cells vs ss) (ht : Sl w 6 Track.cells vt ts) (hS : SceneAt w s V) (hl : Sl w 1 intC vl l) (hk : Sl w 1 intC vk cs) :
  Calls Tryz.prog 38 #[.agg #[vs, vt], s.v V, .agg #[I c.hut, I c.work, I c.load], I day, vl, vk] w fun e w' => e = .returned (I (checkE ss ts s c day l cs)) ∧ Below w.heap.size w w' := by
 have hz := fun h => seen_zero (ss := ss) (ts := ts) (s := s) (day := day) (q := tripQ ss ts c l cs) h
 have JN := fun (gr gc gl gk : Nat) W (hb : Below w.heap.size w W) (kr : Blk W gr 25 #[vs, vt]) (kc : Blk W gc 44 #[I c.hut, I c.work, I c.load]) (kl : Blk W gl 38 #[vl]) (kk : Blk W gk 38 #[vk]) =>
  crew_seen vs vt ss ts s V day 107 #[.pointer (some ⟨gr, 0, none⟩), .pointer (some ⟨gc, 0, none⟩), .pointer (some ⟨gl, 0, none⟩), .pointer (some ⟨gk, 0, none⟩)] (tripQ ss ts c l cs) W (hs.mono hb) (ht.mono hb) (hS.mono hb) eg_check1
   (fun _ W' hW' => crew_check1 gr gc gl gk vs vt vl vk ss ts c l cs W' ((hs.mono hb).mono hW') ((ht.mono hb).mono hW') ((hl.mono hb).mono hW') ((hk.mono hb).mono hW') (kr.grow hW') (kc.grow hW') ((kl.grow hW').cell 0) ((kk.grow hW').cell 0))
 have JT := fun no W (hb : Below w.heap.size w W) => crew_track vs vt ts no W (ht.mono hb)
 have JF := fun (hr : RangeOk ss ts) hh hp W (hb : Below w.heap.size w W) => crew_follow vs vt vl vk ss ts c.hut l cs W (hs.mono hb) (ht.mono hb) (hl.mono hb) (hk.mono hb) hr hh hp
 have JS0 := fun (hr : RangeOk ss ts) h64 hp W (hb : Below w.heap.size w W) => crew_sum vs vt vl ss ts l W (ht.mono hb) (hl.mono hb) hr h64 hp
 have HTs := hide ht
 have HLs := hide hl
 obtain ⟨Ac, nc, hcc, _⟩ := hS.cells.open_
 obtain ⟨Ap, np, hpp, _⟩ := hS.pairs.open_
 obtain ⟨Ad, nd, hdd, _⟩ := hS.days.open_
 obtain ⟨As, ns, hsi, _⟩ := hS.sights.open_
 obtain ⟨Ah, nh, hch, _⟩ := hS.changes.open_
 obtain ⟨A, n, rfl, _⟩ := hs.open_
 obtain ⟨A', n', rfl, _, _, _, hAt⟩ := ht.open_
 obtain ⟨Al, nl, rfl, _, _, _, hD⟩ := hl.open_
 obtain ⟨Ak, nk, rfl, _⟩ := hk.open_
 unfold Scene.v at *
 rw [hcc, hpp, hdd, hsi, hch] at JN ⊢
 clear hcc hpp hdd hsi hch
 have hC1 : seenE ss ts s day (tripQ ss ts c l cs) ≠ 0 → checkE ss ts s c day l cs = seenE ss ts s day (tripQ ss ts c l cs) := fun h => by rw [checkE, if_pos h]
 have hC0 : seenE ss ts s day (tripQ ss ts c l cs) = 0 → checkE ss ts s c day l cs = tripZ ss ts s c day l cs := fun h => by rw [checkE, if_neg (by omega)]
 have hZ1 : followB ss ts c.hut l cs = false → tripZ ss ts s c day l cs = 71 := fun h => by rw [tripZ, if_pos h]
 have hZ2 : followB ss ts c.hut l cs = true → (l.all fun no => safeB (hwF s day) (trackAt ts no)) = false → tripZ ss ts s c day l cs = 72 := fun h h2 => by rw [tripZ, if_neg (by rw [h]; simp), if_pos h2]
 have hZ3 : followB ss ts c.hut l cs = true → (l.all fun no => safeB (hwF s day) (trackAt ts no)) = true → tripZ ss ts s c day l cs = if lightF day < clockF c (sumF ts l) cs.length then 2 else 0 := fun h h2 => by rw [tripZ, if_neg (by rw [h]; simp), if_neg (by rw [h2]; simp)]
 obtain ⟨E, hE⟩ : ∃ E, seenE ss ts s day (tripQ ss ts c l cs) = E := ⟨_, rfl⟩
 obtain ⟨CE, hCE⟩ : ∃ E, checkE ss ts s c day l cs = E := ⟨_, rfl⟩
 obtain ⟨Z, hZ⟩ : ∃ E, tripZ ss ts s c day l cs = E := ⟨_, rfl⟩
 rw [hE] at JN hz hC1 hC0
 rw [hCE] at hC1 hC0 ⊢
 rw [hZ] at hC0 hZ1 hZ2 hZ3
 clear hE hCE hZ
 replace JN := hide JN
 replace JT := hide JT
 replace hAt := hide hAt
 replace hD := hide hD
 clear hs ht hS hl hk
 obtain ⟨w1, hw1, hb1, kR, kS, kC, kL, kK⟩ := al5 w #[.slice A ss.length n, .slice A' ts.length n'] 25 (s8 s Ac nc Ap np Ad nd As ns Ah nh) 42 #[I c.hut, I c.work, I c.load] 44 #[.slice Al l.length nl] 38 #[.slice Ak cs.length nk] 38
 have kF := hide (fun (W : World) (hW : Below w1.heap.size w1 W) => (show (W.cell? ⟨w.heap.size, 0, none⟩ = some (.slice A ss.length n) ∧ W.cell? ⟨w.heap.size, 1, none⟩ = some (.slice A' ts.length n')) ∧ (W.cell? ⟨w.heap.size + 1, 0, none⟩ = some (.slice Ac s.basin.cells.length nc) ∧ W.cell? ⟨w.heap.size + 1, 1, none⟩ = some (.slice Ap s.basin.pairs.length np) ∧ W.cell? ⟨w.heap.size + 1, 2, none⟩ = some (I s.basin.gain) ∧ W.cell? ⟨w.heap.size + 1, 3, none⟩ = some (I s.basin.slack) ∧ W.cell? ⟨w.heap.size + 1, 4, none⟩ = some (I s.basin.deep) ∧ W.cell? ⟨w.heap.size + 1, 5, none⟩ = some (.slice Ad s.days.length nd) ∧ W.cell? ⟨w.heap.size + 1, 6, none⟩ = some (.slice As s.sights.length ns) ∧ W.cell? ⟨w.heap.size + 1, 7, none⟩ = some (.slice Ah s.changes.length nh)) ∧ W.cell? ⟨w.heap.size + 1 + 1, 0, none⟩ = some (I c.hut) ∧ W.cell? ⟨w.heap.size + 1 + 1, 1, none⟩ = some (I c.work) ∧ W.cell? ⟨w.heap.size + 1 + 1, 2, none⟩ = some (I c.load) ∧ W.cell? ⟨w.heap.size + 1 + 1 + 1, 0, none⟩ = some (.slice Al l.length nl) ∧ W.cell? ⟨w.heap.size + 1 + 1 + 1 + 1, 0, none⟩ = some (.slice Ak cs.length nk) from by
  have h3 := (kC.grow hW).cells3
  exact ⟨(kR.grow hW).cells2, (kS.grow hW).cells8, h3.1, h3.2.1, h3.2.2, (kL.grow hW).cell 0, (kK.grow hW).cell 0⟩))
 have zF := hide (fun (W : World) (hW : Below w1.heap.size w1 W) => (show w.heap.size < W.heap.size ∧ w.heap.size + 1 < W.heap.size ∧ w.heap.size + 1 + 1 < W.heap.size ∧ w.heap.size + 1 + 1 + 1 < W.heap.size ∧ w.heap.size + 1 + 1 + 1 + 1 < W.heap.size from ⟨(kR.grow hW).lt, (kS.grow hW).lt, (kC.grow hW).lt, (kL.grow hW).lt, (kK.grow hW).lt⟩))
 have kB := hide (show Blk w1 w.heap.size 25 _ ∧ Blk w1 (w.heap.size + 1 + 1) 44 _ ∧ Blk w1 (w.heap.size + 1 + 1 + 1) 38 _ ∧ Blk w1 (w.heap.size + 1 + 1 + 1 + 1) 38 _ from ⟨kR, kC, kL, kK⟩)
 clear kR kS kC kL kK
 obtain ⟨⟨r0, r1⟩, ⟨q0, q1, q2, q3, q4, q5, q6, q7⟩, c0, c1, c2, l0, k0⟩ := kF.out _ (Below.refl _ _)
 obtain ⟨z0, z1, z2, z3, z4⟩ := zF.out _ (Below.refl _ _)
 by_cases h0 : E = 0
 case neg =>
  obtain rfl := hC1 h0
  have hne : (CE != 0) = true := by simpa using h0
  replace h0 := hide h0
  clear hz hC0 hC1 hZ1 hZ2 hZ3 JF JS0
  go_enter Tryz.func38, Tryz.ntmps38
  go_upto_region 1 with fail
  rw [← hw1]
  clear hw1
  go_wp2_with (go_at_call 86; refine (JN.out _ _ _ _ _ hb1 kB.out.1 kB.out.2.1 kB.out.2.2.1 kB.out.2.2.2).mono ?_; rintro e v4 ⟨pv, rfl, -, hv1, hs4⟩; obtain rfl := hv1 h0.out)
  go_ret
  exact ⟨rfl, bup hb1 hs4⟩
 subst h0
 obtain rfl := hC0 rfl
 obtain ⟨hro, hso, hd0, hq, hgz⟩ := hz rfl
 obtain ⟨hq1, hq2, hq3⟩ := tripQ_true hq
 obtain ⟨hp1, hwk, hld⟩ := hired_zero hq1
 obtain ⟨h64, hpt⟩ := walked_zero hq2
 have hv8 := (visits_zero hq3).1
 have hsb := sum_bd hro hq2
 have hdy : 0 ≤ day ∧ day ≤ 1048576 := day_in (great_scene hgz) hd0
 have JF1 := hide (fun W hb => JF hro hp1 hpt W hb)
 have JS := hide (fun W hb => JS0 hro h64 hpt W hb)
 have JL := hide (fun W => crew_light day W hdy.1 hdy.2)
 have JK := hide (fun g w (kc : Blk w g 44 #[I c.hut, I c.work, I c.load]) => crew_clock g c (sumF ts l) cs.length w kc ⟨hsb.1, by omega⟩ (by omega) hld hwk)
 have JO := hide (fun (w : World) => crew_clockOf c w)
 have JX := hide (fun (t : Track) (ht : t ∈ ts) h base W (H : HillAt W base h (.slice A ss.length n) (.slice A' ts.length n') (hwF s day)) => crew_safe h base _ _ (hwF s day) t W H (hro.tr ht).steep.2)
 clear hz hC0 hC1 hq hgz hd0 hsb hdy hwk hld hv8 hq1 hq2 hq3 JF JS0 hp1
 obtain ⟨FB, hFB⟩ : ∃ b, followB ss ts c.hut l cs = b := ⟨_, rfl⟩
 rw [hFB] at hZ1 hZ2 hZ3 JF1
 clear hFB
 replace hro := hide hro
 replace hso := hide hso
 replace hpt := hide hpt
 replace h64 := hide h64
 replace hZ1 := hide hZ1
 replace hZ2 := hide hZ2
 replace hZ3 := hide hZ3
 have eg := eg_clock
 have hfc := field_clock
 go_enter Tryz.func38, Tryz.ntmps38
 go_upto_region 1 with fail
 rw [← hw1]
 clear hw1
 go_wp2_with fail
 go_at_call 86
 refine (JN.out _ _ _ _ _ hb1 kB.out.1 kB.out.2.1 kB.out.2.2.1 kB.out.2.2.2).mono ?_
 clear r0 r1 q0 q1 q2 q3 q4 q5 q6 q7 c0 c1 c2 l0 k0 z0 z1 z2 z3 z4
 rintro e v4 ⟨pv, rfl, hv0, -, hs4⟩
 obtain ⟨h, rfl, hHi⟩ := hv0 trivial
 obtain ⟨⟨r0, r1⟩, ⟨q0, q1, q2, q3, q4, q5, q6, q7⟩, c0, c1, c2, l0, k0⟩ := kF.out _ hs4
 obtain ⟨z0, z1, z2, z3, z4⟩ := zF.out _ hs4
 replace hHi := hide hHi
 clear hv0 JN
 have hbv4 := bup hb1 hs4
 go_wp2_with fail
 go_at_call 108
 refine (JF1.out _ hbv4).mono ?_
 clear r0 r1 q0 q1 q2 q3 q4 q5 q6 q7 c0 c1 c2 l0 k0 z0 z1 z2 z3 z4
 rintro e v5 ⟨rfl, hs5⟩
 obtain ⟨⟨r0, r1⟩, ⟨q0, q1, q2, q3, q4, q5, q6, q7⟩, c0, c1, c2, l0, k0⟩ := kF.out _ (bup hs4 hs5)
 obtain ⟨z0, z1, z2, z3, z4⟩ := zF.out _ (bup hs4 hs5)
 have hbv5 := bup hbv4 hs5
 cases FB with
 | false =>
  obtain rfl := hZ1.out rfl
  clear hZ1 hZ2 hZ3
  go_wp2_with fail
  go_ret
  exact ⟨rfl, hbv5⟩
 | true =>
  replace hZ2 := hide (hZ2.out rfl)
  replace hZ3 := hide (hZ3.out rfl)
  replace hHi := hide (hHi.out.below hs5)
  have hW5 := hide (bup hs4 hs5)
  clear hZ1 hbv4 hs4 hs5 JF1 hb1
  go_wp2_with fail
  clear r0 r1 q0 q1 q2 q3 q4 q5 q6 q7 c0 c1 c2 l0 k0 z0 z1 z2 z3 z4
  go_loopw [37] (fun i wr => ∃ k : Nat, k ≤ l.length ∧ i = I k ∧ Hid (∀ j, j < k → safeB (hwF s day) (trackAt ts (l.getD j 0)) = true) ∧ Hid (Below v5.heap.size v5 wr)) (fun i _ => l.length - (intOf i).toNat)
  case atStart => exact ⟨0, Nat.zero_le _, rfl, hide (fun j hj => absurd hj (by omega)), hide (Below.refl _ _)⟩
  case round =>
   obtain ⟨k, hk, rfl, hall, hb⟩ := hrel
   have hbw := bup hbv5 hb.out
   obtain ⟨⟨r0, r1⟩, ⟨q0, q1, q2, q3, q4, q5, q6, q7⟩, c0, c1, c2, l0, k0⟩ := kF.out _ (bup hW5.out hb.out)
   obtain ⟨z0, z1, z2, z3, z4⟩ := zF.out _ (bup hW5.out hb.out)
   by_cases hlt : k < l.length
   ·obtain ⟨b2, off2, rfl, _⟩ := hD.out k hlt
    obtain ⟨no, hno⟩ := getElem?_of_lt hlt
    obtain ⟨zl, y0⟩ := (HLs.out.mono hbw).int_at hno
    have hpn := hpt.out no (List.mem_of_getElem? hno)
    obtain ⟨t, hx, hxa, -⟩ := trackAt_of hpn
    have hlt2 := placeT_lt hpn
    have htm := List.mem_of_getElem? hx
    have JX2 := JX.out t htm h w1.heap.size
    have JT2 := JT.out no
    obtain ⟨p, hpp⟩ : ∃ p : Nat, placeT ts no = p := ⟨(placeT ts no).toNat, by omega⟩
    rw [hpp] at JT2 hx hlt2
    simp only [Int.toNat_natCast] at hx
    obtain ⟨b, off, hAb, hbb⟩ := hAt.out p (by omega)
    have HTb := HTs.out
    rw [hAb] at HTb
    obtain ⟨zS, f0, f1, f2, f3, f4, f5⟩ := (HTb.mono hbw).track_at hx
    subst hAb
    have hp0 : (0 : Int) ≤ (p : Int) := by omega
    have hHr := hide (hHi.out.below hb.out)
    obtain ⟨q, hq⟩ : ∃ q, safeB (hwF s day) t = q := ⟨_, rfl⟩
    rw [hq] at JX2
    replace JX2 := hide (fun W (hW : Below wr.heap.size wr W) => JX2 W (hHr.out.below hW))
    replace JT2 := hide JT2
    replace hpp := hide hpp
    replace hx := hide hx
    replace hxa := hide hxa
    replace hno := hide hno
    replace hpn := hide hpn
    replace htm := hide htm
    clear hAt HTb hD JX JT
    cases q with
    | true =>
     have hall2 := hide (fun (j : Nat) (hj : j < k + 1) => (show safeB (hwF s day) (trackAt ts (l.getD j 0)) = true by
      rcases Nat.lt_or_ge j k with h9 | h9
      ·exact hall.out j h9
      ·obtain rfl : j = k := by omega
       rw [List.getD_eq_getElem?_getD, hno.out, Option.getD_some, hxa.out]; exact hq))
     replace hq := hide hq
     go_wp2_with fail
     (refine wp_grow ?_; (repeat go_big_quiet_step ((first | (go_at_call 110; exact calls_grew (JT2.out _ (bup hbw (Grew.below _)))) | (go_at_call 109; exact calls_grew (JX2.out _ (Grew.below _)))))); refine wp_grow0 ?_; intro W1 hW1)
     go_wp2_with fail
     go_roundw
     case rel => exact ⟨k + 1, by omega, by go_num, hall2, hide (bup hb.out hW1)⟩
     case measure => simp [intOf]; omega
    | false =>
     obtain rfl := hZ2.out (by
      rw [List.all_eq_false]
      exact ⟨no, List.mem_of_getElem? hno.out, by rw [hxa.out, hq]; simp⟩)
     replace hq := hide hq
     clear hZ3 hZ2
     go_wp2_with fail
     (refine wp_grow ?_; (repeat go_big_quiet_step ((first | (go_at_call 110; exact calls_grew (JT2.out _ (bup hbw (Grew.below _)))) | (go_at_call 109; exact calls_grew (JX2.out _ (Grew.below _)))))); refine wp_grow0 ?_; intro W1 hW1)
     go_wp2_with fail
     go_ret
     exact ⟨rfl, bup hbw hW1⟩
   ·have he : k = l.length := by omega
    subst he
    have hZe := hZ3.out (by
     rw [List.all_eq_true]
     intro y hy
     obtain ⟨j, hj⟩ := List.mem_iff_getElem?.1 hy
     have := hall.out j (List.getElem?_eq_some_iff.1 hj).1
     rwa [List.getD_eq_getElem?_getD, hj] at this)
    obtain ⟨C, hC⟩ : ∃ C, clockF c (sumF ts l) cs.length = C := ⟨_, rfl⟩
    obtain ⟨SU, hSU⟩ : ∃ C, sumF ts l = C := ⟨_, rfl⟩
    rw [hC] at JK hZe
    rw [hSU] at JK JS
    obtain ⟨LD, hLD⟩ : ∃ C, lightF day = C := ⟨_, rfl⟩
    rw [hLD] at JL hZe
    clear hC hSU hLD hZ2 hZ3 hall hD hAt
    have hbx := hide hbw
    have HSw := hide (fun (W : World) (hW : Below wr.heap.size wr W) => kF.out W (bup (bup hW5.out hb.out) hW))
    clear r0 r1 q0 q1 q2 q3 q4 q5 q6 q7 c0 c1 c2 l0 k0
    have wB : Below wr.heap.size wr wr.drew := (Below.refl _ _).drew
    by_cases hcl : LD < C
    ·have hcd : decide (LD < C) = true := by simpa using hcl
     rw [if_pos hcl] at hZe
     subst hZe
     replace hcl := hide hcl
     go_wp2_with fail
     refine wp_zgo HSw 11 fun hHeld => ?_
     (refine zg_tk 0 ?_; refine zg_tk 3 ?_; refine zg_tk 4 ?_; refine zg_tk 6 ?_; refine zg_tk 7 ?_; refine zg_tk 9 ?_; (try go_frame))
     refine zg_ready (i := 1) (by decide) rfl (by kernel_rfl) (fun K_ hK_ => ?_)
     go_simp
     refine (JO.out wr.drew).mono ?_
     rintro e v1 ⟨rfl, kK, hsv1⟩
     have Bv1 := bup wB hsv1
     refine hK_.out _ _ (HSw.out _ Bv1) (fun hHeld => ?_)
     clear hK_ K_
     (try go_frame)
     (refine zg_tk 2 ?_; (try go_frame))
     refine zg_ready (i := 5) (by decide) rfl (by kernel_rfl) (fun K_ hK_ => ?_)
     go_simp
     refine (JS.out v1 (bup hbx.out Bv1)).mono ?_
     rintro e v2 ⟨rfl, hsv2⟩
     replace kK := kK.grow hsv2
     have Bv2 := bup Bv1 hsv2
     refine hK_.out _ _ (HSw.out _ Bv2) (fun hHeld => ?_)
     clear hK_ K_
     (try go_frame)
     refine zg_ready (i := 8) (by decide) rfl (by kernel_rfl) (fun K_ hK_ => ?_)
     go_simp
     refine (JK.out _ v2 kK).mono ?_
     rintro e v3 ⟨rfl, rfl⟩
     refine hK_.out _ _ (HSw.out _ Bv2) (fun hHeld => ?_)
     clear hK_ K_
     (try go_frame)
     refine zg_ready (i := 10) (by decide) rfl (by kernel_rfl) (fun K_ hK_ => ?_)
     go_simp
     refine (JL.out v2).mono ?_
     rintro e v4 ⟨rfl, rfl⟩
     refine hK_.out _ _ (HSw.out _ Bv2) (fun hHeld => ?_)
     clear hK_ K_
     (try go_frame)
     (refine zg_ls 11 fun K_ hK_ => ?_; go_simp; skip; refine hK_.out _ _ ?_; clear hK_ K_; (try go_frame))
     go_wp2_with fail
     go_ret
     exact ⟨rfl, bup hbx.out Bv2⟩
    ·have hcd : decide (LD < C) = false := by simpa using hcl
     rw [if_neg hcl] at hZe
     subst hZe
     replace hcl := hide hcl
     go_wp2_with fail
     refine wp_zgo HSw 11 fun hHeld => ?_
     (refine zg_tk 0 ?_; refine zg_tk 3 ?_; refine zg_tk 4 ?_; refine zg_tk 6 ?_; refine zg_tk 7 ?_; refine zg_tk 9 ?_; (try go_frame))
     refine zg_ready (i := 1) (by decide) rfl (by kernel_rfl) (fun K_ hK_ => ?_)
     go_simp
     refine (JO.out wr.drew).mono ?_
     rintro e v1 ⟨rfl, kK, hsv1⟩
     have Bv1 := bup wB hsv1
     refine hK_.out _ _ (HSw.out _ Bv1) (fun hHeld => ?_)
     clear hK_ K_
     (try go_frame)
     (refine zg_tk 2 ?_; (try go_frame))
     refine zg_ready (i := 5) (by decide) rfl (by kernel_rfl) (fun K_ hK_ => ?_)
     go_simp
     refine (JS.out v1 (bup hbx.out Bv1)).mono ?_
     rintro e v2 ⟨rfl, hsv2⟩
     replace kK := kK.grow hsv2
     have Bv2 := bup Bv1 hsv2
     refine hK_.out _ _ (HSw.out _ Bv2) (fun hHeld => ?_)
     clear hK_ K_
     (try go_frame)
     refine zg_ready (i := 8) (by decide) rfl (by kernel_rfl) (fun K_ hK_ => ?_)
     go_simp
     refine (JK.out _ v2 kK).mono ?_
     rintro e v3 ⟨rfl, rfl⟩
     refine hK_.out _ _ (HSw.out _ Bv2) (fun hHeld => ?_)
     clear hK_ K_
     (try go_frame)
     refine zg_ready (i := 10) (by decide) rfl (by kernel_rfl) (fun K_ hK_ => ?_)
     go_simp
     refine (JL.out v2).mono ?_
     rintro e v4 ⟨rfl, rfl⟩
     refine hK_.out _ _ (HSw.out _ Bv2) (fun hHeld => ?_)
     clear hK_ K_
     (try go_frame)
     (refine zg_ls 11 fun K_ hK_ => ?_; go_simp; skip; refine hK_.out _ _ ?_; clear hK_ K_; (try go_frame))
     go_wp2_with fail
     go_ret
     exact ⟨rfl, bup hbx.out Bv2⟩

def measGood (s : Scene) (cells : List Int) (i : Nat) : Bool := decide (0 ≤ placeC s.basin.cells (cells.getD i 0)) && risesAt cells i
def measB (s : Scene) (cells : List Int) (width : Int) : Bool := (List.range cells.length).all (measGood s cells) && (decide (0 < cells.length) && inB width 0 65536)
theorem meas_gives (no : Int) (g : Nat) (w : World) (hc : w.cell? ⟨g, 0, none⟩ = some (I no)) (hB : g < w.heap.size) (xs : List Cell) :
  Gives Tryz.prog 192 #[.pointer (some ⟨g, 0, none⟩)] (fun x => .agg #[I x.no, I x.height, I x.aspect, I x.area]) (fun c => c.no == no) w xs := by
 intro W x _ hb
 have hc' := (hb.cell (p := ⟨g, 0, none⟩) hB).trans hc
 have hB' : g < W.heap.size := Nat.lt_of_lt_of_le hB hb.size
 clear hc hb hB
 go_enter Tryz.func192, Tryz.ntmps192
 go_wp2
 go_ret
 exact ⟨rfl, below1 _ _⟩
theorem crew_measured (s : Scene) (V : SceneV) (vl : Value) (cells : List Int) (width : Int) (w : World) (hS : SceneAt w s V) (hl : Sl w 1 intC vl cells) :
  Calls Tryz.prog 163 #[s.v V, vl, I width] w fun e w' => e = .returned (.bool (measB s cells width)) ∧ Below w.heap.size w w' := by
 have hcl := hS.cells
 have JC := fun no g w' (hb : Below w.heap.size w w') (hc : w'.cell? ⟨g, 0, none⟩ = some (I no)) (hg : g < w'.heap.size) => containsFunc_Cell V.cells s.basin.cells 192 #[.pointer (some ⟨g, 0, none⟩)] _ w' (hcl.mono hb) (enters_of Tryz.func192 (by kernel_rfl) rfl) (meas_gives no g w' hc hg s.basin.cells)
 obtain ⟨Ac, nc, hcc, _⟩ := hS.cells.open_
 obtain ⟨Ap, np, hpp, _⟩ := hS.pairs.open_
 obtain ⟨Ad, nd, hdd, _⟩ := hS.days.open_
 obtain ⟨As, ns, hsi, _⟩ := hS.sights.open_
 obtain ⟨Ah, nh, hch, _⟩ := hS.changes.open_
 obtain ⟨D, nl, rfl, _, _, hlenl, hD⟩ := hl.open_
 unfold Scene.v at *
 rw [hcc] at JC
 rw [hcc, hpp, hdd, hsi, hch]
 clear hcc hpp hdd hsi hch hS hcl
 replace JC := hide JC
 replace hl := hide hl
 replace hD := hide hD
 have hplc := hide (fun no => idxBy_nonneg (fun c : Cell => c.no == no) s.basin.cells)
 have hbad := hide (fun k (hk : k < cells.length) (h : measGood s cells k = false) => (show measB s cells width = false by simp [measB, all_of_not hk h]))
 have hok := hide (fun (h : (List.range cells.length).all (measGood s cells) = true) => (show measB s cells width = (decide (0 < cells.length) && inB width 0 65536) by rw [measB, h]; rfl))
 obtain ⟨MB, hMB⟩ : ∃ b, measB s cells width = b := ⟨_, rfl⟩
 rw [hMB] at hbad hok ⊢
 clear hMB
 obtain ⟨w1, hw1, hb1, kS⟩ := al1 w (s8 s Ac nc Ap np Ad nd As ns Ah nh) 42
 have kF := hide (fun (W : World) (hW : Below w1.heap.size w1 W) => (kS.grow hW).cells8)
 have zF := hide (fun (W : World) (hW : Below w1.heap.size w1 W) => (kS.grow hW).lt)
 clear kS
 go_enter Tryz.func163, Tryz.ntmps163
 go_upto_region 1 with fail
 rw [← hw1]
 clear hw1
 go_wp2_with fail
 go_loopw [12] (fun i wr => ∃ k : Nat, k ≤ cells.length ∧ i = I k ∧ Hid (AllTo (measGood s cells) k) ∧ Hid (Below w1.heap.size w1 wr)) (fun i _ => cells.length - (intOf i).toNat)
 case atStart => exact ⟨0, Nat.zero_le _, rfl, hide (AllTo.zero _), hide (Below.refl _ _)⟩
 case round =>
  obtain ⟨k, hk, rfl, hn, hb⟩ := hrel
  have hbw := bup hb1 hb.out
  by_cases hlt : k < cells.length
  ·obtain ⟨b, off, rfl, _⟩ := hD.out k hlt
   obtain ⟨no, hno⟩ := getElem?_of_lt hlt
   obtain ⟨zl, y0⟩ := ((unhide hl).mono hbw).int_at hno
   have hg0 : cells.getD k 0 = no := by simp [hno]
   obtain ⟨w5, hw5, hb5, kN⟩ := al1 wr #[I no] 3
   have n0 : w5.cell? ⟨wr.heap.size, 0, none⟩ = some (I no) := kN.cell 0
   have zN := kN.lt
   have hbw5 := bup hbw hb5
   obtain ⟨q0, q1, q2, q3, q4, q5, q6, q7⟩ := kF.out _ (bup hb.out hb5)
   have zS := zF.out _ (bup hb.out hb5)
   have JX := JC.out no wr.heap.size w5 hbw5 n0 zN
   have hpl := hplc.out no
   change decide (0 ≤ placeC s.basin.cells no) = _ at hpl
   rw [← hpl] at JX
   replace JX := hide JX
   replace kN := hide kN
   clear hD hpl
   cases hp : decide (0 ≤ placeC s.basin.cells no) with
   | false =>
    rw [hp] at JX
    obtain rfl := hbad.out k hlt (by rw [measGood, hg0, hp]; rfl)
    replace hg0 := hide hg0
    replace hno := hide hno
    replace hp := hide hp
    go_upto_region 4 with fail
    rw [← hw5]
    clear hw5 y0
    go_wp2_with (go_at_call 63; refine JX.out.mono ?_; rintro e w6 ⟨rfl, hb6⟩)
    (refine wp_grow ?_; (repeat go_big_quiet_step (fail)); refine wp_grow0 ?_; intro W1 hW1)
    go_wp2_with fail
    go_ret
    exact ⟨rfl, bup (bup hbw5 hb6) hW1⟩
   | true =>
    rw [hp] at JX
    have hvg : measGood s cells k = risesAt cells k := by rw [measGood, hg0, hp]; rfl
    rcases Nat.lt_or_ge 0 k with hk0 | hk0
    ·obtain ⟨y, hy⟩ := getElem?_of_lt (xs := cells) (k := k - 1) (by omega)
     obtain ⟨_, yy⟩ := ((unhide hl).mono hbw).int_at hy
     have hra := risesAt_pos (l := cells) (k := k) (by omega) hno hy
     rw [hra] at hvg
     obtain ⟨m, hm⟩ : ∃ m, k = m + 1 := ⟨k - 1, by omega⟩
     have k1 : IntKind.i64.wrap ((k : Int) - 1) = (m : Int) := by rw [IntWalk.i64_in _ (by omega)]; omega
     have k2 : (0 : Int) ≤ (m : Int) := by omega
     have k3 : (m : Int) < (cells.length : Int) := by omega
     have hkm : k - 1 = m := by omega
     rw [hkm] at yy
     rcases ilt y no with hyn | hyn
     ·have hg := hide (show measGood s cells k = true by rw [hvg]; simpa using hyn)
      have hyd : decide (no ≤ y) = false := by simp; omega
      replace hg0 := hide hg0
      replace hno := hide hno
      replace hy := hide hy
      replace hp := hide hp
      replace hvg := hide hvg
      replace hra := hide hra
      replace hm := hide hm
      replace hkm := hide hkm
      go_upto_region 4 with fail
      rw [← hw5]
      clear hw5 y0
      go_wp2_with (go_at_call 63; refine JX.out.mono ?_; rintro e w6 ⟨rfl, hb6⟩; have n06 : w6.cell? ⟨wr.heap.size, 0, none⟩ = some (I no) := (kN.out.grow hb6).cell 0; have zN6 := (kN.out.grow hb6).lt; have yy6 := ((bup hb5 hb6).cell (p := ⟨b, off + m, none⟩) zl).trans yy; have zl6 := Nat.lt_of_lt_of_le zl (bup hb5 hb6).size)
      (refine wp_grow ?_; (repeat go_big_quiet_step (fail)); refine wp_grow0 ?_; intro W1 hW1)
      go_wp2_with fail
      go_roundw
      case rel => exact ⟨k + 1, by omega, by go_num, hide (hn.out.succ hg.out), hide (bup (bup (bup hb.out hb5) hb6) hW1)⟩
      case measure => simp [intOf]; omega
     ·obtain rfl := hbad.out k hlt (by rw [hvg]; simp; omega)
      have hyd : decide (no ≤ y) = true := by simp; omega
      replace hg0 := hide hg0
      replace hno := hide hno
      replace hy := hide hy
      replace hp := hide hp
      replace hvg := hide hvg
      replace hra := hide hra
      replace hm := hide hm
      replace hkm := hide hkm
      go_upto_region 4 with fail
      rw [← hw5]
      clear hw5 y0
      go_wp2_with (go_at_call 63; refine JX.out.mono ?_; rintro e w6 ⟨rfl, hb6⟩; have n06 : w6.cell? ⟨wr.heap.size, 0, none⟩ = some (I no) := (kN.out.grow hb6).cell 0; have zN6 := (kN.out.grow hb6).lt; have yy6 := ((bup hb5 hb6).cell (p := ⟨b, off + m, none⟩) zl).trans yy; have zl6 := Nat.lt_of_lt_of_le zl (bup hb5 hb6).size)
      (refine wp_grow ?_; (repeat go_big_quiet_step (fail)); refine wp_grow0 ?_; intro W1 hW1)
      go_wp2_with fail
      go_ret
      exact ⟨rfl, bup (bup hbw5 hb6) hW1⟩
    ·have hg := hide (show measGood s cells k = true by (obtain rfl : k = 0 := (by omega)); rw [hvg]; rfl)
     have hkz : decide (0 < k) = false := by simp; omega
     replace hg0 := hide hg0
     replace hno := hide hno
     replace hp := hide hp
     replace hvg := hide hvg
     go_upto_region 4 with fail
     rw [← hw5]
     clear hw5 y0
     go_wp2_with (go_at_call 63; refine JX.out.mono ?_; rintro e w6 ⟨rfl, hb6⟩)
     (refine wp_grow ?_; (repeat go_big_quiet_step (fail)); refine wp_grow0 ?_; intro W1 hW1)
     go_wp2_with fail
     go_roundw
     case rel => exact ⟨k + 1, by omega, by go_num, hide (hn.out.succ hg.out), hide (bup (bup (bup hb.out hb5) hb6) hW1)⟩
     case measure => simp [intOf]; omega
  ·have he : k = cells.length := by omega
   subst he
   have hfin := hok.out (AllTo.all hn.out)
   by_cases hpos : 0 < cells.length
   ·rw [decide_eq_true hpos, Bool.true_and] at hfin
    subst hfin
    have hpd : decide (0 < cells.length) = true := by simpa using hpos
    have hpn : ¬ cells = [] := by rintro rfl; simp at hpos
    clear hbad hok hn hD
    go_wp2_with (go_at_call 75; refine (crew_from _ _ _ _).mono ?_; rintro e w' ⟨rfl, rfl⟩)
    go_ret
    exact ⟨rfl, hbw⟩
   ·rw [decide_eq_false hpos, Bool.false_and] at hfin
    subst hfin
    have hpd : decide (0 < cells.length) = false := by simpa using hpos
    clear hbad hok hn hD
    go_wp2_with fail
    go_ret
    exact ⟨rfl, hbw⟩

theorem val_bd (s : Scene) (cells : List Int) (day : Int) : (0 ≤ (valV s cells day).lo ∧ (valV s cells day).lo ≤ 3221225472) ∧ 0 ≤ (valV s cells day).hi ∧ (valV s cells day).hi ≤ 3221225472 := by
 unfold valV
 split
 ·rename_i h
  have h1 : spotsE s cells day = 0 := by
   unfold valE at h
   split at h
   ·rename_i h2; exact absurd h h2
   ·omega
  have h2 : spansE s = 0 := by
   unfold valE at h
   rw [if_neg (by omega)] at h
   exact h
  obtain ⟨h3, _, _, _, hpl⟩ := spotsB_in h1
  have hso := SceneOk.of h3
  obtain ⟨hle, hge⟩ := spans_zero h2
  have h12 := spots_len h1
  have b1 := sum_in (s := s) (f := fun no => lowAt s (spotAt s day no)) cells 0 fun y hy => by
   obtain ⟨x, _, hx2, hx3⟩ := area_in hso (hpl y hy)
   rw [hx2]
   exact ⟨hx3, low_in hso hle _⟩
  have b2 := sum_in (s := s) (f := fun no => highAt s (spotAt s day no)) cells 0 fun y hy => by
   obtain ⟨x, _, hx2, hx3⟩ := area_in hso (hpl y hy)
   rw [hx2]
   exact ⟨hx3, high_in hso hge _⟩
  change (0 ≤ sumBy s _ cells ∧ sumBy s _ cells ≤ _) ∧ 0 ≤ sumBy s _ cells ∧ sumBy s _ cells ≤ _
  change 0 ≤ sumBy s _ cells ∧ sumBy s _ cells ≤ _ at b1
  change 0 ≤ sumBy s _ cells ∧ sumBy s _ cells ≤ _ at b2
  omega
 ·simp
def wideV (s : Scene) (cells : List Int) (day : Int) : Int := (valV s cells day).hi - (valV s cells day).lo
theorem wide_bd (s : Scene) (cells : List Int) (day : Int) : -3221225472 ≤ wideV s cells day ∧ wideV s cells day ≤ 3221225472 := by
 have := val_bd s cells day
 unfold wideV
 omega
theorem crew_wide (s : Scene) (V : SceneV) (vl : Value) (cells : List Int) (day : Int) (w : World) (hS : SceneAt w s V) (hl : Sl w 1 intC vl cells) :
  Calls Tryz.prog 118 #[s.v V, vl, I day] w fun e w' => e = .returned (.tuple #[I (wideV s cells day), I (valE s cells day)]) ∧ Below w.heap.size w w' := by
 have JV := fun w' (hb : Below w.heap.size w w') => basin_Valley s V vl cells day w' (hS.mono hb) (hl.mono hb)
 have hbd := val_bd s cells day
 obtain ⟨Ac, nc, hcc, _⟩ := hS.cells.open_
 obtain ⟨Ap, np, hpp, _⟩ := hS.pairs.open_
 obtain ⟨Ad, nd, hdd, _⟩ := hS.days.open_
 obtain ⟨As, ns, hsi, _⟩ := hS.sights.open_
 obtain ⟨Ah, nh, hch, _⟩ := hS.changes.open_
 obtain ⟨D, nl, rfl, _⟩ := hl.open_
 unfold Scene.v at *
 rw [hcc, hpp, hdd, hsi, hch] at JV ⊢
 clear hcc hpp hdd hsi hch hS
 unfold wideV
 obtain ⟨X, hX⟩ : ∃ p, valV s cells day = p := ⟨_, rfl⟩
 obtain ⟨E, hE⟩ : ∃ p, valE s cells day = p := ⟨_, rfl⟩
 rw [hX, hE] at JV ⊢
 rw [hX] at hbd
 replace JV := hide JV
 obtain ⟨⟨g1, g2⟩, g3, g4⟩ := hbd
 clear hX hE hl
 go_enter Tryz.func118, Tryz.ntmps118
 go_wp2_with (go_at_call 57; refine (JV.out _ (below1 _ _)).mono ?_; rintro e w2 ⟨rfl, hb2⟩)
 go_ret2
 exact ⟨rfl, bup (bup (below1 _ _) hb2) (below1 _ _)⟩
end Go.Proofs.YtgbbljfmngmjeaaGreat
