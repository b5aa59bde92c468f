/- The law CrewNarrower: with a further sight no track that was safe is closed. Conditions stand in the theorem. -/
import Derived.Test.YtgbbljfmngmjeaaGreatSane7
import Derived.Test.YtgbbljfmngmjeaaGreatFine7
import Derived.Test.YtgbbljfmngmjeaaGreatRefNetPack
import Derived.Test.YtgbbljfmngmjeaaGreatWat5Pack
import Derived.Test.YtgbbljfmngmjeaaGreatCrew6Pack
import Derived.Test.YtgbbljfmngmjeaaGreatIndexFuncPack
set_option linter.all false
set_option maxHeartbeats 16000000
set_option maxRecDepth 100000
namespace Go.Proofs.YtgbbljfmngmjeaaGreat
open Go.RowKit

theorem with_ok {s : Scene} {x : Sight} (h : sceneE s = 0) (hw : withE s x = 0) : sceneE (withS s x) = 0 := by
 have hs := SceneOk.of h
 unfold withE at hw
 rw [if_neg (by omega)] at hw
 split at hw
 ·cases hw
 split at hw
 ·cases hw
 rename_i h1 h2
 unfold sceneE at h ⊢
 split at h
 ·cases h
 split at h
 ·cases h
 split at h
 ·cases h
 split at h
 ·cases h
 split at h
 ·cases h
 rename_i g1 g2 g3 g4 g5
 have e1 : (withS s x).basin = s.basin := rfl
 have e2 : (withS s x).days = s.days := rfl
 have e3 : (withS s x).changes = s.changes := rfl
 have e4 : (withS s x).sights = s.sights ++ [x] := rfl
 have e5 : sightOk (withS s x) = sightOk s := rfl
 have e6 : changeOk (withS s x) = changeOk s := rfl
 rw [e1, e2, e3, e4, e5, e6, if_neg g1, if_neg g2, if_neg (by simp only [List.length_append, List.length_cons, List.length_nil]; have := hs.hsl; omega), if_neg (by
  rw [List.all_append]
  rw [Bool.not_eq_false] at g4 h2
  simp [g4, h2]), if_neg g5]
theorem with_lay {s : Scene} {x : Sight} {d : Diff} (h : d ∈ layD s) : d ∈ layD (withS s x) := by
 have e : layD (withS s x) = (List.range s.days.length).flatMap (dayD s.basin) ++ (s.sights ++ [x]).flatMap (sightD s) ++ s.changes.flatMap (changeD s) := rfl
 rw [e]
 unfold layD at h
 rw [List.flatMap_append]
 simp only [List.mem_append] at h ⊢
 rcases h with (h | h) | h
 ·exact .inl (.inl h)
 ·exact .inl (.inr (.inl h))
 ·exact .inr h
theorem with_great {s : Scene} {x : Sight} (h : sceneE s = 0) (hw : withE s x = 0) (hg : greatE (withS s x) = 0) : greatE s = 0 ∧ ∀ day no, 0 ≤ placeD s.days day → (hwF s day no = none ∧ hwF (withS s x) day no = none) ∨ ∃ u v, hwF s day no = some u ∧ hwF (withS s x) day no = some v ∧ v ≤ u := by
 have h2 := with_ok h hw
 have hs2 := SceneOk.of h2
 have hgE := hg
 rw [great_is h2] at hgE
 obtain ⟨p1, p2, _⟩ := fed_top (nodes_pos hs2) hs2.net.hds (lay_fed hs2).1 hgE
 have hp : ∀ d ∈ layD s, (fun i => (endsL (nodesN (withS s x)) (layD (withS s x))).getD i 0) d.to.toNat ≤ (fun i => (endsL (nodesN (withS s x)) (layD (withS s x))).getD i 0) d.frm.toNat + d.most := fun d hd => p1 d (with_lay hd)
 have hg0 := (great_pot h).2 ⟨fun i => (endsL (nodesN (withS s x)) (layD (withS s x))).getD i 0, hp⟩
 refine ⟨hg0, fun day no hd => ?_⟩
 unfold hwF
 by_cases hc : placeC s.basin.cells no < 0
 ·exact .inl ⟨if_pos hc, if_pos hc⟩
 ·refine .inr ⟨_, _, if_neg hc, if_neg hc, ?_⟩
  have hc1 : (placeC s.basin.cells no).toNat < s.basin.cells.length := by
   have h3 : placeC s.basin.cells no < s.basin.cells.length := idxBy_lt (by unfold placeC at hc; omega)
   omega
  have hd1 : (placeD s.days day).toNat < s.days.length := by
   have := placeD_lt (s := s) (d := day) hd
   omega
  have h3 := great_top (π := fun i => (endsL (nodesN (withS s x)) (layD (withS s x))).getD i 0) h hg0 hp hd1 hc1
  rw [p2] at h3
  have e : ((greatF (withS s x)).getD (placeD (withS s x).days day).toNat []).getD (placeC (withS s x).basin.cells no).toNat 0 = (endsL (nodesN (withS s x)) (layD (withS s x))).getD (1 + (placeD s.days day).toNat * s.basin.cells.length + (placeC s.basin.cells no).toNat) 0 := rows_at (n := s.basin.cells.length) (m := s.days.length) hd1 hc1
  rw [e]
  omega
theorem safe_less {m m' : Int → Option Int} {t : Track} (h : ∀ no, (m no = none ∧ m' no = none) ∨ ∃ u v, m no = some u ∧ m' no = some v ∧ v ≤ u) (hs : safeB m t = true) : safeB m' t = true := by
 unfold safeB at hs ⊢
 rcases h t.cell with ⟨h1, h2⟩ | ⟨u, v, h1, h2, h3⟩
 ·rw [h1] at hs; rw [h2]; exact hs
 ·rw [h1] at hs
  rw [h2]
  simp only [Bool.or_eq_true, decide_eq_true_eq, Bool.not_eq_true'] at hs ⊢
  rcases hs with hs | hs
  ·exact .inl hs
  ·by_cases h4 : t.steep ≤ 25
   ·exact .inl h4
   ·refine .inr ?_
    simp only [breaksB, decide_eq_false_iff_not] at hs ⊢
    have := Int.mul_le_mul_of_nonneg_right h3 (show 0 ≤ t.steep - 25 by omega)
    omega
theorem narrow_law {ss : List Site} {ts : List Track} {s : Scene} {x : Sight} {day : Int} (hr : rangeE ss ts = 0) (h : sceneE s = 0) (hw : withE s x = 0) :
  (openE ss ts s day ≠ 0 → openE ss ts (withS s x) day = 41 ∨ openE ss ts (withS s x) day = openE ss ts s day) ∧ (openE ss ts s day = 0 → openE ss ts (withS s x) day ≠ 0 → openE ss ts (withS s x) day = 41) ∧
  (openE ss ts s day = 0 → openE ss ts (withS s x) day = 0 → ((openV ss ts s day).any fun no => !(openV ss ts (withS s x) day).any fun n => n == no) = false) := by
 have h2 := with_ok h hw
 have c1 := great_cases h
 have c2 := great_cases h2
 have e1 : openE ss ts s day = if placeD s.days day < 0 then 1 else greatE s := by simp [openE, seenE, hr, h]
 have e2 : openE ss ts (withS s x) day = if placeD s.days day < 0 then 1 else greatE (withS s x) := by
  have e : (withS s x).days = s.days := rfl
  simp [openE, seenE, hr, h2, e]
 by_cases hd : placeD s.days day < 0
 ·rw [if_pos hd] at e1 e2
  exact ⟨fun _ => .inr (by omega), fun e => by omega, fun e => by omega⟩
 ·rw [if_neg hd] at e1 e2
  refine ⟨fun hne => ?_, fun _ hne => by omega, fun z1 z2 => ?_⟩
  ·rcases c2 with c2 | c2
   ·have := (with_great h hw c2).1
    omega
   ·exact .inl (by omega)
  ·have hg := (with_great h hw (by omega)).2 day
   rw [openV, if_pos z1, openV, if_pos z2, Bool.eq_false_iff]
   intro ha
   obtain ⟨no, hm, hn⟩ := List.any_eq_true.1 ha
   obtain ⟨t, ht, rfl⟩ := List.mem_map.1 hm
   obtain ⟨ht1, ht2⟩ := List.mem_filter.1 ht
   have ht3 : t ∈ openF (hwF (withS s x) day) ts := List.mem_filter.2 ⟨ht1, safe_less (fun no => hg no (by omega)) ht2⟩
   have : ((openF (hwF (withS s x) day) ts).map Track.no).any (fun n => n == t.no) = true := List.any_eq_true.2 ⟨t.no, List.mem_map.2 ⟨t, ht3, rfl⟩, by simp⟩
   rw [this] at hn
   cases hn
theorem narrow_gives (g : Nat) (vb : Value) (b : List Int) (w : World) (hb : Sl w 1 intC vb b) (hc : w.cell? ⟨g, 0, none⟩ = some vb) (hg : g < w.heap.size) (xs : List Int) :
  Gives Tryz.prog 53 #[.pointer (some ⟨g, 0, none⟩)] (I) (fun no => !b.any fun n => n == no) w xs := by
 intro W x _ hB
 have JT := hide (contains_int vb b x W (hb.mono hB))
 have r0 := (hB.cell (p := ⟨g, 0, none⟩) hg).trans hc
 have zR := Nat.lt_of_lt_of_le hg hB.size
 obtain ⟨A, n, rfl, -⟩ := hb.open_
 clear hb hB hc hg
 go_enter Tryz.func53, Tryz.ntmps53
 go_wp2_with (go_at_call 48; refine JT.out.mono ?_; rintro e w' ⟨rfl, rfl⟩)
 go_ret
 exact ⟨rfl, Below.refl _ _⟩
theorem law_CrewNarrower (vs vt : Value) (ss : List Site) (ts : List Track) (s : Scene) (V : SceneV) (x : Sight) (day : Int) (w : World) (hs : Sl w 3 Site.cells vs ss) (ht : Sl w 6 Track.cells vt ts) (hS : SceneAt w s V) :
  Calls Tryz.prog 9 #[.agg #[vs, vt], s.v V, .agg #[I x.no, I x.cell, I x.day, I x.lo, I x.hi], I day] w fun e w' => e = .returned (.bool true) ∧ Below w.heap.size w w' := by
 have JF := fun w' (hb : Below w.heap.size w w') => law7_fine vs vt ss ts s V w' (hs.mono hb) (ht.mono hb) (hS.mono hb)
 have JW := fun w' (hb : Below w.heap.size w w') => basin_With s V x w' (hS.mono hb)
 have JO := fun w' (hb : Below w.heap.size w w') => crew_Open vs vt ss ts s V day w' (hs.mono hb) (ht.mono hb) (hS.mono hb)
 have JP := fun S2 V2 w' (hb : Below w.heap.size w w') (hS : SceneAt w' S2 V2) => crew_Open vs vt ss ts S2 V2 day w' (hs.mono hb) (ht.mono hb) hS
 obtain ⟨Ac, nc, hcc, -⟩ := hS.cells.open_
 obtain ⟨Ap, np, hpp, -⟩ := hS.pairs.open_
 obtain ⟨Ad, nd, hdd, -⟩ := hS.days.open_
 obtain ⟨As, ns, hsi, -⟩ := hS.sights.open_
 obtain ⟨Ah, nh, hch, -⟩ := hS.changes.open_
 obtain ⟨A, n, rfl, -⟩ := hs.open_
 obtain ⟨A', n', rfl, -⟩ := ht.open_
 unfold Scene.v at *
 simp only [hcc, hpp, hdd, hsi, hch] at JF JW JO ⊢
 clear hcc hpp hdd hsi hch
 obtain ⟨F, hF⟩ : ∃ q, fineB ss ts s = q := ⟨_, rfl⟩
 have hfz := hide (fun h => fine_zero (ss := ss) (ts := ts) (s := s) (hF.trans h))
 have hlaw := hide (fun h1 h2 => narrow_law (ss := ss) (ts := ts) (s := s) (x := x) (day := day) h1 h2)
 have hlen := hide (fun h0 s2 => show (openV ss ts s2 day).length ≤ 48 from by
  have h1 := openF_len (hwF s2 day) ts
  have h2 := (RangeOk.of (ss := ss) (ts := ts) h0).n2
  unfold openV
  split
  ·rw [List.length_map]; omega
  ·simp)
 obtain ⟨WE, hWE⟩ : ∃ q, withE s x = q := ⟨_, rfl⟩
 obtain ⟨E, hE⟩ : ∃ q, openE ss ts s day = q := ⟨_, rfl⟩
 obtain ⟨PP, hPP⟩ : ∃ q, openV ss ts s day = q := ⟨_, rfl⟩
 obtain ⟨S2, hS2⟩ : ∃ q, withS s x = q := ⟨_, rfl⟩
 have hlP := hide (fun h => hPP ▸ hlen.out h s)
 rw [hF] at JF
 rw [hWE, hS2] at JW
 rw [hE, hPP] at JO
 rw [hWE, hE, hPP, hS2] at hlaw
 clear hE hPP hF hWE hS2 hs ht hS
 replace JF := hide JF
 replace JW := hide JW
 replace JO := hide JO
 replace JP := hide JP
 have JS := hide law_sane7
 obtain ⟨w1, hw1, hb, kR, kS, kX⟩ := al3 w #[.slice A ss.length n, .slice A' ts.length n'] 25 (s8 s Ac nc Ap np Ad nd As ns Ah nh) 42 #[I x.no, I x.cell, I x.day, I x.lo, I x.hi] 83
 replace kR := hide kR
 replace kS := hide kS
 replace kX := hide kX
 have B1 := hide hb
 clear hb
 go_enter Tryz.func9, Tryz.ntmps9
 go_wp2_with fail
 rw [← hw1]
 clear hw1
 go_wp2_with fail
 go_at_call 16
 refine (JS.out _).mono ?_
 rintro e w2 ⟨rfl, hb⟩
 replace kR := hide (kR.out.grow hb)
 replace kS := hide (kS.out.grow hb)
 replace kX := hide (kX.out.grow hb)
 have B2 := hide (bup B1.out hb)
 clear hb B1
 obtain ⟨r0, r1⟩ := kR.out.cells2
 have zR := kR.out.lt
 obtain ⟨q0, q1, q2, q3, q4, q5, q6, q7⟩ := kS.out.cells8
 have zS := kS.out.lt
 go_wp2_with fail
 clear r0 r1 zR q0 q1 q2 q3 q4 q5 q6 q7 zS
 go_at_call 46
 refine (JF.out _ B2.out).mono ?_
 rintro e w3 ⟨rfl, hb⟩
 replace kR := hide (kR.out.grow hb)
 replace kS := hide (kS.out.grow hb)
 replace kX := hide (kX.out.grow hb)
 have B3 := hide (bup B2.out hb)
 clear hb B2
 cases F with
 | false =>
  go_wp2_with fail
  go_ret
  exact ⟨rfl, B3.out⟩
 | true =>
 obtain ⟨hr0, hs0, -, -⟩ := hfz.out rfl
 clear hfz JF JS
 replace hlaw := hide (hlaw.out hr0 hs0)
 replace hlen := hide (hlen.out hr0)
 replace hlP := hide (hlP.out hr0)
 clear hr0 hs0
 obtain ⟨q0, q1, q2, q3, q4, q5, q6, q7⟩ := kS.out.cells8
 have zS := kS.out.lt
 have x_0 : w3.cell? ⟨w.heap.size + 1 + 1, 0, none⟩ = some (I x.no) := kX.out.cell 0
 have x_1 : w3.cell? ⟨w.heap.size + 1 + 1, 1, none⟩ = some (I x.cell) := kX.out.cell 1
 have x_2 : w3.cell? ⟨w.heap.size + 1 + 1, 2, none⟩ = some (I x.day) := kX.out.cell 2
 have x_3 : w3.cell? ⟨w.heap.size + 1 + 1, 3, none⟩ = some (I x.lo) := kX.out.cell 3
 have x_4 : w3.cell? ⟨w.heap.size + 1 + 1, 4, none⟩ = some (I x.hi) := kX.out.cell 4
 have zX := kX.out.lt
 go_wp2_with fail
 clear q0 q1 q2 q3 q4 q5 q6 q7 zS x_0 x_1 x_2 x_3 x_4 zX
 go_at_call 51
 refine (JW.out _ B3.out).mono ?_
 rintro e w4 ⟨u, rfl, hu0, hu1, hb⟩
 replace kR := hide (kR.out.grow hb)
 replace kS := hide (kS.out.grow hb)
 replace kX := hide (kX.out.grow hb)
 have B4 := hide (bup B3.out hb)
 clear hb B3
 clear JW
 by_cases hwe : WE = 0
 case neg =>
  obtain rfl := hu1 hwe
  unfold zScene
  have hne : (WE != 0) = true := by simpa using hwe
  replace hwe := hide hwe
  go_wp2_with fail
  go_ret
  exact ⟨rfl, bup B4.out (below1 _ _)⟩
 subst hwe
 obtain ⟨V2, rfl, hT⟩ := hu0 rfl
 clear hu0 hu1
 replace hlaw := hide (hlaw.out rfl)
 have JP2 := hide (fun w' hb hb2 => JP.out S2 V2 w' hb (hT.mono hb2))
 clear JP
 (try unfold Scene.v at *)
 have i0 : Sl w4 4 Cell.cells V2.cells S2.basin.cells := hT.cells
 have i1 : Sl w4 2 pairC V2.pairs S2.basin.pairs := hT.pairs
 have i2 : Sl w4 1 intC V2.days S2.days := hT.days
 have i3 : Sl w4 5 Sight.cells V2.sights S2.sights := hT.sights
 have i4 : Sl w4 5 Change.cells V2.changes S2.changes := hT.changes
 obtain ⟨vc, vp, vd, vs_, vh⟩ := V2
 simp only at i0 i1 i2 i3 i4
 obtain ⟨Ac2, nc2, rfl, -⟩ := i0.open_
 obtain ⟨Ap2, np2, rfl, -⟩ := i1.open_
 obtain ⟨Ad2, nd2, rfl, -⟩ := i2.open_
 obtain ⟨As2, ns2, rfl, -⟩ := i3.open_
 obtain ⟨Ah2, nh2, rfl, -⟩ := i4.open_
 clear i0 i1 i2 i3 i4
 have hb2 := hide (Below.refl w4.heap.size w4)
 clear hT
 obtain ⟨w5, hw5, hb, kT⟩ := al1 w4 #[.slice Ac2 S2.basin.cells.length nc2, .slice Ap2 S2.basin.pairs.length np2, I S2.basin.gain, I S2.basin.slack, I S2.basin.deep, .slice Ad2 S2.days.length nd2, .slice As2 S2.sights.length ns2, .slice Ah2 S2.changes.length nh2] 42
 replace kT := hide kT
 replace hb2 := hide (bup hb2.out hb)
 replace kR := hide (kR.out.grow hb)
 replace kS := hide (kS.out.grow hb)
 replace kX := hide (kX.out.grow hb)
 have B5 := hide (bup B4.out hb)
 clear hb B4
 go_upto_region 6 with fail
 rw [← hw5]
 clear hw5
 obtain ⟨r0, r1⟩ := kR.out.cells2
 have zR := kR.out.lt
 obtain ⟨q0, q1, q2, q3, q4, q5, q6, q7⟩ := kS.out.cells8
 have zS := kS.out.lt
 go_wp2_with fail
 clear r0 r1 zR q0 q1 q2 q3 q4 q5 q6 q7 zS
 go_at_call 47
 refine (JO.out _ B5.out).mono ?_
 rintro e w6 ⟨v6, rfl, hO, hb⟩
 replace hb2 := hide (bup hb2.out hb)
 have hOs := hO.sl intC_len (by have := hlP.out; omega)
 obtain ⟨AL, nL, rfl, -⟩ := hOs.open_
 replace hOs := hide hOs
 clear hO
 replace kR := hide (kR.out.grow hb)
 replace kS := hide (kS.out.grow hb)
 replace kX := hide (kX.out.grow hb)
 replace kT := hide (kT.out.grow hb)
 have B6 := hide (bup B5.out hb)
 clear hb B5
 obtain ⟨r0, r1⟩ := kR.out.cells2
 have zR := kR.out.lt
 obtain ⟨t_0, t_1, t_2, t_3, t_4, t_5, t_6, t_7⟩ := kT.out.cells8
 have zT := kT.out.lt
 go_wp2_with fail
 clear r0 r1 zR t_0 t_1 t_2 t_3 t_4 t_5 t_6 t_7 zT
 obtain ⟨E2, hE2⟩ : ∃ q, openE ss ts S2 day = q := ⟨_, rfl⟩
 obtain ⟨P2, hP2⟩ : ∃ q, openV ss ts S2 day = q := ⟨_, rfl⟩
 replace JP2 := JP2.out
 rw [hE2, hP2] at JP2 hlaw
 have hl2 := hlen.out S2
 rw [hP2] at hl2
 replace JP2 := hide JP2
 clear hE2 hP2 hlen hlP
 go_at_call 47
 refine (JP2.out _ B6.out hb2.out).mono ?_
 rintro e w7 ⟨v7, rfl, hO, hb⟩
 have hPs := hO.sl intC_len (by omega)
 obtain ⟨AP, nP, rfl, -⟩ := hPs.open_
 replace hPs := hide hPs
 clear hO JP2
 replace kR := hide (kR.out.grow hb)
 replace kS := hide (kS.out.grow hb)
 replace kX := hide (kX.out.grow hb)
 replace kT := hide (kT.out.grow hb)
 replace hOs := hide (hOs.out.mono hb)
 have B7 := hide (bup B6.out hb)
 clear hb B6
 obtain ⟨w8, hw8, hb, kL⟩ := al1 w7 #[.slice AP P2.length nP] 38
 replace kL := hide kL
 replace kR := hide (kR.out.grow hb)
 replace kS := hide (kS.out.grow hb)
 replace kX := hide (kX.out.grow hb)
 replace kT := hide (kT.out.grow hb)
 replace hOs := hide (hOs.out.mono hb)
 replace hPs := hide (hPs.out.mono hb)
 have B8 := hide (bup B7.out hb)
 clear hb B7
 go_upto_region 10 with fail
 rw [← hw8]
 clear hw8
 obtain ⟨g1, g2, g3⟩ := hlaw.out
 clear hlaw
 by_cases h1 : E = 0
 case neg =>
  have hne : (E != 0) = true := by simpa using h1
  rcases g1 h1 with h2 | h2
  ·subst h2
   replace h1 := hide h1
   clear g1 g2 g3
   go_wp2_with fail
   go_ret
   exact ⟨rfl, B8.out⟩
  by_cases h3 : E2 = 41
  ·subst h3
   replace h1 := hide h1
   clear g1 g2 g3 h2
   go_wp2_with fail
   go_ret
   exact ⟨rfl, B8.out⟩
  subst h2
  have h4 : (E2 == 41) = false := by simpa using h3
  replace h1 := hide h1
  replace h3 := hide h3
  clear g1 g2 g3
  go_wp2_with fail
  go_ret
  exact ⟨rfl, B8.out⟩
 subst h1
 by_cases h1 : E2 = 0
 case neg =>
  obtain rfl := g2 rfl h1
  replace h1 := hide h1
  clear g1 g2 g3
  go_wp2_with fail
  go_ret
  exact ⟨rfl, B8.out⟩
 subst h1
 have hq := g3 rfl rfl
 clear g1 g2 g3
 have JC := containsFunc_int _ PP 53 #[.pointer (some ⟨w7.heap.size, 0, none⟩)] _ w8 hOs.out (enters_of Tryz.func53 (by kernel_rfl) rfl) (narrow_gives _ _ P2 w8 hPs.out (kL.out.cell 0) kL.out.lt PP)
 rw [hq] at JC
 replace JC := hide JC
 replace hq := hide hq
 go_wp2_with (go_at_call 52; refine JC.out.mono ?_; rintro e w9 ⟨rfl, hb⟩)
 go_ret
 exact ⟨rfl, bup B8.out hb⟩
end Go.Proofs.YtgbbljfmngmjeaaGreat
