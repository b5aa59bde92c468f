/- The law CrewReached: Reach has exactly the sites that can be reached and left in daylight. Conditions stand in the theorem. -/
import Derived.Test.YtgbbljfmngmjeaaGreatSane7
import Derived.Test.YtgbbljfmngmjeaaGreatFine7
import Derived.Test.YtgbbljfmngmjeaaGreatCrewWalkPack
import Derived.Test.YtgbbljfmngmjeaaGreatCrew6Pack
import Derived.Test.YtgbbljfmngmjeaaGreatIndexFuncPack
set_option linter.all false
set_option maxHeartbeats 16000000
set_option maxRecDepth 100000
namespace Go.Proofs.YtgbbljfmngmjeaaGreat
open Go.RowKit

theorem way_ok {ss : List Site} {ts : List Track} {s : Scene} {day a b : Int} (h : seenE ss ts s day true = 0) (ha : 0 ≤ placeS ss a) (hb : 0 ≤ placeS ss b) : wayE ss ts s day a b = 0 ∧
  wayB ss ts s day a b = !(minS (quickF ss (openF (hwF s day) ts) (placeS ss a).toNat) (placeS ss b).toNat == farN) ∧ wayM ss ts s day a b = (if wayB ss ts s day a b then minS (quickF ss (openF (hwF s day) ts) (placeS ss a).toNat) (placeS ss b).toNat else 0) := by
 have hq : sitesB ss [a, b] = true := by
  have h1 : ¬ placeS ss a < 0 := by omega
  have h2 : ¬ placeS ss b < 0 := by omega
  simp [sitesB, h1, h2]
 have e : wayE ss ts s day a b = 0 := by rw [wayE, hq, h]
 have e2 : wayN ss ts s day a b = minS (quickF ss (openF (hwF s day) ts) (placeS ss a).toNat) (placeS ss b).toNat := rfl
 refine ⟨e, ?_, ?_⟩
 ·rw [wayB, e, e2]; rfl
 ·rw [wayM, e2]
theorem seen_true {ss : List Site} {ts : List Track} {s : Scene} {day : Int} {q : Bool} (h : seenE ss ts s day q = 0) : seenE ss ts s day true = 0 := by
 obtain ⟨_, _, _, rfl, _⟩ := seen_zero h
 exact h
theorem near_bd {D M : Int} {b : Bool} (h : D ≠ farN → 0 ≤ D ∧ D ≤ 21600) (hb : b = !(D == farN)) (hM : M = if b then D else 0) : 0 ≤ M ∧ M ≤ 21600 := by
 cases b with
 | false => simp at hM; omega
 | true =>
  simp at hb hM
  have := h hb
  omega
theorem can_eq {D1 D2 M1 M2 l x : Int} {b1 b2 k : Bool} (h1 : b1 = !(D1 == farN)) (g1 : M1 = if b1 then D1 else 0) (h2 : b2 = !(D2 == farN)) (g2 : M2 = if b2 then D2 else 0) :
  (!(D1 == farN) && !(D2 == farN) && k && decide ((D1 + D2) * l ≤ x)) = (b1 && (b2 && (k && decide ((M1 + M2) * l ≤ x)))) := by
 rw [← h1, ← h2]
 cases b1 with
 | false => rfl
 | true =>
  cases b2 with
  | false => rfl
  | true =>
   simp only [if_true] at g1 g2
   subst g1 g2
   cases k <;> rfl
theorem any_snoc (f : Nat → Bool) (k : Nat) : (List.range (k + 1)).any f = ((List.range k).any f || f k) := by simp [List.range_succ]
theorem law_CrewReached (vs vt : Value) (ss : List Site) (ts : List Track) (s : Scene) (V : SceneV) (c : Crew) (day : Int) (w : World) (hs : Sl w 3 Site.cells vs ss) (ht : Sl w 6 Track.cells vt ts) (hS : SceneAt w s V) :
  Calls Tryz.prog 8 #[.agg #[vs, vt], s.v V, .agg #[I c.hut, I c.work, I c.load], I day] w fun e w' => e = .returned (.bool true) ∧ Below w.heap.size w w' := by
 have JF := fun w' (hb : Below w.heap.size w w') => law7_fine vs vt ss ts s V w' (hs.mono hb) (ht.mono hb) (hS.mono hb)
 have JR := fun w' (hb : Below w.heap.size w w') => crew_Reach vs vt ss ts s V c day w' (hs.mono hb) (ht.mono hb) (hS.mono hb)
 have JW := fun a b w' (hb : Below w.heap.size w w') => crew_Way vs vt ss ts s V day a b w' (hs.mono hb) (ht.mono hb) (hS.mono hb)
 have HSs := hide hs
 obtain ⟨Ac, nc, hcc, -⟩ := hS.cells.open_
 obtain ⟨Ap, np, hpp, -⟩ := hS.pairs.open_
 obtain ⟨Ad, nd, hdd, -⟩ := hS.days.open_
 obtain ⟨As, ns, hsi, -⟩ := hS.sights.open_
 obtain ⟨Ah, nh, hch, -⟩ := hS.changes.open_
 obtain ⟨A, n, rfl, _, _, _, hA⟩ := hs.open_
 obtain ⟨A', n', rfl, -⟩ := ht.open_
 unfold Scene.v at *
 simp only [hcc, hpp, hdd, hsi, hch] at JF JR JW ⊢
 clear hcc hpp hdd hsi hch
 obtain ⟨F, hF⟩ : ∃ q, fineB ss ts s = q := ⟨_, rfl⟩
 have hfz := hide (fun h => fine_zero (ss := ss) (ts := ts) (s := s) (hF.trans h))
 have hz := hide (fun h => seen_zero (ss := ss) (ts := ts) (s := s) (day := day) (q := hiredB ss c) h)
 have hst := hide (fun h => seen_true (ss := ss) (ts := ts) (s := s) (day := day) (q := hiredB ss c) h)
 have hV0 : reachE ss ts s day c = 0 → reachV ss ts s c day = reachT ss (openF (hwF s day) ts) c day (quickF ss (openF (hwF s day) ts) (placeS ss c.hut).toNat) ss.length := fun h => by simp [reachV, h]
 have hV1 : reachE ss ts s day c ≠ 0 → reachV ss ts s c day = [] := fun h => by simp [reachV, h]
 have hE' : reachE ss ts s day c = seenE ss ts s day (hiredB ss c) := rfl
 have hwok := hide (fun a b h => way_ok (ss := ss) (ts := ts) (s := s) (day := day) (a := a) (b := b) h)
 obtain ⟨E, hE⟩ : ∃ q, reachE ss ts s day c = q := ⟨_, rfl⟩
 obtain ⟨PP, hPP⟩ : ∃ q, reachV ss ts s c day = q := ⟨_, rfl⟩
 rw [hF] at JF
 rw [hE, hPP] at JR hV0 hV1
 rw [hE] at hE'
 clear hE hPP hF hs ht hS
 replace JF := hide JF
 replace JR := hide JR
 replace JW := hide JW
 replace hA := hide hA
 replace hV0 := hide hV0
 replace hV1 := hide hV1
 replace hE' := hide hE'
 have JS := hide law_sane7
 obtain ⟨w1, hw1, hb, kR, kS, kC⟩ := al3 w #[.slice A ss.length n, .slice A' ts.length n'] 25 (s8 s Ac nc Ap np Ad nd As ns Ah nh) 42 #[I c.hut, I c.work, I c.load] 44
 replace kR := hide kR
 replace kS := hide kS
 replace kC := hide kC
 have B1 := hide hb
 clear hb
 go_enter Tryz.func8, Tryz.ntmps8
 go_wp2_with fail
 rw [← hw1]
 clear hw1
 go_wp2_with fail
 go_at_call 16
 refine (JS.out _).mono ?_
 rintro e w2 ⟨rfl, hb⟩
 replace kR := hide (kR.out.grow hb)
 replace kS := hide (kS.out.grow hb)
 replace kC := hide (kC.out.grow hb)
 have B2 := hide (bup B1.out hb)
 clear hb B1
 obtain ⟨r0, r1⟩ := kR.out.cells2
 have zR := kR.out.lt
 obtain ⟨q0, q1, q2, q3, q4, q5, q6, q7⟩ := kS.out.cells8
 have zS := kS.out.lt
 go_wp2_with fail
 clear r0 r1 zR q0 q1 q2 q3 q4 q5 q6 q7 zS
 go_at_call 46
 refine (JF.out _ B2.out).mono ?_
 rintro e w3 ⟨rfl, hb⟩
 replace kR := hide (kR.out.grow hb)
 replace kS := hide (kS.out.grow hb)
 replace kC := hide (kC.out.grow hb)
 have B3 := hide (bup B2.out hb)
 clear hb B2
 cases F with
 | false =>
  go_wp2_with fail
  go_ret
  exact ⟨rfl, B3.out⟩
 | true =>
 obtain ⟨hr0, hs0, -, -⟩ := hfz.out rfl
 clear hfz JF JS
 obtain ⟨r0, r1⟩ := kR.out.cells2
 have zR := kR.out.lt
 obtain ⟨q0, q1, q2, q3, q4, q5, q6, q7⟩ := kS.out.cells8
 have zS := kS.out.lt
 obtain ⟨c_0, c_1, c_2⟩ := kC.out.cells3
 have zC := kC.out.lt
 go_wp2_with fail
 clear r0 r1 zR q0 q1 q2 q3 q4 q5 q6 q7 zS c_0 c_1 c_2 zC
 go_at_call 28
 refine (JR.out _ B3.out).mono ?_
 rintro e w4 ⟨v2, rfl, hO, hb⟩
 have hOs := hO.sl intC_len (by have := RangeOk.of hr0; have h1 := hV0.out; have h2 := hV1.out; exact (Classical.em (E = 0)).elim (fun h => by rw [h1 h]; exact Nat.le_trans (reach_len ..) (by have := this.n1; omega)) (fun h => by rw [h2 h]; simp))
 obtain ⟨AL, nL, rfl, -⟩ := hOs.open_
 replace hOs := hide hOs
 clear hO
 replace kR := hide (kR.out.grow hb)
 replace kS := hide (kS.out.grow hb)
 replace kC := hide (kC.out.grow hb)
 have B4 := hide (bup B3.out hb)
 clear hb B3
 by_cases h0 : E = 0
 case neg =>
  obtain rfl := hV1.out h0
  have hne : (E != 0) = true := by simpa using h0
  replace h0 := hide h0
  go_wp2_with fail
  go_ret
  exact ⟨rfl, B4.out⟩
 subst h0
 have hE0 := hE'.out.symm
 obtain ⟨hro, -, hd0, hq, -⟩ := hz.out hE0
 obtain ⟨hp1, hwk, hld⟩ := hired_zero hq
 have hdy : 0 ≤ day ∧ day ≤ 1048576 := day_in hs0 hd0
 have hl1 := placeS_lt hp1
 have n16 := hro.n1
 have hPP := hV0.out rfl
 have hst0 := hst.out hE0
 have JL : ∀ w, Calls Tryz.prog 17 #[I day] w fun e w' => e = .returned (.tuple #[I (lightF day), I 0]) ∧ w = w' := fun w => by
  have h := crew_Light day w
  have hi : inB day 0 1048576 = true := inB_true.2 hdy
  have e1 : lightV day = lightF day := by simp [lightV, hi]
  have e2 : dayE day = 0 := by simp [dayE, hi]
  rw [e1, e2] at h
  exact h
 have hwo := hide (fun a b => hwok.out a b hst0)
 have hN := hide (net_open hro (hwF s day))
 have hbl : 0 ≤ lightF day ∧ lightF day ≤ 960 := by unfold lightF; split <;> omega
 obtain ⟨O, hO⟩ : ∃ O, openF (hwF s day) ts = O := ⟨_, rfl⟩
 rw [hO] at hwo hN hPP
 obtain ⟨p1, hpe1⟩ : ∃ p : Nat, placeS ss c.hut = p := ⟨(placeS ss c.hut).toNat, by omega⟩
 rw [hpe1] at hl1 hPP
 simp only [Int.toNat_natCast] at hPP
 obtain ⟨LL, hLL⟩ : ∃ q, lightF day = q := ⟨_, rfl⟩
 rw [hLL] at JL hbl
 obtain ⟨Lr, hLr⟩ : ∃ q, reachT ss O c day (quickF ss O p1) ss.length = q := ⟨_, rfl⟩
 rw [hLr] at hPP
 subst hPP
 have hcan := hide (fun i (hi : i < ss.length) => can_reach (c := c) (day := day) hN.out n16 (by omega : p1 < ss.length) hi hld.1)
 have hhas := hide (fun (i : Nat) x (hx : ss[i]? = some x) => reach_has (O := O) (c := c) (day := day) (l := quickF ss O p1) hro hx)
 rw [hLr] at hhas
 have hplace := hide (fun (i : Nat) x (hx : ss[i]? = some x) => hro.place hx)
 replace hst0 := hide hst0
 replace hE0 := hide hE0
 replace hO := hide hO
 replace hLr := hide hLr
 replace hLL := hide hLL
 replace hro := hide hro
 replace hpe1 := hide hpe1
 clear hV0 hV1 hz hst hq hd0 hp1 hwk hE' hwok JR hdy hr0 hs0
 replace JL := hide JL
 go_wp2_with fail
 go_at_call 17
 refine (JL.out _).mono ?_
 rintro e w_ ⟨rfl, rfl⟩
 clear JL
 obtain ⟨r0, r1⟩ := kR.out.cells2
 have zR := kR.out.lt
 obtain ⟨q0, q1, q2, q3, q4, q5, q6, q7⟩ := kS.out.cells8
 have zS := kS.out.lt
 obtain ⟨c_0, c_1, c_2⟩ := kC.out.cells3
 have zC := kC.out.lt
 go_wp2_with fail
 clear r0 r1 zR q0 q1 q2 q3 q4 q5 q6 q7 zS c_0 c_1 c_2 zC
 go_loopw [54] (fun i wr => ∃ k : Nat, k ≤ ss.length ∧ i = I k ∧ Hid (Below w4.heap.size w4 wr)) (fun i _ => ss.length - (intOf i).toNat)
 case atStart => exact ⟨0, Nat.zero_le _, rfl, hide (Below.refl _ _)⟩
 case round =>
  obtain ⟨k, hk, rfl, hbk⟩ := hrel
  have hb := hbk.out
  clear hbk
  have hb0 := hide hb
  replace kR := hide (kR.out.grow hb)
  replace kS := hide (kS.out.grow hb)
  replace kC := hide (kC.out.grow hb)
  replace hOs := hide (hOs.out.mono hb)
  have B5 := hide (bup B4.out hb)
  clear hb B4
  by_cases hlt : k < ss.length
  case neg =>
   obtain rfl : k = ss.length := by omega
   go_wp2_with fail
   go_ret
   exact ⟨rfl, B5.out⟩
  obtain ⟨b, off, rfl, hbw⟩ := hA.out k hlt
  obtain ⟨x, hx⟩ := getElem?_of_lt hlt
  obtain ⟨_, f0, f1, f2⟩ := (HSs.out.mono B5.out).site_at hx
  have hbx : b < wr.heap.size := by have := B5.out.size; omega
  have k0 : (0 : Int) ≤ (k : Int) := by omega
  have k1 : (k : Int) < (ss.length : Int) := by omega
  obtain ⟨wx, hwx, hb, kX⟩ := al1 wr #[I x.no, I x.kind, I x.cell] 80
  replace kX := hide kX
  replace hb0 := hide (bup hb0.out hb)
  replace kR := hide (kR.out.grow hb)
  replace kS := hide (kS.out.grow hb)
  replace kC := hide (kC.out.grow hb)
  replace hOs := hide (hOs.out.mono hb)
  have B6 := hide (bup B5.out hb)
  clear hb B5
  obtain ⟨bX, hbX⟩ : ∃ b, wr.heap.size = b := ⟨_, rfl⟩
  replace hbX := hide hbX
  go_upto_region 14 with fail
  rw [← hwx]
  clear hwx f0 f1 f2 hbx
  have hbh := hide hbw
  clear hbw
  have hxp := hplace.out k x hx
  have hW1 := hwo.out c.hut x.no (by rw [hpe1.out]; omega) (by rw [hxp]; omega)
  rw [hpe1.out, hxp] at hW1
  simp only [Int.toNat_natCast] at hW1
  have JW1 := fun w' hb => JW.out c.hut x.no w' hb
  have hn1 := fun h => dist_near (x := p1) (y := k) hN.out n16 (by omega) hlt h
  obtain ⟨D1, hD1⟩ : ∃ q, minS (quickF ss O p1) k = q := ⟨_, rfl⟩
  obtain ⟨b1, hb1⟩ : ∃ q, wayB ss ts s day c.hut x.no = q := ⟨_, rfl⟩
  obtain ⟨M1, hM1⟩ : ∃ q, wayM ss ts s day c.hut x.no = q := ⟨_, rfl⟩
  rw [hD1, hb1, hM1] at hW1
  rw [hD1] at hn1
  simp only [hW1.1, hb1, hM1] at JW1
  have hM1b := near_bd hn1 hW1.2.1 hW1.2.2
  have hW1' := hide hW1.2
  replace hD1 := hide hD1
  replace JW1 := hide JW1
  replace hx := hide hx
  replace hxp := hide hxp
  clear hb1 hM1 hW1 hn1
  obtain ⟨r0, r1⟩ := kR.out.cells2
  have zR := kR.out.lt
  obtain ⟨q0, q1, q2, q3, q4, q5, q6, q7⟩ := kS.out.cells8
  have zS := kS.out.lt
  obtain ⟨c_0, c_1, c_2⟩ := kC.out.cells3
  have zC := kC.out.lt
  obtain ⟨x_0, x_1, x_2⟩ := kX.out.cells3
  have zX := kX.out.lt
  go_wp2_with fail
  clear r0 r1 zR q0 q1 q2 q3 q4 q5 q6 q7 zS c_0 c_1 c_2 zC x_0 x_1 x_2 zX
  go_at_call 31
  refine (JW1.out _ B6.out).mono ?_
  rintro e w5 ⟨v3, rfl, -, hb⟩
  replace hb0 := hide (bup hb0.out hb)
  clear JW1
  replace kR := hide (kR.out.grow hb)
  replace kS := hide (kS.out.grow hb)
  replace kC := hide (kC.out.grow hb)
  replace kX := hide (kX.out.grow hb)
  replace hOs := hide (hOs.out.mono hb)
  have B7 := hide (bup B6.out hb)
  clear hb B6
  obtain ⟨r0, r1⟩ := kR.out.cells2
  have zR := kR.out.lt
  obtain ⟨x_0, x_1, x_2⟩ := kX.out.cells3
  have zX := kX.out.lt
  go_wp2_with fail
  clear r0 r1 zR x_0 x_1 x_2 zX
  go_loopw [18, 76] (fun u i wr2 => ∃ j : Nat, j ≤ ss.length ∧ i = I j ∧ u = .bool ((List.range j).any (canK ss O c day p1 k)) ∧ Hid (Below w5.heap.size w5 wr2)) (fun _ i _ => ss.length - (intOf i).toNat)
  case atStart => exact ⟨0, Nat.zero_le _, rfl, rfl, hide (Below.refl _ _)⟩
  case round =>
   obtain ⟨j, hj, rfl, rfl, hbj⟩ := hrel
   have hb := hbj.out
   clear hbj
   have hb2 := hide hb
   replace hb0 := hide (bup hb0.out hb)
   replace kR := hide (kR.out.grow hb)
   replace kS := hide (kS.out.grow hb)
   replace kC := hide (kC.out.grow hb)
   replace kX := hide (kX.out.grow hb)
   replace hOs := hide (hOs.out.mono hb)
   have B8 := hide (bup B7.out hb)
   clear hb B7
   by_cases hjl : j < ss.length
   case neg =>
    obtain rfl : j = ss.length := by omega
    rw [hcan.out k hlt, ← hhas.out k x hx.out]
    obtain ⟨x_0, x_1, x_2⟩ := kX.out.cells3
    have zX := kX.out.lt
    go_wp2_with fail
    clear x_0 x_1 x_2 zX
    go_at_call 48
    refine (contains_int _ _ _ _ hOs.out).mono ?_
    rintro e w_ ⟨rfl, rfl⟩
    obtain ⟨Q, hQ⟩ : ∃ q, (PP.any fun n => n == x.no) = q := ⟨_, rfl⟩
    rw [hQ]
    have hQn : (Q != Q) = false := by simp
    replace hQ := hide hQ
    go_wp2_with fail
    go_roundw
    case rel => exact ⟨k + 1, by omega, by go_num, hb0⟩
    case measure => simp [intOf]; omega
   have hbw2 := hbh.out
   obtain ⟨y, hy⟩ := getElem?_of_lt hjl
   obtain ⟨_, g0, g1, g2⟩ := (HSs.out.mono B8.out).site_at hy
   have hbx2 : b < wr.heap.size := by have := B8.out.size; omega
   have j0 : (0 : Int) ≤ (j : Int) := by omega
   have j1 : (j : Int) < (ss.length : Int) := by omega
   obtain ⟨wy, hwy, hb, kY⟩ := al1 wr #[I y.no, I y.kind, I y.cell] 80
   replace kY := hide kY
   replace hb2 := hide (bup hb2.out hb)
   replace hb0 := hide (bup hb0.out hb)
   replace kR := hide (kR.out.grow hb)
   replace kS := hide (kS.out.grow hb)
   replace kC := hide (kC.out.grow hb)
   replace kX := hide (kX.out.grow hb)
   replace hOs := hide (hOs.out.mono hb)
   have B9 := hide (bup B8.out hb)
   clear hb B8
   go_upto_region 21 with fail
   rw [← hwy]
   clear hwy g0 g1 g2 hbw2 hbx2
   have hyp := hplace.out j y hy
   have hW2 := hwo.out x.no y.no (by rw [hxp.out]; omega) (by rw [hyp]; omega)
   rw [hyp, hxp.out] at hW2
   simp only [Int.toNat_natCast] at hW2
   have JW2 := fun w' hb => JW.out x.no y.no w' hb
   have hn2 := fun h => dist_near (x := k) (y := j) hN.out n16 hlt hjl h
   obtain ⟨D2, hD2⟩ : ∃ q, minS (quickF ss O k) j = q := ⟨_, rfl⟩
   obtain ⟨b2, hb2e⟩ : ∃ q, wayB ss ts s day x.no y.no = q := ⟨_, rfl⟩
   obtain ⟨M2, hM2⟩ : ∃ q, wayM ss ts s day x.no y.no = q := ⟨_, rfl⟩
   rw [hD2, hb2e, hM2] at hW2
   rw [hD2] at hn2
   simp only [hW2.1, hb2e, hM2] at JW2
   have hM2b := near_bd hn2 hW2.2.1 hW2.2.2
   have hce : canK ss O c day p1 k j = (b1 && (b2 && ((y.kind == 1) && decide ((M1 + M2) * (100 + c.load) ≤ 100 * LL)))) := by
    have e : (ss.getD j default).kind = y.kind := by rw [getD_of hy]
    rw [canK, hD1.out, hD2, e, hLL.out]
    exact can_eq hW1'.out.1 hW1'.out.2 hW2.2.1 hW2.2.2
   have hsn := any_snoc (canK ss O c day p1 k) j
   rw [hce] at hsn
   obtain ⟨q, hq⟩ : ∃ q, (List.range j).any (canK ss O c day p1 k) = q := ⟨_, rfl⟩
   rw [hq] at hsn ⊢
   replace hsn := hide hsn
   replace JW2 := hide JW2
   replace hy := hide hy
   have hm1 : 0 ≤ (M1 + M2) * (100 + c.load) := Int.mul_nonneg (by omega) (by omega)
   have hm2 : (M1 + M2) * (100 + c.load) ≤ 43200 * 300 := Int.mul_le_mul (by omega) (by omega) (by omega) (by omega)
   clear hq hyp hW2 hn2 hD2 hb2e hM2
   obtain ⟨r0, r1⟩ := kR.out.cells2
   have zR := kR.out.lt
   obtain ⟨q0, q1, q2, q3, q4, q5, q6, q7⟩ := kS.out.cells8
   have zS := kS.out.lt
   obtain ⟨x_0, x_1, x_2⟩ := kX.out.cells3
   have zX := kX.out.lt
   obtain ⟨y_0, y_1, y_2⟩ := kY.out.cells3
   have zY := kY.out.lt
   go_wp2_with fail
   clear r0 r1 zR q0 q1 q2 q3 q4 q5 q6 q7 zS x_0 x_1 x_2 zX y_0 y_1 y_2 zY
   go_at_call 31
   refine (JW2.out _ B9.out).mono ?_
   rintro e w6 ⟨v5, rfl, -, hb⟩
   replace hb2 := hide (bup hb2.out hb)
   replace hb0 := hide (bup hb0.out hb)
   clear JW2
   replace kR := hide (kR.out.grow hb)
   replace kS := hide (kS.out.grow hb)
   replace kC := hide (kC.out.grow hb)
   replace kX := hide (kX.out.grow hb)
   replace kY := hide (kY.out.grow hb)
   replace hOs := hide (hOs.out.mono hb)
   have B10 := hide (bup B9.out hb)
   clear hb B9
   obtain ⟨c_0, c_1, c_2⟩ := kC.out.cells3
   have zC := kC.out.lt
   obtain ⟨y_0, y_1, y_2⟩ := kY.out.cells3
   have zY := kY.out.lt
   cases q with
   | true =>
    go_wp2_with fail
    go_roundw
    case rel => exact ⟨j + 1, by omega, by go_num, congrArg Value.bool (by rw [hsn.out]; simp), hb2⟩
    case measure => simp [intOf]; omega
   | false =>
   cases b1 with
   | false =>
    go_wp2_with fail
    go_roundw
    case rel => exact ⟨j + 1, by omega, by go_num, congrArg Value.bool (by rw [hsn.out]; simp), hb2⟩
    case measure => simp [intOf]; omega
   | true =>
   cases b2 with
   | false =>
    go_wp2_with fail
    go_roundw
    case rel => exact ⟨j + 1, by omega, by go_num, congrArg Value.bool (by rw [hsn.out]; simp), hb2⟩
    case measure => simp [intOf]; omega
   | true =>
   cases hk1 : (y.kind == 1) with
   | false =>
    go_wp2_with fail
    go_roundw
    case rel => exact ⟨j + 1, by omega, by go_num, congrArg Value.bool (by rw [hsn.out]; simp [hk1]), hb2⟩
    case measure => simp [intOf]; omega
   | true =>
    go_wp2_with fail
    go_roundw
    case rel => exact ⟨j + 1, by omega, by go_num, congrArg Value.bool (by rw [hsn.out]; simp [hk1]), hb2⟩
    case measure => simp [intOf]; omega
end Go.Proofs.YtgbbljfmngmjeaaGreat
