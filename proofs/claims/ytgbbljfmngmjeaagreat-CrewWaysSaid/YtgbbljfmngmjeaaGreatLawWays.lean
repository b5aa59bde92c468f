/- The law CrewWays: Way and Cut. Conditions stand in the theorem. -/
import Derived.Test.YtgbbljfmngmjeaaGreatSane7
import Derived.Test.YtgbbljfmngmjeaaGreatFine7
import Derived.Test.YtgbbljfmngmjeaaGreatStroll7
import Derived.Test.YtgbbljfmngmjeaaGreatWaysMath
import Derived.Test.YtgbbljfmngmjeaaGreatCrew6Pack
import Derived.Test.YtgbbljfmngmjeaaGreatIndexFuncPack
set_option linter.all false
set_option maxHeartbeats 16000000
set_option maxRecDepth 100000
namespace Go.Proofs.YtgbbljfmngmjeaaGreat
open Go.RowKit
theorem law_CrewWays (vs vt : Value) (ss : List Site) (ts : List Track) (s : Scene) (V : SceneV) (day : Int) (frm : Int) (by_ : Int) (til : Int) (w : World) (hs : Sl w 3 Site.cells vs ss) (ht : Sl w 6 Track.cells vt ts) (hS : SceneAt w s V) :
  Calls Tryz.prog 7 #[.agg #[vs, vt], s.v V, I day, I frm, I by_, I til] w fun e w' => e = .returned (.bool true) ∧ Below w.heap.size w w' := by
 have JF := fun w' (hb : Below w.heap.size w w') => law7_fine vs vt ss ts s V w' (hs.mono hb) (ht.mono hb) (hS.mono hb)
 have JW := fun a b w' (hb : Below w.heap.size w w') => crew_Way vs vt ss ts s V day a b w' (hs.mono hb) (ht.mono hb) (hS.mono hb)
 have JC := fun w' (hb : Below w.heap.size w w') => crew_Cut vs vt ss ts s V day frm til w' (hs.mono hb) (ht.mono hb) (hS.mono hb)
 have JO := fun w' (hb : Below w.heap.size w w') => crew_Open vs vt ss ts s V day w' (hs.mono hb) (ht.mono hb) (hS.mono hb)
 have JT := fun no w' (hb : Below w.heap.size w w') => law7_track vs vt ts no w' (ht.mono hb)
 have JK := fun vo vl op l hr w' (hb : Below w.heap.size w w') ho hl => law7_walked vs vt vo vl ss ts op frm l w' (ht.mono hb) ho hl hr
 obtain ⟨Ac, nc, hcc, -⟩ := hS.cells.open_
 obtain ⟨Ap, np, hpp, -⟩ := hS.pairs.open_
 obtain ⟨Ad, nd, hdd, -⟩ := hS.days.open_
 obtain ⟨As, ns, hsi, -⟩ := hS.sights.open_
 obtain ⟨Ah, nh, hch, -⟩ := hS.changes.open_
 obtain ⟨A, n, rfl, -⟩ := hs.open_
 obtain ⟨A', n', rfl, -⟩ := ht.open_
 unfold Scene.v at *
 simp only [hcc, hpp, hdd, hsi, hch] at JF JW JC JO ⊢
 clear hcc hpp hdd hsi hch
 obtain ⟨F, hF⟩ : ∃ q, fineB ss ts s = q := ⟨_, rfl⟩
 have hfz := hide (fun h => fine_zero (ss := ss) (ts := ts) (s := s) (hF.trans h))
 have hno := hide (fun h => way_no (ss := ss) (ts := ts) (s := s) (day := day) (frm := frm) (til := til) h)
 have hcut := hide (fun h => ways_cut (ss := ss) (ts := ts) (s := s) (day := day) (frm := frm) (til := til) h)
 have hway := hide (fun h => ways_way (ss := ss) (ts := ts) (s := s) (day := day) (frm := frm) (til := til) h)
 have hoz := hide (fun h => show openE ss ts s day = 0 from seen_true (ss := ss) (ts := ts) (s := s) (day := day) (q := sitesB ss [frm, til]) h)
 have hE' : wayE ss ts s day frm til = seenE ss ts s day (sitesB ss [frm, til]) := rfl
 have hPl := way_len (ss := ss) (ts := ts) (s := s) (day := day) (frm := frm) (til := til)
 have hXl : (cutV ss ts s day frm til).length ≤ ss.length := by
  unfold cutV
  split
  ·exact cut_len _ _
  ·simp
 have hOl : (openV ss ts s day).length ≤ ts.length := by
  unfold openV
  split
  ·rw [List.length_map]; exact openF_len _ _
  ·simp
 have hOv := hide (fun (h : openE ss ts s day = 0) => show openV ss ts s day = (openF (hwF s day) ts).map Track.no from by simp [openV, h])
 have hon := hide (fun (hr : RangeOk ss ts) t ht => open_no (m := hwF s day) hr (t := t) ht)
 have hor := hide (fun no => show trackOr ts no = if 0 ≤ placeT ts no then trackAt ts no else ⟨0, 0, 0, 0, 0, 0⟩ from rfl)
 obtain ⟨E, hE⟩ : ∃ q, wayE ss ts s day frm til = q := ⟨_, rfl⟩
 obtain ⟨P, hP⟩ : ∃ q, wayP ss ts s day frm til = q := ⟨_, rfl⟩
 obtain ⟨M, hM⟩ : ∃ q, wayM ss ts s day frm til = q := ⟨_, rfl⟩
 obtain ⟨Bw, hBw⟩ : ∃ q, wayB ss ts s day frm til = q := ⟨_, rfl⟩
 obtain ⟨X, hX⟩ : ∃ q, cutV ss ts s day frm til = q := ⟨_, rfl⟩
 obtain ⟨Bc, hBc⟩ : ∃ q, cutB ss ts s day frm til = q := ⟨_, rfl⟩
 obtain ⟨OE, hOE⟩ : ∃ q, openE ss ts s day = q := ⟨_, rfl⟩
 obtain ⟨OV, hOV⟩ : ∃ q, openV ss ts s day = q := ⟨_, rfl⟩
 have JW1 := fun w' hb => JW frm til w' hb
 rw [hF] at JF
 simp only [hE, hP, hM, hBw] at JW1
 rw [hX, hBc, hE] at JC
 rw [hOE, hOV] at JO
 rw [hE, hP, hM, hBw, hX, hBc] at hno
 rw [hE, hP, hBw, hX, hBc] at hcut
 rw [hE, hP, hM, hBw, hBc, hOV] at hway
 rw [hP] at hPl
 rw [hX] at hXl
 rw [hOV] at hOl hOv
 rw [hOE] at hoz hOv
 rw [hE] at hE'
 clear hE hP hM hBw hX hBc hOE hOV hF hs ht hS
 replace JF := hide JF
 replace JW := hide JW
 replace JW1 := hide JW1
 replace JC := hide JC
 replace JO := hide JO
 replace JT := hide JT
 replace JK := hide JK
 replace hPl := hide hPl
 replace hXl := hide hXl
 replace hOl := hide hOl
 replace hE' := hide hE'
 have JS := hide law_sane7
 obtain ⟨w1, hw1, hb, kR, kS⟩ := al2 w #[.slice A ss.length n, .slice A' ts.length n'] 25 (s8 s Ac nc Ap np Ad nd As ns Ah nh) 42
 replace kR := hide kR
 replace kS := hide kS
 have B1 := hide hb
 clear hb
 go_enter Tryz.func7, Tryz.ntmps7
 go_wp2_with fail
 rw [← hw1]
 clear hw1
 go_wp2_with fail
 go_at_call 16
 refine (JS.out _).mono ?_
 rintro e w2 ⟨rfl, hb⟩
 replace kR := hide (kR.out.grow hb)
 replace kS := hide (kS.out.grow hb)
 have B2 := hide (bup B1.out hb)
 clear hb B1
 obtain ⟨r0, r1⟩ := kR.out.cells2
 have zR := kR.out.lt
 obtain ⟨q0, q1, q2, q3, q4, q5, q6, q7⟩ := kS.out.cells8
 have zS := kS.out.lt
 go_wp2_with fail
 clear r0 r1 zR q0 q1 q2 q3 q4 q5 q6 q7 zS
 go_at_call 46
 refine (JF.out _ B2.out).mono ?_
 rintro e w3 ⟨rfl, hb⟩
 replace kR := hide (kR.out.grow hb)
 replace kS := hide (kS.out.grow hb)
 have B3 := hide (bup B2.out hb)
 clear hb B2
 cases F with
 | false =>
  go_wp2_with fail
  go_ret
  exact ⟨rfl, B3.out⟩
 | true =>
 obtain ⟨hr0, hs0, -, -⟩ := hfz.out rfl
 clear hfz JF JS
 have hro := hide (RangeOk.of hr0)
 have hn1 := hro.out.n1
 have hn2 := hro.out.n2
 clear hr0 hs0
 obtain ⟨r0, r1⟩ := kR.out.cells2
 have zR := kR.out.lt
 obtain ⟨q0, q1, q2, q3, q4, q5, q6, q7⟩ := kS.out.cells8
 have zS := kS.out.lt
 go_wp2_with fail
 clear r0 r1 zR q0 q1 q2 q3 q4 q5 q6 q7 zS
 go_at_call 31
 refine (JW1.out _ B3.out).mono ?_
 rintro e w4 ⟨v2, rfl, hO, hb⟩
 have hPs := hO.sl intC_len (by have := hPl.out; omega)
 obtain ⟨AP, nP, rfl, _, _, hAPl, hAP⟩ := hPs.open_
 replace hPs := hide hPs
 replace hAP := hide hAP
 clear hO
 clear JW1
 replace kR := hide (kR.out.grow hb)
 replace kS := hide (kS.out.grow hb)
 have B4 := hide (bup B3.out hb)
 clear hb B3
 obtain ⟨r0, r1⟩ := kR.out.cells2
 have zR := kR.out.lt
 obtain ⟨q0, q1, q2, q3, q4, q5, q6, q7⟩ := kS.out.cells8
 have zS := kS.out.lt
 go_wp2_with fail
 clear r0 r1 zR q0 q1 q2 q3 q4 q5 q6 q7 zS
 go_at_call 26
 refine (JC.out _ B4.out).mono ?_
 rintro e w5 ⟨v3, rfl, hO, hb⟩
 have hXs := hO.sl intC_len (by have := hXl.out; omega)
 obtain ⟨AX, nX, rfl, _, _, hAXl, hAX⟩ := hXs.open_
 replace hXs := hide hXs
 replace hAX := hide hAX
 clear hO
 clear JC
 replace kR := hide (kR.out.grow hb)
 replace kS := hide (kS.out.grow hb)
 replace hPs := hide (hPs.out.mono hb)
 have B5 := hide (bup B4.out hb)
 clear hb B4
 obtain ⟨r0, r1⟩ := kR.out.cells2
 have zR := kR.out.lt
 obtain ⟨q0, q1, q2, q3, q4, q5, q6, q7⟩ := kS.out.cells8
 have zS := kS.out.lt
 go_wp2_with fail
 clear r0 r1 zR q0 q1 q2 q3 q4 q5 q6 q7 zS
 go_at_call 47
 refine (JO.out _ B5.out).mono ?_
 rintro e w6 ⟨v4, rfl, hO, hb⟩
 have hOs := hO.sl intC_len (by have := hOl.out; omega)
 obtain ⟨AO, nO, rfl, _, _, hAOl, hAO⟩ := hOs.open_
 replace hOs := hide hOs
 replace hAO := hide hAO
 clear hO
 clear JO
 replace kR := hide (kR.out.grow hb)
 replace kS := hide (kS.out.grow hb)
 replace hPs := hide (hPs.out.mono hb)
 replace hXs := hide (hXs.out.mono hb)
 have B6 := hide (bup B5.out hb)
 clear hb B5
 have hEE : (E != E) = false := by simp
 by_cases h0 : E = 0
 case neg =>
  obtain ⟨rfl, rfl, rfl, rfl, rfl⟩ := hno.out h0
  have hne : (E != 0) = true := by simpa using h0
  replace h0 := hide h0
  go_wp2_with fail
  go_ret
  exact ⟨rfl, B6.out⟩
 subst h0
 obtain rfl := hoz.out hE'.out.symm
 have hOv2 := hide (hOv.out rfl)
 clear hno hEE hoz hOv
 cases Bc with
 | true =>
  obtain ⟨rfl, rfl, hx1, hx2, hx3⟩ := hcut.out rfl rfl
  replace hx1 := hide hx1
  replace hx2 := hide hx2
  replace hx3 := hide hx3
  clear hcut hway
  go_wp2_with fail
  go_at_call 48
  refine (contains_int _ _ _ _ hXs.out).mono ?_
  rintro e w_ ⟨rfl, rfl⟩
  rw [hx1.out]
  go_wp2_with fail
  go_at_call 48
  refine (contains_int _ _ _ _ hXs.out).mono ?_
  rintro e w_ ⟨rfl, rfl⟩
  rw [hx2.out]
  go_wp2_with fail
  go_loopw [120] (fun i wr => ∃ k : Nat, k ≤ OV.length ∧ i = I k ∧ Hid (Below w6.heap.size w6 wr)) (fun i _ => OV.length - (intOf i).toNat)
  case atStart => exact ⟨0, Nat.zero_le _, rfl, hide (Below.refl _ _)⟩
  case round =>
   obtain ⟨k, hk, rfl, hbk⟩ := hrel
   have hb := hbk.out
   clear hbk
   have hb0 := hide hb
   replace kR := hide (kR.out.grow hb)
   replace kS := hide (kS.out.grow hb)
   replace hPs := hide (hPs.out.mono hb)
   replace hXs := hide (hXs.out.mono hb)
   replace hOs := hide (hOs.out.mono hb)
   have B7 := hide (bup B6.out hb)
   clear hb B6
   by_cases hlt : k < OV.length
   case neg =>
    obtain rfl : k = OV.length := by omega
    go_wp2_with fail
    go_ret
    exact ⟨rfl, B7.out⟩
   obtain ⟨b, off, rfl, hbx⟩ := hAO.out k hlt
   obtain ⟨no, hno⟩ := getElem?_of_lt hlt
   obtain ⟨zL, l0⟩ := hOs.out.int_at hno
   have k0 : (0 : Int) ≤ (k : Int) := by omega
   have k1 : (k : Int) < (OV.length : Int) := by omega
   obtain ⟨t, htm, rfl⟩ : ∃ t, t ∈ openF (hwF s day) ts ∧ t.no = no := by
    have := List.mem_of_getElem? hno
    rw [hOv2.out] at this
    obtain ⟨t, h1, h2⟩ := List.mem_map.1 this
    exact ⟨t, h1, h2⟩
   obtain ⟨p1, p2, -⟩ := hon.out hro.out t htm
   have hto := hor.out t.no
   rw [if_pos p1, p2] at hto
   have hxx := hx3.out t htm
   have JT2 := JT.out t.no
   simp only [hto, decide_eq_true p1] at JT2
   obtain ⟨Q, hQ⟩ : ∃ q, (X.any fun n => n == t.b) = q := ⟨_, rfl⟩
   rw [hQ] at hxx
   have J1 := hide (fun w' (hb : Below wr.heap.size wr w') => hxx ▸ contains_int _ _ t.a w' (hXs.out.mono hb))
   have J2 := hide (fun w' (hb : Below wr.heap.size wr w') => hQ ▸ contains_int _ _ t.b w' (hXs.out.mono hb))
   replace JT2 := hide JT2
   have hQQ : (Q != Q) = false := by simp
   replace hQ := hide hQ
   replace hxx := hide hxx
   replace htm := hide htm
   replace hno := hide hno
   replace hto := hide hto
   replace p1 := hide p1
   replace p2 := hide p2
   obtain ⟨r0, r1⟩ := kR.out.cells2
   have zR := kR.out.lt
   go_wp2_with fail
   clear r0 r1 zR
   clear zL l0
   have hbr := hide (Below.refl wr.heap.size wr)
   go_at_call 49
   refine (JT2.out _ B7.out).mono ?_
   rintro e w7 ⟨rfl, hb⟩
   replace hb0 := hide (bup hb0.out hb)
   replace hbr := hide (bup hbr.out hb)
   clear JT2
   replace kR := hide (kR.out.grow hb)
   replace kS := hide (kS.out.grow hb)
   replace hPs := hide (hPs.out.mono hb)
   replace hXs := hide (hXs.out.mono hb)
   replace hOs := hide (hOs.out.mono hb)
   have B8 := hide (bup B7.out hb)
   clear hb B7
   obtain ⟨wt, hwt, hb, kT⟩ := al1 w7 #[I t.no, I t.a, I t.b, I t.minutes, I t.cell, I t.steep] 74
   replace kT := hide kT
   replace hb0 := hide (bup hb0.out hb)
   replace hbr := hide (bup hbr.out hb)
   replace kR := hide (kR.out.grow hb)
   replace kS := hide (kS.out.grow hb)
   replace hPs := hide (hPs.out.mono hb)
   replace hXs := hide (hXs.out.mono hb)
   replace hOs := hide (hOs.out.mono hb)
   have B9 := hide (bup B8.out hb)
   clear hb B8
   go_upto_region 21 with fail
   rw [← hwt]
   clear hwt
   have t_0 : wt.cell? ⟨w7.heap.size, 0, none⟩ = some (I t.no) := kT.out.cell 0
   have t_1 : wt.cell? ⟨w7.heap.size, 1, none⟩ = some (I t.a) := kT.out.cell 1
   have t_2 : wt.cell? ⟨w7.heap.size, 2, none⟩ = some (I t.b) := kT.out.cell 2
   have t_3 : wt.cell? ⟨w7.heap.size, 3, none⟩ = some (I t.minutes) := kT.out.cell 3
   have t_4 : wt.cell? ⟨w7.heap.size, 4, none⟩ = some (I t.cell) := kT.out.cell 4
   have t_5 : wt.cell? ⟨w7.heap.size, 5, none⟩ = some (I t.steep) := kT.out.cell 5
   have zT := kT.out.lt
   (refine wp_grow ?_; (repeat go_big_quiet_step ((go_at_call 48; first | exact calls_grew_same (J1.out _ (bup hbr.out (Grew.below _))) | exact calls_grew_same (J2.out _ (bup hbr.out (Grew.below _)))))); refine wp_grow0 ?_; intro W1 hW1)
   go_wp2_with fail
   go_roundw
   case rel => exact ⟨k + 1, by omega, by go_num, hide (bup hb0.out hW1)⟩
   case measure => simp [intOf]; omega
 | false =>
  obtain ⟨rfl, hst, g1, g2, g3, g4, g5⟩ := hway.out rfl rfl
  clear hcut hway hXs hXl
  have hMM : (M != M) = false := by simp
  have htt : (til != til) = false := by simp
  have JB := fun w' hb => JW.out til frm w' hb
  simp only [g1, g2, g3] at JB
  replace JB := hide JB
  have JK2 := fun w' hb ho hl => JK.out (.slice AO OV.length nO) (.slice AP P.length nP) OV P hro.out w' hb ho hl
  simp only [hst, strollA, strollM, Option.isSome] at JK2
  replace JK2 := hide JK2
  replace g5 := hide g5
  obtain ⟨r0, r1⟩ := kR.out.cells2
  have zR := kR.out.lt
  go_wp2_with fail
  clear r0 r1 zR
  go_at_call 50
  refine (JK2.out _ B6.out hOs.out hPs.out).mono ?_
  rintro e w7 ⟨rfl, hb⟩
  replace kR := hide (kR.out.grow hb)
  replace kS := hide (kS.out.grow hb)
  replace hPs := hide (hPs.out.mono hb)
  replace hOs := hide (hOs.out.mono hb)
  have B7 := hide (bup B6.out hb)
  clear hb B6
  obtain ⟨r0, r1⟩ := kR.out.cells2
  have zR := kR.out.lt
  obtain ⟨q0, q1, q2, q3, q4, q5, q6, q7⟩ := kS.out.cells8
  have zS := kS.out.lt
  go_wp2_with fail
  clear r0 r1 zR q0 q1 q2 q3 q4 q5 q6 q7 zS
  go_at_call 31
  refine (JB.out _ B7.out).mono ?_
  rintro e w8 ⟨v6, rfl, -, hb⟩
  replace kR := hide (kR.out.grow hb)
  replace kS := hide (kS.out.grow hb)
  replace hPs := hide (hPs.out.mono hb)
  replace hOs := hide (hOs.out.mono hb)
  have B8 := hide (bup B7.out hb)
  clear hb B7
  have J1 := fun w' hb => JW.out frm by_ w' hb
  have J2 := fun w' hb => JW.out by_ til w' hb
  have g6 := g5.out by_
  have n1 := fun h => (way_no (ss := ss) (ts := ts) (s := s) (day := day) (frm := frm) (til := by_) h).2.1
  have n2 := fun h => (way_no (ss := ss) (ts := ts) (s := s) (day := day) (frm := by_) (til := til) h).2.1
  obtain ⟨e1, he1⟩ : ∃ q, wayE ss ts s day frm by_ = q := ⟨_, rfl⟩
  obtain ⟨e2, he2⟩ : ∃ q, wayE ss ts s day by_ til = q := ⟨_, rfl⟩
  obtain ⟨m1, hm1⟩ : ∃ q, wayM ss ts s day frm by_ = q := ⟨_, rfl⟩
  obtain ⟨m2, hm2⟩ : ∃ q, wayM ss ts s day by_ til = q := ⟨_, rfl⟩
  obtain ⟨b1, hb1⟩ : ∃ q, wayB ss ts s day frm by_ = q := ⟨_, rfl⟩
  obtain ⟨b2, hb2⟩ : ∃ q, wayB ss ts s day by_ til = q := ⟨_, rfl⟩
  simp only [he1, hm1, hb1] at J1
  simp only [he2, hm2, hb2] at J2
  rw [he1, he2, hm1, hm2, hb1, hb2] at g6
  clear he1 he2 hm1 hm2 hb1 hb2 n1 n2
  replace J1 := hide J1
  replace J2 := hide J2
  replace g6 := hide g6
  obtain ⟨r0, r1⟩ := kR.out.cells2
  have zR := kR.out.lt
  obtain ⟨q0, q1, q2, q3, q4, q5, q6, q7⟩ := kS.out.cells8
  have zS := kS.out.lt
  go_wp2_with fail
  clear r0 r1 zR q0 q1 q2 q3 q4 q5 q6 q7 zS
  go_at_call 31
  refine (J1.out _ B8.out).mono ?_
  rintro e w9 ⟨v7, rfl, -, hb⟩
  replace kR := hide (kR.out.grow hb)
  replace kS := hide (kS.out.grow hb)
  replace hPs := hide (hPs.out.mono hb)
  replace hOs := hide (hOs.out.mono hb)
  have B9 := hide (bup B8.out hb)
  clear hb B8
  obtain ⟨r0, r1⟩ := kR.out.cells2
  have zR := kR.out.lt
  obtain ⟨q0, q1, q2, q3, q4, q5, q6, q7⟩ := kS.out.cells8
  have zS := kS.out.lt
  go_wp2_with fail
  clear r0 r1 zR q0 q1 q2 q3 q4 q5 q6 q7 zS
  go_at_call 31
  refine (J2.out _ B9.out).mono ?_
  rintro e w10 ⟨v8, rfl, -, hb⟩
  replace kR := hide (kR.out.grow hb)
  replace kS := hide (kS.out.grow hb)
  replace hPs := hide (hPs.out.mono hb)
  replace hOs := hide (hOs.out.mono hb)
  have B10 := hide (bup B9.out hb)
  clear hb B9
  clear J1 J2 JB JW JK JK2 JT g5
  by_cases h1 : e1 = 0
  case neg =>
   have hne : (e1 != 0) = true := by simpa using h1
   replace h1 := hide h1
   go_wp2_with fail
   go_ret
   exact ⟨rfl, B10.out⟩
  subst h1
  by_cases h2 : e2 = 0
  case neg =>
   have hne : (e2 != 0) = true := by simpa using h2
   replace h2 := hide h2
   go_wp2_with fail
   go_ret
   exact ⟨rfl, B10.out⟩
  subst h2
  cases b1 with
  | false =>
   go_wp2_with fail
   go_ret
   exact ⟨rfl, B10.out⟩
  | true =>
  cases b2 with
  | false =>
   go_wp2_with fail
   go_ret
   exact ⟨rfl, B10.out⟩
  | true =>
  obtain ⟨⟨g7, g8⟩, ⟨g9, g10⟩, g11⟩ := g6.out rfl rfl rfl rfl
  have hd : decide (M ≤ m1 + m2) = true := decide_eq_true g11
  clear g6
  go_wp2_with fail
  go_ret
  exact ⟨rfl, B10.out⟩
end Go.Proofs.YtgbbljfmngmjeaaGreat
