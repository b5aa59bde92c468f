/- The law CrewTrips: what Trip returns is accepted, and quickest; with a course less no trip takes longer. Conditions stand in the theorem. -/
import Derived.Test.YtgbbljfmngmjeaaGreatSane7
import Derived.Test.YtgbbljfmngmjeaaGreatFine7
import Derived.Test.YtgbbljfmngmjeaaGreatCrewTourPack
import Derived.Test.YtgbbljfmngmjeaaGreatDel7
import Derived.Test.YtgbbljfmngmjeaaGreatCrew9Pack
import Derived.Test.YtgbbljfmngmjeaaGreatIndexFuncPack
set_option linter.all false
set_option maxHeartbeats 16000000
set_option maxRecDepth 100000
namespace Go.Proofs.YtgbbljfmngmjeaaGreat
open Go.RowKit
theorem law_CrewTrips (vs vt : Value) (ss : List Site) (ts : List Track) (s : Scene) (V : SceneV) (c : Crew) (day : Int) (vl : Value) (l : List Int) (vk : Value) (cs : List Int) (leave : Int) (w : World) (hs : Sl w 3 Site.cells vs ss) (ht : Sl w 6 Track.cells vt ts) (hS : SceneAt w s V) (hl : Sl w 1 intC vl l) (hk : Sl w 1 intC vk cs) :
  Calls Tryz.prog 14 #[.agg #[vs, vt], s.v V, .agg #[I c.hut, I c.work, I c.load], I day, vl, vk, I leave] w fun e w' => e = .returned (.bool true) ∧ Below w.heap.size w w' := by
 have JF := fun w' (hb : Below w.heap.size w w') => law7_fine vs vt ss ts s V w' (hs.mono hb) (ht.mono hb) (hS.mono hb)
 have JT := fun vk cs w' (hb : Below w.heap.size w w') hk => crew_Trip vs vt vk ss ts s V c day cs w' (hs.mono hb) (ht.mono hb) (hS.mono hb) hk
 have JC := fun vl l vk cs w' (hb : Below w.heap.size w w') hl hk => crew_CheckTrip vs vt vl vk ss ts s V c day l cs w' (hs.mono hb) (ht.mono hb) (hS.mono hb) hl hk
 have JM := fun vl l vk cs w' (hb : Below w.heap.size w w') hl hk => crew_Minutes vs vt vl vk ss ts c l cs w' (hs.mono hb) (ht.mono hb) hl hk
 have hls := hide hl
 have hks := hide hk
 obtain ⟨D, nl, rfl, _, _, hll, -⟩ := hl.open_
 obtain ⟨D', nk, rfl, _, _, hlk, -⟩ := hk.open_
 obtain ⟨Ac, nc, hcc, -⟩ := hS.cells.open_
 obtain ⟨Ap, np, hpp, -⟩ := hS.pairs.open_
 obtain ⟨Ad, nd, hdd, -⟩ := hS.days.open_
 obtain ⟨As, ns, hsi, -⟩ := hS.sights.open_
 obtain ⟨Ah, nh, hch, -⟩ := hS.changes.open_
 obtain ⟨A, n, rfl, -⟩ := hs.open_
 obtain ⟨A', n', rfl, -⟩ := ht.open_
 unfold Scene.v at *
 simp only [hcc, hpp, hdd, hsi, hch] at JF JT JC ⊢
 clear hcc hpp hdd hsi hch
 obtain ⟨F, hF⟩ : ∃ q, fineB ss ts s = q := ⟨_, rfl⟩
 rw [hF] at JF
 have hbad := hide (fun h => trip_bad (ss := ss) (ts := ts) (s := s) (c := c) (day := day) (cs := cs) h)
 have hnon := hide (fun h h2 => trip_none (ss := ss) (ts := ts) (s := s) (c := c) (day := day) (cs := cs) h h2)
 have hgood := hide (fun h a j h2 => trip_good (ss := ss) (ts := ts) (s := s) (c := c) (day := day) (cs := cs) h (a := a) (j := j) h2)
 have hless := hide (fun h a j h2 => trip_less (ss := ss) (ts := ts) (s := s) (c := c) (day := day) (cs := cs) h (a := a) (j := j) h2)
 have hday := hide (fun h => trip_day (ss := ss) (ts := ts) (s := s) (c := c) (day := day) (cs := cs) h)
 have JT1 := fun w' hb hk => JT (.slice D' cs.length nk) cs w' hb hk
 have JC1 := fun w' hb hl hk => JC (.slice D l.length nl) l (.slice D' cs.length nk) cs w' hb hl hk
 have JM1 := fun w' hb hl hk => JM (.slice D l.length nl) l (.slice D' cs.length nk) cs w' hb hl hk
 obtain ⟨TE, hTE⟩ : ∃ q, tripE ss ts s c day cs = q := ⟨_, rfl⟩
 obtain ⟨TB, hTB⟩ : ∃ q, tripB ss ts s c day cs = q := ⟨_, rfl⟩
 obtain ⟨TV, hTV⟩ : ∃ q, tripV ss ts s c day cs = q := ⟨_, rfl⟩
 obtain ⟨TF, hTF⟩ : ∃ q, tripF ss ts s c day cs = q := ⟨_, rfl⟩
 obtain ⟨CE, hCE⟩ : ∃ q, checkE ss ts s c day l cs = q := ⟨_, rfl⟩
 replace hbad := hide ((fun h => ⟨(hbad.out h).1, (hbad.out h).2.1, (hbad.out h).2.2 l⟩ : tripE ss ts s c day cs ≠ 0 → tripB ss ts s c day cs = false ∧ tripV ss ts s c day cs = [] ∧ checkE ss ts s c day l cs ≠ 0))
 replace hnon := hide ((fun h h2 => ⟨(hnon.out h h2).1, (hnon.out h h2).2.1, (hnon.out h h2).2.2 l⟩ : tripE ss ts s c day cs = 0 → tripF ss ts s c day cs = none → tripB ss ts s c day cs = false ∧ tripV ss ts s c day cs = [] ∧ checkE ss ts s c day l cs ≠ 0))
 replace hgood := hide ((fun h a j h2 => have g := hgood.out h a j h2; ⟨g.1, g.2.1, g.2.2.1, g.2.2.2.1, g.2.2.2.2.1, g.2.2.2.2.2.2.1 l, g.2.2.2.2.2.2.2.2⟩ : tripE ss ts s c day cs = 0 → ∀ a j, tripF ss ts s c day cs = some (a, j) → tripB ss ts s c day cs = true ∧ checkE ss ts s c day (tripV ss ts s c day cs) cs = 0 ∧ minutesE ss ts c (tripV ss ts s c day cs) cs = 0 ∧ minutesV ss ts c (tripV ss ts s c day cs) cs ≤ lightF day ∧ (tripV ss ts s c day cs).length ≤ 64 ∧
  (checkE ss ts s c day l cs = 0 → minutesE ss ts c l cs = 0 ∧ minutesV ss ts c (tripV ss ts s c day cs) cs ≤ minutesV ss ts c l cs) ∧ (cs = [] → tripV ss ts s c day cs = [] ∧ minutesV ss ts c (tripV ss ts s c day cs) cs = 0)))
 simp only [hTE, hTB, hTV] at JT1
 simp only [hCE] at JC1
 rw [hTE, hTB, hTV, hCE] at hbad
 rw [hTE, hTF, hTB, hTV, hCE] at hnon
 rw [hTE, hTF, hTB, hTV, hCE] at hgood
 rw [hTE, hTF, hTV] at hless
 rw [hTE] at hday
 obtain ⟨m0, hm0⟩ : ∃ q, minutesV ss ts c TV cs = q := ⟨_, rfl⟩
 obtain ⟨m1, hm1⟩ : ∃ q, minutesV ss ts c l cs = q := ⟨_, rfl⟩
 obtain ⟨e1, he1⟩ : ∃ q, minutesE ss ts c l cs = q := ⟨_, rfl⟩
 obtain ⟨e0, he0⟩ : ∃ q, minutesE ss ts c TV cs = q := ⟨_, rfl⟩
 obtain ⟨ce0, hce0⟩ : ∃ q, checkE ss ts s c day TV cs = q := ⟨_, rfl⟩
 rw [hm0, hm1, he1, he0, hce0] at hgood
 simp only [hm0] at hless
 simp only [hm1, he1] at JM1
 have JC2 := fun vl w' hb hl hk => JC vl TV (.slice D' cs.length nk) cs w' hb hl hk
 have JM2 := fun vl w' hb hl hk => JM vl TV (.slice D' cs.length nk) cs w' hb hl hk
 simp only [hce0] at JC2
 simp only [hm0, he0] at JM2
 clear hTE hTB hTV hTF hCE hm0 hm1 he1 he0 hce0 hF hs ht hS hl hk JC
 replace JF := hide JF
 replace JT := hide JT
 replace JT1 := hide JT1
 replace JC1 := hide JC1
 replace JC2 := hide JC2
 replace JM := hide JM
 replace JM1 := hide JM1
 replace JM2 := hide JM2
 have JS := hide law_sane7
 obtain ⟨w1, hw1, hb, kR, kS, kC⟩ := al3 w #[.slice A ss.length n, .slice A' ts.length n'] 25 (s8 s Ac nc Ap np Ad nd As ns Ah nh) 42 #[I c.hut, I c.work, I c.load] 44
 replace kR := hide kR
 replace kS := hide kS
 replace kC := hide kC
 have B1 := hide hb
 clear hb
 replace hls := hide (hls.out.mono B1.out)
 replace hks := hide (hks.out.mono B1.out)
 go_enter Tryz.func14, Tryz.ntmps14
 go_wp2_with fail
 rw [← hw1]
 clear hw1
 go_wp2_with fail
 go_at_call 16
 refine (JS.out _).mono ?_
 rintro e w2 ⟨rfl, hb⟩
 replace kR := hide (kR.out.grow hb)
 replace kS := hide (kS.out.grow hb)
 replace kC := hide (kC.out.grow hb)
 replace hls := hide (hls.out.mono hb)
 replace hks := hide (hks.out.mono hb)
 have B2 := hide (bup B1.out hb)
 clear hb B1
 obtain ⟨r0, r1⟩ := kR.out.cells2
 have zR := kR.out.lt
 obtain ⟨q0, q1, q2, q3, q4, q5, q6, q7⟩ := kS.out.cells8
 have zS := kS.out.lt
 go_wp2_with fail
 clear r0 r1 zR q0 q1 q2 q3 q4 q5 q6 q7 zS
 go_at_call 46
 refine (JF.out _ B2.out).mono ?_
 rintro e w3 ⟨rfl, hb⟩
 replace kR := hide (kR.out.grow hb)
 replace kS := hide (kS.out.grow hb)
 replace kC := hide (kC.out.grow hb)
 replace hls := hide (hls.out.mono hb)
 replace hks := hide (hks.out.mono hb)
 have B3 := hide (bup B2.out hb)
 clear hb B2
 cases F with
 | false =>
  go_wp2_with fail
  go_ret
  exact ⟨rfl, B3.out⟩
 | true =>
 clear JF JS
 by_cases hc4 : 4 < cs.length
 case pos =>
  have hd : decide ((4 : Int) < cs.length) = true := decide_eq_true (by omega)
  clear hc4
  go_wp2_with fail
  go_ret
  exact ⟨rfl, B3.out⟩
 have hd4 : decide ((4 : Int) < cs.length) = false := decide_eq_false (by omega)
 by_cases hc5 : 64 < l.length
 case pos =>
  have hd : decide ((64 : Int) < l.length) = true := decide_eq_true (by omega)
  clear hc5
  go_wp2_with fail
  go_ret
  exact ⟨rfl, B3.out⟩
 have hd5 : decide ((64 : Int) < l.length) = false := decide_eq_false (by omega)
 replace hc4 := hide hc4
 replace hc5 := hide hc5
 obtain ⟨r0, r1⟩ := kR.out.cells2
 have zR := kR.out.lt
 obtain ⟨q0, q1, q2, q3, q4, q5, q6, q7⟩ := kS.out.cells8
 have zS := kS.out.lt
 obtain ⟨c_0, c_1, c_2⟩ := kC.out.cells3
 have zC := kC.out.lt
 go_wp2_with fail
 clear r0 r1 zR q0 q1 q2 q3 q4 q5 q6 q7 zS c_0 c_1 c_2 zC
 have hTl : TV.length ≤ 64 := by
  by_cases h : TE = 0
  case neg => rw [(hbad.out h).2.1]; simp
  rcases hx : TF with _ | ⟨a, j⟩
  ·rw [(hnon.out h hx).2.1]; simp
  ·exact (hgood.out h a j hx).2.2.2.2.1
 go_at_call 40
 refine (JT1.out _ B3.out hks.out).mono ?_
 rintro e w4 ⟨v2, rfl, hO, hb⟩
 have hTs := hO.sl intC_len (by omega)
 obtain ⟨AT, nT, rfl, -⟩ := hTs.open_
 replace hTs := hide hTs
 clear hO JT1
 replace kR := hide (kR.out.grow hb)
 replace kS := hide (kS.out.grow hb)
 replace kC := hide (kC.out.grow hb)
 replace hls := hide (hls.out.mono hb)
 replace hks := hide (hks.out.mono hb)
 have B4 := hide (bup B3.out hb)
 clear hb B3
 obtain ⟨r0, r1⟩ := kR.out.cells2
 have zR := kR.out.lt
 obtain ⟨q0, q1, q2, q3, q4, q5, q6, q7⟩ := kS.out.cells8
 have zS := kS.out.lt
 obtain ⟨c_0, c_1, c_2⟩ := kC.out.cells3
 have zC := kC.out.lt
 go_wp2_with fail
 clear r0 r1 zR q0 q1 q2 q3 q4 q5 q6 q7 zS c_0 c_1 c_2 zC
 go_at_call 38
 refine (JC1.out _ B4.out hls.out hks.out).mono ?_
 rintro e w5 ⟨rfl, hb⟩
 replace kR := hide (kR.out.grow hb)
 replace kS := hide (kS.out.grow hb)
 replace kC := hide (kC.out.grow hb)
 replace hls := hide (hls.out.mono hb)
 replace hks := hide (hks.out.mono hb)
 replace hTs := hide (hTs.out.mono hb)
 have B5 := hide (bup B4.out hb)
 clear hb B4
 clear JC1
 by_cases h0 : TE = 0
 case neg =>
  obtain ⟨rfl, rfl, hc⟩ := hbad.out h0
  have hne : (TE != 0) = true := by simpa using h0
  have hce : (CE == 0) = false := by simpa using hc
  replace h0 := hide h0
  replace hc := hide hc
  clear hgood hnon hbad hless
  go_wp2_with fail
  go_ret
  exact ⟨rfl, B5.out⟩
 subst h0
 clear hbad
 rcases TF with _ | ⟨a, j⟩
 case none =>
  obtain ⟨rfl, rfl, hc⟩ := hnon.out rfl rfl
  have hce : (CE == 0) = false := by simpa using hc
  replace hc := hide hc
  clear hgood hnon hless
  go_wp2_with fail
  go_ret
  exact ⟨rfl, B5.out⟩
 obtain ⟨rfl, rfl, rfl, g4, -, g6, g7⟩ := hgood.out rfl a j rfl
 have JL : ∀ w, Calls Tryz.prog 17 #[I day] w fun e w' => e = .returned (.tuple #[I (lightF day), I 0]) ∧ w = w' := fun w => by
  have h := crew_Light day w
  rw [(hday.out rfl).1, (hday.out rfl).2] at h
  exact h
 replace hless := hide (hless.out rfl a j rfl)
 obtain ⟨LL, hLL⟩ : ∃ q, lightF day = q := ⟨_, rfl⟩
 rw [hLL] at JL g4
 have hdl : decide (LL < m0) = false := decide_eq_false (by omega)
 replace hLL := hide hLL
 replace JL := hide JL
 replace g6 := hide g6
 replace g7 := hide g7
 clear hgood hnon hday g4
 obtain ⟨r0, r1⟩ := kR.out.cells2
 have zR := kR.out.lt
 obtain ⟨c_0, c_1, c_2⟩ := kC.out.cells3
 have zC := kC.out.lt
 go_wp2_with fail
 clear r0 r1 zR c_0 c_1 c_2 zC
 go_at_call 36
 refine (JM2.out _ _ B5.out hTs.out hks.out).mono ?_
 rintro e w6 ⟨rfl, hb⟩
 replace kR := hide (kR.out.grow hb)
 replace kS := hide (kS.out.grow hb)
 replace kC := hide (kC.out.grow hb)
 replace hls := hide (hls.out.mono hb)
 replace hks := hide (hks.out.mono hb)
 replace hTs := hide (hTs.out.mono hb)
 have B6 := hide (bup B5.out hb)
 clear hb B5
 go_wp2_with fail
 go_at_call 17
 refine (JL.out _).mono ?_
 rintro e w_ ⟨rfl, rfl⟩
 obtain ⟨r0, r1⟩ := kR.out.cells2
 have zR := kR.out.lt
 obtain ⟨q0, q1, q2, q3, q4, q5, q6, q7⟩ := kS.out.cells8
 have zS := kS.out.lt
 obtain ⟨c_0, c_1, c_2⟩ := kC.out.cells3
 have zC := kC.out.lt
 go_wp2_with fail
 clear r0 r1 zR q0 q1 q2 q3 q4 q5 q6 q7 zS c_0 c_1 c_2 zC
 go_at_call 38
 refine (JC2.out _ _ B6.out hTs.out hks.out).mono ?_
 rintro e w7 ⟨rfl, hb⟩
 replace kR := hide (kR.out.grow hb)
 replace kS := hide (kS.out.grow hb)
 replace kC := hide (kC.out.grow hb)
 replace hls := hide (hls.out.mono hb)
 replace hks := hide (hks.out.mono hb)
 replace hTs := hide (hTs.out.mono hb)
 have B7 := hide (bup B6.out hb)
 clear hb B6
 obtain ⟨r0, r1⟩ := kR.out.cells2
 have zR := kR.out.lt
 obtain ⟨c_0, c_1, c_2⟩ := kC.out.cells3
 have zC := kC.out.lt
 go_wp2_with fail
 clear r0 r1 zR c_0 c_1 c_2 zC
 go_at_call 36
 refine (JM1.out _ B7.out hls.out hks.out).mono ?_
 rintro e w8 ⟨rfl, hb⟩
 replace kR := hide (kR.out.grow hb)
 replace kS := hide (kS.out.grow hb)
 replace kC := hide (kC.out.grow hb)
 replace hls := hide (hls.out.mono hb)
 replace hks := hide (hks.out.mono hb)
 replace hTs := hide (hTs.out.mono hb)
 have B8 := hide (bup B7.out hb)
 clear hb B7
 clear JM1 JM2 JC2 JL
 have hsel : ((CE == 0) = true ∧ (e1 != 0) = false ∧ decide (m1 < m0) = false) ∨ (CE == 0) = false := by
  by_cases h : CE = 0
  ·obtain ⟨h1, h2⟩ := g6.out h
   exact .inl ⟨by simpa using h, by simpa using h1, decide_eq_false (by omega)⟩
  ·exact .inr (by simpa using h)
 have hcs : cs = [] ∨ 0 < cs.length := by
  rcases cs with _ | ⟨x, cs⟩
  ·exact .inl rfl
  ·exact .inr (by simp)
 rcases hcs with hcs | hcs
 case inl =>
  subst hcs
  obtain ⟨rfl, rfl⟩ := g7.out rfl
  rcases hsel with ⟨i1, i2, i3⟩ | i1
  case inl =>
   go_wp2_with fail
   go_ret
   exact ⟨rfl, B8.out⟩
  case inr =>
   go_wp2_with fail
   go_ret
   exact ⟨rfl, B8.out⟩
 have hcz : ((cs.length : Int) == 0) = false := by simpa using (by omega : ¬ (cs.length : Int) = 0)
 have hcn : ¬ cs = [] := by rintro rfl; simp at hcs
 clear g7 g6
 have hcl4 : cs.length ≤ 4 := by have := hc4.out; omega
 replace hcn := hide hcn
 rcases hsel with ⟨i1, i2, i3⟩ | i1
 case inl =>
  go_upto_region 20 with fail
  go_cut [24] from 146 (fun k_ w_ => ∃ k : Nat, k_ = I k ∧ k < cs.length ∧ w8 = w_)
  case first =>
   by_cases g : leave < 0
   ·have g2 : ¬ (cs.length : Int) - 1 < 0 := by omega
    go_wp2_with fail
    go_meet
    exact ⟨0, congrArg I (by first | rfl | omega), by omega, rfl⟩
   ·by_cases g2 : (cs.length : Int) - 1 < leave
    ·go_wp2_with fail
     go_meet
     exact ⟨cs.length - 1, congrArg I (by omega), by omega, rfl⟩
    ·go_wp2_with fail
     go_meet
     exact ⟨leave.toNat, congrArg I (by omega), by omega, rfl⟩
  case rest =>
  obtain ⟨k, rfl, hkl, hweq⟩ := hcut
  subst hweq
  have hkb : (k : Int) < (cs.length : Int) := by omega
  have hk0 : (0 : Int) ≤ (k : Int) := by omega
  have hkc : (k : Int) ≤ 3 := by omega
  have hk2 : (cs.length : Int) ≤ 4 := by omega
  obtain ⟨q1, q2, q3, q4, q5⟩ := hless.out k
  have JT3 := fun vk w' hb hk => JT.out vk (cs.eraseIdx k) w' hb hk
  have JM3 := fun vl vk w' hb hl hk => JM.out vl (tripV ss ts s c day (cs.eraseIdx k)) vk (cs.eraseIdx k) w' hb hl hk
  have hel : (cs.eraseIdx k).length ≤ 4 := Nat.le_trans (List.length_eraseIdx_le ..) hcl4
  simp only [q1, q2] at JT3
  simp only [q3] at JM3
  obtain ⟨T2, hT2⟩ : ∃ q, tripV ss ts s c day (cs.eraseIdx k) = q := ⟨_, rfl⟩
  obtain ⟨C2, hC2⟩ : ∃ q, cs.eraseIdx k = q := ⟨_, rfl⟩
  simp only [hT2] at JT3 JM3 q4 q5
  simp only [hC2] at JT3 JM3 q4 hel
  obtain ⟨m2, hm2⟩ : ∃ q, minutesV ss ts c T2 C2 = q := ⟨_, rfl⟩
  simp only [hm2] at JM3 q4
  have hd2 : decide (m2 ≤ m0) = true := decide_eq_true q4
  replace JT3 := hide JT3
  replace JM3 := hide JM3
  replace hT2 := hide hT2
  replace hC2 := hide hC2
  replace hm2 := hide hm2
  clear q1 q2 q3 q4 JT JM
  go_wp2_with fail
  go_at_call 68
  refine (clone_int _ cs _ hks.out (by omega)).mono ?_
  rintro e w9 ⟨v9, rfl, hO, -, hb9⟩
  obtain ⟨gC, cC, rfl, hgC, hgC2⟩ := hO.full (by omega)
  have JD := hide (int_delete w9 hO hkl (by omega))
  replace hb9 := hide hb9
  clear hO
  go_wp2_with fail
  go_at_call 67
  refine JD.out.mono ?_
  rintro e wd ⟨v10, rfl, hFs, hbd⟩
  have hb := hb9.out.trans hbd
  rw [hC2.out] at hFs
  obtain ⟨AF, nF, rfl, -⟩ := hFs.open_
  replace hFs := hide hFs
  clear hbd JD hb9 hgC hgC2
  replace kR := hide (kR.out.grow hb)
  replace kS := hide (kS.out.grow hb)
  replace kC := hide (kC.out.grow hb)
  replace hls := hide (hls.out.mono hb)
  replace hks := hide (hks.out.mono hb)
  replace hTs := hide (hTs.out.mono hb)
  have B9 := hide (bup B8.out hb)
  clear hb B8
  obtain ⟨r0, r1⟩ := kR.out.cells2
  have zR := kR.out.lt
  obtain ⟨q0, q1, q2, q3, q4, q5, q6, q7⟩ := kS.out.cells8
  have zS := kS.out.lt
  obtain ⟨c_0, c_1, c_2⟩ := kC.out.cells3
  have zC := kC.out.lt
  go_wp2_with fail
  clear r0 r1 zR q0 q1 q2 q3 q4 q5 q6 q7 zS c_0 c_1 c_2 zC
  go_at_call 40
  refine (JT3.out _ _ B9.out hFs.out).mono ?_
  rintro e w11 ⟨v11, rfl, hO, hb⟩
  have hPs := hO.sl intC_len (by omega)
  obtain ⟨AP, nP, rfl, -⟩ := hPs.open_
  replace hPs := hide hPs
  clear hO JT3
  replace kR := hide (kR.out.grow hb)
  replace kS := hide (kS.out.grow hb)
  replace kC := hide (kC.out.grow hb)
  replace hls := hide (hls.out.mono hb)
  replace hks := hide (hks.out.mono hb)
  replace hTs := hide (hTs.out.mono hb)
  replace hFs := hide (hFs.out.mono hb)
  have B10 := hide (bup B9.out hb)
  clear hb B9
  obtain ⟨r0, r1⟩ := kR.out.cells2
  have zR := kR.out.lt
  obtain ⟨c_0, c_1, c_2⟩ := kC.out.cells3
  have zC := kC.out.lt
  go_wp2_with fail
  clear r0 r1 zR c_0 c_1 c_2 zC
  go_at_call 36
  refine (JM3.out _ _ _ B10.out hPs.out hFs.out).mono ?_
  rintro e w12 ⟨rfl, hb⟩
  replace kR := hide (kR.out.grow hb)
  replace kS := hide (kS.out.grow hb)
  replace kC := hide (kC.out.grow hb)
  replace hls := hide (hls.out.mono hb)
  replace hks := hide (hks.out.mono hb)
  replace hTs := hide (hTs.out.mono hb)
  replace hFs := hide (hFs.out.mono hb)
  replace hPs := hide (hPs.out.mono hb)
  have B11 := hide (bup B10.out hb)
  clear hb B10
  go_wp2_with fail
  go_ret
  exact ⟨rfl, B11.out⟩
 case inr =>
  go_upto_region 20 with fail
  go_cut [24] from 146 (fun k_ w_ => ∃ k : Nat, k_ = I k ∧ k < cs.length ∧ w8 = w_)
  case first =>
   by_cases g : leave < 0
   ·have g2 : ¬ (cs.length : Int) - 1 < 0 := by omega
    go_wp2_with fail
    go_meet
    exact ⟨0, congrArg I (by first | rfl | omega), by omega, rfl⟩
   ·by_cases g2 : (cs.length : Int) - 1 < leave
    ·go_wp2_with fail
     go_meet
     exact ⟨cs.length - 1, congrArg I (by omega), by omega, rfl⟩
    ·go_wp2_with fail
     go_meet
     exact ⟨leave.toNat, congrArg I (by omega), by omega, rfl⟩
  case rest =>
  obtain ⟨k, rfl, hkl, hweq⟩ := hcut
  subst hweq
  have hkb : (k : Int) < (cs.length : Int) := by omega
  have hk0 : (0 : Int) ≤ (k : Int) := by omega
  have hkc : (k : Int) ≤ 3 := by omega
  have hk2 : (cs.length : Int) ≤ 4 := by omega
  obtain ⟨q1, q2, q3, q4, q5⟩ := hless.out k
  have JT3 := fun vk w' hb hk => JT.out vk (cs.eraseIdx k) w' hb hk
  have JM3 := fun vl vk w' hb hl hk => JM.out vl (tripV ss ts s c day (cs.eraseIdx k)) vk (cs.eraseIdx k) w' hb hl hk
  have hel : (cs.eraseIdx k).length ≤ 4 := Nat.le_trans (List.length_eraseIdx_le ..) hcl4
  simp only [q1, q2] at JT3
  simp only [q3] at JM3
  obtain ⟨T2, hT2⟩ : ∃ q, tripV ss ts s c day (cs.eraseIdx k) = q := ⟨_, rfl⟩
  obtain ⟨C2, hC2⟩ : ∃ q, cs.eraseIdx k = q := ⟨_, rfl⟩
  simp only [hT2] at JT3 JM3 q4 q5
  simp only [hC2] at JT3 JM3 q4 hel
  obtain ⟨m2, hm2⟩ : ∃ q, minutesV ss ts c T2 C2 = q := ⟨_, rfl⟩
  simp only [hm2] at JM3 q4
  have hd2 : decide (m2 ≤ m0) = true := decide_eq_true q4
  replace JT3 := hide JT3
  replace JM3 := hide JM3
  replace hT2 := hide hT2
  replace hC2 := hide hC2
  replace hm2 := hide hm2
  clear q1 q2 q3 q4 JT JM
  go_wp2_with fail
  go_at_call 68
  refine (clone_int _ cs _ hks.out (by omega)).mono ?_
  rintro e w9 ⟨v9, rfl, hO, -, hb9⟩
  obtain ⟨gC, cC, rfl, hgC, hgC2⟩ := hO.full (by omega)
  have JD := hide (int_delete w9 hO hkl (by omega))
  replace hb9 := hide hb9
  clear hO
  go_wp2_with fail
  go_at_call 67
  refine JD.out.mono ?_
  rintro e wd ⟨v10, rfl, hFs, hbd⟩
  have hb := hb9.out.trans hbd
  rw [hC2.out] at hFs
  obtain ⟨AF, nF, rfl, -⟩ := hFs.open_
  replace hFs := hide hFs
  clear hbd JD hb9 hgC hgC2
  replace kR := hide (kR.out.grow hb)
  replace kS := hide (kS.out.grow hb)
  replace kC := hide (kC.out.grow hb)
  replace hls := hide (hls.out.mono hb)
  replace hks := hide (hks.out.mono hb)
  replace hTs := hide (hTs.out.mono hb)
  have B9 := hide (bup B8.out hb)
  clear hb B8
  obtain ⟨r0, r1⟩ := kR.out.cells2
  have zR := kR.out.lt
  obtain ⟨q0, q1, q2, q3, q4, q5, q6, q7⟩ := kS.out.cells8
  have zS := kS.out.lt
  obtain ⟨c_0, c_1, c_2⟩ := kC.out.cells3
  have zC := kC.out.lt
  go_wp2_with fail
  clear r0 r1 zR q0 q1 q2 q3 q4 q5 q6 q7 zS c_0 c_1 c_2 zC
  go_at_call 40
  refine (JT3.out _ _ B9.out hFs.out).mono ?_
  rintro e w11 ⟨v11, rfl, hO, hb⟩
  have hPs := hO.sl intC_len (by omega)
  obtain ⟨AP, nP, rfl, -⟩ := hPs.open_
  replace hPs := hide hPs
  clear hO JT3
  replace kR := hide (kR.out.grow hb)
  replace kS := hide (kS.out.grow hb)
  replace kC := hide (kC.out.grow hb)
  replace hls := hide (hls.out.mono hb)
  replace hks := hide (hks.out.mono hb)
  replace hTs := hide (hTs.out.mono hb)
  replace hFs := hide (hFs.out.mono hb)
  have B10 := hide (bup B9.out hb)
  clear hb B9
  obtain ⟨r0, r1⟩ := kR.out.cells2
  have zR := kR.out.lt
  obtain ⟨c_0, c_1, c_2⟩ := kC.out.cells3
  have zC := kC.out.lt
  go_wp2_with fail
  clear r0 r1 zR c_0 c_1 c_2 zC
  go_at_call 36
  refine (JM3.out _ _ _ B10.out hPs.out hFs.out).mono ?_
  rintro e w12 ⟨rfl, hb⟩
  replace kR := hide (kR.out.grow hb)
  replace kS := hide (kS.out.grow hb)
  replace kC := hide (kC.out.grow hb)
  replace hls := hide (hls.out.mono hb)
  replace hks := hide (hks.out.mono hb)
  replace hTs := hide (hTs.out.mono hb)
  replace hFs := hide (hFs.out.mono hb)
  replace hPs := hide (hPs.out.mono hb)
  have B11 := hide (bup B10.out hb)
  clear hb B10
  go_wp2_with fail
  go_ret
  exact ⟨rfl, B11.out⟩
end Go.Proofs.YtgbbljfmngmjeaaGreat
