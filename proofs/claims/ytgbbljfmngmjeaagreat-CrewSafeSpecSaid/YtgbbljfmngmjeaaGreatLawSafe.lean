/- The law CrewSafeSpec: Safe and Open match the specification. Conditions stand in the theorem. -/
import Derived.Test.YtgbbljfmngmjeaaGreatSane7
import Derived.Test.YtgbbljfmngmjeaaGreatFine7
import Derived.Test.YtgbbljfmngmjeaaGreatCrewSafePack
import Derived.Test.YtgbbljfmngmjeaaGreatIndexFuncPack
set_option linter.all false
set_option maxHeartbeats 16000000
set_option maxRecDepth 100000
namespace Go.Proofs.YtgbbljfmngmjeaaGreat
open Go.RowKit
theorem law_CrewSafeSpec (vs vt : Value) (ss : List Site) (ts : List Track) (s : Scene) (V : SceneV) (no : Int) (day : Int) (w : World) (hs : Sl w 3 Site.cells vs ss) (ht : Sl w 6 Track.cells vt ts) (hS : SceneAt w s V) :
  Calls Tryz.prog 13 #[.agg #[vs, vt], s.v V, I no, I day] w fun e w' => e = .returned (.bool true) ∧ Below w.heap.size w w' := by
 have JF := fun w' (hb : Below w.heap.size w w') => law7_skip vs vt ss ts s V w' (hs.mono hb) (ht.mono hb) (hS.mono hb)
 have J1 := fun w' (hb : Below w.heap.size w w') => crew_Safe vs vt ss ts s V no day w' (hs.mono hb) (ht.mono hb) (hS.mono hb)
 have J2 := fun w' (hb : Below w.heap.size w w') => ref7_Safe vs vt ss ts s V no day w' (hs.mono hb) (ht.mono hb) (hS.mono hb)
 have J3 := fun w' (hb : Below w.heap.size w w') => crew_Open vs vt ss ts s V day w' (hs.mono hb) (ht.mono hb) (hS.mono hb)
 have J4 := fun w' (hb : Below w.heap.size w w') => ref7_Open vs vt ss ts s V day w' (hs.mono hb) (ht.mono hb) (hS.mono hb)
 have hOl : (openV ss ts s day).length ≤ 48 := by
  unfold openV
  split
  ·rename_i h
   obtain ⟨hr, _⟩ := seen_zero h
   rw [List.length_map]
   exact Nat.le_trans (openF_len _ _) hr.n2
  ·simp
 obtain ⟨Ac, nc, hcc, -⟩ := hS.cells.open_
 obtain ⟨Ap, np, hpp, -⟩ := hS.pairs.open_
 obtain ⟨Ad, nd, hdd, -⟩ := hS.days.open_
 obtain ⟨As, ns, hsi, -⟩ := hS.sights.open_
 obtain ⟨Ah, nh, hch, -⟩ := hS.changes.open_
 obtain ⟨A, n, rfl, -⟩ := hs.open_
 obtain ⟨A', n', rfl, -⟩ := ht.open_
 unfold Scene.v at *
 simp only [hcc, hpp, hdd, hsi, hch] at JF J1 J2 J3 J4 ⊢
 clear hcc hpp hdd hsi hch
 obtain ⟨F, hF⟩ : ∃ q, skipB ss ts s = q := ⟨_, rfl⟩
 obtain ⟨SE, hSE⟩ : ∃ q, safeE ss ts s day no = q := ⟨_, rfl⟩
 obtain ⟨SV, hSV⟩ : ∃ q, safeV ss ts s day no = q := ⟨_, rfl⟩
 obtain ⟨OE, hOE⟩ : ∃ q, openE ss ts s day = q := ⟨_, rfl⟩
 obtain ⟨OV, hOV⟩ : ∃ q, openV ss ts s day = q := ⟨_, rfl⟩
 rw [hF] at JF
 rw [hSE, hSV] at J1 J2
 rw [hOE, hOV] at J3 J4
 rw [hOV] at hOl
 clear hF hSE hSV hOE hOV hs ht hS
 replace JF := hide JF
 replace J1 := hide J1
 replace J2 := hide J2
 replace J3 := hide J3
 replace J4 := hide J4
 have JS := hide law_sane7
 obtain ⟨w1, hw1, hb, kR, kS⟩ := al2 w #[.slice A ss.length n, .slice A' ts.length n'] 25 (s8 s Ac nc Ap np Ad nd As ns Ah nh) 42
 replace kR := hide kR
 replace kS := hide kS
 have B1 := hide hb
 clear hb
 go_enter Tryz.func13, Tryz.ntmps13
 go_wp2_with fail
 rw [← hw1]
 clear hw1
 go_wp2_with fail
 go_at_call 16
 refine (JS.out _).mono ?_
 rintro e w2 ⟨rfl, hb⟩
 replace kR := hide (kR.out.grow hb)
 replace kS := hide (kS.out.grow hb)
 have B2 := hide (bup B1.out hb)
 clear hb B1
 obtain ⟨r0, r1⟩ := kR.out.cells2
 have zR := kR.out.lt
 obtain ⟨q0, q1, q2, q3, q4, q5, q6, q7⟩ := kS.out.cells8
 have zS := kS.out.lt
 go_wp2_with fail
 clear r0 r1 zR q0 q1 q2 q3 q4 q5 q6 q7 zS
 go_at_call 25
 refine (JF.out _ B2.out).mono ?_
 rintro e w3 ⟨rfl, hb⟩
 replace kR := hide (kR.out.grow hb)
 replace kS := hide (kS.out.grow hb)
 have B3 := hide (bup B2.out hb)
 clear hb B2
 cases F with
 | true =>
  go_wp2_with fail
  go_ret
  exact ⟨rfl, B3.out⟩
 | false =>
  obtain ⟨r0, r1⟩ := kR.out.cells2
  have zR := kR.out.lt
  obtain ⟨q0, q1, q2, q3, q4, q5, q6, q7⟩ := kS.out.cells8
  have zS := kS.out.lt
  go_wp2_with fail
  clear r0 r1 zR q0 q1 q2 q3 q4 q5 q6 q7 zS
  go_at_call 65
  refine (J1.out _ B3.out).mono ?_
  rintro e w4 ⟨rfl, hb⟩
  replace kR := hide (kR.out.grow hb)
  replace kS := hide (kS.out.grow hb)
  have B4 := hide (bup B3.out hb)
  clear hb B3
  obtain ⟨r0, r1⟩ := kR.out.cells2
  have zR := kR.out.lt
  obtain ⟨q0, q1, q2, q3, q4, q5, q6, q7⟩ := kS.out.cells8
  have zS := kS.out.lt
  go_wp2_with fail
  clear r0 r1 zR q0 q1 q2 q3 q4 q5 q6 q7 zS
  go_at_call 34
  refine (J2.out _ B4.out).mono ?_
  rintro e w5 ⟨rfl, hb⟩
  replace kR := hide (kR.out.grow hb)
  replace kS := hide (kS.out.grow hb)
  have B5 := hide (bup B4.out hb)
  clear hb B4
  obtain ⟨r0, r1⟩ := kR.out.cells2
  have zR := kR.out.lt
  obtain ⟨q0, q1, q2, q3, q4, q5, q6, q7⟩ := kS.out.cells8
  have zS := kS.out.lt
  go_wp2_with fail
  clear r0 r1 zR q0 q1 q2 q3 q4 q5 q6 q7 zS
  go_at_call 47
  refine (J3.out _ B5.out).mono ?_
  rintro e w6 ⟨v5, rfl, hO, hb⟩
  have h5s := hO.sl intC_len (by omega)
  obtain ⟨A5, n5, rfl, -⟩ := h5s.open_
  replace h5s := hide h5s
  clear hO
  replace kR := hide (kR.out.grow hb)
  replace kS := hide (kS.out.grow hb)
  have B6 := hide (bup B5.out hb)
  clear hb B5
  obtain ⟨r0, r1⟩ := kR.out.cells2
  have zR := kR.out.lt
  obtain ⟨q0, q1, q2, q3, q4, q5, q6, q7⟩ := kS.out.cells8
  have zS := kS.out.lt
  go_wp2_with fail
  clear r0 r1 zR q0 q1 q2 q3 q4 q5 q6 q7 zS
  go_at_call 66
  refine (J4.out _ B6.out).mono ?_
  rintro e w7 ⟨v6, rfl, hO, hb⟩
  have h6s := hO.sl intC_len (by omega)
  obtain ⟨A6, n6, rfl, -⟩ := h6s.open_
  replace h6s := hide h6s
  clear hO
  replace kR := hide (kR.out.grow hb)
  replace kS := hide (kS.out.grow hb)
  replace h5s := hide (h5s.out.mono hb)
  have B7 := hide (bup B6.out hb)
  clear hb B6
  have e1 : (SV == SV) = true := by simp
  have e2 : (SE == SE) = true := by simp
  have e3 : (OE == OE) = true := by simp
  go_wp2_with fail
  go_at_call 30
  refine (equal_int _ _ OV OV _ h5s.out h6s.out).mono ?_
  rintro e w9 ⟨rfl, hb⟩
  rw [decide_eq_true rfl]
  replace kR := hide (kR.out.grow hb)
  replace kS := hide (kS.out.grow hb)
  replace h5s := hide (h5s.out.mono hb)
  replace h6s := hide (h6s.out.mono hb)
  have B8 := hide (bup B7.out hb)
  clear hb B7
  go_wp2_with fail
  go_ret
  exact ⟨rfl, B8.out⟩
end Go.Proofs.YtgbbljfmngmjeaaGreat
