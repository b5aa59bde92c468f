/- The law CrewCheckSpec: CheckRange, Light, Breaks and Bears match the specification. Conditions stand in the theorem. -/
import Derived.Test.YtgbbljfmngmjeaaGreatSane7
import Derived.Test.YtgbbljfmngmjeaaGreatRefCr1Pack
import Derived.Test.YtgbbljfmngmjeaaGreatRangePack
set_option linter.all false
set_option maxHeartbeats 4000000
set_option maxRecDepth 100000
namespace Go.Proofs.YtgbbljfmngmjeaaGreat
open Go.RowKit

theorem law_CrewCheckSpec (vs vt : Value) (ss : List Site) (ts : List Track) (day water steep : Int) (w : World) (hs : Sl w 3 Site.cells vs ss) (ht : Sl w 6 Track.cells vt ts) :
  Calls Tryz.prog 3 #[.agg #[vs, vt], I day, I water, I steep] w fun e w' => e = .returned (.bool true) ∧ Below w.heap.size w w' := by
 have JS := hide law_sane7
 have J1 := fun w => crew_Light day w
 have J2 := fun w => ref7_Light day w
 have J3 := fun w => crew_Breaks water steep w
 have J4 := fun w => ref7_Breaks water steep w
 have J5 := fun w => crew_Bears steep w
 have J6 := fun w => ref7_Bears steep w
 have J7 := fun w' (hb : Below w.heap.size w w') => crew_CheckRange vs vt ss ts w' (hs.mono hb) (ht.mono hb)
 have J8 := fun w' (hb : Below w.heap.size w w') => ref7_CheckRange vs vt ss ts w' (hs.mono hb) (ht.mono hb)
 obtain ⟨L, hL⟩ : ∃ q, lightV day = q := ⟨_, rfl⟩
 obtain ⟨LE, hLE⟩ : ∃ q, dayE day = q := ⟨_, rfl⟩
 obtain ⟨B, hB⟩ : ∃ q, breaksV water steep = q := ⟨_, rfl⟩
 obtain ⟨BE, hBE⟩ : ∃ q, breaksE water steep = q := ⟨_, rfl⟩
 obtain ⟨M, hM⟩ : ∃ q, bearsV steep = q := ⟨_, rfl⟩
 obtain ⟨ME, hME⟩ : ∃ q, bearsE steep = q := ⟨_, rfl⟩
 obtain ⟨E, hE⟩ : ∃ q, rangeE ss ts = q := ⟨_, rfl⟩
 rw [hL, hLE] at J1 J2
 rw [hB, hBE] at J3 J4
 rw [hM, hME] at J5 J6
 rw [hE] at J7 J8
 obtain ⟨A, n, rfl, -⟩ := hs.open_
 obtain ⟨A', n', rfl, -⟩ := ht.open_
 replace J1 := hide J1
 replace J2 := hide J2
 replace J3 := hide J3
 replace J4 := hide J4
 replace J5 := hide J5
 replace J6 := hide J6
 replace J7 := hide J7
 replace J8 := hide J8
 clear hL hLE hB hBE hM hME hE hs ht
 obtain ⟨w1, hw1, hb1, kR⟩ := al1 w #[.slice A ss.length n, .slice A' ts.length n'] 25
 replace kR := hide kR
 replace hb1 := hide hb1
 go_enter Tryz.func3, Tryz.ntmps3
 go_wp2_with fail
 rw [← hw1]
 clear hw1
 go_at_call 16
 refine (JS.out _).mono ?_
 rintro e w2 ⟨rfl, hb2⟩
 have hbw := hide (bup hb1.out hb2)
 obtain ⟨r0, r1⟩ := (kR.out.grow hb2).cells2
 have zR := (kR.out.grow hb2).lt
 clear hb2 kR hb1
 go_upto_region 9 with (first | (go_at_call 17; refine (J1.out _).mono ?_; rintro e w3 ⟨rfl, rfl⟩) | (go_at_call 18; refine (J2.out _).mono ?_; rintro e w3 ⟨rfl, rfl⟩) | (go_at_call 19; refine (J3.out _).mono ?_; rintro e w3 ⟨rfl, rfl⟩) | (go_at_call 20; refine (J4.out _).mono ?_; rintro e w3 ⟨rfl, rfl⟩) | (go_at_call 21; refine (J5.out _).mono ?_; rintro e w3 ⟨rfl, rfl⟩) | (go_at_call 22; refine (J6.out _).mono ?_; rintro e w3 ⟨rfl, rfl⟩))
 (refine wp_grow ?_; (repeat go_big_quiet_step ((first | (go_at_call 23; exact calls_grew (J7.out _ (bup hbw.out (Grew.below _)))) | (go_at_call 24; exact calls_grew (J8.out _ (bup hbw.out (Grew.below _))))))); refine wp_grow0 ?_; intro W1 hW1)
 go_wp2_with fail
 go_ret
 exact ⟨rfl, bup hbw.out hW1⟩
end Go.Proofs.YtgbbljfmngmjeaaGreat
