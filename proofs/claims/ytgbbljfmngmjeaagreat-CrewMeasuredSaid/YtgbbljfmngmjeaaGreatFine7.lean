/- The laws' small tests: small, fine, skip. Conditions stand in the theorems. -/
import Derived.Test.YtgbbljfmngmjeaaGreatRefPPack
import Derived.Test.YtgbbljfmngmjeaaGreatRefCr1Pack
import Derived.Test.YtgbbljfmngmjeaaGreatRangePack
import Derived.Test.YtgbbljfmngmjeaaGreatCrewDefsPack
set_option linter.all false
set_option maxHeartbeats 8000000
set_option maxRecDepth 100000
namespace Go.Proofs.YtgbbljfmngmjeaaGreat
open Go.RowKit

def smallB (s : Scene) : Bool := decide (IntKind.i64.wrap ((s.basin.cells.length : Int) * (s.days.length : Int)) ≤ 9) && decide ((s.basin.pairs.length : Int) ≤ 6) && decide ((s.sights.length : Int) ≤ 8) && decide ((s.changes.length : Int) ≤ 8)
def fineB (ss : List Site) (ts : List Track) (s : Scene) : Bool := smallB s && decide ((ss.length : Int) ≤ 8) && decide ((ts.length : Int) ≤ 20) && (rangeE ss ts == 0) && (sceneE s == 0)
def skipB (ss : List Site) (ts : List Track) (s : Scene) : Bool := decide ((8 : Int) < ss.length) && (rangeE ss ts == 0) || decide ((20 : Int) < ts.length) && (rangeE ss ts == 0) || !smallB s && (sceneE s == 0)
theorem fine_zero {ss : List Site} {ts : List Track} {s : Scene} (h : fineB ss ts s = true) : rangeE ss ts = 0 ∧ sceneE s = 0 ∧ ss.length ≤ 8 ∧ ts.length ≤ 20 := by
 simp only [fineB, Bool.and_eq_true, decide_eq_true_eq, beq_iff_eq] at h
 exact ⟨h.1.2, h.2, by omega, by omega⟩
theorem skip_zero {ss : List Site} {ts : List Track} {s : Scene} (h : skipB ss ts s = false) (h0 : rangeE ss ts = 0) : ss.length ≤ 8 ∧ ts.length ≤ 20 := by
 simp only [skipB, h0, beq_self_eq_true, Bool.and_true, Bool.or_eq_false_iff, decide_eq_false_iff_not] at h
 omega
theorem law7_small (s : Scene) (V : SceneV) (w : World) (hs : SceneAt w s V) : Calls Tryz.prog 54 #[s.v V] w fun e w' => e = .returned (.bool (smallB s)) ∧ Below w.heap.size w w' := by
 obtain ⟨Ac, nc, hc, _⟩ := hs.cells.open_
 obtain ⟨Ap, np, hp, _⟩ := hs.pairs.open_
 obtain ⟨Ad, nd, hd, _⟩ := hs.days.open_
 obtain ⟨As, ns, hsi, _⟩ := hs.sights.open_
 obtain ⟨Ah, nh, hch, _⟩ := hs.changes.open_
 unfold Scene.v smallB
 rw [hc, hp, hd, hsi, hch]
 clear hc hp hd hsi hch hs
 generalize s.basin.cells.length = l1
 generalize s.basin.pairs.length = l2
 generalize s.days.length = l3
 generalize s.sights.length = l4
 generalize s.changes.length = l5
 obtain ⟨m, hm⟩ : ∃ m, IntKind.i64.wrap ((l1 : Int) * (l3 : Int)) = m := ⟨_, rfl⟩
 rw [hm]
 cases g1 : decide (m ≤ 9) <;> cases g2 : decide ((l2 : Int) ≤ 6) <;> cases g3 : decide ((l4 : Int) ≤ 8) <;> cases g4 : decide ((l5 : Int) ≤ 8) <;> (
  simp only [Bool.and_true, Bool.and_false, Bool.true_and, Bool.false_and, Bool.or_true, Bool.or_false, Bool.true_or, Bool.false_or, Bool.not_true, Bool.not_false]
  go_enter Tryz.func54, Tryz.ntmps54
  go_wp2_with fail
  refine bodyPost_ret (by simp [results, Tryz.results54, go_sem]) rfl ⟨rfl, below1 _ _⟩)
theorem law7_fine (vs vt : Value) (ss : List Site) (ts : List Track) (s : Scene) (V : SceneV) (w : World) (hs : Sl w 3 Site.cells vs ss) (ht : Sl w 6 Track.cells vt ts) (hS : SceneAt w s V) :
  Calls Tryz.prog 46 #[.agg #[vs, vt], s.v V] w fun e w' => e = .returned (.bool (fineB ss ts s)) ∧ Below w.heap.size w w' := by
 have JS := fun w' (hb : Below w.heap.size w w') => law7_small s V w' (hS.mono hb)
 have JR := fun w' (hb : Below w.heap.size w w') => crew_CheckRange vs vt ss ts w' (hs.mono hb) (ht.mono hb)
 have JB := fun w' (hb : Below w.heap.size w w') => basin_Check s V w' (hS.mono hb)
 have JF := fun w' (hb : Below w.heap.size w w') => ref5_Check s V w' (hS.mono hb)
 obtain ⟨Ac, nc, hcc, -⟩ := hS.cells.open_
 obtain ⟨Ap, np, hpp, -⟩ := hS.pairs.open_
 obtain ⟨Ad, nd, hdd, -⟩ := hS.days.open_
 obtain ⟨As, ns, hsi, -⟩ := hS.sights.open_
 obtain ⟨Ah, nh, hch, -⟩ := hS.changes.open_
 obtain ⟨A, n, rfl, -⟩ := hs.open_
 obtain ⟨A', n', rfl, -⟩ := ht.open_
 unfold Scene.v fineB at *
 simp only [hcc, hpp, hdd, hsi, hch] at JS JB JF ⊢
 clear hcc hpp hdd hsi hch hs ht hS
 obtain ⟨S, hSS⟩ : ∃ q, smallB s = q := ⟨_, rfl⟩
 obtain ⟨E, hE⟩ : ∃ q, rangeE ss ts = q := ⟨_, rfl⟩
 obtain ⟨D, hD⟩ : ∃ q, sceneE s = q := ⟨_, rfl⟩
 rw [hSS] at JS ⊢
 rw [hE] at JR ⊢
 rw [hD] at JB
 rw [hD] at JF ⊢
 clear hSS hE hD
 replace JS := hide JS
 replace JR := hide JR
 replace JB := hide JB
 replace JF := hide JF
 obtain ⟨w1, hw1, hb1, kR, kS⟩ := al2 w #[.slice A ss.length n, .slice A' ts.length n'] 25 (s8 s Ac nc Ap np Ad nd As ns Ah nh) 42
 replace kR := hide kR
 replace kS := hide kS
 cases g1 : decide ((ss.length : Int) ≤ 8) <;> cases g2 : decide ((ts.length : Int) ≤ 20) <;> cases g3 : (E == 0) <;> cases g4 : (D == 0) <;> cases S <;> (
  simp only [Bool.and_true, Bool.and_false, Bool.true_and, Bool.false_and, Bool.or_true, Bool.or_false, Bool.true_or, Bool.false_or, Bool.not_true, Bool.not_false]
  go_enter Tryz.func46, Tryz.ntmps46
  go_wp2_with fail
  rw [← hw1]
  clear hw1
  obtain ⟨r0, r1⟩ := kR.out.cells2
  have zR := kR.out.lt
  obtain ⟨q0, q1, q2, q3, q4, q5, q6, q7⟩ := kS.out.cells8
  have zS := kS.out.lt
  go_wp2_with (first | (go_at_call 54; refine (JS.out _ hb1).mono ?_; clear r0 r1 zR q0 q1 q2 q3 q4 q5 q6 q7 zS; rintro e w2 ⟨rfl, hb⟩; obtain ⟨r0, r1⟩ := (kR.out.grow hb).cells2; have zR := (kR.out.grow hb).lt; obtain ⟨q0, q1, q2, q3, q4, q5, q6, q7⟩ := (kS.out.grow hb).cells8; have zS := (kS.out.grow hb).lt; replace kR := hide (kR.out.grow hb); replace kS := hide (kS.out.grow hb); replace hb1 := bup hb1 hb; clear hb) | (go_at_call 23; refine (JR.out _ hb1).mono ?_; clear r0 r1 zR q0 q1 q2 q3 q4 q5 q6 q7 zS; rintro e w2 ⟨rfl, hb⟩; obtain ⟨r0, r1⟩ := (kR.out.grow hb).cells2; have zR := (kR.out.grow hb).lt; obtain ⟨q0, q1, q2, q3, q4, q5, q6, q7⟩ := (kS.out.grow hb).cells8; have zS := (kS.out.grow hb).lt; replace kR := hide (kR.out.grow hb); replace kS := hide (kS.out.grow hb); replace hb1 := bup hb1 hb; clear hb) | (go_at_call 55; refine (JB.out _ hb1).mono ?_; clear r0 r1 zR q0 q1 q2 q3 q4 q5 q6 q7 zS; rintro e w2 ⟨rfl, hb⟩; obtain ⟨r0, r1⟩ := (kR.out.grow hb).cells2; have zR := (kR.out.grow hb).lt; obtain ⟨q0, q1, q2, q3, q4, q5, q6, q7⟩ := (kS.out.grow hb).cells8; have zS := (kS.out.grow hb).lt; replace kR := hide (kR.out.grow hb); replace kS := hide (kS.out.grow hb); replace hb1 := bup hb1 hb; clear hb) | (go_at_call 56; refine (JF.out _ hb1).mono ?_; clear r0 r1 zR q0 q1 q2 q3 q4 q5 q6 q7 zS; rintro e w2 ⟨rfl, hb⟩; obtain ⟨r0, r1⟩ := (kR.out.grow hb).cells2; have zR := (kR.out.grow hb).lt; obtain ⟨q0, q1, q2, q3, q4, q5, q6, q7⟩ := (kS.out.grow hb).cells8; have zS := (kS.out.grow hb).lt; replace kR := hide (kR.out.grow hb); replace kS := hide (kS.out.grow hb); replace hb1 := bup hb1 hb; clear hb))
  refine bodyPost_ret (by simp [results, Tryz.results46, go_sem]) rfl ⟨rfl, hb1⟩)
theorem law7_skip (vs vt : Value) (ss : List Site) (ts : List Track) (s : Scene) (V : SceneV) (w : World) (hs : Sl w 3 Site.cells vs ss) (ht : Sl w 6 Track.cells vt ts) (hS : SceneAt w s V) :
  Calls Tryz.prog 25 #[.agg #[vs, vt], s.v V] w fun e w' => e = .returned (.bool (skipB ss ts s)) ∧ Below w.heap.size w w' := by
 have JS := fun w' (hb : Below w.heap.size w w') => law7_small s V w' (hS.mono hb)
 have JR := fun w' (hb : Below w.heap.size w w') => ref7_CheckRange vs vt ss ts w' (hs.mono hb) (ht.mono hb)
 have JF := fun w' (hb : Below w.heap.size w w') => ref5_Check s V w' (hS.mono hb)
 obtain ⟨Ac, nc, hcc, -⟩ := hS.cells.open_
 obtain ⟨Ap, np, hpp, -⟩ := hS.pairs.open_
 obtain ⟨Ad, nd, hdd, -⟩ := hS.days.open_
 obtain ⟨As, ns, hsi, -⟩ := hS.sights.open_
 obtain ⟨Ah, nh, hch, -⟩ := hS.changes.open_
 obtain ⟨A, n, rfl, -⟩ := hs.open_
 obtain ⟨A', n', rfl, -⟩ := ht.open_
 unfold Scene.v skipB at *
 simp only [hcc, hpp, hdd, hsi, hch] at JS  JF ⊢
 clear hcc hpp hdd hsi hch hs ht hS
 obtain ⟨S, hSS⟩ : ∃ q, smallB s = q := ⟨_, rfl⟩
 obtain ⟨E, hE⟩ : ∃ q, rangeE ss ts = q := ⟨_, rfl⟩
 obtain ⟨D, hD⟩ : ∃ q, sceneE s = q := ⟨_, rfl⟩
 rw [hSS] at JS ⊢
 rw [hE] at JR ⊢
 rw [hD] at JF ⊢
 clear hSS hE hD
 replace JS := hide JS
 replace JR := hide JR
 replace JF := hide JF
 obtain ⟨w1, hw1, hb1, kR, kS⟩ := al2 w #[.slice A ss.length n, .slice A' ts.length n'] 25 (s8 s Ac nc Ap np Ad nd As ns Ah nh) 42
 replace kR := hide kR
 replace kS := hide kS
 cases g1 : decide ((8 : Int) < (ss.length : Int)) <;> cases g2 : decide ((20 : Int) < (ts.length : Int)) <;> cases g3 : (E == 0) <;> cases g4 : (D == 0) <;> cases S <;> (
  simp only [Bool.and_true, Bool.and_false, Bool.true_and, Bool.false_and, Bool.or_true, Bool.or_false, Bool.true_or, Bool.false_or, Bool.not_true, Bool.not_false]
  go_enter Tryz.func25, Tryz.ntmps25
  go_wp2_with fail
  rw [← hw1]
  clear hw1
  obtain ⟨r0, r1⟩ := kR.out.cells2
  have zR := kR.out.lt
  obtain ⟨q0, q1, q2, q3, q4, q5, q6, q7⟩ := kS.out.cells8
  have zS := kS.out.lt
  go_wp2_with (first | (go_at_call 54; refine (JS.out _ hb1).mono ?_; clear r0 r1 zR q0 q1 q2 q3 q4 q5 q6 q7 zS; rintro e w2 ⟨rfl, hb⟩; obtain ⟨r0, r1⟩ := (kR.out.grow hb).cells2; have zR := (kR.out.grow hb).lt; obtain ⟨q0, q1, q2, q3, q4, q5, q6, q7⟩ := (kS.out.grow hb).cells8; have zS := (kS.out.grow hb).lt; replace kR := hide (kR.out.grow hb); replace kS := hide (kS.out.grow hb); replace hb1 := bup hb1 hb; clear hb) | (go_at_call 24; refine (JR.out _ hb1).mono ?_; clear r0 r1 zR q0 q1 q2 q3 q4 q5 q6 q7 zS; rintro e w2 ⟨rfl, hb⟩; obtain ⟨r0, r1⟩ := (kR.out.grow hb).cells2; have zR := (kR.out.grow hb).lt; obtain ⟨q0, q1, q2, q3, q4, q5, q6, q7⟩ := (kS.out.grow hb).cells8; have zS := (kS.out.grow hb).lt; replace kR := hide (kR.out.grow hb); replace kS := hide (kS.out.grow hb); replace hb1 := bup hb1 hb; clear hb) | (go_at_call 56; refine (JF.out _ hb1).mono ?_; clear r0 r1 zR q0 q1 q2 q3 q4 q5 q6 q7 zS; rintro e w2 ⟨rfl, hb⟩; obtain ⟨r0, r1⟩ := (kR.out.grow hb).cells2; have zR := (kR.out.grow hb).lt; obtain ⟨q0, q1, q2, q3, q4, q5, q6, q7⟩ := (kS.out.grow hb).cells8; have zS := (kS.out.grow hb).lt; replace kR := hide (kR.out.grow hb); replace kS := hide (kS.out.grow hb); replace hb1 := bup hb1 hb; clear hb))
  refine bodyPost_ret (by simp [results, Tryz.results25, go_sem]) rfl ⟨rfl, hb1⟩)
end Go.Proofs.YtgbbljfmngmjeaaGreat
