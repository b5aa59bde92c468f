/- The package crew: Safe. Conditions stand in the theorem. -/
import Derived.Test.YtgbbljfmngmjeaaGreatCrew6Pack
import Derived.Test.YtgbbljfmngmjeaaGreatCrew2Pack
import Derived.Test.YtgbbljfmngmjeaaGreatRefCr1Pack
import Derived.Test.YtgbbljfmngmjeaaGreatRefH
import Derived.Test.YtgbbljfmngmjeaaGreatRefNetPack
import Derived.Test.YtgbbljfmngmjeaaGreatCrew9Pack
set_option linter.all false
set_option maxHeartbeats 16000000
set_option maxRecDepth 100000
namespace Go.Proofs.YtgbbljfmngmjeaaGreat
open Go.RowKit

def safeE (ss : List Site) (ts : List Track) (s : Scene) (day no : Int) : Int := seenE ss ts s day (decide (0 ≤ placeT ts no))
def safeV (ss : List Site) (ts : List Track) (s : Scene) (day no : Int) : Bool := (safeE ss ts s day no == 0) && safeB (hwF s day) (trackAt ts no)
theorem eg_safe1 : ∀ args w, (callFunc 143 args).run Tryz.prog w = .ok (.enter 143 args) w := enters_of Tryz.func143 (by kernel_rfl) rfl
theorem crew_safe1 (gr gn : Nat) (vs vt : Value) (ts : List Track) (no : Int) (w : World) (ht : Sl w 6 Track.cells vt ts) (hR : Blk w gr 25 #[vs, vt]) (hN : Blk w gn 3 #[I no]) :
  Calls Tryz.prog 143 #[.pointer (some ⟨gr, 0, none⟩), .pointer (some ⟨gn, 0, none⟩)] w fun e w' => e = .returned (.bool (decide (0 ≤ placeT ts no))) ∧ Below w.heap.size w w' := by
 have JT := hide (crew_track vs vt ts no w ht)
 obtain ⟨r0, r1⟩ := hR.cells2
 have n0 : w.cell? ⟨gn, 0, none⟩ = some (I no) := hN.cell 0
 have zR := hR.lt
 have zN := hN.lt
 obtain ⟨A, n, rfl, _⟩ := ht.open_
 clear ht hR hN
 go_enter Tryz.func143, Tryz.ntmps143
 go_wp2_with (go_at_call 110; refine JT.out.mono ?_; rintro e w' ⟨rfl, hb⟩)
 go_ret
 exact ⟨rfl, hb⟩
theorem crew_Safe (vs vt : Value) (ss : List Site) (ts : List Track) (s : Scene) (V : SceneV) (no day : Int) (w : World) (hs : Sl w 3 Site.cells vs ss) (ht : Sl w 6 Track.cells vt ts) (hS : SceneAt w s V) :
  Calls Tryz.prog 65 #[.agg #[vs, vt], s.v V, I no, I day] w fun e w' => e = .returned (.tuple #[.bool (safeV ss ts s day no), I (safeE ss ts s day no)]) ∧ Below w.heap.size w w' := by
 have JN := fun (gr gn : Nat) W (hb : Below w.heap.size w W) (kr : Blk W gr 25 #[vs, vt]) (kn : Blk W gn 3 #[I no]) => crew_seen vs vt ss ts s V day 143 #[.pointer (some ⟨gr, 0, none⟩), .pointer (some ⟨gn, 0, none⟩)] (decide (0 ≤ placeT ts no)) W (hs.mono hb) (ht.mono hb) (hS.mono hb) eg_safe1 (fun _ W' hW' => crew_safe1 gr gn vs vt ts no W' ((ht.mono hb).mono hW') (kr.grow hW') (kn.grow hW'))
 have JP := fun W (hb : Below w.heap.size w W) => crew_track vs vt ts no W (ht.mono hb)
 have JQ := fun (h base : Nat) (t : Track) W (H : HillAt W base h vs vt (hwF s day)) (h60 : t.steep ≤ 60) => crew_safe h base vs vt (hwF s day) t W H h60
 have hT := hide ht
 obtain ⟨Ac, nc, hcc, -⟩ := hS.cells.open_
 obtain ⟨Ap, np, hpp, -⟩ := hS.pairs.open_
 obtain ⟨Ad, nd, hdd, -⟩ := hS.days.open_
 obtain ⟨As, ns, hsi, -⟩ := hS.sights.open_
 obtain ⟨Ah, nh, hch, -⟩ := hS.changes.open_
 obtain ⟨A, n, rfl, -⟩ := hs.open_
 obtain ⟨A', n', rfl, _, _, _, hA⟩ := ht.open_
 unfold Scene.v at *
 simp only [hcc, hpp, hdd, hsi, hch] at JN ⊢
 clear hcc hpp hdd hsi hch
 have hz := hide (fun h => seen_zero (ss := ss) (ts := ts) (s := s) (day := day) (q := decide (0 ≤ placeT ts no)) h)
 have hV0 := show safeV ss ts s day no = ((safeE ss ts s day no == 0) && safeB (hwF s day) (trackAt ts no)) from rfl
 have hpl := hide (fun h => trackAt_of (ts := ts) (no := no) h)
 have hlt := hide (fun h => placeT_lt (ts := ts) (no := no) h)
 have hEE : safeE ss ts s day no = seenE ss ts s day (decide (0 ≤ placeT ts no)) := rfl
 obtain ⟨E, hE⟩ : ∃ q, safeE ss ts s day no = q := ⟨_, rfl⟩
 obtain ⟨VV, hVV⟩ : ∃ q, safeV ss ts s day no = q := ⟨_, rfl⟩
 rw [hE] at hV0 hEE
 rw [hVV] at hV0
 rw [hE, hVV]
 rw [← hEE] at hz
 simp only [← hEE] at JN
 clear hE hVV hEE
 replace JN := hide JN
 replace JP := hide JP
 replace JQ := hide JQ
 replace hA := hide hA
 clear hs ht hS
 obtain ⟨w1, hw1, hb1, kR, kS, kN⟩ := al3 w #[.slice A ss.length n, .slice A' ts.length n'] 25 (s8 s Ac nc Ap np Ad nd As ns Ah nh) 42 #[I no] 3
 obtain ⟨r0, r1⟩ := kR.cells2
 obtain ⟨q0, q1, q2, q3, q4, q5, q6, q7⟩ := kS.cells8
 have zR := kR.lt
 have zS := kS.lt
 replace kR := hide kR
 replace kN := hide kN
 clear kS
 by_cases h0 : E = 0
 case neg =>
  have hv : VV = false := by rw [hV0]; simp [h0]
  subst hv
  have hne : (E != 0) = true := by simpa using h0
  replace h0 := hide h0
  clear hV0 hz JQ JP hpl hlt
  go_enter Tryz.func65, Tryz.ntmps65
  go_upto_region 1 with fail
  rw [← hw1]
  clear hw1
  go_wp2_with (go_at_call 86; refine (JN.out _ _ _ hb1 kR.out kN.out).mono ?_; rintro e v4 ⟨pv, rfl, -, hv1, hs4⟩; obtain rfl := hv1 h0.out)
  go_ret2
  exact ⟨rfl, bup hb1 hs4⟩
 subst h0
 obtain ⟨hro, _, _, hq, _⟩ := hz.out rfl
 have hq := of_decide_eq_true hq
 obtain ⟨x, hx, hxa, -⟩ := hpl.out hq
 have hl1 := hlt.out hq
 have h60 := (hro.tr (List.mem_of_getElem? hx)).steep.2
 rw [hxa] at hV0
 obtain ⟨k, hk⟩ : ∃ k : Nat, placeT ts no = k := ⟨(placeT ts no).toNat, by omega⟩
 rw [hk] at hx hl1
 simp only [Int.toNat_natCast] at hx
 have JP1 := hide (fun W hb => hk ▸ JP.out W hb)
 obtain ⟨b, off, rfl, hbw⟩ := hA.out k (by omega)
 have hv : VV = safeB (hwF s day) x := by rw [hV0]; simp
 subst hv
 have k0 : (0 : Int) ≤ (k : Int) := by omega
 replace hx := hide hx
 replace hbw := hide hbw
 replace hq := hide hq
 replace hro := hide hro
 replace hxa := hide hxa
 replace hk := hide hk
 clear hV0 hz hpl hlt JP
 go_enter Tryz.func65, Tryz.ntmps65
 go_upto_region 1 with fail
 rw [← hw1]
 clear hw1
 go_wp2_with fail
 go_at_call 86
 refine (JN.out _ _ _ hb1 kR.out kN.out).mono ?_
 clear r0 r1 q0 q1 q2 q3 q4 q5 q6 q7 zR zS
 rintro e v4 ⟨pv, rfl, hv0, -, hs4⟩
 obtain ⟨h, rfl, hHi⟩ := hv0 trivial
 have hbv4 := hide (bup hb1 hs4)
 obtain ⟨r0, r1⟩ := (kR.out.grow hs4).cells2
 have zR := (kR.out.grow hs4).lt
 have n0 : v4.cell? ⟨w.heap.size + 1 + 1, 0, none⟩ = some (I no) := (kN.out.grow hs4).cell 0
 have zN := (kN.out.grow hs4).lt
 obtain ⟨zt, t0, t1, t2, t3, t4, t5⟩ := (hT.out.mono hbv4.out).track_at hx.out
 replace hHi := hide hHi
 have JQ1 := hide (fun (g : Grew v4) => calls_grew (JQ.out h _ x g.w (hHi.out.below (Grew.below g)) h60))
 have JP2 := hide (fun (g : Grew v4) => calls_grew (JP1.out g.w (bup hbv4.out (Grew.below g))))
 replace h60 := hide h60
 clear hv0 JN hs4 hT
 go_upto_region 4 with fail
 (refine wp_grow ?_; (repeat go_big_quiet_step ((first | (go_at_call 110; exact JP2.out _) | (go_at_call 109; exact JQ1.out _)))); refine wp_grow0 ?_; intro W1 hW1)
 go_wp2_with fail
 go_ret2
 exact ⟨rfl, bup hbv4.out hW1⟩

theorem ref7_Find (vs vt : Value) (ts : List Track) (no : Int) (w : World) (hs : Sl w 6 Track.cells vt ts) :
  Calls Tryz.prog 100 #[.agg #[vs, vt], I no] w fun e w' => e = .returned (I (placeT ts no)) ∧ Below w.heap.size w w' := by
 obtain ⟨A, c, rfl, h1, h2, h3, hA⟩ := hs.open_
 replace hs := hide hs
 replace hA := hide hA
 obtain ⟨w1, hw1, hb1, kR⟩ := al1 w #[vs, .slice A ts.length c] 25
 obtain ⟨r0, r1⟩ := kR.cells2
 have zR := kR.lt
 clear kR
 have hb1' := hide hb1
 clear hb1
 go_enter Tryz.func100, Tryz.ntmps100
 go_wp2_with fail
 rw [← hw1]
 clear hw1
 go_loopw [5] (fun i wr => ∃ k : Nat, k ≤ ts.length ∧ i = I k ∧ Hid (NoneTo (fun s : Track => s.no == no) ts k) ∧ w1 = wr) (fun i _ => ts.length - (intOf i).toNat)
 case atStart => exact ⟨0, Nat.zero_le _, rfl, hide (NoneTo.zero _ _), rfl⟩
 case round =>
  obtain ⟨k, hk, rfl, hn, rfl⟩ := hrel
  by_cases hlt : k < ts.length
  ·obtain ⟨b, off, rfl, hbw⟩ := hA.out k hlt
   obtain ⟨x, hx⟩ := getElem?_of_lt hlt
   obtain ⟨_, f0, f1, f2, f3, f4, f5⟩ := (hs.out.mono hb1'.out).track_at hx
   have k2 : (0 : Int) ≤ (k : Int) := by omega
   have k3 : (k : Int) < (ts.length : Int) := by omega
   by_cases he : x.no = no
   ·have hd : (x.no == no) = true := by simpa using he
    have hfin := hide (hn.out.found hx hd)
    replace hx := hide hx
    replace he := hide he
    go_wp2_with fail
    go_ret
    exact ⟨ret_int hfin.out.symm, hb1'.out⟩
   ·have hd : (x.no == no) = false := by simpa using he
    have hn2 := hide (hn.out.succ hx hd)
    replace hx := hide hx
    replace he := hide he
    go_wp2_with fail
    go_roundw
    case rel => exact ⟨k + 1, by omega, by go_num, hn2, by trivial⟩
    case measure => simp [intOf]; omega
  ·obtain rfl : k = ts.length := by omega
   have hfin := hide hn.out.missed
   go_wp2_with fail
   go_ret
   exact ⟨ret_int hfin.out.symm, hb1'.out⟩

def readyE (ss : List Site) (ts : List Track) (s : Scene) : Int := if rangeE ss ts ≠ 0 then 70 else sceneE s
def readyB (ss : List Site) (ts : List Track) (s : Scene) (day : Int) : Bool := (readyE ss ts s == 0) && decide (0 ≤ placeD s.days day)
theorem ref7_Ready (vs vt : Value) (ss : List Site) (ts : List Track) (s : Scene) (V : SceneV) (day : Int) (w : World) (hs : Sl w 3 Site.cells vs ss) (ht : Sl w 6 Track.cells vt ts) (hS : SceneAt w s V) :
  Calls Tryz.prog 94 #[.agg #[vs, vt], s.v V, I day] w fun e w' => e = .returned (.tuple #[.bool (readyB ss ts s day), I (readyE ss ts s)]) ∧ Below w.heap.size w w' := by
 have JR := fun w' (hb : Below w.heap.size w w') => ref7_CheckRange vs vt ss ts w' (hs.mono hb) (ht.mono hb)
 have JC := fun w' (hb : Below w.heap.size w w') => ref5_Check s V w' (hS.mono hb)
 have JW := fun w' (hb : Below w.heap.size w w') => ref5_When s V day w' (hS.mono hb)
 obtain ⟨Ac, nc, hcc, -⟩ := hS.cells.open_
 obtain ⟨Ap, np, hpp, -⟩ := hS.pairs.open_
 obtain ⟨Ad, nd, hdd, -⟩ := hS.days.open_
 obtain ⟨As, ns, hsi, -⟩ := hS.sights.open_
 obtain ⟨Ah, nh, hch, -⟩ := hS.changes.open_
 unfold Scene.v at *
 simp only [hcc, hpp, hdd, hsi, hch] at JC JW ⊢
 obtain ⟨A, n, rfl, -⟩ := hs.open_
 obtain ⟨A', n', rfl, -⟩ := ht.open_
 clear hcc hpp hdd hsi hch hs ht hS
 unfold readyB readyE
 obtain ⟨E, hE⟩ : ∃ q, rangeE ss ts = q := ⟨_, rfl⟩
 obtain ⟨D, hD⟩ : ∃ q, sceneE s = q := ⟨_, rfl⟩
 obtain ⟨P, hP⟩ : ∃ q, placeD s.days day = q := ⟨_, rfl⟩
 rw [hE] at JR ⊢
 rw [hD] at JC ⊢
 rw [hP] at JW ⊢
 clear hE hD hP
 replace JR := hide JR
 replace JC := hide JC
 replace JW := hide JW
 obtain ⟨w1, hw1, hb1, kR, kS⟩ := al2 w #[.slice A ss.length n, .slice A' ts.length n'] 25 (s8 s Ac nc Ap np Ad nd As ns Ah nh) 42
 replace hb1 := hide hb1
 obtain ⟨r0, r1⟩ := kR.cells2
 have zR := kR.lt
 obtain ⟨q0, q1, q2, q3, q4, q5, q6, q7⟩ := kS.cells8
 have zS := kS.lt
 replace kR := hide kR
 replace kS := hide kS
 by_cases h0 : E = 0
 case neg =>
  have hne : (E != 0) = true := by simpa using h0
  rw [if_pos h0]
  replace h0 := hide h0
  go_enter Tryz.func94, Tryz.ntmps94
  go_upto_region 1 with fail
  rw [← hw1]
  clear hw1
  go_wp2_with (go_at_call 24; refine (JR.out _ hb1.out).mono ?_; clear r0 r1 zR q0 q1 q2 q3 q4 q5 q6 q7 zS; rintro e w2 ⟨rfl, hb⟩; obtain ⟨r0, r1⟩ := (kR.out.grow hb).cells2; have zR := (kR.out.grow hb).lt; replace kR := hide (kR.out.grow hb); obtain ⟨q0, q1, q2, q3, q4, q5, q6, q7⟩ := (kS.out.grow hb).cells8; have zS := (kS.out.grow hb).lt; replace kS := hide (kS.out.grow hb); replace hb1 := hide (bup hb1.out hb); clear hb)
  go_ret2
  exact ⟨rfl, hb1.out⟩
 subst h0
 rw [if_neg (by simp)]
 by_cases h1 : D = 0
 case neg =>
  have hne : (D != 0) = true := by simpa using h1
  have hq : (D == 0) = false := by simpa using h1
  rw [hq]
  replace h1 := hide h1
  clear hq
  go_enter Tryz.func94, Tryz.ntmps94
  go_upto_region 1 with fail
  rw [← hw1]
  clear hw1
  go_wp2_with (first | (go_at_call 24; refine (JR.out _ hb1.out).mono ?_; clear r0 r1 zR q0 q1 q2 q3 q4 q5 q6 q7 zS; rintro e w2 ⟨rfl, hb⟩; obtain ⟨r0, r1⟩ := (kR.out.grow hb).cells2; have zR := (kR.out.grow hb).lt; replace kR := hide (kR.out.grow hb); obtain ⟨q0, q1, q2, q3, q4, q5, q6, q7⟩ := (kS.out.grow hb).cells8; have zS := (kS.out.grow hb).lt; replace kS := hide (kS.out.grow hb); replace hb1 := hide (bup hb1.out hb); clear hb) | (go_at_call 56; refine (JC.out _ hb1.out).mono ?_; clear r0 r1 zR q0 q1 q2 q3 q4 q5 q6 q7 zS; rintro e w2 ⟨rfl, hb⟩; obtain ⟨r0, r1⟩ := (kR.out.grow hb).cells2; have zR := (kR.out.grow hb).lt; replace kR := hide (kR.out.grow hb); obtain ⟨q0, q1, q2, q3, q4, q5, q6, q7⟩ := (kS.out.grow hb).cells8; have zS := (kS.out.grow hb).lt; replace kS := hide (kS.out.grow hb); replace hb1 := hide (bup hb1.out hb); clear hb))
  go_ret2
  exact ⟨rfl, hb1.out⟩
 subst h1
 go_enter Tryz.func94, Tryz.ntmps94
 go_upto_region 1 with fail
 rw [← hw1]
 clear hw1
 go_wp2_with (first | (go_at_call 24; refine (JR.out _ hb1.out).mono ?_; clear r0 r1 zR q0 q1 q2 q3 q4 q5 q6 q7 zS; rintro e w2 ⟨rfl, hb⟩; obtain ⟨r0, r1⟩ := (kR.out.grow hb).cells2; have zR := (kR.out.grow hb).lt; replace kR := hide (kR.out.grow hb); obtain ⟨q0, q1, q2, q3, q4, q5, q6, q7⟩ := (kS.out.grow hb).cells8; have zS := (kS.out.grow hb).lt; replace kS := hide (kS.out.grow hb); replace hb1 := hide (bup hb1.out hb); clear hb) | (go_at_call 56; refine (JC.out _ hb1.out).mono ?_; clear r0 r1 zR q0 q1 q2 q3 q4 q5 q6 q7 zS; rintro e w2 ⟨rfl, hb⟩; obtain ⟨r0, r1⟩ := (kR.out.grow hb).cells2; have zR := (kR.out.grow hb).lt; replace kR := hide (kR.out.grow hb); obtain ⟨q0, q1, q2, q3, q4, q5, q6, q7⟩ := (kS.out.grow hb).cells8; have zS := (kS.out.grow hb).lt; replace kS := hide (kS.out.grow hb); replace hb1 := hide (bup hb1.out hb); clear hb) | (go_at_call 156; refine (JW.out _ hb1.out).mono ?_; clear r0 r1 zR q0 q1 q2 q3 q4 q5 q6 q7 zS; rintro e w2 ⟨rfl, hb⟩; obtain ⟨r0, r1⟩ := (kR.out.grow hb).cells2; have zR := (kR.out.grow hb).lt; replace kR := hide (kR.out.grow hb); obtain ⟨q0, q1, q2, q3, q4, q5, q6, q7⟩ := (kS.out.grow hb).cells8; have zS := (kS.out.grow hb).lt; replace kS := hide (kS.out.grow hb); replace hb1 := hide (bup hb1.out hb); clear hb))
 go_ret2
 exact ⟨rfl, hb1.out⟩
theorem RowsAt.read2 {w : World} {base : Nat} {v : Value} {xss : List (List Int)} (h : RowsAt w base v xss) {d : Nat} {row : List Int} (hd : xss[d]? = some row) (hr : 0 < row.length) :
  ∃ g m g2 c2, v = .slice (some ⟨g, 0, none⟩) xss.length m ∧ base ≤ g ∧ g < w.heap.size ∧ w.cell? ⟨g, d, none⟩ = some (.slice (some ⟨g2, 0, none⟩) row.length c2) ∧ base ≤ g2 ∧ g2 < w.heap.size ∧ Own w base 3 1 intC (.slice (some ⟨g2, 0, none⟩) row.length c2) row := by
 obtain ⟨vs, h1, h2, h3⟩ := h
 obtain ⟨u, hu, ho⟩ := h3 d row hd
 have hdl : d < vs.length := (List.getElem?_eq_some_iff.1 hu).1
 obtain ⟨g, m, rfl, hg1, hg2⟩ := World.ownsRow.form h2 (by omega)
 obtain ⟨g2, c2, huv, k1, k2⟩ := World.ownsRow.form ho hr
 refine ⟨g, m, g2, c2, by rw [h1], hg1, hg2, ?_, k1, k2, huv ▸ ho⟩
 ·have hf := flat_at oneC_len vs d u hu 0 u.v rfl
  rw [Nat.mul_one, Nat.add_zero] at hf
  rw [World.ownsRow.cellAt h2 d (by omega), hf, huv]
def highR (s : Scene) (day : Int) : List Int := (greatF s).getD (placeD s.days day).toNat []
theorem ref7_Rows (s : Scene) (V : SceneV) (day : Int) (w : World) (hS : SceneAt w s V) (h0 : sceneE s = 0) (hd : 0 ≤ placeD s.days day) :
  Calls Tryz.prog 96 #[s.v V, I day] w fun e w' => ∃ v1 v2, e = .returned (.tuple #[v1, v2, I (greatE s)]) ∧ (greatE s = 0 → Sl w' 1 intC v2 (highR s day)) ∧ Below w.heap.size w w' := by
 have JL := fun w' (hb : Below w.heap.size w w') => ref5_Least s V w' (hS.mono hb)
 have JG := fun w' (hb : Below w.heap.size w w') => ref5_Greatest s V w' (hS.mono hb)
 have JW := fun w' (hb : Below w.heap.size w w') => ref5_When s V day w' (hS.mono hb)
 have hso := SceneOk.of h0
 have hdl := placeD_lt (s := s) (d := day) hd
 have hH : highR s day = (greatF s).getD (placeD s.days day).toNat [] := rfl
 obtain ⟨Ac, nc, hcc, -⟩ := hS.cells.open_
 obtain ⟨Ap, np, hpp, -⟩ := hS.pairs.open_
 obtain ⟨Ad, nd, hdd, -⟩ := hS.days.open_
 obtain ⟨As, ns, hsi, -⟩ := hS.sights.open_
 obtain ⟨Ah, nh, hch, -⟩ := hS.changes.open_
 unfold Scene.v at *
 simp only [hcc, hpp, hdd, hsi, hch] at JL JG JW ⊢
 rw [least_great h0] at JL
 obtain ⟨d, hdd2⟩ : ∃ d : Nat, placeD s.days day = d := ⟨(placeD s.days day).toNat, by omega⟩
 rw [hdd2] at JW hH hdl
 simp only [Int.toNat_natCast] at hH
 obtain ⟨row, hrw, hrl⟩ := greatF_at (s := s) (d := d) (by omega)
 obtain ⟨lrow, hlr, hll⟩ := leastF_at (s := s) (d := d) (by omega)
 have hn1 := hso.basin.hc1
 have hn2 := hso.basin.hc2
 have hgl := greatF_len s
 have hlel := leastF_len s
 rw [getD_row hrw] at hH
 rw [hH]
 obtain ⟨E, hE⟩ : ∃ q, greatE s = q := ⟨_, rfl⟩
 rw [hE] at JL JG ⊢
 replace JL := hide JL
 replace JG := hide JG
 replace JW := hide JW
 replace hrw := hide hrw
 replace hlr := hide hlr
 clear hcc hpp hdd hsi hch hS hso hH hE
 obtain ⟨w1, hw1, hb1, kS⟩ := al1 w (s8 s Ac nc Ap np Ad nd As ns Ah nh) 42
 replace hb1 := hide hb1
 obtain ⟨q0, q1, q2, q3, q4, q5, q6, q7⟩ := kS.cells8
 have zS := kS.lt
 replace kS := hide kS
 by_cases h1 : E = 0
 case neg =>
  have hne : (E != 0) = true := by simpa using h1
  have h1' := hide h1
  replace h1 := hide h1
  go_enter Tryz.func96, Tryz.ntmps96
  go_upto_region 1 with fail
  rw [← hw1]
  clear hw1
  go_wp2_with (go_at_call 157; refine (JL.out _ hb1.out).mono ?_; clear q0 q1 q2 q3 q4 q5 q6 q7 zS; rintro e w2 ⟨v2, rfl, -, hv2, hb⟩; obtain rfl := hv2 h1.out; obtain ⟨q0, q1, q2, q3, q4, q5, q6, q7⟩ := (kS.out.grow hb).cells8; have zS := (kS.out.grow hb).lt; replace kS := hide (kS.out.grow hb); replace hb1 := hide (bup hb1.out hb); clear hb)
  exact bodyPost_ret (results_tmp3 (fn := Tryz.f96) rfl _ _ _) rfl ⟨_, _, rfl, fun h => absurd h h1'.out, hb1.out⟩
 subst h1
 have hd0 : (0 : Int) ≤ (d : Int) := by omega
 have hd1 : (d : Int) < (s.days.length : Int) := hdl
 have hrp : 0 < row.length := by omega
 have hlp : 0 < lrow.length := by omega
 replace hrl := hide hrl
 replace hll := hide hll
 go_enter Tryz.func96, Tryz.ntmps96
 go_upto_region 1 with fail
 rw [← hw1]
 clear hw1
 go_wp2_with (first | (go_at_call 157; refine (JL.out _ hb1.out).mono ?_; clear q0 q1 q2 q3 q4 q5 q6 q7 zS; rintro e w2 ⟨v2, rfl, hv2, -, hb⟩; obtain ⟨a6, b6, a7, c7, rfl, -, y6, u6, -, y7, -⟩ := (hv2 (by trivial)).read hlr.out hlp; replace u6 := hide u6; clear hv2; obtain ⟨q0, q1, q2, q3, q4, q5, q6, q7⟩ := (kS.out.grow hb).cells8; have zS := (kS.out.grow hb).lt; replace kS := hide (kS.out.grow hb); replace hb1 := hide (bup hb1.out hb); clear hb) | (go_at_call 158; refine (JG.out _ hb1.out).mono ?_; clear q0 q1 q2 q3 q4 q5 q6 q7 zS; rintro e w3 ⟨v3, rfl, hv3, -, hb⟩; obtain ⟨g6, m6, g7, k7, rfl, -, z6, r6, -, z7, r7⟩ := (hv3 (by trivial)).read2 hrw.out hrp; replace r7 := hide r7; have u7 := (hb.cell (p := ⟨a6, d, none⟩) y6).trans u6.out; have y8 := Nat.lt_of_lt_of_le y6 hb.size; clear hv3; obtain ⟨q0, q1, q2, q3, q4, q5, q6, q7⟩ := (kS.out.grow hb).cells8; have zS := (kS.out.grow hb).lt; replace kS := hide (kS.out.grow hb); replace hb1 := hide (bup hb1.out hb); clear hb))
 (refine wp_grow ?_; (repeat go_big_quiet_step ((go_at_call 156; exact calls_grew (JW.out _ (bup hb1.out (Grew.below _)))))); refine wp_grow0 ?_; intro W1 hW1)
 go_wp2_with fail
 exact bodyPost_ret (results_tmp3 (fn := Tryz.f96) rfl _ _ _) rfl ⟨.slice (some ⟨a7, 0, none⟩) lrow.length c7, .slice (some ⟨g7, 0, none⟩) row.length k7, rfl, fun _ => (r7.out.below hW1).sl intC_len (by have := hrl.out; omega), bup hb1.out hW1⟩

theorem ref7_safe (s : Scene) (V : SceneV) (t : Track) (vh : Value) (row : List Int) (w : World) (hS : SceneAt w s V) (hl : Sl w 1 intC vh row) (hrl : row.length = s.basin.cells.length) (hbd : ∀ u ∈ row, 0 ≤ u ∧ u ≤ 65536) (hst : 0 ≤ t.steep ∧ t.steep ≤ 60) :
  Calls Tryz.prog 101 #[s.v V, .agg #[I t.no, I t.a, I t.b, I t.minutes, I t.cell, I t.steep], vh] w fun e w' => e = .returned (.bool (safeB (fw s.basin.cells row) t)) ∧ Below w.heap.size w w' := by
 have JP := fun w' (hb : Below w.heap.size w w') => ref5_Place s.basin V.cells V.pairs t.cell w' (hS.cells.mono hb) (hS.pairs.mono hb)
 have hL := hide hl
 obtain ⟨Ac, nc, hcc, -⟩ := hS.cells.open_
 obtain ⟨Ap, np, hpp, -⟩ := hS.pairs.open_
 obtain ⟨Ad, nd, hdd, -⟩ := hS.days.open_
 obtain ⟨As, ns, hsi, -⟩ := hS.sights.open_
 obtain ⟨Ah, nh, hch, -⟩ := hS.changes.open_
 obtain ⟨D, nl, rfl, _, _, _, hA⟩ := hl.open_
 unfold Scene.v Basin.v at *
 simp only [hcc, hpp, hdd, hsi, hch] at JP ⊢
 clear hcc hpp hdd hsi hch hS hl
 have hpl : 0 ≤ placeC s.basin.cells t.cell → placeC s.basin.cells t.cell < s.basin.cells.length := fun h => idxBy_lt h
 have hsb : safeB (fw s.basin.cells row) t = (decide (t.steep ≤ 25) || (if placeC s.basin.cells t.cell < 0 then false else !breaksB (row.getD (placeC s.basin.cells t.cell).toNat 0) t.steep)) := by
  unfold safeB fw
  split
  ·rename_i h
   split at h
   ·rename_i h2; rw [if_pos h2]
   ·cases h
  ·rename_i u h
   split at h
   ·cases h
   ·rename_i h2
    injection h with h
    rw [if_neg h2, h]
 rw [hsb]
 obtain ⟨P, hP⟩ : ∃ q, placeC s.basin.cells t.cell = q := ⟨_, rfl⟩
 rw [hP] at JP hpl ⊢
 clear hsb hP
 replace JP := hide JP
 replace hA := hide hA
 obtain ⟨w1, hw1, hb1, kS, kT⟩ := al2 w (s8 s Ac nc Ap np Ad nd As ns Ah nh) 42 #[I t.no, I t.a, I t.b, I t.minutes, I t.cell, I t.steep] 74
 replace hb1 := hide hb1
 obtain ⟨q0, q1, q2, q3, q4, q5, q6, q7⟩ := kS.cells8
 have zS := kS.lt
 obtain ⟨x0, x1, x2, x3, x4, x5⟩ := cells6 kT
 have zT := kT.lt
 replace kS := hide kS
 replace kT := hide kT
 by_cases h0 : t.steep ≤ 25
 case pos =>
  rw [decide_eq_true h0, Bool.true_or]
  have hd0 : decide (t.steep ≤ 25) = true := decide_eq_true h0
  replace h0 := hide h0
  clear hpl hst hbd
  go_enter Tryz.func101, Tryz.ntmps101
  go_upto_region 1 with fail
  rw [← hw1]
  clear hw1
  go_wp2_with fail
  go_ret
  exact ⟨rfl, hb1.out⟩
 have hd0 : decide (t.steep ≤ 25) = false := decide_eq_false h0
 rw [hd0, Bool.false_or]
 by_cases h1 : 0 ≤ P
 case neg =>
  rw [if_pos (by omega)]
  have hd1 : decide (0 ≤ P) = false := decide_eq_false h1
  replace h0 := hide h0
  replace h1 := hide h1
  clear hpl hst hbd
  go_enter Tryz.func101, Tryz.ntmps101
  go_upto_region 1 with fail
  rw [← hw1]
  clear hw1
  go_upto_region 4 with (go_at_call 141; refine (JP.out _ hb1.out).mono ?_; clear x0 x1 x2 x3 x4 x5 zT q0 q1 q2 q3 q4 q5 q6 q7 zS; rintro e w2 ⟨rfl, hb⟩; obtain ⟨x0, x1, x2, x3, x4, x5⟩ := cells6 (kT.out.grow hb); have zT := (kT.out.grow hb).lt; replace kT := hide (kT.out.grow hb); obtain ⟨q0, q1, q2, q3, q4, q5, q6, q7⟩ := (kS.out.grow hb).cells8; have zS := (kS.out.grow hb).lt; replace kS := hide (kS.out.grow hb); replace hb1 := hide (bup hb1.out hb); clear hb)
  (refine wp_grow ?_; (repeat go_big_quiet_step (fail)); refine wp_grow0 ?_; intro W1 hW1)
  go_wp2_with fail
  go_ret
  exact ⟨rfl, bup hb1.out hW1⟩
 rw [if_neg (by omega)]
 have hPl := hpl h1
 obtain ⟨k, rfl⟩ : ∃ k : Nat, P = k := ⟨P.toNat, by omega⟩
 obtain ⟨b, off, rfl, hbw⟩ := hA.out k (by omega)
 obtain ⟨u, hu⟩ := getElem?_of_lt (xs := row) (k := k) (by omega)
 have hub := hbd u (List.mem_of_getElem? hu)
 have hg : row.getD (k : Int).toNat 0 = u := by simp [hu]
 rw [hg]
 have hd1 : decide (0 ≤ (k : Int)) = true := decide_eq_true h1
 have k1 : (k : Int) < (row.length : Int) := by omega
 have JB := fun W => ref7_breaks u t.steep W hub.1 (by omega) hst.1 hst.2
 obtain ⟨Q, hQ⟩ : ∃ q, breaksB u t.steep = q := ⟨_, rfl⟩
 simp only [hQ] at JB ⊢
 replace JB := hide JB
 clear hQ
 replace h0 := hide h0
 replace hbw := hide hbw
 replace hu := hide hu
 replace hrl := hide hrl
 replace hPl := hide hPl
 clear hpl hst hbd hub hg
 go_enter Tryz.func101, Tryz.ntmps101
 go_upto_region 1 with fail
 rw [← hw1]
 clear hw1
 go_wp2_with fail
 go_at_call 141
 refine (JP.out _ hb1.out).mono ?_
 clear x0 x1 x2 x3 x4 x5 zT q0 q1 q2 q3 q4 q5 q6 q7 zS
 rintro e w2 ⟨rfl, hb⟩
 obtain ⟨zl, l0⟩ := ((hL.out.mono hb1.out).mono hb).int_at hu.out
 obtain ⟨x0, x1, x2, x3, x4, x5⟩ := cells6 (kT.out.grow hb)
 have zT := (kT.out.grow hb).lt
 replace kT := hide (kT.out.grow hb)
 obtain ⟨q0, q1, q2, q3, q4, q5, q6, q7⟩ := (kS.out.grow hb).cells8
 have zS := (kS.out.grow hb).lt
 replace kS := hide (kS.out.grow hb)
 replace hb1 := hide (bup hb1.out hb)
 clear hb
 go_upto_region 4 with fail
 (refine wp_grow ?_; (repeat go_big_quiet_step ((go_at_call 80; exact calls_grew_same (JB.out _)))); refine wp_grow0 ?_; intro W1 hW1)
 go_wp2_with fail
 go_ret
 exact ⟨rfl, bup hb1.out hW1⟩

theorem safe_hw {s : Scene} {day : Int} (hd : 0 ≤ placeD s.days day) : hwF s day = fw s.basin.cells (highR s day) := by
 funext no
 unfold hwF fw highR
 rfl
theorem high_in2 {s : Scene} {day : Int} (h0 : sceneE s = 0) (hg : greatE s = 0) (hd : 0 ≤ placeD s.days day) : (highR s day).length = s.basin.cells.length ∧ ∀ u ∈ highR s day, 0 ≤ u ∧ u ≤ 65536 := by
 have hso := SceneOk.of h0
 have hdl := placeD_lt (s := s) (d := day) hd
 obtain ⟨row, hrw, hrl⟩ := greatF_at (s := s) (d := (placeD s.days day).toNat) (by omega)
 have e : highR s day = row := getD_row hrw
 rw [e]
 exact ⟨hrl, fun u hu => greatF_bd hso hg row (List.mem_of_getElem? hrw) u hu⟩
theorem safe_steps {ss : List Site} {ts : List Track} {s : Scene} {day no : Int} : (readyE ss ts s ≠ 0 → safeE ss ts s day no = readyE ss ts s ∧ safeV ss ts s day no = false) ∧
  (readyE ss ts s = 0 → (placeT ts no < 0 ∨ placeD s.days day < 0) → safeE ss ts s day no = 1 ∧ safeV ss ts s day no = false) ∧
  (readyE ss ts s = 0 → 0 ≤ placeT ts no → 0 ≤ placeD s.days day → safeE ss ts s day no = greatE s ∧ safeV ss ts s day no = ((greatE s == 0) && safeB (hwF s day) (trackAt ts no))) := by
 have hr70 : rangeE ss ts ≠ 0 → rangeE ss ts = 70 := fun h => by unfold rangeE at h ⊢; split <;> simp_all
 refine ⟨fun h => ?_, fun h h2 => ?_, fun h h2 h3 => ?_⟩
 ·have e : safeE ss ts s day no = readyE ss ts s := by
   unfold safeE seenE
   unfold readyE at h ⊢
   by_cases h1 : rangeE ss ts = 0
   ·rw [if_neg (by simpa using h1)] at h
    simp [h1, h]
   ·simp [h1, hr70 h1]
  exact ⟨e, by simp [safeV, e, h]⟩
 ·have h1 : rangeE ss ts = 0 := Classical.byContradiction fun e => by simp [readyE, e] at h
  have h4 : sceneE s = 0 := by simpa [readyE, h1] using h
  have e : safeE ss ts s day no = 1 := by
   unfold safeE seenE
   rw [if_neg (by simpa using h1), if_neg (by simpa using h4), if_pos]
   rcases h2 with h2 | h2
   ·exact .inr (decide_eq_false (by omega))
   ·exact .inl h2
  exact ⟨e, by simp [safeV, e]⟩
 ·have h1 : rangeE ss ts = 0 := Classical.byContradiction fun e => by simp [readyE, e] at h
  have h4 : sceneE s = 0 := by simpa [readyE, h1] using h
  have e : safeE ss ts s day no = greatE s := by
   unfold safeE seenE
   rw [if_neg (by simpa using h1), if_neg (by simpa using h4), if_neg]
   rintro (h5 | h5)
   ·omega
   ·exact absurd h2 (of_decide_eq_false h5)
  exact ⟨e, by simp [safeV, e]⟩
theorem ready_zero {ss : List Site} {ts : List Track} {s : Scene} (h : readyE ss ts s = 0) : RangeOk ss ts ∧ sceneE s = 0 := by
 have h1 : rangeE ss ts = 0 := Classical.byContradiction fun e => by simp [readyE, e] at h
 exact ⟨RangeOk.of h1, by simpa [readyE, h1] using h⟩
theorem ref7_Safe (vs vt : Value) (ss : List Site) (ts : List Track) (s : Scene) (V : SceneV) (no : Int) (day : Int) (w : World) (hs : Sl w 3 Site.cells vs ss) (ht : Sl w 6 Track.cells vt ts) (hS : SceneAt w s V)  :
  Calls Tryz.prog 34 #[.agg #[vs, vt], s.v V, I no, I day] w fun e w' => e = .returned (.tuple #[.bool (safeV ss ts s day no), I (safeE ss ts s day no)]) ∧ Below w.heap.size w w' := by
 have JD := fun w' (hb : Below w.heap.size w w') => ref7_Ready vs vt ss ts s V day w' (hs.mono hb) (ht.mono hb) (hS.mono hb)
 have JI := fun w' (hb : Below w.heap.size w w') => ref7_Find vs vt ts no w' (ht.mono hb)
 have JW := fun h0 hd w' (hb : Below w.heap.size w w') => ref7_Rows s V day w' (hS.mono hb) h0 hd
 have JS := fun t vh row h1 h2 h3 w' (hb : Below w.heap.size w w') hl => ref7_safe s V t vh row w' (hS.mono hb) hl h1 h2 h3
 have hTl := hide ht
 obtain ⟨Ac, nc, hcc, -⟩ := hS.cells.open_
 obtain ⟨Ap, np, hpp, -⟩ := hS.pairs.open_
 obtain ⟨Ad, nd, hdd, -⟩ := hS.days.open_
 obtain ⟨As, ns, hsi, -⟩ := hS.sights.open_
 obtain ⟨Ah, nh, hch, -⟩ := hS.changes.open_
 obtain ⟨A, n, rfl, -⟩ := hs.open_
 obtain ⟨A', n', rfl, _, _, _, hT⟩ := ht.open_
 unfold Scene.v at *
 simp only [hcc, hpp, hdd, hsi, hch] at JD JW JS ⊢
 clear hcc hpp hdd hsi hch
 obtain ⟨s1, s2, s3⟩ := safe_steps (ss := ss) (ts := ts) (s := s) (day := day) (no := no)
 have hB : readyB ss ts s day = ((readyE ss ts s == 0) && decide (0 ≤ placeD s.days day)) := rfl
 have hrz := hide (fun h => ready_zero (ss := ss) (ts := ts) (s := s) h)
 have hpl := hide (fun h => trackAt_of (ts := ts) (no := no) h)
 have hlt := hide (fun h => placeT_lt (ts := ts) (no := no) h)
 have hhi := hide (fun h h2 h3 => high_in2 (s := s) (day := day) h h2 h3)
 have hhw := hide (fun h => safe_hw (s := s) (day := day) h)
 obtain ⟨E, hE⟩ : ∃ q, readyE ss ts s = q := ⟨_, rfl⟩
 obtain ⟨SE, hSE⟩ : ∃ q, safeE ss ts s day no = q := ⟨_, rfl⟩
 obtain ⟨SV, hSV⟩ : ∃ q, safeV ss ts s day no = q := ⟨_, rfl⟩
 rw [hE, hSE, hSV] at s1 s2 s3
 rw [hE] at hB hrz
 simp only [hE] at JD
 rw [hSE, hSV]
 clear hE hSE hSV hs ht hS
 have hTA := hide hT
 clear hT
 replace JD := hide JD
 replace JI := hide JI
 replace JW := hide JW
 replace JS := hide JS
 obtain ⟨w1, hw1, hb, kR, kS⟩ := al2 w #[.slice A ss.length n, .slice A' ts.length n'] 25 (s8 s Ac nc Ap np Ad nd As ns Ah nh) 42
 replace kR := hide kR
 replace kS := hide kS
 have B1 := hide hb
 clear hb
 by_cases h0 : E = 0
 case neg =>
  obtain ⟨rfl, rfl⟩ := s1 h0
  rw [show (SE == 0) = false by simpa using h0, Bool.false_and] at hB
  rw [hB] at JD
  have hne : (SE != 0) = true := by simpa using h0
  replace h0 := hide h0
  clear s1 s2 s3 hB hrz hpl hlt hhi hhw
  go_enter Tryz.func34, Tryz.ntmps34
  go_upto_region 1 with fail
  rw [← hw1]
  clear hw1
  obtain ⟨r0, r1⟩ := kR.out.cells2
  have zR := kR.out.lt
  obtain ⟨q0, q1, q2, q3, q4, q5, q6, q7⟩ := kS.out.cells8
  have zS := kS.out.lt
  go_wp2_with fail
  clear r0 r1 zR q0 q1 q2 q3 q4 q5 q6 q7 zS
  go_at_call 94
  refine (JD.out _ B1.out).mono ?_
  rintro e w2 ⟨rfl, hb⟩
  replace kR := hide (kR.out.grow hb)
  replace kS := hide (kS.out.grow hb)
  have B2 := hide (bup B1.out hb)
  clear hb B1
  go_wp2_with fail
  go_ret2
  exact ⟨rfl, B2.out⟩
 subst h0
 rw [show ((0 : Int) == 0) = true from rfl, Bool.true_and] at hB
 obtain ⟨hro, hsz⟩ := hrz.out rfl
 rw [hB] at JD
 clear hB hrz s1
 by_cases h1 : placeT ts no < 0 ∨ placeD s.days day < 0
 case pos =>
  obtain ⟨rfl, rfl⟩ := s2 rfl h1
  obtain ⟨P, hP⟩ : ∃ q, placeT ts no = q := ⟨_, rfl⟩
  obtain ⟨G, hG⟩ : ∃ q, decide (0 ≤ placeD s.days day) = q := ⟨_, rfl⟩
  rw [hG] at JD
  have JI1 := fun w' hb => JI.out w' hb
  simp only [hP] at JI1
  replace JI1 := hide JI1
  have hc : decide (P < 0) = true ∨ (decide (P < 0) = false ∧ G = false) := by
   rcases h1 with h1 | h1
   ·exact .inl (decide_eq_true (by omega))
   ·by_cases h2 : P < 0
    ·exact .inl (decide_eq_true h2)
    ·exact .inr ⟨decide_eq_false h2, by rw [← hG]; exact decide_eq_false (by omega)⟩
  clear h1 s2 s3 hP hG hpl hlt hhi hhw JI
  replace hro := hide hro
  replace hsz := hide hsz
  rcases hc with hc | ⟨hc, rfl⟩
  case inl =>
   go_enter Tryz.func34, Tryz.ntmps34
   go_upto_region 1 with fail
   rw [← hw1]
   clear hw1
   obtain ⟨r0, r1⟩ := kR.out.cells2
   have zR := kR.out.lt
   obtain ⟨q0, q1, q2, q3, q4, q5, q6, q7⟩ := kS.out.cells8
   have zS := kS.out.lt
   go_wp2_with fail
   clear r0 r1 zR q0 q1 q2 q3 q4 q5 q6 q7 zS
   go_at_call 94
   refine (JD.out _ B1.out).mono ?_
   rintro e w2 ⟨rfl, hb⟩
   replace kR := hide (kR.out.grow hb)
   replace kS := hide (kS.out.grow hb)
   have B2 := hide (bup B1.out hb)
   clear hb B1
   obtain ⟨r0, r1⟩ := kR.out.cells2
   have zR := kR.out.lt
   go_wp2_with fail
   clear r0 r1 zR
   go_at_call 100
   refine (JI1.out _ B2.out).mono ?_
   rintro e w3 ⟨rfl, hb⟩
   replace kR := hide (kR.out.grow hb)
   replace kS := hide (kS.out.grow hb)
   have B3 := hide (bup B2.out hb)
   clear hb B2
   go_wp2_with fail
   go_ret2
   exact ⟨rfl, B3.out⟩
  case inr =>
   go_enter Tryz.func34, Tryz.ntmps34
   go_upto_region 1 with fail
   rw [← hw1]
   clear hw1
   obtain ⟨r0, r1⟩ := kR.out.cells2
   have zR := kR.out.lt
   obtain ⟨q0, q1, q2, q3, q4, q5, q6, q7⟩ := kS.out.cells8
   have zS := kS.out.lt
   go_wp2_with fail
   clear r0 r1 zR q0 q1 q2 q3 q4 q5 q6 q7 zS
   go_at_call 94
   refine (JD.out _ B1.out).mono ?_
   rintro e w2 ⟨rfl, hb⟩
   replace kR := hide (kR.out.grow hb)
   replace kS := hide (kS.out.grow hb)
   have B2 := hide (bup B1.out hb)
   clear hb B1
   obtain ⟨r0, r1⟩ := kR.out.cells2
   have zR := kR.out.lt
   go_wp2_with fail
   clear r0 r1 zR
   go_at_call 100
   refine (JI1.out _ B2.out).mono ?_
   rintro e w3 ⟨rfl, hb⟩
   replace kR := hide (kR.out.grow hb)
   replace kS := hide (kS.out.grow hb)
   have B3 := hide (bup B2.out hb)
   clear hb B2
   go_wp2_with fail
   go_ret2
   exact ⟨rfl, B3.out⟩
 have hT0 : 0 ≤ placeT ts no := by omega
 have hD0 : 0 ≤ placeD s.days day := by omega
 obtain ⟨rfl, rfl⟩ := s3 rfl hT0 hD0
 rw [decide_eq_true hD0] at JD
 obtain ⟨x, hx, hxa, -⟩ := hpl.out hT0
 have hl1 := hlt.out hT0
 have hxin := hro.tr (List.mem_of_getElem? hx)
 rw [hxa, hhw.out hD0]
 obtain ⟨k, hk⟩ : ∃ k : Nat, placeT ts no = k := ⟨(placeT ts no).toNat, by omega⟩
 rw [hk] at hx hl1
 simp only [Int.toNat_natCast] at hx
 have JI1 := fun w' hb => JI.out w' hb
 simp only [hk] at JI1
 replace JI1 := hide JI1
 obtain ⟨b, off, rfl, hbw⟩ := hTA.out k (by omega)
 have JW1 := JW.out hsz hD0
 have hh2 := hide (fun h => hhi.out hsz h hD0)
 obtain ⟨GE, hGE⟩ : ∃ q, greatE s = q := ⟨_, rfl⟩
 rw [hGE] at hh2 ⊢
 simp only [hGE] at JW1
 replace JW1 := hide JW1
 obtain ⟨VV, hVV⟩ : ∃ q, ((GE == 0) && safeB (fw s.basin.cells (highR s day)) x) = q := ⟨_, rfl⟩
 rw [hVV]
 replace hVV := hide hVV
 have hkn : decide ((k : Int) < 0) = false := by simp
 have k0 : (0 : Int) ≤ (k : Int) := by omega
 clear h1 s2 s3 hpl hlt hhi hhw JI hGE hxa hT0
 replace hD0 := hide hD0
 replace hro := hide hro
 replace hsz := hide hsz
 replace hx := hide hx
 replace hbw := hide hbw
 replace hk := hide hk
 replace hxin := hide hxin
 go_enter Tryz.func34, Tryz.ntmps34
 go_upto_region 1 with fail
 rw [← hw1]
 clear hw1
 obtain ⟨r0, r1⟩ := kR.out.cells2
 have zR := kR.out.lt
 obtain ⟨q0, q1, q2, q3, q4, q5, q6, q7⟩ := kS.out.cells8
 have zS := kS.out.lt
 go_wp2_with fail
 clear r0 r1 zR q0 q1 q2 q3 q4 q5 q6 q7 zS
 go_at_call 94
 refine (JD.out _ B1.out).mono ?_
 rintro e w2 ⟨rfl, hb⟩
 replace kR := hide (kR.out.grow hb)
 replace kS := hide (kS.out.grow hb)
 have B2 := hide (bup B1.out hb)
 clear hb B1
 obtain ⟨r0, r1⟩ := kR.out.cells2
 have zR := kR.out.lt
 go_wp2_with fail
 clear r0 r1 zR
 go_at_call 100
 refine (JI1.out _ B2.out).mono ?_
 rintro e w3 ⟨rfl, hb⟩
 replace kR := hide (kR.out.grow hb)
 replace kS := hide (kS.out.grow hb)
 have B3 := hide (bup B2.out hb)
 clear hb B2
 obtain ⟨q0, q1, q2, q3, q4, q5, q6, q7⟩ := kS.out.cells8
 have zS := kS.out.lt
 go_wp2_with fail
 clear q0 q1 q2 q3 q4 q5 q6 q7 zS
 go_at_call 96
 refine (JW1.out _ B3.out).mono ?_
 rintro e w4 ⟨v5, v6, rfl, hv6, hb⟩
 replace kR := hide (kR.out.grow hb)
 replace kS := hide (kS.out.grow hb)
 have B4 := hide (bup B3.out hb)
 clear hb B3
 by_cases h2 : GE = 0
 case neg =>
  have hne : (GE != 0) = true := by simpa using h2
  have hq : (GE == 0) = false := by simpa using h2
  have hVf := hVV.out.symm
  rw [hq, Bool.false_and] at hVf
  replace h2 := hide h2
  replace hVf := hide hVf
  clear hq
  go_wp2_with fail
  go_ret2
  exact ⟨by rw [hVf.out]; rfl, B4.out⟩
 subst h2
 have hVf := hVV.out
 rw [show ((0 : Int) == 0) = true from rfl, Bool.true_and] at hVf
 obtain ⟨hh3, hh4⟩ := hh2.out rfl
 have hR := hv6 (by trivial)
 obtain ⟨RR, hRR⟩ : ∃ q, highR s day = q := ⟨_, rfl⟩
 rw [hRR] at hh3 hh4 hR hVf
 clear hRR hv6 hVV
 obtain ⟨DR, nR, rfl, -⟩ := hR.open_
 obtain ⟨zt, t0, t1, t2, t3, t4, t5⟩ := (hTl.out.mono B4.out).track_at hx.out
 have JS0 := fun (g : Grew w4) => JS.out x _ RR hh3 hh4 hxin.out.steep g.w (bup B4.out (Grew.below g)) (hR.mono (Grew.below g))
 obtain ⟨QQ, hQQ⟩ : ∃ q, safeB (fw s.basin.cells RR) x = q := ⟨_, rfl⟩
 simp only [hQQ] at JS0
 rw [hQQ] at hVf
 replace hVf := hide hVf
 have JS1 := hide (fun (g : Grew w4) => calls_grew (JS0 g))
 replace hh3 := hide hh3
 replace hh4 := hide hh4
 replace hR := hide hR
 clear hQQ hh2 JS JW1 JI1 JD JS0
 obtain ⟨r0, r1⟩ := kR.out.cells2
 have zR := kR.out.lt
 obtain ⟨q0, q1, q2, q3, q4, q5, q6, q7⟩ := kS.out.cells8
 have zS := kS.out.lt
 go_upto_region 10 with fail
 (refine wp_grow ?_; (repeat go_big_quiet_step ((go_at_call 101; exact JS1.out _))); refine wp_grow0 ?_; intro W1 hW1)
 go_wp2_with fail
 go_ret2
 exact ⟨by rw [hVf.out]; rfl, bup B4.out hW1⟩
theorem ref7_open (vs vt : Value) (ss : List Site) (ts : List Track) (s : Scene) (V : SceneV) (vh : Value) (row : List Int) (w : World) (hs : Sl w 3 Site.cells vs ss) (ht : Sl w 6 Track.cells vt ts) (hS : SceneAt w s V) (hl : Sl w 1 intC vh row) (hr : RangeOk ss ts) (hrl : row.length = s.basin.cells.length) (hbd : ∀ u ∈ row, 0 ≤ u ∧ u ≤ 65536) :
  Calls Tryz.prog 97 #[.agg #[vs, vt], s.v V, vh] w fun e w' => ∃ v, e = .returned v ∧ Own w' w.heap.size 74 6 Track.cells v (openF (fw s.basin.cells row) ts) ∧ Below w.heap.size w w' := by
 have JS := fun t h3 w' (hb : Below w.heap.size w w') => ref7_safe s V t vh row w' (hS.mono hb) (hl.mono hb) hrl hbd h3
 have hTl := hide ht
 obtain ⟨D, nl, rfl, -⟩ := hl.open_
 obtain ⟨Ac, nc, hcc, -⟩ := hS.cells.open_
 obtain ⟨Ap, np, hpp, -⟩ := hS.pairs.open_
 obtain ⟨Ad, nd, hdd, -⟩ := hS.days.open_
 obtain ⟨As, ns, hsi, -⟩ := hS.sights.open_
 obtain ⟨Ah, nh, hch, -⟩ := hS.changes.open_
 obtain ⟨A, n, rfl, -⟩ := hs.open_
 obtain ⟨A', n', rfl, _, _, _, hT⟩ := ht.open_
 unfold Scene.v at *
 simp only [hcc, hpp, hdd, hsi, hch] at JS ⊢
 clear hcc hpp hdd hsi hch
 have hTA := hide hT
 clear hT
 have hst := hide (fun t (h : t ∈ ts) => (hr.tr h).steep)
 have hn := hr.n2
 obtain ⟨m, hm⟩ : ∃ q, fw s.basin.cells row = q := ⟨_, rfl⟩
 simp only [hm] at JS ⊢
 clear hm hs ht hS hl hr hrl hbd
 replace JS := hide JS
 obtain ⟨w1, hw1, hb, kR, kS⟩ := al2 w #[.slice A ss.length n, .slice A' ts.length n'] 25 (s8 s Ac nc Ap np Ad nd As ns Ah nh) 42
 replace kR := hide kR
 replace kS := hide kS
 have B1 := hide hb
 clear hb
 go_enter Tryz.func97, Tryz.ntmps97
 go_upto_region 1 with fail
 rw [← hw1]
 clear hw1
 go_wp2_with fail
 have hw1s := B1.out.size
 go_loopw [7, 8] (fun v i wr => ∃ k : Nat, k ≤ ts.length ∧ i = I k ∧ Hid (Own wr w1.heap.size 74 6 Track.cells v (openF m (ts.take k))) ∧ Hid (Below w1.heap.size w1 wr)) (fun _ i _ => ts.length - (intOf i).toNat)
 case atStart => exact ⟨0, Nat.zero_le _, rfl, hide (Own.nil_ _ _ _ _ _), hide (Below.refl _ _)⟩
 case round =>
  obtain ⟨k, hk, rfl, ho, hbk⟩ := hrel
  have hb := hbk.out
  have hb0 := hide hb
  clear hbk
  replace kR := hide (kR.out.grow hb)
  replace kS := hide (kS.out.grow hb)
  have B2 := hide (bup B1.out hb)
  clear hb B1
  by_cases hlt : k < ts.length
  case neg =>
   obtain rfl : k = ts.length := by omega
   have ho2 := ho.out
   rw [List.take_length] at ho2
   obtain ⟨A1, n1, c1, rfl⟩ := ho2.shape
   replace ho2 := hide ho2
   obtain ⟨r0, r1⟩ := kR.out.cells2
   have zR := kR.out.lt
   go_wp2_with fail
   go_ret
   exact ⟨_, rfl, ho2.out.mono hw1s, B2.out⟩
  obtain ⟨b, off, rfl, hbw⟩ := hTA.out k hlt
  obtain ⟨t, htk⟩ := getElem?_of_lt hlt
  obtain ⟨_, f0, f1, f2, f3, f4, f5⟩ := (hTl.out.mono B2.out).track_at htk
  have hbx : b < wr.heap.size := by have := B2.out.size; omega
  have k0 : (0 : Int) ≤ (k : Int) := by omega
  have k1 : (k : Int) < (ts.length : Int) := by omega
  have hsn := openF_snoc (m := m) htk
  have hll := openF_len m (ts.take k)
  rw [List.length_take] at hll
  have hl48 : (openF m (ts.take k)).length ≤ 48 := by omega
  have JS0 := fun (g : Grew wr) => JS.out t (hst.out t (List.mem_of_getElem? htk)) g.w (bup B2.out (Grew.below g))
  obtain ⟨q, hq⟩ : ∃ q, safeB m t = q := ⟨_, rfl⟩
  rw [hq] at hsn
  simp only [hq] at JS0
  have JS1 := hide (fun (g : Grew wr) => calls_grew (JS0 g))
  replace hsn := hide hsn
  replace hl48 := hide hl48
  replace htk := hide htk
  clear hq hll JS0
  obtain ⟨r0, r1⟩ := kR.out.cells2
  have zR := kR.out.lt
  obtain ⟨q0, q1, q2, q3, q4, q5, q6, q7⟩ := kS.out.cells8
  have zS := kS.out.lt
  go_upto_region 5 with fail
  (refine wp_grow ?_; (repeat go_big_quiet_step ((go_at_call 101; exact JS1.out _))); refine wp_grow0 ?_; intro W1 hW1)
  clear r0 r1 zR q0 q1 q2 q3 q4 q5 q6 q7 zS f0 f1 f2 f3 f4 f5 hbx
  have hb := hW1
  replace hb0 := hide (bup hb0.out hb)
  replace ho := hide (ho.out.below hb)
  replace kR := hide (kR.out.grow hb)
  replace kS := hide (kS.out.grow hb)
  have B3 := hide (bup B2.out hb)
  clear hb B2
  obtain ⟨_, f0, f1, f2, f3, f4, f5⟩ := (hTl.out.mono B3.out).track_at htk.out
  have hbx : b < W1.heap.size := by have := B3.out.size; omega
  cases q with
  | false =>
   replace hsn := hide (by have := hsn.out; rwa [if_neg (by simp), List.append_nil] at this)
   obtain ⟨r0, r1⟩ := kR.out.cells2
   have zR := kR.out.lt
   go_wp2_with fail
   go_roundw
   case rel => exact ⟨k + 1, by omega, by go_num, hide (by rw [hsn.out]; exact ho.out), hb0⟩
   case measure => simp [intOf]; omega
  | true =>
   replace hsn := hide (by have := hsn.out; rwa [if_pos rfl] at this)
   obtain ⟨r0, r1⟩ := kR.out.cells2
   have zR := kR.out.lt
   go_wp2_with (at_builtin; refine wp_push el_Track Track.cells_len Track.cells_one rfl (.tmp 24) (.tmp 30) rfl w1.heap.size rfl (ho.out.alloc _) t rfl ?c1 ?c2 ?c3 ?c4 ?_)
   case c1 => exact new_cells rfl _ t.cells
   case c2 => have := hl48.out; omega
   case c3 => have := hl48.out; omega
   case c4 => have := hb0.out.size; simp; omega
   intro v' w5 hown hbel _
   rw [← hsn.out] at hown
   obtain ⟨A1, n1, c1, rfl⟩ := hown.shape
   replace hown := hide hown
   have hbF := hide ((hb0.out.alloc (by have := hb0.out.size; omega) (.cells #[I t.no, I t.a, I t.b, I t.minutes, I t.cell, I t.steep] 74)).trans hbel)
   clear hbel
   go_wp2_with fail
   go_roundw
   case rel => exact ⟨k + 1, by omega, by go_num, hown, hbF⟩
   case measure => simp [intOf]; omega

theorem open_steps {ss : List Site} {ts : List Track} {s : Scene} {day : Int} : (readyE ss ts s ≠ 0 → openE ss ts s day = readyE ss ts s ∧ openV ss ts s day = []) ∧ (readyE ss ts s = 0 → placeD s.days day < 0 → openE ss ts s day = 1 ∧ openV ss ts s day = []) ∧
  (readyE ss ts s = 0 → 0 ≤ placeD s.days day → openE ss ts s day = greatE s ∧ openV ss ts s day = if greatE s = 0 then (openF (hwF s day) ts).map Track.no else []) := by
 have hr70 : rangeE ss ts ≠ 0 → rangeE ss ts = 70 := fun h => by unfold rangeE at h ⊢; split <;> simp_all
 refine ⟨fun h => ?_, fun h h2 => ?_, fun h h3 => ?_⟩
 ·have e : openE ss ts s day = readyE ss ts s := by
   unfold openE seenE
   unfold readyE at h ⊢
   by_cases h1 : rangeE ss ts = 0
   ·rw [if_neg (by simpa using h1)] at h
    simp [h1, h]
   ·simp [h1, hr70 h1]
  exact ⟨e, by simp [openV, e, h]⟩
 ·have h1 : rangeE ss ts = 0 := Classical.byContradiction fun e => by simp [readyE, e] at h
  have h4 : sceneE s = 0 := by simpa [readyE, h1] using h
  have e : openE ss ts s day = 1 := by
   unfold openE seenE
   rw [if_neg (by simpa using h1), if_neg (by simpa using h4), if_pos (.inl h2)]
  exact ⟨e, by simp [openV, e]⟩
 ·have h1 : rangeE ss ts = 0 := Classical.byContradiction fun e => by simp [readyE, e] at h
  have h4 : sceneE s = 0 := by simpa [readyE, h1] using h
  have e : openE ss ts s day = greatE s := by
   unfold openE seenE
   rw [if_neg (by simpa using h1), if_neg (by simpa using h4), if_neg]
   rintro (h5 | h5)
   ·omega
   ·cases h5
  exact ⟨e, by simp [openV, e]⟩
theorem ref7_Open (vs vt : Value) (ss : List Site) (ts : List Track) (s : Scene) (V : SceneV) (day : Int) (w : World) (hs : Sl w 3 Site.cells vs ss) (ht : Sl w 6 Track.cells vt ts) (hS : SceneAt w s V)  :
  Calls Tryz.prog 66 #[.agg #[vs, vt], s.v V, I day] w fun e w' => ∃ v, e = .returned (.tuple #[v, I (openE ss ts s day)]) ∧ Own w' w.heap.size 3 1 intC v (openV ss ts s day) ∧ Below w.heap.size w w' := by
 have JD := fun w' (hb : Below w.heap.size w w') => ref7_Ready vs vt ss ts s V day w' (hs.mono hb) (ht.mono hb) (hS.mono hb)
 have JW := fun h0 hd w' (hb : Below w.heap.size w w') => ref7_Rows s V day w' (hS.mono hb) h0 hd
 have JO := fun vh row h1 h2 h3 w' (hb : Below w.heap.size w w') hl => ref7_open vs vt ss ts s V vh row w' (hs.mono hb) (ht.mono hb) (hS.mono hb) hl h1 h2 h3
 obtain ⟨Ac, nc, hcc, -⟩ := hS.cells.open_
 obtain ⟨Ap, np, hpp, -⟩ := hS.pairs.open_
 obtain ⟨Ad, nd, hdd, -⟩ := hS.days.open_
 obtain ⟨As, ns, hsi, -⟩ := hS.sights.open_
 obtain ⟨Ah, nh, hch, -⟩ := hS.changes.open_
 obtain ⟨A, n, rfl, -⟩ := hs.open_
 obtain ⟨A', n', rfl, -⟩ := ht.open_
 unfold Scene.v at *
 simp only [hcc, hpp, hdd, hsi, hch] at JD JW JO ⊢
 clear hcc hpp hdd hsi hch
 obtain ⟨s1, s2, s3⟩ := open_steps (ss := ss) (ts := ts) (s := s) (day := day)
 have hB : readyB ss ts s day = ((readyE ss ts s == 0) && decide (0 ≤ placeD s.days day)) := rfl
 have hrz := hide (fun h => ready_zero (ss := ss) (ts := ts) (s := s) h)
 have hhi := hide (fun h h2 h3 => high_in2 (s := s) (day := day) h h2 h3)
 have hhw := hide (fun h => safe_hw (s := s) (day := day) h)
 obtain ⟨E, hE⟩ : ∃ q, readyE ss ts s = q := ⟨_, rfl⟩
 obtain ⟨SE, hSE⟩ : ∃ q, openE ss ts s day = q := ⟨_, rfl⟩
 obtain ⟨SV, hSV⟩ : ∃ q, openV ss ts s day = q := ⟨_, rfl⟩
 rw [hE, hSE, hSV] at s1 s2 s3
 rw [hE] at hB hrz
 simp only [hE] at JD
 rw [hSE, hSV]
 clear hE hSE hSV hs ht hS
 replace JD := hide JD
 replace JW := hide JW
 replace JO := hide JO
 obtain ⟨w1, hw1, hb, kR, kS⟩ := al2 w #[.slice A ss.length n, .slice A' ts.length n'] 25 (s8 s Ac nc Ap np Ad nd As ns Ah nh) 42
 replace kR := hide kR
 replace kS := hide kS
 have B1 := hide hb
 clear hb
 by_cases h0 : E = 0
 case neg =>
  obtain ⟨rfl, rfl⟩ := s1 h0
  rw [show (SE == 0) = false by simpa using h0, Bool.false_and] at hB
  rw [hB] at JD
  have hne : (SE != 0) = true := by simpa using h0
  replace h0 := hide h0
  clear s1 s2 s3 hB hrz hhi hhw
  go_enter Tryz.func66, Tryz.ntmps66
  go_upto_region 1 with fail
  rw [← hw1]
  clear hw1
  obtain ⟨r0, r1⟩ := kR.out.cells2
  have zR := kR.out.lt
  obtain ⟨q0, q1, q2, q3, q4, q5, q6, q7⟩ := kS.out.cells8
  have zS := kS.out.lt
  go_wp2_with fail
  clear r0 r1 zR q0 q1 q2 q3 q4 q5 q6 q7 zS
  go_at_call 94
  refine (JD.out _ B1.out).mono ?_
  rintro e w2 ⟨rfl, hb⟩
  replace kR := hide (kR.out.grow hb)
  replace kS := hide (kS.out.grow hb)
  have B2 := hide (bup B1.out hb)
  clear hb B1
  go_wp2_with fail
  go_ret2
  exact ⟨_, rfl, Own.nil_ _ _ _ _ _, B2.out⟩
 subst h0
 rw [show ((0 : Int) == 0) = true from rfl, Bool.true_and] at hB
 obtain ⟨hro, hsz⟩ := hrz.out rfl
 rw [hB] at JD
 clear hB hrz s1
 by_cases hD0 : 0 ≤ placeD s.days day
 case neg =>
  obtain ⟨rfl, rfl⟩ := s2 rfl (by omega)
  rw [decide_eq_false hD0] at JD
  replace hro := hide hro
  replace hsz := hide hsz
  clear s2 s3 hhi hhw
  go_enter Tryz.func66, Tryz.ntmps66
  go_upto_region 1 with fail
  rw [← hw1]
  clear hw1
  obtain ⟨r0, r1⟩ := kR.out.cells2
  have zR := kR.out.lt
  obtain ⟨q0, q1, q2, q3, q4, q5, q6, q7⟩ := kS.out.cells8
  have zS := kS.out.lt
  go_wp2_with fail
  clear r0 r1 zR q0 q1 q2 q3 q4 q5 q6 q7 zS
  go_at_call 94
  refine (JD.out _ B1.out).mono ?_
  rintro e w2 ⟨rfl, hb⟩
  replace kR := hide (kR.out.grow hb)
  replace kS := hide (kS.out.grow hb)
  have B2 := hide (bup B1.out hb)
  clear hb B1
  go_wp2_with fail
  go_ret2
  exact ⟨_, rfl, Own.nil_ _ _ _ _ _, B2.out⟩
 obtain ⟨rfl, hSV⟩ := s3 rfl hD0
 rw [decide_eq_true hD0] at JD
 rw [hhw.out hD0] at hSV
 have JW1 := JW.out hsz hD0
 have hh2 := hide (fun h => hhi.out hsz h hD0)
 obtain ⟨GE, hGE⟩ : ∃ q, greatE s = q := ⟨_, rfl⟩
 rw [hGE] at hh2 hSV ⊢
 simp only [hGE] at JW1
 replace JW1 := hide JW1
 have n48 := hro.n2
 replace hD0 := hide hD0
 replace hro := hide hro
 replace hsz := hide hsz
 replace hSV := hide hSV
 clear s2 s3 hhi hhw hGE JW
 go_enter Tryz.func66, Tryz.ntmps66
 go_upto_region 1 with fail
 rw [← hw1]
 clear hw1
 obtain ⟨r0, r1⟩ := kR.out.cells2
 have zR := kR.out.lt
 obtain ⟨q0, q1, q2, q3, q4, q5, q6, q7⟩ := kS.out.cells8
 have zS := kS.out.lt
 go_wp2_with fail
 clear r0 r1 zR q0 q1 q2 q3 q4 q5 q6 q7 zS
 go_at_call 94
 refine (JD.out _ B1.out).mono ?_
 rintro e w2 ⟨rfl, hb⟩
 replace kR := hide (kR.out.grow hb)
 replace kS := hide (kS.out.grow hb)
 have B2 := hide (bup B1.out hb)
 clear hb B1
 obtain ⟨q0, q1, q2, q3, q4, q5, q6, q7⟩ := kS.out.cells8
 have zS := kS.out.lt
 go_wp2_with fail
 clear q0 q1 q2 q3 q4 q5 q6 q7 zS
 go_at_call 96
 refine (JW1.out _ B2.out).mono ?_
 rintro e w3 ⟨v5, v6, rfl, hv6, hb⟩
 replace kR := hide (kR.out.grow hb)
 replace kS := hide (kS.out.grow hb)
 have B3 := hide (bup B2.out hb)
 clear hb B2
 by_cases h2 : GE = 0
 case neg =>
  have hne : (GE != 0) = true := by simpa using h2
  have hVf := hSV.out
  rw [if_neg h2] at hVf
  subst hVf
  replace h2 := hide h2
  go_wp2_with fail
  go_ret2
  exact ⟨_, rfl, Own.nil_ _ _ _ _ _, B3.out⟩
 subst h2
 have hVf := hSV.out
 rw [if_pos rfl] at hVf
 obtain ⟨hh3, hh4⟩ := hh2.out rfl
 have hR := hv6 (by trivial)
 obtain ⟨RR, hRR⟩ : ∃ q, highR s day = q := ⟨_, rfl⟩
 rw [hRR] at hh3 hh4 hR hVf
 clear hRR hv6 hSV
 obtain ⟨DR, nR, rfl, -⟩ := hR.open_
 have hlen := openF_len (fw s.basin.cells RR) ts
 have JO1 := fun vh w' hb hl => JO.out vh RR hro.out hh3 hh4 w' hb hl
 obtain ⟨O, hO⟩ : ∃ q, openF (fw s.basin.cells RR) ts = q := ⟨_, rfl⟩
 rw [hO] at hlen hVf
 simp only [hO] at JO1
 replace JO1 := hide JO1
 replace hh3 := hide hh3
 replace hh4 := hide hh4
 replace hR := hide hR
 replace hVf := hide hVf
 clear hO hh2 JO JW1 JD
 obtain ⟨r0, r1⟩ := kR.out.cells2
 have zR := kR.out.lt
 obtain ⟨q0, q1, q2, q3, q4, q5, q6, q7⟩ := kS.out.cells8
 have zS := kS.out.lt
 go_wp2_with fail
 clear r0 r1 zR q0 q1 q2 q3 q4 q5 q6 q7 zS
 go_at_call 97
 refine (JO1.out _ _ B3.out hR.out).mono ?_
 rintro e w4 ⟨v7, rfl, hO3, hb⟩
 have hOs := hO3.sl Track.cells_len (by omega)
 obtain ⟨AO, cO, rfl, _, _, _, hAO⟩ := hOs.open_
 replace hOs := hide hOs
 replace hAO := hide hAO
 clear hO3 JO1
 replace kR := hide (kR.out.grow hb)
 replace kS := hide (kS.out.grow hb)
 replace hR := hide (hR.out.mono hb)
 have B4 := hide (bup B3.out hb)
 clear hb B3
 go_wp2_with fail
 have s3 := B4.out.size
 go_loopw [12, 14] (fun v i wr => ∃ k : Nat, k ≤ O.length ∧ i = I k ∧ Hid (Own wr w4.heap.size 3 1 intC v ((O.map Track.no).take k)) ∧ Hid (Below w4.heap.size w4 wr)) (fun _ i _ => O.length - (intOf i).toNat)
 case atStart => exact ⟨0, Nat.zero_le _, rfl, hide (Own.nil_ _ _ _ _ _), hide (Below.refl _ _)⟩
 case round =>
  obtain ⟨k, hk, rfl, ho, hbk⟩ := hrel
  have hb := hbk.out
  have hb0 := hide hb
  clear hbk
  replace kR := hide (kR.out.grow hb)
  replace kS := hide (kS.out.grow hb)
  replace hR := hide (hR.out.mono hb)
  replace hOs := hide (hOs.out.mono hb)
  have B5 := hide (bup B4.out hb)
  clear hb B4
  by_cases hlt : k < O.length
  case neg =>
   obtain rfl : k = O.length := by omega
   have ho2 := ho.out
   rw [List.take_of_length_le (by rw [List.length_map]; exact Nat.le_refl _)] at ho2
   obtain ⟨A1, n1, c1, rfl⟩ := ho2.shape
   replace ho2 := hide ho2
   go_wp2_with fail
   go_ret2
   exact ⟨_, rfl, by rw [hVf.out]; exact ho2.out.mono s3, B5.out⟩
  obtain ⟨b, off, rfl, hbw⟩ := hAO.out k hlt
  obtain ⟨t, htk⟩ := getElem?_of_lt hlt
  obtain ⟨_, f0, f1, f2, f3, f4, f5⟩ := hOs.out.track_at htk
  have hbx : b < wr.heap.size := by have := hb0.out.size; omega
  have k0 : (0 : Int) ≤ (k : Int) := by omega
  have k1 : (k : Int) < (O.length : Int) := by omega
  have hsn := hide (nos_snoc htk)
  have hl2 : ((O.map Track.no).take k).length ≤ 48 := by rw [List.length_take, List.length_map]; omega
  replace htk := hide htk
  replace hl2 := hide hl2
  go_wp2_with (at_builtin; refine wp_push el_int intC_len intC_one rfl (.tmp 47) (.tmp 53) rfl w4.heap.size rfl (ho.out.alloc _) t.no rfl ?c1 ?c2 ?c3 ?c4 ?_)
  case c1 => exact new_cells rfl _ (intC t.no)
  case c2 => have := hl2.out; omega
  case c3 => have := hl2.out; omega
  case c4 => have := hb0.out.size; simp; omega
  intro v' w9 hown hbel _
  rw [← hsn.out] at hown
  obtain ⟨A1, n1, c1, rfl⟩ := hown.shape
  replace hown := hide hown
  have hbF := hide ((hb0.out.alloc (by have := hb0.out.size; omega) (.cells #[I t.no] 3)).trans hbel)
  clear hbel
  go_wp2_with fail
  go_roundw
  case rel => exact ⟨k + 1, by omega, by go_num, hown, hbF⟩
  case measure => simp [intOf]; omega
end Go.Proofs.YtgbbljfmngmjeaaGreat
