/- The package crew: ends of a track, hired, visits, walked, sites, sum, clock. Conditions stand in the theorems. -/
import Derived.Test.YtgbbljfmngmjeaaGreatRangePack
import Derived.Test.YtgbbljfmngmjeaaGreatIndexFuncPack
import Derived.Test.YtgbbljfmngmjeaaGreatCrewDefsPack
import Derived.Test.YtgbbljfmngmjeaaGreatReachPack
import Derived.Test.YtgbbljfmngmjeaaGreatLeafPack
set_option linter.all false
set_option maxHeartbeats 4000000
set_option maxRecDepth 20000
namespace Go.Proofs.YtgbbljfmngmjeaaGreat
open Go.RowKit

theorem crew_ends (h base : Nat) (vs vt : Value) (ss : List Site) (m : Int → Option Int) (t : Track) (w : World) (H : HillAt w base h vs vt m) (hs : Sl w 3 Site.cells vs ss) :
  Calls Tryz.prog 154 #[.pointer (some ⟨h, 0, none⟩), .agg #[I t.no, I t.a, I t.b, I t.minutes, I t.cell, I t.steep]] w fun e w' => e = .returned (.tuple #[I (placeS ss t.a), I (placeS ss t.b)]) ∧ Below w.heap.size w w' := by
 obtain ⟨A, n, rfl, _⟩ := hs.open_
 have JS := fun no w' (hb : Below w.heap.size w w') => crew_site (.slice A ss.length n) vt ss no w' (hs.mono hb)
 obtain ⟨_, g, L, _, kH, _⟩ := H
 obtain ⟨b0, b1, b2⟩ := kH.cells3
 have zH := kH.lt
 replace JS := hide JS
 replace hs := hide hs
 clear kH
 go_enter Tryz.func154, Tryz.ntmps154
 go_wp2_with fail
 (refine wp_grow ?_; (repeat go_big_quiet_step ((go_at_call 83; exact calls_grew (JS.out _ _ (bup (below1 _ _) (Grew.below _)))))); refine wp_grow0 ?_; intro W1 hW1)
 go_wp2_with fail
 go_ret2
 exact ⟨rfl, bup (below1 _ _) hW1⟩

theorem siteAt_of {ss : List Site} {no : Int} (h : 0 ≤ placeS ss no) : ∃ x : Site, ss[(placeS ss no).toNat]? = some x ∧ siteAt ss no = x ∧ x.no = no := by
 obtain ⟨x, hx, hp⟩ := idxBy_at _ ss h
 exact ⟨x, hx, by simp only [siteAt]; exact getD_of hx, by simpa using hp⟩
theorem trackAt_of {ts : List Track} {no : Int} (h : 0 ≤ placeT ts no) : ∃ x : Track, ts[(placeT ts no).toNat]? = some x ∧ trackAt ts no = x ∧ x.no = no := by
 obtain ⟨x, hx, hp⟩ := idxBy_at _ ts h
 exact ⟨x, hx, by simp only [trackAt]; exact getD_of hx, by simpa using hp⟩
theorem placeS_lt {ss : List Site} {no : Int} (h : 0 ≤ placeS ss no) : placeS ss no < ss.length := idxBy_lt h
theorem placeT_lt {ts : List Track} {no : Int} (h : 0 ≤ placeT ts no) : placeT ts no < ts.length := idxBy_lt h

theorem crew_hired (vs vt : Value) (ss : List Site) (c : Crew) (w : World) (hs : Sl w 3 Site.cells vs ss) :
  Calls Tryz.prog 92 #[.agg #[vs, vt], .agg #[I c.hut, I c.work, I c.load]] w fun e w' => e = .returned (.bool (hiredB ss c)) ∧ Below w.heap.size w w' := by
 obtain ⟨A, n, rfl, _, _, _, hA⟩ := hs.open_
 have JS := fun w' (hb : Below w.heap.size w w') => crew_site (.slice A ss.length n) vt ss c.hut w' (hs.mono hb)
 obtain ⟨w1, hw1, hb1, kR, kC⟩ := al2 w #[.slice A ss.length n, vt] 25 #[I c.hut, I c.work, I c.load] 44
 obtain ⟨r0, r1⟩ := kR.cells2
 obtain ⟨q0, q1, q2⟩ := kC.cells3
 have zR := kR.lt
 have zC := kC.lt
 by_cases h0 : 0 ≤ placeS ss c.hut
 ·obtain ⟨x, hx, hxa, -⟩ := siteAt_of h0
  have hlt := placeS_lt h0
  have hF : hiredB ss c = ((x.kind == 1) && inB c.work 0 1440 && inB c.load 0 200) := by simp [hiredB, h0, hxa]
  rw [hF]
  clear hF
  obtain ⟨p, hp⟩ : ∃ p : Nat, placeS ss c.hut = p := ⟨(placeS ss c.hut).toNat, by omega⟩
  rw [hp] at JS hx hlt
  simp only [Int.toNat_natCast] at hx
  obtain ⟨b, off, rfl, hbw⟩ := hA p (by omega)
  obtain ⟨_, f0, f1, f2⟩ := hs.site_at hx
  have hp0 : (0 : Int) ≤ (p : Int) := by omega
  have hfS := hide (fun w' (hb : Below w.heap.size w w') => (hs.mono hb).site_at hx)
  replace JS := hide JS
  replace hp := hide hp
  replace hx := hide hx
  replace hxa := hide hxa
  replace kR := hide kR
  replace kC := hide kC
  clear hA hs f0 f1 f2 h0
  cases hk : x.kind == 1 with
  | false =>
   go_enter Tryz.func92, Tryz.ntmps92
   go_wp2_with fail
   rw [← hw1]
   clear hw1
   go_wp2_with (go_at_call 83; refine (JS.out _ hb1).mono ?_; clear r0 r1 q0 q1 q2 zR zC; rintro e w2 ⟨rfl, hb2⟩; obtain ⟨r0, r1⟩ := (kR.out.grow hb2).cells2; obtain ⟨q0, q1, q2⟩ := (kC.out.grow hb2).cells3; have zR := (kR.out.grow hb2).lt; have zC := (kC.out.grow hb2).lt; obtain ⟨zS, f0, f1, f2⟩ := hfS.out _ (bup hb1 hb2))
   go_ret
   exact ⟨ret_bool (by simp), bup hb1 hb2⟩
  | true =>
   go_enter Tryz.func92, Tryz.ntmps92
   go_wp2_with fail
   rw [← hw1]
   clear hw1
   go_wp2_with (first | (go_at_call 83; refine (JS.out _ hb1).mono ?_; clear r0 r1 q0 q1 q2 zR zC; rintro e w2 ⟨rfl, hb2⟩; obtain ⟨r0, r1⟩ := (kR.out.grow hb2).cells2; obtain ⟨q0, q1, q2⟩ := (kC.out.grow hb2).cells3; have zR := (kR.out.grow hb2).lt; have zC := (kC.out.grow hb2).lt; obtain ⟨zS, f0, f1, f2⟩ := hfS.out _ (bup hb1 hb2)) | (go_at_call 75; refine (crew_from _ _ _ _).mono ?_; rintro e w' ⟨rfl, rfl⟩))
   all_goals (go_ret; exact ⟨ret_bool (by simp_all), bup hb1 hb2⟩)
 ·have hF : hiredB ss c = false := by simp [hiredB, h0]
  have hd : decide (0 ≤ placeS ss c.hut) = false := by simpa using h0
  rw [hF]
  clear hF hA
  replace JS := hide JS
  replace hs := hide hs
  replace kR := hide kR
  replace kC := hide kC
  go_enter Tryz.func92, Tryz.ntmps92
  go_wp2_with fail
  rw [← hw1]
  clear hw1
  go_wp2_with (go_at_call 83; refine (JS.out _ hb1).mono ?_; clear r0 r1 q0 q1 q2 zR zC; rintro e w2 ⟨rfl, hb2⟩)
  go_ret
  exact ⟨rfl, bup hb1 hb2⟩

theorem visit_bad {ss : List Site} {l : List Int} {k : Nat} (hk : k < l.length) (h : visitGood ss l k = false) : visitsB ss l = false := by
 simp [visitsB, all_of_not hk h]
theorem crew_visits (vs vt vl : Value) (ss : List Site) (l : List Int) (w : World) (hs : Sl w 3 Site.cells vs ss) (hl : Sl w 1 intC vl l) :
  Calls Tryz.prog 103 #[.agg #[vs, vt], vl] w fun e w' => e = .returned (.bool (visitsB ss l)) ∧ Below w.heap.size w w' := by
 obtain ⟨A, n, rfl, _, _, hlen, hA⟩ := hs.open_
 obtain ⟨D, m, rfl, _, _, hlenl, hD⟩ := hl.open_
 have JS := hide (fun no w' (hb : Below w.heap.size w w') => crew_site (.slice A ss.length n) vt ss no w' (hs.mono hb))
 have HF := hide (fun (i : Nat) (x : Site) (hx : ss[i]? = some x) (b off : Nat) (hAb : A = some ⟨b, off, none⟩) w' (hb : Below w.heap.size w w') => (show Sl w' 3 Site.cells (.slice (some ⟨b, off, none⟩) ss.length n) ss from hAb ▸ hs.mono hb).site_at hx)
 obtain ⟨w1, hw1, hb1, kR⟩ := al1 w #[.slice A ss.length n, vt] 25
 replace hl := hide hl
 replace hA := hide hA
 replace hD := hide hD
 replace kR := hide kR
 clear hs
 by_cases h8 : 8 < l.length
 ·have hfin : visitsB ss l = false := by
   have : ¬ l.length ≤ 8 := by omega
   simp [visitsB, this]
  rw [hfin]
  clear hfin hA hD JS HF hlen
  have h8' : (8 : Int) < (l.length : Int) := by omega
  go_enter Tryz.func103, Tryz.ntmps103
  go_wp2_with fail
  go_ret
  exact ⟨rfl, below1 _ _⟩
 have h8' : ¬ (8 : Int) < (l.length : Int) := by omega
 have hbad := hide (fun k hk h => visit_bad (ss := ss) (l := l) (k := k) hk h)
 have hgood := hide (fun (h : (List.range l.length).all (visitGood ss l) = true) => (show visitsB ss l = true by simp only [visitsB, h, Bool.and_true]; simp; omega))
 obtain ⟨VB, hVB⟩ : ∃ b, visitsB ss l = b := ⟨_, rfl⟩
 rw [hVB] at hbad hgood ⊢
 clear hVB
 go_enter Tryz.func103, Tryz.ntmps103
 go_wp2_with fail
 rw [← hw1]
 clear hw1
 go_loopw [13] (fun i wr => ∃ k : Nat, k ≤ l.length ∧ i = I k ∧ Hid (AllTo (visitGood ss l) k) ∧ Hid (Below w1.heap.size w1 wr)) (fun i _ => l.length - (intOf i).toNat)
 case atStart => exact ⟨0, Nat.zero_le _, rfl, hide (AllTo.zero _), hide (Below.refl _ _)⟩
 case round =>
  obtain ⟨k, hk, rfl, hn, hb⟩ := hrel
  have kR2 := kR.out.grow hb.out
  obtain ⟨r0, r1⟩ := kR2.cells2
  have zR := kR2.lt
  have hbw := bup hb1 hb.out
  by_cases hlt : k < l.length
  ·obtain ⟨b2, off2, rfl, _⟩ := hD.out k hlt
   obtain ⟨no, hno⟩ := getElem?_of_lt hlt
   obtain ⟨zl, y0⟩ := ((unhide hl).mono hbw).int_at hno
   have hg0 : l.getD k 0 = no := by simp [hno]
   clear hD
   rcases ilt (placeS ss no) 0 with hp | hp
   ·have hfin := hbad.out k hlt (by simp only [visitGood, hg0]; simp; omega)
    subst hfin
    have hpd : decide (placeS ss no < 0) = true := by simpa using hp
    replace hg0 := hide hg0
    replace hno := hide hno
    replace kR2 := hide kR2
    clear hA HF
    go_wp2_with (go_at_call 83; refine (JS.out _ _ hbw).mono ?_; clear r0 r1 zR; rintro e w2 ⟨rfl, hb2⟩)
    go_ret
    exact ⟨rfl, bup hbw hb2⟩
   ·obtain ⟨x, hx, hxa, -⟩ := siteAt_of hp
    have hlt2 := placeS_lt hp
    have hvg : visitGood ss l k = ((x.kind == 2) && (k == 0 || decide (l.getD (k - 1) 0 < no))) := by simp [visitGood, hno, hp, hxa]
    have JX := JS.out no
    obtain ⟨p, hpp⟩ : ∃ p : Nat, placeS ss no = p := ⟨(placeS ss no).toNat, by omega⟩
    rw [hpp] at JX hx hlt2
    simp only [Int.toNat_natCast] at hx
    obtain ⟨b, off, hAb, hbb⟩ := hA.out p (by omega)
    have HX := hide (HF.out p x hx b off hAb)
    subst hAb
    have hp0 : (0 : Int) ≤ (p : Int) := by omega
    replace JX := hide JX
    replace hpp := hide hpp
    replace hx := hide hx
    replace hxa := hide hxa
    replace hp := hide hp
    replace kR2 := hide kR2
    clear hA HF JS hg0
    cases hkd : x.kind == 2 with
    | false =>
     have hfin := hbad.out k hlt (by rw [hvg, hkd]; rfl)
     subst hfin
     have hkd2 : (x.kind != 2) = true := by rw [bne, hkd]; rfl
     replace hno := hide hno
     replace hvg := hide hvg
     replace hkd := hide hkd
     go_wp2_with (go_at_call 83; refine (JX.out _ hbw).mono ?_; clear r0 r1 zR y0 zl; rintro e w2 ⟨rfl, hb2⟩; obtain ⟨r0, r1⟩ := (kR2.out.grow hb2).cells2; have zR := (kR2.out.grow hb2).lt; obtain ⟨zS, f0, f1, f2⟩ := HX.out _ (bup hbw hb2))
     go_ret
     exact ⟨rfl, bup hbw hb2⟩
    | true =>
     have hkd2 : (x.kind != 2) = false := by rw [bne, hkd]; rfl
     rw [hkd] at hvg
     replace hkd := hide hkd
     rcases Nat.lt_or_ge 0 k with hk0 | hk0
     ·obtain ⟨y, hy⟩ := getElem?_of_lt (xs := l) (k := k - 1) (by omega)
      have hy2 : l.getD (k - 1) 0 = y := by simp [hy]
      rw [hy2] at hvg
      have hYY := hide (fun w' (hb : Below w.heap.size w w') => (((unhide hl).mono hb).int_at hy).2)
      rcases ilt y no with hyn | hyn
      ·have hg := hide (show visitGood ss l k = true by rw [hvg]; simp [hyn])
       have hyd : decide (no ≤ y) = false := by simp; omega
       replace hno := hide hno
       replace hy := hide hy
       replace hvg := hide hvg
       replace hy2 := hide hy2
       go_wp2_with (go_at_call 83; refine (JX.out _ hbw).mono ?_; clear r0 r1 zR y0 zl; rintro e w2 ⟨rfl, hb2⟩; obtain ⟨r0, r1⟩ := (kR2.out.grow hb2).cells2; have zR := (kR2.out.grow hb2).lt; obtain ⟨zS, f0, f1, f2⟩ := HX.out _ (bup hbw hb2); have y9 := hYY.out _ (bup hbw hb2))
       go_roundw
       case rel => exact ⟨k + 1, by omega, by go_num, hide (hn.out.succ hg.out), hide (bup hb.out hb2)⟩
       case measure => simp [intOf]; omega
      ·have hfin := hbad.out k hlt (by rw [hvg]; simp; omega)
       subst hfin
       have hyd : decide (no ≤ y) = true := by simp; omega
       replace hno := hide hno
       replace hy := hide hy
       replace hvg := hide hvg
       replace hy2 := hide hy2
       go_wp2_with (go_at_call 83; refine (JX.out _ hbw).mono ?_; clear r0 r1 zR y0 zl; rintro e w2 ⟨rfl, hb2⟩; obtain ⟨r0, r1⟩ := (kR2.out.grow hb2).cells2; have zR := (kR2.out.grow hb2).lt; obtain ⟨zS, f0, f1, f2⟩ := HX.out _ (bup hbw hb2); have y9 := hYY.out _ (bup hbw hb2))
       go_ret
       exact ⟨rfl, bup hbw hb2⟩
     ·have hg := hide (show visitGood ss l k = true by (obtain rfl : k = 0 := (by omega)); rw [hvg]; rfl)
      have hkz : decide (0 < k) = false := by simp; omega
      replace hno := hide hno
      replace hvg := hide hvg
      go_wp2_with (go_at_call 83; refine (JX.out _ hbw).mono ?_; clear r0 r1 zR y0 zl; rintro e w2 ⟨rfl, hb2⟩; obtain ⟨r0, r1⟩ := (kR2.out.grow hb2).cells2; have zR := (kR2.out.grow hb2).lt; obtain ⟨zS, f0, f1, f2⟩ := HX.out _ (bup hbw hb2))
      go_roundw
      case rel => exact ⟨k + 1, by omega, by go_num, hide (hn.out.succ hg.out), hide (bup hb.out hb2)⟩
      case measure => simp [intOf]; omega
  ·have he : k = l.length := by omega
   subst he
   have hfin := hgood.out (AllTo.all hn.out)
   subst hfin
   replace kR2 := hide kR2
   clear r0 r1 zR
   go_wp2_with fail
   go_ret
   exact ⟨rfl, hbw⟩

def bitF (ss : List Site) (cs : List Int) (i : Nat) : Nat :=
 if 0 ≤ idxBy (fun x => x == (ss.getD i default).no) cs ∧ (ss.getD i default).kind = 2 then 2 ^ (idxBy (fun x => x == (ss.getD i default).no) cs).toNat else 0
def goJ (n : Nat) (bit : Nat → Nat) (i y : Nat) : Nat := y + n * (i / n ||| bit y)
def goT (n : Nat) (bit : Nat → Nat) (row : List Stp) (i : Nat) (l : List Stp) (x y : Nat) (t : Track) : List Stp :=
 if x = i % n ∧ (row.getD i default).minutes + t.minutes < (l.getD (goJ n bit i y) default).minutes then l.set (goJ n bit i y) ⟨(row.getD i default).minutes + t.minutes, i, t.no⟩ else l
def goK (ss : List Site) (bit : Nat → Nat) (row : List Stp) (i : Nat) (l : List Stp) (t : Track) : Nat → List Stp
 | 0 => l
 | 1 => goT ss.length bit row i l (pA ss t) (pB ss t) t
 | _ + 2 => goT ss.length bit row i (goT ss.length bit row i l (pA ss t) (pB ss t) t) (pB ss t) (pA ss t) t
def goS (ss : List Site) (ts : List Track) (bit : Nat → Nat) (row l : List Stp) (i : Nat) : List Stp :=
 if (row.getD i default).minutes = farN then l else ts.foldl (fun l t => goK ss bit row i l t 2) l
def goR (ss : List Site) (ts : List Track) (bit : Nat → Nat) (row : List Stp) : Nat → List Stp
 | 0 => List.replicate row.length ⟨farN, -1, -1⟩
 | k + 1 => goS ss ts bit row (goR ss ts bit row k) k
def rowT (ss : List Site) (ts : List Track) (bit : Nat → Nat) (N hut : Nat) : Nat → List Stp
 | 0 => startF N hut
 | k + 1 => goR ss ts bit (rowT ss ts bit N hut k) (rowT ss ts bit N hut k).length
def pickS (ss : List Site) (R : Nat → List Stp) (full : Nat) (k : Nat) (b : Option (Nat × Nat)) (i : Nat) : Option (Nat × Nat) :=
 if (ss.getD i default).kind = 1 ∧ ((R k).getD (i + ss.length * full) default).minutes < farN ∧ (b.all fun p => decide (((R k).getD (i + ss.length * full) default).minutes < ((R p.1).getD p.2 default).minutes)) = true then some (k, i + ss.length * full) else b
def pickK (ss : List Site) (R : Nat → List Stp) (full : Nat) (k : Nat) (b : Option (Nat × Nat)) : Nat → Option (Nat × Nat)
 | 0 => b
 | i + 1 => pickS ss R full k (pickK ss R full k b i) i
def pickN (ss : List Site) (R : Nat → List Stp) (full : Nat) : Nat → Option (Nat × Nat)
 | 0 => none
 | k + 1 => pickK ss R full k (pickN ss R full k) ss.length
def backF (R : Nat → List Stp) : Nat → Int → List Int
 | 0, _ => []
 | k + 1, b => ((R (k + 1)).getD b.toNat default).track :: backF R k ((R (k + 1)).getD b.toNat default).before

structure TrOk (N : Nat) (M : Int) (row l : List Stp) : Prop where
 len : l.length = N
 ent : ∀ s ∈ l, s.minutes = farN ∨ (0 ≤ s.minutes ∧ s.minutes ≤ M ∧ ∃ b : Nat, s.before = b ∧ b < N ∧ (row.getD b default).minutes ≠ farN)
theorem goJ_lt {n m i y : Nat} {bit : Nat → Nat} (hi : i < n * 2 ^ m) (hy : y < n) (hb : bit y < 2 ^ m) : goJ n bit i y < n * 2 ^ m := by
 have h1 : i / n < 2 ^ m := Nat.div_lt_of_lt_mul hi
 have h2 : i / n ||| bit y < 2 ^ m := Nat.or_lt_two_pow h1 hb
 have h3 : n * ((i / n ||| bit y) + 1) ≤ n * 2 ^ m := Nat.mul_le_mul_left n h2
 rw [Nat.mul_add] at h3
 unfold goJ
 omega
theorem TrOk.goT {n N i x y : Nat} {M : Int} {bit : Nat → Nat} {row l : List Stp} {t : Track} (h : TrOk N M row l) (hi : i < N) (hf : (row.getD i default).minutes ≠ farN) (h0 : 0 ≤ (row.getD i default).minutes) (hm : 0 ≤ t.minutes) (hM : (row.getD i default).minutes + t.minutes ≤ M) : TrOk N M row (goT n bit row i l x y t) := by
 unfold Proofs.YtgbbljfmngmjeaaGreat.goT
 split
 ·refine ⟨by rw [List.length_set, h.len], fun s hs => ?_⟩
  rcases List.mem_or_eq_of_mem_set hs with hs | rfl
  ·exact h.ent s hs
  ·exact .inr ⟨by simp only; omega, hM, i, rfl, hi, hf⟩
 ·exact h
theorem TrOk.goK {N i : Nat} {M : Int} {ss : List Site} {bit : Nat → Nat} {row l : List Stp} {t : Track} (h : TrOk N M row l) (hi : i < N) (hf : (row.getD i default).minutes ≠ farN) (h0 : 0 ≤ (row.getD i default).minutes) (hm : 0 ≤ t.minutes) (hM : (row.getD i default).minutes + t.minutes ≤ M) : ∀ k, TrOk N M row (goK ss bit row i l t k)
 | 0 => h
 | 1 => h.goT hi hf h0 hm hM
 | _ + 2 => (h.goT hi hf h0 hm hM).goT hi hf h0 hm hM
theorem TrOk.fold {N i : Nat} {M : Int} {ss : List Site} {bit : Nat → Nat} {row : List Stp} (hi : i < N) (hf : (row.getD i default).minutes ≠ farN) (h0 : 0 ≤ (row.getD i default).minutes) : ∀ (ts : List Track) (l : List Stp), (∀ t ∈ ts, 0 ≤ t.minutes ∧ (row.getD i default).minutes + t.minutes ≤ M) → TrOk N M row l → TrOk N M row (ts.foldl (fun l t => Proofs.YtgbbljfmngmjeaaGreat.goK ss bit row i l t 2) l)
 | [], _, _, h => h
 | t :: ts, l, ht, h => TrOk.fold hi hf h0 ts _ (fun t' h' => ht t' (List.mem_cons_of_mem _ h')) (h.goK hi hf h0 (ht t (List.mem_cons_self ..)).1 (ht t (List.mem_cons_self ..)).2 2)
theorem TrOk.round {N : Nat} {M : Int} {ss : List Site} {ts : List Track} {bit : Nat → Nat} {row : List Stp} (hN : row.length = N) (hr : ∀ s ∈ row, s.minutes = farN ∨ (0 ≤ s.minutes ∧ s.minutes + 1440 ≤ M)) (ht : ∀ t ∈ ts, 0 ≤ t.minutes ∧ t.minutes ≤ 1440) : ∀ k, k ≤ N → TrOk N M row (goR ss ts bit row k)
 | 0, _ => by
  rw [goR, hN]
  exact ⟨List.length_replicate, fun s hs => .inl (by rw [(List.mem_replicate.1 hs).2])⟩
 | k + 1, hk => by
  have ih := TrOk.round (ss := ss) (bit := bit) hN hr ht k (by omega)
  rw [goR, goS]
  split
  ·exact ih
  ·rename_i hf
   obtain ⟨s, hs⟩ := getElem?_of_lt (xs := row) (k := k) (by omega)
   have hg : row.getD k default = s := by simp [hs]
   have h1 := hr s (List.mem_of_getElem? hs)
   rw [← hg] at h1
   rcases h1 with h1 | h1
   ·exact absurd h1 hf
   ·exact TrOk.fold (by omega) hf h1.1 ts _ (fun t h' => ⟨(ht t h').1, by have := (ht t h').2; omega⟩) ih
theorem TrOk.blank (N : Nat) (M : Int) (row : List Stp) : TrOk N M row (List.replicate N ⟨farN, -1, -1⟩) :=
 ⟨List.length_replicate, fun s hs => .inl (by rw [(List.mem_replicate.1 hs).2])⟩
theorem TrOk.bd {N : Nat} {M : Int} {row l : List Stp} (h : TrOk N M row l) : ∀ s ∈ l, s.minutes = farN ∨ (0 ≤ s.minutes ∧ s.minutes + 1440 ≤ M + 1440) := fun s hs => by
 rcases h.ent s hs with h1 | h1
 ·exact .inl h1
 ·exact .inr ⟨h1.1, by omega⟩
theorem rowT_ok {ss : List Site} {ts : List Track} {bit : Nat → Nat} {N hut : Nat} (ht : ∀ t ∈ ts, 0 ≤ t.minutes ∧ t.minutes ≤ 1440) : ∀ k : Nat, (rowT ss ts bit N hut k).length = N ∧ ∀ s ∈ rowT ss ts bit N hut k, s.minutes = farN ∨ (0 ≤ s.minutes ∧ s.minutes + 1440 ≤ ((k : Nat) : Int) * 1440 + 1440)
 | 0 => ⟨(StOk.start N hut).len, fun s hs => by
  rw [rowT, startF] at hs
  rcases List.mem_or_eq_of_mem_set hs with hs | rfl
  ·exact .inl (by rw [(List.mem_replicate.1 hs).2])
  ·exact .inr ⟨by simp, by simp⟩⟩
 | k + 1 => by
  have ih := rowT_ok (ss := ss) (bit := bit) (N := N) (hut := hut) ht k
  have h := TrOk.round (ss := ss) (bit := bit) ih.1 ih.2 ht N (Nat.le_refl _)
  rw [rowT, ih.1]
  refine ⟨h.len, fun s hs => ?_⟩
  rcases h.bd s hs with h1 | h1
  ·exact .inl h1
  ·exact .inr ⟨h1.1, by have := h1.2; push_cast; omega⟩
theorem rowT_back {ss : List Site} {ts : List Track} {bit : Nat → Nat} {N hut : Nat} (ht : ∀ t ∈ ts, 0 ≤ t.minutes ∧ t.minutes ≤ 1440) (k : Nat) : TrOk N (((k : Nat) : Int) * 1440 + 1440) (rowT ss ts bit N hut k) (rowT ss ts bit N hut (k + 1)) := by
 have ih := rowT_ok (ss := ss) (bit := bit) (N := N) (hut := hut) ht k
 have h := TrOk.round (ss := ss) (bit := bit) ih.1 ih.2 ht N (Nat.le_refl _)
 rw [rowT, ih.1]
 exact h
def PickOk (R : Nat → List Stp) (N K : Nat) (b : Option (Nat × Nat)) : Prop := ∀ a j, b = some (a, j) → a < K ∧ j < N ∧ ((R a).getD j default).minutes < farN
theorem PickOk.none (R : Nat → List Stp) (N K : Nat) : PickOk R N K none := fun _ _ h => by cases h
theorem PickOk.mono {R : Nat → List Stp} {N K K' : Nat} {b : Option (Nat × Nat)} (h : PickOk R N K b) (hK : K ≤ K') : PickOk R N K' b := fun a j e => ⟨Nat.lt_of_lt_of_le (h a j e).1 hK, (h a j e).2⟩
theorem PickOk.pickS {ss : List Site} {R : Nat → List Stp} {N K full k i : Nat} {b : Option (Nat × Nat)} (h : PickOk R N K b) (hk : k < K) (hi : i + ss.length * full < N) : PickOk R N K (pickS ss R full k b i) := by
 unfold Proofs.YtgbbljfmngmjeaaGreat.pickS
 split
 ·rename_i hc
  intro a j e
  injection e with e
  injection e with e1 e2
  subst e1 e2
  exact ⟨hk, hi, hc.2.1⟩
 ·exact h
theorem PickOk.pickK {ss : List Site} {R : Nat → List Stp} {N K full k : Nat} {b : Option (Nat × Nat)} (h : PickOk R N K b) (hk : k < K) (hN : ss.length + ss.length * full ≤ N) : ∀ i, i ≤ ss.length → PickOk R N K (pickK ss R full k b i)
 | 0, _ => h
 | i + 1, hi => (PickOk.pickK h hk hN i (by omega)).pickS hk (by omega)
theorem PickOk.pickN {ss : List Site} {R : Nat → List Stp} {N full : Nat} (hN : ss.length + ss.length * full ≤ N) : ∀ k, PickOk R N k (pickN ss R full k)
 | 0 => PickOk.none _ _ _
 | k + 1 => ((PickOk.pickN hN k).mono (Nat.le_succ k)).pickK (Nat.lt_succ_self k) hN _ (Nat.le_refl _)
theorem rowT_step {ss : List Site} {ts : List Track} {bit : Nat → Nat} {N hut k b : Nat} (ht : ∀ t ∈ ts, 0 ≤ t.minutes ∧ t.minutes ≤ 1440) (hb : b < N) (hf : ((rowT ss ts bit N hut (k + 1)).getD b default).minutes ≠ farN) : ∃ c : Nat, ((rowT ss ts bit N hut (k + 1)).getD b default).before = c ∧ c < N ∧ ((rowT ss ts bit N hut k).getD c default).minutes ≠ farN := by
 have h := rowT_back (ss := ss) (bit := bit) (N := N) (hut := hut) ht k
 obtain ⟨s, hs⟩ := getElem?_of_lt (xs := rowT ss ts bit N hut (k + 1)) (k := b) (by rw [h.len]; exact hb)
 have hg : (rowT ss ts bit N hut (k + 1)).getD b default = s := by simp [hs]
 rw [hg] at hf ⊢
 rcases h.ent s (List.mem_of_getElem? hs) with h1 | h1
 ·exact absurd h1 hf
 ·exact h1.2.2
theorem rowT_at {ss : List Site} {ts : List Track} {bit : Nat → Nat} {N hut k b : Nat} (ht : ∀ t ∈ ts, 0 ≤ t.minutes ∧ t.minutes ≤ 1440) (hk : k ≤ 64) (hb : b < N) : ∃ s, (rowT ss ts bit N hut k)[b]? = some s ∧ (rowT ss ts bit N hut k).getD b default = s ∧ 0 ≤ s.minutes ∧ s.minutes ≤ farN ∧ (s.minutes ≠ farN → s.minutes ≤ 92160) := by
 have h := rowT_ok (ss := ss) (bit := bit) (N := N) (hut := hut) ht k
 obtain ⟨s, hs⟩ := getElem?_of_lt (xs := rowT ss ts bit N hut k) (k := b) (by rw [h.1]; exact hb)
 refine ⟨s, hs, by simp [hs], ?_⟩
 rcases h.2 s (List.mem_of_getElem? hs) with h1 | h1
 ·rw [h1]; simp [farN]
 ·have h2 := h1.2
  refine ⟨h1.1, by unfold farN; omega, fun _ => by omega⟩
theorem backF_len (R : Nat → List Stp) : ∀ (k : Nat) (b : Int), (backF R k b).length = k
 | 0, _ => rfl
 | k + 1, b => by rw [backF, List.length_cons, backF_len R k]
def tripP (ss : List Site) (R : Nat → List Stp) (c : Crew) (day : Int) (cs : List Int) : Option (Nat × Nat) :=
 match pickN ss R (2 ^ cs.length - 1) 65 with
 | none => none
 | some (a, j) => if lightF day < clockF c ((R a).getD j default).minutes cs.length then none else some (a, j)
def tripL (R : Nat → List Stp) : Option (Nat × Nat) → List Int
 | none => []
 | some (a, j) => (backF R a j).reverse
theorem bitF_lt {ss : List Site} {cs : List Int} {i : Nat} : bitF ss cs i < 2 ^ cs.length := by
 unfold bitF
 split
 ·rename_i h
  have h1 := idxBy_lt h.1
  exact Nat.pow_lt_pow_right (by omega) (by omega)
 ·exact Nat.two_pow_pos _
theorem or_small (a b : Nat) (ha : a < 2 ^ 62) (hb : b < 2 ^ 62) : bits .or .i64 (a : Int) (b : Int) = ((a ||| b : Nat) : Int) := by
 have hc : a ||| b < 2 ^ 62 := Nat.or_lt_two_pow ha hb
 have h1 : (BitVec.ofInt IntKind.i64.bits (a : Int) ||| BitVec.ofInt IntKind.i64.bits (b : Int)).toNat = a ||| b := by
  have e : IntKind.i64.bits = 64 := rfl
  rw [BitVec.toNat_or, BitVec.ofInt_natCast, BitVec.ofInt_natCast, BitVec.toNat_ofNat, BitVec.toNat_ofNat, Nat.mod_eq_of_lt (by rw [e]; omega), Nat.mod_eq_of_lt (by rw [e]; omega)]
 simp only [bits, h1]
 rw [IntKind.wrap]
 simp [IntKind.bits, IntKind.signed]
 omega
theorem shl_one {k : Nat} (h : k ≤ 60) : IntKind.i64.wrap (1 * 2 ^ k) = ((2 ^ k : Nat) : Int) := by
 have h1 : 2 ^ k ≤ 2 ^ 60 := Nat.pow_le_pow_right (by omega) h
 have h2 : (1 : Int) * 2 ^ k = ((2 ^ k : Nat) : Int) := by rw [Int.one_mul, Int.natCast_pow]; rfl
 rw [h2]
 obtain ⟨x, hx⟩ : ∃ x, 2 ^ k = x := ⟨_, rfl⟩
 rw [hx] at h1 ⊢
 exact IntWalk.i64_in _ (by omega)
end Go.Proofs.YtgbbljfmngmjeaaGreat
