/- What Way and Cut answer: walks, the shortest ones, both ways, by a third site. Conditions stand in the theorem. -/
import Derived.Test.YtgbbljfmngmjeaaGreatCrewWalkPack
import Derived.Test.YtgbbljfmngmjeaaGreatCrew6Pack
set_option linter.all false
namespace Go.Proofs.YtgbbljfmngmjeaaGreat
open Go.RowKit

theorem way_ok {ss : List Site} {ts : List Track} {s : Scene} {day a b : Int} (h : seenE ss ts s day true = 0) (ha : 0 ≤ placeS ss a) (hb : 0 ≤ placeS ss b) : wayE ss ts s day a b = 0 ∧
  wayB ss ts s day a b = !(minS (quickF ss (openF (hwF s day) ts) (placeS ss a).toNat) (placeS ss b).toNat == farN) ∧ wayM ss ts s day a b = (if wayB ss ts s day a b then minS (quickF ss (openF (hwF s day) ts) (placeS ss a).toNat) (placeS ss b).toNat else 0) := by
 have hq : sitesB ss [a, b] = true := by
  have h1 : ¬ placeS ss a < 0 := by omega
  have h2 : ¬ placeS ss b < 0 := by omega
  simp [sitesB, h1, h2]
 have e : wayE ss ts s day a b = 0 := by rw [wayE, hq, h]
 have e2 : wayN ss ts s day a b = minS (quickF ss (openF (hwF s day) ts) (placeS ss a).toNat) (placeS ss b).toNat := rfl
 refine ⟨e, ?_, ?_⟩
 ·rw [wayB, e, e2]; rfl
 ·rw [wayM, e2]
theorem seen_true {ss : List Site} {ts : List Track} {s : Scene} {day : Int} {q : Bool} (h : seenE ss ts s day q = 0) : seenE ss ts s day true = 0 := by
 obtain ⟨_, _, _, rfl, _⟩ := seen_zero h
 exact h

theorem cut_any {ss : List Site} {ts : List Track} {l : List Stp} {i : Nat} {x : Site} (hr : RangeOk ss ts) (hl : l.length = ss.length) (hx : ss[i]? = some x) : (cutF ss l).any (fun n => n == x.no) = decide (minS l i < farN) := by
 have hi := (List.getElem?_eq_some_iff.1 hx).1
 obtain ⟨s, hs⟩ := getElem?_of_lt (xs := l) (k := i) (by omega)
 have hm : minS l i = s.minutes := by unfold minS; rw [getD_of hs]
 rw [hm]
 apply Bool.eq_iff_iff.2
 simp only [cutF, List.any_map, List.any_eq_true, List.mem_filter, Function.comp_apply, beq_iff_eq, decide_eq_true_eq]
 constructor
 ·rintro ⟨p, ⟨hp, hf⟩, he⟩
  obtain ⟨j, hj, hj2⟩ := zip_at.1 hp
  have h1 := hr.place hx
  have h2 := hr.place hj
  rw [he, h1] at h2
  obtain rfl : i = j := by omega
  rw [hs] at hj2
  injection hj2 with hj2
  rw [hj2]
  exact hf
 ·intro h
  exact ⟨(x, s), ⟨zip_at.2 ⟨i, hx, hs⟩, h⟩, rfl⟩
theorem way_no {ss : List Site} {ts : List Track} {s : Scene} {day frm til : Int} (h : wayE ss ts s day frm til ≠ 0) : wayB ss ts s day frm til = false ∧ wayM ss ts s day frm til = 0 ∧ wayP ss ts s day frm til = [] ∧ cutB ss ts s day frm til = false ∧ cutV ss ts s day frm til = [] := by
 have h1 : wayB ss ts s day frm til = false := by simp [wayB, h]
 have h2 : cutB ss ts s day frm til = false := by simp [cutB, h]
 exact ⟨h1, by simp [wayM, h1], by simp [wayP, h1], h2, by simp [cutV, h2]⟩
theorem way_len {ss : List Site} {ts : List Track} {s : Scene} {day frm til : Int} : (wayP ss ts s day frm til).length ≤ 1099511627776 := by
 cases h : wayB ss ts s day frm til with
 | false => simp [wayP, h]
 | true =>
  have h0 : wayE ss ts s day frm til = 0 := by
   simp only [wayB, Bool.and_eq_true, beq_iff_eq] at h
   exact h.1
  obtain ⟨hr, _, _, hq, _⟩ := seen_zero h0
  obtain ⟨ha, hb⟩ := sites_two hq
  have h1 := (way_stroll hr ha hb h).2
  have hN := net_open hr (hwF s day)
  have la := placeS_lt ha
  have lb := placeS_lt hb
  have h2 : wayM ss ts s day frm til ≤ farN := by
   have e : wayM ss ts s day frm til = minS (quickF ss (openF (hwF s day) ts) (placeS ss frm).toNat) (placeS ss til).toNat := by simp only [wayM, h]; rfl
   rw [e]
   exact ((quick_stok hN (by omega)).min_bd (by omega)).2
  unfold farN at h2
  omega
theorem ways_cut {ss : List Site} {ts : List Track} {s : Scene} {day frm til : Int} (h0 : wayE ss ts s day frm til = 0) (hc : cutB ss ts s day frm til = true) : wayB ss ts s day frm til = false ∧ wayP ss ts s day frm til = [] ∧ (cutV ss ts s day frm til).any (fun n => n == frm) = true ∧ (cutV ss ts s day frm til).any (fun n => n == til) = false ∧
  ∀ t ∈ openF (hwF s day) ts, (cutV ss ts s day frm til).any (fun n => n == t.a) = (cutV ss ts s day frm til).any (fun n => n == t.b) := by
 obtain ⟨hr, _, _, hq, _⟩ := seen_zero h0
 obtain ⟨ha, hb⟩ := sites_two hq
 have hN := net_open hr (hwF s day)
 have la := placeS_lt ha
 have lb := placeS_lt hb
 have hst : (placeS ss frm).toNat < ss.length := by omega
 have hB : wayB ss ts s day frm til = false := by
  simp only [cutB, Bool.and_eq_true] at hc
  simp [wayB, hc.2]
 have e : cutV ss ts s day frm til = cutF ss (quickF ss (openF (hwF s day) ts) (placeS ss frm).toNat) := by simp only [cutV, hc]; rfl
 have hl := (quick_stok hN hst).len
 have hD := quick_dist hN hst
 have hat : ∀ no, 0 ≤ placeS ss no → (cutF ss (quickF ss (openF (hwF s day) ts) (placeS ss frm).toNat)).any (fun n => n == no) = decide (minS (quickF ss (openF (hwF s day) ts) (placeS ss frm).toNat) (placeS ss no).toNat < farN) := fun no h => by
  obtain ⟨x, hx, _, hxn⟩ := siteAt_of h
  rw [← cut_any hr hl hx, hxn]
 rw [e]
 refine ⟨hB, by simp [wayP, hB], ?_, ?_, fun t ht => ?_⟩
 ·rw [hat _ ha, decide_eq_true_eq]
  have := hD.low (placeS ss frm).toNat [] (SubT.nil _) rfl
  simp only [costT] at this
  unfold farN
  omega
 ·rw [hat _ hb, decide_eq_false_iff_not]
  have : wayN ss ts s day frm til = farN := by
   simp only [cutB, Bool.and_eq_true, beq_iff_eq] at hc
   exact hc.2
  have e2 : wayN ss ts s day frm til = minS (quickF ss (openF (hwF s day) ts) (placeS ss frm).toNat) (placeS ss til).toNat := rfl
  omega
 ·have hti := hr.tr (List.mem_filter.1 ht).1
  rw [hat _ hti.a, hat _ hti.b]
  have hab : ∀ x y, ArcT ss t x y → minS (quickF ss (openF (hwF s day) ts) (placeS ss frm).toNat) x < farN → minS (quickF ss (openF (hwF s day) ts) (placeS ss frm).toNat) y < farN := fun x y hxy hx => by
   have hxl := hN.arc ht hxy
   obtain ⟨L, g1, g2, g3⟩ := (hD.att x hxl.1).resolve_left (by omega)
   have := (hD.lt_far hN.bd hr.n1 hst (g1.append (SubT.cons ht (SubT.nil _))) (g2.append (WalkT.one hxy))).2
   unfold farN
   omega
  apply Bool.eq_iff_iff.2
  rw [decide_eq_true_eq, decide_eq_true_eq]
  exact ⟨hab _ _ (.inl ⟨rfl, rfl⟩), hab _ _ (.inr ⟨rfl, rfl⟩)⟩
theorem ways_way {ss : List Site} {ts : List Track} {s : Scene} {day frm til : Int} (h0 : wayE ss ts s day frm til = 0) (hc : cutB ss ts s day frm til = false) : wayB ss ts s day frm til = true ∧ strollF ts (openV ss ts s day) frm (wayP ss ts s day frm til) = some (til, wayM ss ts s day frm til) ∧
  wayE ss ts s day til frm = 0 ∧ wayB ss ts s day til frm = true ∧ wayM ss ts s day til frm = wayM ss ts s day frm til ∧ (0 ≤ wayM ss ts s day frm til ∧ wayM ss ts s day frm til ≤ 21600) ∧
  ∀ b, wayE ss ts s day frm b = 0 → wayE ss ts s day b til = 0 → wayB ss ts s day frm b = true → wayB ss ts s day b til = true → (0 ≤ wayM ss ts s day frm b ∧ wayM ss ts s day frm b ≤ 21600) ∧ (0 ≤ wayM ss ts s day b til ∧ wayM ss ts s day b til ≤ 21600) ∧ wayM ss ts s day frm til ≤ wayM ss ts s day frm b + wayM ss ts s day b til := by
 obtain ⟨hr, _, _, hq, _⟩ := seen_zero h0
 obtain ⟨ha, hb⟩ := sites_two hq
 have hN := net_open hr (hwF s day)
 have la := placeS_lt ha
 have lb := placeS_lt hb
 have hB : wayB ss ts s day frm til = true := by
  simp only [cutB, h0] at hc
  simp only [wayB, h0]
  simpa using hc
 have ho : openE ss ts s day = 0 := seen_true h0
 have hst := seen_true h0
 obtain ⟨b1, b2, b3⟩ := way_ok hst hb ha
 obtain ⟨a1, a2, a3⟩ := way_ok hst ha hb
 have hbk := dist_back (x := (placeS ss frm).toNat) (y := (placeS ss til).toNat) hN hr.n1 (by omega) (by omega)
 have hM : wayM ss ts s day frm til = minS (quickF ss (openF (hwF s day) ts) (placeS ss frm).toNat) (placeS ss til).toNat := by rw [a3, hB]; rfl
 have hne : minS (quickF ss (openF (hwF s day) ts) (placeS ss frm).toNat) (placeS ss til).toNat ≠ farN := by
  rw [hB] at a2
  simpa using a2.symm
 have hB2 : wayB ss ts s day til frm = true := by rw [b2, hbk]; simpa using hne
 have hM2 : wayM ss ts s day til frm = wayM ss ts s day frm til := by rw [b3, hB2, hM, hbk]; rfl
 refine ⟨hB, ?_, b1, hB2, hM2, ?_, fun b e1 e2 t1 t2 => ?_⟩
 ·have e : openV ss ts s day = (openF (hwF s day) ts).map Track.no := by simp [openV, ho]
  rw [e]
  exact (way_stroll hr ha hb hB).1
 ·rw [hM]
  exact dist_near hN hr.n1 (by omega) (by omega) hne
 ·obtain ⟨_, _, _, hq1, _⟩ := seen_zero e1
  obtain ⟨_, hc⟩ := sites_two hq1
  have lc := placeS_lt hc
  obtain ⟨_, c2, c3⟩ := way_ok hst ha hc
  obtain ⟨_, d2, d3⟩ := way_ok hst hc hb
  rw [t1] at c2 c3
  rw [t2] at d2 d3
  have n1 : minS (quickF ss (openF (hwF s day) ts) (placeS ss frm).toNat) (placeS ss b).toNat ≠ farN := by simpa using c2.symm
  have n2 : minS (quickF ss (openF (hwF s day) ts) (placeS ss b).toNat) (placeS ss til).toNat ≠ farN := by simpa using d2.symm
  rw [if_pos rfl] at c3 d3
  rw [c3, d3, hM]
  exact ⟨dist_near hN hr.n1 (by omega) (by omega) n1, dist_near hN hr.n1 (by omega) (by omega) n2, (dist_by hN hr.n1 (by omega) (by omega) (by omega) n1 n2).1⟩
end Go.Proofs.YtgbbljfmngmjeaaGreat
