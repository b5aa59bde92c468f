/- What Best and Next answer: of the courses that can be visited the first of least width. No condition. -/
import Derived.Test.YtgbbljfmngmjeaaGreatCrewTourPack
import Derived.Test.YtgbbljfmngmjeaaGreatCrew20Pack
set_option linter.all false
set_option maxHeartbeats 4000000
set_option maxRecDepth 100000
namespace Go.Proofs.YtgbbljfmngmjeaaGreat
open Go.RowKit

section
variable {ss : List Site} {ts : List Track} {s : Scene} {c : Crew} {day : Int} {cs : List Int} {width : Int}
def Elig (ss : List Site) (ts : List Track) (s : Scene) (c : Crew) (day : Int) (width : Int) (x : Site) : Prop := x.kind = 2 ∧ measB s [x.cell] width = true ∧ (tripF ss ts s c day [x.no]).isSome = true
structure BestAt (ss : List Site) (ts : List Track) (s : Scene) (c : Crew) (day : Int) (cs : List Int) (width : Int) (k : Nat) (b : Bst) : Prop where
 none_ : b.no < 0 → ∀ i x, i < k → ss[i]? = some x → ¬ Elig ss ts s c day width x
 some_ : 0 ≤ b.no → ∃ i x, i < k ∧ ss[i]? = some x ∧ Elig ss ts s c day width x ∧ b.no = x.no ∧ b.wide = (outV (worstR s cs day x.cell width)).wide ∧ b.list = tripT ss ts s c day [x.no]
 least : ∀ i x, i < k → ss[i]? = some x → Elig ss ts s c day width x → outE (worstR s cs day x.cell width) = 0 ∧ b.wide ≤ (outV (worstR s cs day x.cell width)).wide ∧ ((outV (worstR s cs day x.cell width)).wide = b.wide → b.no ≤ x.no)
theorem best_at (hr : RangeOk ss ts) : ∀ (k : Nat) (b : Bst), k ≤ ss.length → bestK ss ts s c day cs width k = .inr b → BestAt ss ts s c day cs width k b
 | 0, b, _, h => by
  injection h with h
  subst h
  exact ⟨fun _ i x hi => by omega, fun h => by simp at h, fun i x hi => by omega⟩
 | k + 1, b, hk, h => by
  obtain ⟨x, hx⟩ := getElem?_of_lt (xs := ss) (k := k) (by omega)
  rw [bestK] at h
  cases h0 : bestK ss ts s c day cs width k with
  | inl e => rw [h0] at h; cases h
  | inr b0 =>
   rw [h0] at h
   simp only [getD_of hx] at h
   obtain ⟨n1, n2, n3⟩ := best_at hr k b0 (by omega) h0
   have hskip : ¬ Elig ss ts s c day width x → b = b0 → BestAt ss ts s c day cs width (k + 1) b := fun hne e => by
    subst e
    refine ⟨fun hn i y hi hy he => ?_, fun hp => ?_, fun i y hi hy he => ?_⟩
    ·rcases Nat.lt_or_ge i k with h1 | h1
     ·exact n1 hn i y h1 hy he
     ·obtain rfl : i = k := by omega
      rw [hx] at hy
      injection hy with hy
      subst hy
      exact hne he
    ·obtain ⟨i, y, h1, h2⟩ := n2 hp
     exact ⟨i, y, by omega, h2⟩
    ·rcases Nat.lt_or_ge i k with h1 | h1
     ·exact n3 i y h1 hy he
     ·obtain rfl : i = k := by omega
      rw [hx] at hy
      injection hy with hy
      subst hy
      exact absurd he hne
   unfold bestS at h
   split at h
   ·rename_i h1
    injection h with h
    refine hskip (fun he => ?_) h.symm
    rcases h1 with h1 | h1
    ·exact h1 he.1
    ·rw [he.2.1] at h1; cases h1
   ·rename_i h1
    split at h
    ·rename_i h2
     injection h with h
     exact hskip (fun he => by rw [he.2.2] at h2; cases h2) h.symm
    ·rename_i h2
     have hel : Elig ss ts s c day width x := by
      refine ⟨Classical.byContradiction fun e => h1 (.inl e), ?_, by cases hT : (tripF ss ts s c day [x.no]).isSome <;> simp_all⟩
      cases hm : measB s [x.cell] width with
      | true => rfl
      | false => exact absurd (.inr hm) h1
     split at h
     ·cases h
     ·rename_i h3
      have h3 : outE (worstR s cs day x.cell width) = 0 := Classical.byContradiction h3
      have hx0 : 0 ≤ x.no := by
       have hg := hr.site k (by omega)
       simp only [siteGood, getD_of hx, Bool.and_eq_true] at hg
       have := hg.1
       simp only [siteOk, Bool.and_eq_true, inB_true] at this
       omega
      split at h
      ·rename_i h4
       injection h with h
       subst h
       refine ⟨fun hn => by simp only at hn; omega, fun _ => ⟨k, x, by omega, hx, hel, rfl, rfl, rfl⟩, fun i y hi hy he => ?_⟩
       rcases Nat.lt_or_ge i k with h5 | h5
       ·obtain ⟨g1, g2, g3⟩ := n3 i y h5 hy he
        rcases h4 with h4 | h4
        ·exact absurd he (n1 h4 i y h5 hy)
        ·refine ⟨g1, by simp only; omega, fun e => ?_⟩
         simp only at e
         omega
       ·obtain rfl : i = k := by omega
        rw [hx] at hy
        injection hy with hy
        subst hy
        exact ⟨h3, Int.le_refl _, fun _ => Int.le_refl _⟩
      ·rename_i h4
       injection h with h
       subst h
       refine ⟨fun hn => absurd (.inl hn) h4, fun hp => ?_, fun i y hi hy he => ?_⟩
       ·obtain ⟨i, y, g1, g2⟩ := n2 hp
        exact ⟨i, y, by omega, g2⟩
       ·rcases Nat.lt_or_ge i k with h5 | h5
        ·exact n3 i y h5 hy he
        ·obtain rfl : i = k := by omega
         rw [hx] at hy
         injection hy with hy
         subst hy
         have hb0 : 0 ≤ b0.no := Classical.byContradiction fun e => h4 (.inl (by omega))
         obtain ⟨j, z, g1, g2, _, g3, _⟩ := n2 hb0
         have hlt := hr.sites g2 hx g1
         exact ⟨h3, Classical.byContradiction fun e => h4 (.inr (by omega)), fun _ => by omega⟩
theorem best_bad (hE : bestE (bestR ss ts s c day cs width) ≠ 0) : bestNo (bestR ss ts s c day cs width) = 0 ∧ bestB (bestR ss ts s c day cs width) = false ∧ bestL (bestR ss ts s c day cs width) = [] := by
 revert hE
 cases bestR ss ts s c day cs width with
 | inl e => exact fun _ => ⟨rfl, rfl, rfl⟩
 | inr b => exact fun h => absurd rfl h
theorem bestK_inl {e : Int} : ∀ k, bestK ss ts s c day cs width k = .inl e → e ≠ 0
 | 0, h => by cases h
 | k + 1, h => by
  rw [bestK] at h
  cases h0 : bestK ss ts s c day cs width k with
  | inl e' =>
   rw [h0] at h
   injection h with h
   subst h
   exact bestK_inl k h0
  | inr b =>
   rw [h0] at h
   simp only at h
   unfold bestS at h
   split at h
   ·cases h
   split at h
   ·cases h
   split at h
   ·rename_i h1
    injection h with h
    rw [← h]
    exact h1
   split at h <;> cases h
theorem course_trip (hr : RangeOk ss ts) (hE : seenE ss ts s day (bestA ss c s cs width) = 0) {i : Nat} {x : Site} (hx : ss[i]? = some x) (hk : x.kind = 2) : tripE ss ts s c day [x.no] = 0 := by
 obtain ⟨_, _, _, hq, _⟩ := seen_zero hE
 simp only [bestA, Bool.and_eq_true] at hq
 have hp := hr.place hx
 have hv : visitsB ss [x.no] = true := by
  have h1 : siteAt ss x.no = x := by simp [siteAt, hp, hx]
  simp [visitsB, visitGood, hp, h1, hk]
 have e : tripA ss c [x.no] = true := by simp [tripA, hq.1, hv]
 rw [tripE, e]
 exact seen_on hE
theorem meas_one (hq : measB s cs width = true) (no : Int) : measB s [no] width = decide (0 ≤ placeC s.basin.cells no) := by
 simp only [measB, Bool.and_eq_true] at hq
 have hw := hq.2.2
 simp [measB, measGood, risesAt, hw]
structure BestIs (ss : List Site) (ts : List Track) (s : Scene) (c : Crew) (day : Int) (cs : List Int) (width : Int) (no : Int) (is : Bool) (l : List Int) (least : Int) : Prop where
 trip : ∀ (i : Nat) x, ss[i]? = some x → x.kind = 2 → tripE ss ts s c day [x.no] = 0
 meas : measB s cs width = true
 len : l.length ≤ 64
 ok : is = true → checkE ss ts s c day l [no] = 0 ∧ ∃ (i : Nat) (x : Site), ss[i]? = some x ∧ x.kind = 2 ∧ x.no = no
 hit : is = true → ∀ (i : Nat) x, ss[i]? = some x → x.kind = 2 → x.no = no → outE (worstR s cs day x.cell width) = 0 ∧ (outV (worstR s cs day x.cell width)).wide = least
 best : ∀ (i : Nat) x, ss[i]? = some x → Elig ss ts s c day width x → is = true ∧ outE (worstR s cs day x.cell width) = 0 ∧ least ≤ (outV (worstR s cs day x.cell width)).wide ∧ ((outV (worstR s cs day x.cell width)).wide = least → no ≤ x.no)
theorem best_is (hr : RangeOk ss ts) (hE : bestE (bestR ss ts s c day cs width) = 0) : ∃ least, BestIs ss ts s c day cs width (bestNo (bestR ss ts s c day cs width)) (bestB (bestR ss ts s c day cs width)) (bestL (bestR ss ts s c day cs width)) least := by
 unfold bestR at hE ⊢
 split
 ·rename_i h1
  rw [if_pos h1] at hE
  exact absurd hE h1
 ·rename_i h1
  rw [if_neg h1] at hE
  have h1 : seenE ss ts s day (bestA ss c s cs width) = 0 := Classical.byContradiction h1
  obtain ⟨_, _, _, hq, _⟩ := seen_zero h1
  simp only [bestA, Bool.and_eq_true] at hq
  revert hE
  cases hk : bestK ss ts s c day cs width ss.length with
  | inl e => exact fun hE => absurd hE (bestK_inl _ hk)
  | inr b =>
   intro _
   obtain ⟨n1, n2, n3⟩ := best_at hr _ b (Nat.le_refl _) hk
   have hct := fun i x hx hk2 => course_trip (c := c) (cs := cs) (width := width) hr h1 (i := i) (x := x) hx hk2
   refine ⟨b.wide, fun i x hx hk2 => hct i x hx hk2, hq.2, ?_, fun hb => ?_, fun hb i x hx hk2 hno => ?_, fun i x hx he => ?_⟩
   ·by_cases hneg : b.no < 0
    ·simp [bestL, hneg]
    ·obtain ⟨i, x, _, g2, g3, g4, _, g6⟩ := n2 (by omega)
     have hT := hct i x g2 g3.1
     obtain ⟨⟨a, j⟩, hF⟩ := Option.isSome_iff_exists.1 g3.2.2
     have hv : tripV ss ts s c day [x.no] = tripT ss ts s c day [x.no] := by simp [tripV, hT]
     simp only [bestL, if_neg hneg]
     rw [g6, ← hv]
     exact (trip_good hT hF).2.2.2.2.1
   ·have hb : 0 ≤ b.no := by simpa [bestB] using hb
    obtain ⟨i, x, _, g2, g3, g4, _, g6⟩ := n2 hb
    have hneg : ¬ b.no < 0 := by omega
    have hT := hct i x g2 g3.1
    obtain ⟨⟨a, j⟩, hF⟩ := Option.isSome_iff_exists.1 g3.2.2
    have hg := (trip_good hT hF).2.1
    have hv : tripV ss ts s c day [x.no] = tripT ss ts s c day [x.no] := by simp [tripV, hT]
    refine ⟨?_, i, x, g2, g3.1, by rw [show bestNo (.inr b) = b.no from if_neg hneg, g4]⟩
    simp only [bestNo, bestL, if_neg hneg]
    rw [g6, g4, ← hv]
    exact hg
   ·have hb : 0 ≤ b.no := by simpa [bestB] using hb
    obtain ⟨i', x', _, g2, g3, g4, g5, _⟩ := n2 hb
    have hneg : ¬ b.no < 0 := by omega
    have hno : x.no = b.no := by simpa [bestNo, hneg] using hno
    have p1 := hr.place hx
    have p2 := hr.place g2
    rw [hno, g4, p2] at p1
    obtain rfl : i' = i := by omega
    rw [hx] at g2
    injection g2 with g2
    subst g2
    exact ⟨(n3 i' x (List.getElem?_eq_some_iff.1 hx).1 hx g3).1, g5.symm⟩
   ·have hi := (List.getElem?_eq_some_iff.1 hx).1
    have hb : 0 ≤ b.no := Classical.byContradiction fun e => n1 (by omega) i x hi hx he
    have hneg : ¬ b.no < 0 := by omega
    obtain ⟨g1, g2, g3⟩ := n3 i x hi hx he
    exact ⟨by simp [bestB, hb], g1, g2, fun e => by simpa [bestNo, hneg] using g3 e⟩
end

theorem crew_Next (vs vt vk : Value) (ss : List Site) (ts : List Track) (s : Scene) (V : SceneV) (c : Crew) (day : Int) (cs : List Int) (width : Int) (w : World) (hs : Sl w 3 Site.cells vs ss) (ht : Sl w 6 Track.cells vt ts) (hS : SceneAt w s V) (hk : Sl w 1 intC vk cs) :
  Calls Tryz.prog 62 #[.agg #[vs, vt], s.v V, .agg #[I c.hut, I c.work, I c.load], I day, vk, I width] w fun e w' => ∃ v, e = .returned (.tuple #[v, .bool (bestB (bestR ss ts s c day cs width)), I (bestE (bestR ss ts s c day cs width))]) ∧ Own w' w.heap.size 3 1 intC v (bestL (bestR ss ts s c day cs width)) ∧ Below w.heap.size w w' := by
 have JB := fun W (hb : Below w.heap.size w W) => crew_best vs vt vk ss ts s V c day cs width W (hs.mono hb) (ht.mono hb) (hS.mono hb) (hk.mono hb)
 obtain ⟨Ac, nc, hcc, _⟩ := hS.cells.open_
 obtain ⟨Ap, np, hpp, _⟩ := hS.pairs.open_
 obtain ⟨Ad, nd, hdd, _⟩ := hS.days.open_
 obtain ⟨As, ns, hsi, _⟩ := hS.sights.open_
 obtain ⟨Ah, nh, hch, _⟩ := hS.changes.open_
 obtain ⟨A, n, rfl, -⟩ := hs.open_
 obtain ⟨A', n', rfl, -⟩ := ht.open_
 obtain ⟨Ak, nk, rfl, -⟩ := hk.open_
 unfold Scene.v at *
 rw [hcc, hpp, hdd, hsi, hch] at JB ⊢
 clear hcc hpp hdd hsi hch
 obtain ⟨NO, hNO⟩ : ∃ q, bestNo (bestR ss ts s c day cs width) = q := ⟨_, rfl⟩
 obtain ⟨BB, hBB⟩ : ∃ q, bestB (bestR ss ts s c day cs width) = q := ⟨_, rfl⟩
 obtain ⟨EE, hEE⟩ : ∃ q, bestE (bestR ss ts s c day cs width) = q := ⟨_, rfl⟩
 obtain ⟨LL, hLL⟩ : ∃ q, bestL (bestR ss ts s c day cs width) = q := ⟨_, rfl⟩
 rw [hNO, hBB, hEE, hLL] at JB
 rw [hBB, hEE, hLL]
 clear hNO hBB hEE hLL hs ht hS hk
 replace JB := hide JB
 obtain ⟨w1, hw1, hb1, kR, kS, kC⟩ := al3 w #[.slice A ss.length n, .slice A' ts.length n'] 25 (s8 s Ac nc Ap np Ad nd As ns Ah nh) 42 #[I c.hut, I c.work, I c.load] 44
 obtain ⟨r0, r1⟩ := kR.cells2
 obtain ⟨q0, q1, q2, q3, q4, q5, q6, q7⟩ := kS.cells8
 obtain ⟨c0, c1, c2⟩ := kC.cells3
 have z1 := kR.lt
 have z2 := kS.lt
 have z3 := kC.lt
 clear kR kS kC
 go_enter Tryz.func62, Tryz.ntmps62
 go_upto_region 1 with fail
 rw [← hw1]
 clear hw1
 go_wp2_with (go_at_call 138; refine (JB.out _ hb1).mono ?_; rintro e w2 ⟨v, rfl, hO, hb2⟩; replace hO := hide hO)
 (try simp only [Exit.inBlock, Exit.then])
 refine bodyPost_ret (results_tmp3 rfl _ _ _) rfl ⟨_, rfl, hO.out.mono hb1.size, bup hb1 hb2⟩
end Go.Proofs.YtgbbljfmngmjeaaGreat
