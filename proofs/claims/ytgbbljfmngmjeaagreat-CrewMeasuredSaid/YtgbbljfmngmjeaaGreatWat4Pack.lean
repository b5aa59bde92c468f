/- The package basin: Valley. Conditions stand in the theorem. -/
import Derived.Test.YtgbbljfmngmjeaaGreatCrewRowsPack
import Derived.Test.YtgbbljfmngmjeaaGreatBasin11Pack
set_option linter.all false
set_option maxHeartbeats 8000000
set_option maxRecDepth 100000
namespace Go.Proofs.YtgbbljfmngmjeaaGreat
open Go.RowKit

def areaAt (s : Scene) (no : Int) : Int := (s.basin.cells.getD (placeC s.basin.cells no).toNat default).area
def sumBy (s : Scene) (f : Int → Int) (l : List Int) : Int := l.foldl (fun a no => a + areaAt s no * f no) 0
def valLo (s : Scene) (day : Int) (l : List Int) : Int := sumBy s (fun no => lowAt s (spotAt s day no)) l
def valHi (s : Scene) (day : Int) (l : List Int) : Int := sumBy s (fun no => highAt s (spotAt s day no)) l
def valE (s : Scene) (cells : List Int) (day : Int) : Int := if spotsE s cells day ≠ 0 then spotsE s cells day else spansE s
def valV (s : Scene) (cells : List Int) (day : Int) : Span := if valE s cells day = 0 then ⟨valLo s day cells, valHi s day cells⟩ else ⟨0, 0⟩
theorem sum_snoc {s : Scene} {f : Int → Int} {l : List Int} {k : Nat} {no : Int} (h : l[k]? = some no) : sumBy s f (l.take (k + 1)) = sumBy s f (l.take k) + areaAt s no * f no := by
 unfold sumBy
 rw [List.take_succ_eq_append_getElem (List.getElem?_eq_some_iff.1 h).1, List.foldl_append, (List.getElem?_eq_some_iff.1 h).2]
 rfl
theorem sum_in {s : Scene} {f : Int → Int} : ∀ (l : List Int) (a : Int), (∀ no ∈ l, (1 ≤ areaAt s no ∧ areaAt s no ≤ 4096) ∧ 0 ≤ f no ∧ f no ≤ 65536) → a ≤ l.foldl (fun a no => a + areaAt s no * f no) a ∧ l.foldl (fun a no => a + areaAt s no * f no) a ≤ a + 268435456 * l.length
 | [], a, _ => by simp
 | no :: l, a, h => by
  have h1 := h no (List.mem_cons_self ..)
  have ih := sum_in (s := s) (f := f) l (a + areaAt s no * f no) fun y hy => h y (List.mem_cons_of_mem _ hy)
  have h2 : 0 ≤ areaAt s no * f no := Int.mul_nonneg (by omega) h1.2.1
  have h3 : areaAt s no * f no ≤ 4096 * 65536 := Int.mul_le_mul h1.1.2 h1.2.2 h1.2.1 (by omega)
  simp only [List.foldl_cons, List.length_cons]
  push_cast
  omega
theorem row_in {xss : List (List Int)} (h : ∀ row ∈ xss, ∀ u ∈ row, 0 ≤ u ∧ u ≤ 65536) (d c : Nat) : 0 ≤ (xss.getD d []).getD c 0 ∧ (xss.getD d []).getD c 0 ≤ 65536 := by
 rcases hr : xss[d]? with _ | row
 ·simp [hr]
 ·rcases hc : row[c]? with _ | y
  ·simp [hr, hc]
  ·have := h row (List.mem_of_getElem? hr) y (List.mem_of_getElem? hc)
   simpa [hr, hc] using this
theorem spans_zero {s : Scene} (h : spansE s = 0) : leastE s = 0 ∧ greatE s = 0 := by
 unfold spansE at h
 split at h
 ·rename_i h1; exact absurd h h1
 ·exact ⟨by omega, h⟩
theorem low_in {s : Scene} (hs : SceneOk s) (h : leastE s = 0) (p : Int × Int) : 0 ≤ lowAt s p ∧ lowAt s p ≤ 65536 := row_in (leastF_bd hs h) _ _
theorem high_in {s : Scene} (hs : SceneOk s) (h : greatE s = 0) (p : Int × Int) : 0 ≤ highAt s p ∧ highAt s p ≤ 65536 := row_in (greatF_bd hs h) _ _
theorem area_in {s : Scene} (hs : SceneOk s) {no : Int} (h : 0 ≤ placeC s.basin.cells no) : ∃ x : Cell, s.basin.cells[(placeC s.basin.cells no).toNat]? = some x ∧ areaAt s no = x.area ∧ 1 ≤ x.area ∧ x.area ≤ 4096 := by
 obtain ⟨x, hx, _⟩ := idxBy_at _ s.basin.cells h
 have h1 := hs.basin.cell _ x hx
 simp only [cellOk, Bool.and_eq_true, inB_true] at h1
 exact ⟨x, hx, by unfold areaAt; exact congrArg Cell.area (getD_of hx), h1.2.1, h1.2.2⟩
theorem basin_Valley (s : Scene) (V : SceneV) (vl : Value) (cells : List Int) (day : Int) (w : World) (hS : SceneAt w s V) (hl : Sl w 1 intC vl cells) :
  Calls Tryz.prog 57 #[s.v V, vl, I day] w fun e w' => e = .returned (.tuple #[.agg #[I (valV s cells day).lo, I (valV s cells day).hi], I (valE s cells day)]) ∧ Below w.heap.size w w' := by
 have JS := fun w' (hb : Below w.heap.size w w') => basin_spots s V vl cells day w' (hS.mono hb) (hl.mono hb)
 have JP := fun vl l w' (hb : Below w.heap.size w w') (hl : Sl w' 2 pairC vl l) => basin_spans s V vl l w' (hS.mono hb) hl
 have HC := hS.cells
 obtain ⟨Ac, nc, hcc, _, _, _, hAc⟩ := hS.cells.open_
 obtain ⟨Ap, np, hpp, _⟩ := hS.pairs.open_
 obtain ⟨Ad, nd, hdd, _⟩ := hS.days.open_
 obtain ⟨As, ns, hsi, _⟩ := hS.sights.open_
 obtain ⟨Ah, nh, hch, _⟩ := hS.changes.open_
 obtain ⟨D, nl, rfl, _⟩ := hl.open_
 unfold Scene.v at *
 rw [hcc, hpp, hdd, hsi, hch] at JS JP ⊢
 rw [hcc] at HC
 clear hcc hpp hdd hsi hch hS hl
 have hE1 : spotsE s cells day ≠ 0 → valE s cells day = spotsE s cells day := fun h => by simp [valE, h]
 have hE2 : spotsE s cells day = 0 → valE s cells day = spansE s := fun h => by simp [valE, h]
 have hV1 : valE s cells day ≠ 0 → valV s cells day = ⟨0, 0⟩ := fun h => by simp [valV, h]
 have hV0 : valE s cells day = 0 → valV s cells day = ⟨valLo s day cells, valHi s day cells⟩ := fun h => by simp [valV, h]
 have hQ0 : spotsE s cells day = 0 → spotsV s cells day = cells.map (spotAt s day) := fun h => by simp [spotsV, h]
 have hR0 : spansE s = 0 → spansV s (cells.map (spotAt s day)) = (cells.map (spotAt s day)).map (spanAt s) := fun h => by simp [spansV, h]
 have hin := fun h => spot_in (s := s) (cells := cells) (day := day) h
 have hl12 := fun h => spots_len (s := s) (cells := cells) (day := day) h
 have hspb := fun h => spotsB_in (s := s) (cells := cells) (day := day) h
 obtain ⟨E, hE⟩ : ∃ E, valE s cells day = E := ⟨_, rfl⟩
 obtain ⟨VV, hVV⟩ : ∃ E, valV s cells day = E := ⟨_, rfl⟩
 rw [hE] at hE1 hE2 hV0 hV1 ⊢
 rw [hVV] at hV0 hV1 ⊢
 clear hE hVV
 obtain ⟨w1, hw1, hb1, kS, kO⟩ := al2 w (s8 s Ac nc Ap np Ad nd As ns Ah nh) 42 #[I 0, I 0] 67
 obtain ⟨q0, q1, q2, q3, q4, q5, q6, q7⟩ := kS.cells8
 have zS := kS.lt
 replace JS := hide JS
 replace JP := hide JP
 replace HC := hide HC
 replace hAc := hide hAc
 replace kS := hide kS
 replace kO := hide kO
 by_cases h1 : spotsE s cells day = 0
 case neg =>
  obtain rfl := hE1 h1
  obtain rfl := hV1 h1
  obtain ⟨E, hEE⟩ : ∃ E, spotsE s cells day = E := ⟨_, rfl⟩
  rw [hEE] at JS h1 ⊢
  have hne : (E != 0) = true := by simpa using h1
  replace h1 := hide h1
  clear hE1 hE2 hV0 hV1 hEE hQ0 hR0 hin hl12 hspb
  go_enter Tryz.func57, Tryz.ntmps57
  go_upto_region 1 with fail
  rw [← hw1]
  clear hw1
  go_wp2_with fail
  go_at_call 136
  refine (JS.out _ hb1).mono ?_
  clear q0 q1 q2 q3 q4 q5 q6 q7 zS
  rintro e w2 ⟨v, rfl, ho, hb3⟩
  obtain ⟨A1, n1, c1, rfl⟩ := ho.shape
  have kO3 := kO.out.grow hb3
  obtain ⟨x0, x1⟩ := kO3.cells2
  have f0 := kO3.frozen 0
  have f1 := kO3.frozen 1
  have zO := kO3.lt
  have kO4 := hide (set2 (b0 := I 0) (b1 := I 0) kO3)
  have hb4 := hide (below2s (bup hb1 hb3) (g := w.heap.size + 1) (by omega) (I 0) (I 0))
  clear ho kO3 hb3
  go_wp2_with fail
  (try simp only [Exit.inBlock, Exit.then])
  exact bodyPost_ret (results_row2 (P := Tryz.prog) rfl _ _ (w.heap.size + 1) 67 _ _ rfl kO4.out Tryz.underlying67 rfl (by kernel_rfl)) rfl ⟨rfl, hb4.out⟩
 obtain rfl := hE2 h1
 have hq := hQ0 h1
 have hin2 := hide (hin h1)
 have h12 := hl12 h1
 obtain ⟨hsz, _, _, _, hpl⟩ := hspb h1
 have hso := hide (SceneOk.of hsz)
 rw [hq, h1] at JS
 clear hE1 hE2 hQ0 hin hl12 hspb hq hsz
 replace h1 := hide h1
 replace hpl := hide hpl
 have JP1 := hide (fun vl w' hb hl => JP.out vl (cells.map (spotAt s day)) w' hb hl (by rw [List.length_map]; omega) hin2.out)
 clear JP
 by_cases h2 : spansE s = 0
 case neg =>
  obtain rfl := hV1 h2
  obtain ⟨E, hEE⟩ : ∃ E, spansE s = E := ⟨_, rfl⟩
  rw [hEE] at JP1 h2 ⊢
  have hne : (E != 0) = true := by simpa using h2
  replace h2 := hide h2
  clear hV0 hV1 hEE hR0
  go_enter Tryz.func57, Tryz.ntmps57
  go_upto_region 1 with fail
  rw [← hw1]
  clear hw1
  go_wp2_with fail
  go_at_call 136
  refine (JS.out _ hb1).mono ?_
  clear q0 q1 q2 q3 q4 q5 q6 q7 zS
  rintro e w2 ⟨v, rfl, ho, hb3⟩
  have hos := hide (ho.sl pairC_len (by rw [List.length_map]; omega))
  obtain ⟨A1, n1, c1, rfl⟩ := ho.shape
  obtain ⟨q0, q1, q2, q3, q4, q5, q6, q7⟩ := (kS.out.grow hb3).cells8
  have zS := (kS.out.grow hb3).lt
  clear ho
  go_wp2_with fail
  go_at_call 137
  refine (JP1.out _ _ (bup hb1 hb3) hos.out).mono ?_
  clear q0 q1 q2 q3 q4 q5 q6 q7 zS
  rintro e w3 ⟨v, rfl, ho, hb5⟩
  obtain ⟨A2, n2, c2, rfl⟩ := ho.shape
  have kO3 := (kO.out.grow hb3).grow hb5
  obtain ⟨x0, x1⟩ := kO3.cells2
  have f0 := kO3.frozen 0
  have f1 := kO3.frozen 1
  have zO := kO3.lt
  have kO4 := hide (set2 (b0 := I 0) (b1 := I 0) kO3)
  have hb4 := hide (below2s (bup (bup hb1 hb3) hb5) (g := w.heap.size + 1) (by omega) (I 0) (I 0))
  clear ho kO3 hb3 hb5
  go_wp2_with fail
  (try simp only [Exit.inBlock, Exit.then])
  exact bodyPost_ret (results_row2 (P := Tryz.prog) rfl _ _ (w.heap.size + 1) 67 _ _ rfl kO4.out Tryz.underlying67 rfl (by kernel_rfl)) rfl ⟨rfl, hb4.out⟩
 case pos =>
  have hv := hV0 h2
  have hr := hR0 h2
  obtain ⟨hle, hge⟩ := spans_zero h2
  subst hv
  rw [h2] at JP1 ⊢
  rw [hr] at JP1
  have hterm := hide (fun no (hno : no ∈ cells) => (show (1 ≤ areaAt s no ∧ areaAt s no ≤ 4096) ∧ (0 ≤ lowAt s (spotAt s day no) ∧ lowAt s (spotAt s day no) ≤ 65536) ∧ 0 ≤ highAt s (spotAt s day no) ∧ highAt s (spotAt s day no) ≤ 65536 by
   obtain ⟨x, _, hx2, hx3⟩ := area_in hso.out (hpl.out no hno)
   rw [hx2]
   exact ⟨hx3, low_in hso.out hle _, high_in hso.out hge _⟩))
  replace h2 := hide h2
  clear hV0 hV1 hR0 hr hle hge
  obtain ⟨VL, hVL⟩ : ∃ a, valLo s day cells = a := ⟨_, rfl⟩
  obtain ⟨VH, hVH⟩ : ∃ a, valHi s day cells = a := ⟨_, rfl⟩
  rw [hVL, hVH]
  replace hVL := hide hVL
  replace hVH := hide hVH
  go_enter Tryz.func57, Tryz.ntmps57
  go_upto_region 1 with fail
  rw [← hw1]
  clear hw1
  go_wp2_with fail
  go_at_call 136
  refine (JS.out _ hb1).mono ?_
  clear q0 q1 q2 q3 q4 q5 q6 q7 zS
  rintro e w2 ⟨v, rfl, ho, hb3⟩
  have hos := ho.sl pairC_len (by rw [List.length_map]; omega)
  obtain ⟨A1, c1, hve, _, _, _, hA1⟩ := hos.open_
  rw [List.length_map] at hve hA1
  subst hve
  replace hos := hide hos
  replace hA1 := hide hA1
  obtain ⟨q0, q1, q2, q3, q4, q5, q6, q7⟩ := (kS.out.grow hb3).cells8
  have zS := (kS.out.grow hb3).lt
  clear ho
  go_wp2_with fail
  go_at_call 137
  refine (JP1.out _ _ (bup hb1 hb3) hos.out).mono ?_
  clear q0 q1 q2 q3 q4 q5 q6 q7 zS
  rintro e w3 ⟨v, rfl, ho, hb5⟩
  have hps := ho.sl Span.cells_len (by rw [List.length_map, List.length_map]; omega)
  obtain ⟨A2, c2, hve, _, _, _, hA2⟩ := hps.open_
  rw [List.length_map, List.length_map] at hve hA2
  subst hve
  replace hps := hide hps
  replace hA2 := hide hA2
  have hos3 := hide (hos.out.mono hb5)
  have hbv3 := hide (bup (bup hb1 hb3) hb5)
  have kS3 := hide ((kS.out.grow hb3).grow hb5)
  have kO3 := hide ((kO.out.grow hb3).grow hb5)
  clear ho hos hb3 hb5 kS kO JP1 JS hb1
  go_upto_region 8 with fail
  obtain ⟨w4, hw4, hb6, kT⟩ := al1 w3 #[I 0, I 0] 67
  rw [← hw4]
  clear hw4
  obtain ⟨gT, hgT⟩ : ∃ g, w3.heap.size = g := ⟨_, rfl⟩
  rw [hgT] at kT ⊢
  have hgTw : w.heap.size ≤ gT := by have := hbv3.out.size; omega
  have hos4 := hide (hos3.out.mono hb6)
  have hps4 := hide (hps.out.mono hb6)
  have kS4 := hide (kS3.out.grow hb6)
  have kO4 := hide (kO3.out.grow hb6)
  have hbv4 := hide (bup hbv3.out hb6)
  have hsz0 : sumBy s (fun no => lowAt s (spotAt s day no)) (cells.take 0) = 0 ∧ sumBy s (fun no => highAt s (spotAt s day no)) (cells.take 0) = 0 := ⟨rfl, rfl⟩
  go_wp2_with fail
  go_loopw [38] (fun i wr => ∃ k : Nat, k ≤ cells.length ∧ i = I k ∧ Hid (Blk wr gT 67 #[I (sumBy s (fun no => lowAt s (spotAt s day no)) (cells.take k)), I (sumBy s (fun no => highAt s (spotAt s day no)) (cells.take k))]) ∧ Hid (Below gT w3 wr)) (fun i _ => cells.length - (intOf i).toNat)
  case atStart => exact ⟨0, Nat.zero_le _, rfl, hide (by rw [hsz0.1, hsz0.2]; exact kT), hide (hgT ▸ hb6)⟩
  case round =>
   obtain ⟨k, hk, rfl, hT, hb⟩ := hrel
   have sr := hb.out.size
   have hbw := hide (hbv3.out.trans (hb.out.mono hgTw))
   have hb3r : Below w3.heap.size w3 wr := by rw [hgT]; exact hb.out
   by_cases hlt : k < cells.length
   ·obtain ⟨b1, o1, rfl, _⟩ := hA1.out k hlt
    obtain ⟨b2, o2, rfl, _⟩ := hA2.out k hlt
    obtain ⟨no, hno⟩ := getElem?_of_lt hlt
    have hnm := List.mem_of_getElem? hno
    obtain ⟨⟨ha1, ha2⟩, ⟨hl1, hl2⟩, hh1, hh2⟩ := hterm.out no hnm
    obtain ⟨x, hx, hxa, _⟩ := area_in hso.out (hpl.out no hnm)
    have hsp : (cells.map (spotAt s day))[k]? = some (spotAt s day no) := by rw [List.getElem?_map, hno]; rfl
    have hsq : ((cells.map (spotAt s day)).map (spanAt s))[k]? = some (spanAt s (spotAt s day no)) := by rw [List.getElem?_map, hsp]; rfl
    obtain ⟨zo, y0, y1⟩ := (show Sl wr 2 pairC (.slice (some ⟨b1, o1, none⟩) (cells.map (spotAt s day)).length c1) _ from by rw [List.length_map]; exact hos3.out.mono hb3r).pair_at hsp
    obtain ⟨zp, hcl⟩ := (show Sl wr 2 Span.cells (.slice (some ⟨b2, o2, none⟩) ((cells.map (spotAt s day)).map (spanAt s)).length c2) _ from by rw [List.length_map, List.length_map]; exact hps.out.mono hb3r).cells_ hsq
    have p0 : wr.cell? ⟨b2, o2 + k * 2, none⟩ = some (I (lowAt s (spotAt s day no))) := hcl 0 _ rfl
    have p1 : wr.cell? ⟨b2, o2 + k * 2 + 1, none⟩ = some (I (highAt s (spotAt s day no))) := hcl 1 _ rfl
    have hplc := hpl.out no hnm
    obtain ⟨b3, o3, hAb, _⟩ := hAc.out (placeC s.basin.cells no).toNat (by have := placeC_lt hplc; omega)
    have hcc := HC.out.mono hbw.out
    rw [hAb] at hcc
    obtain ⟨zc, c0, c1', c2', c3⟩ := hcc.cell_at hx
    have hpc1 := placeC_lt hplc
    have hs1 := sum_snoc (s := s) (f := fun no => lowAt s (spotAt s day no)) hno
    have hs2 := sum_snoc (s := s) (f := fun no => highAt s (spotAt s day no)) hno
    have hbd1 := sum_in (s := s) (f := fun no => lowAt s (spotAt s day no)) (cells.take k) 0 fun y hy => by
     have := hterm.out y (List.mem_of_mem_take hy)
     exact ⟨this.1, this.2.1⟩
    have hbd2 := sum_in (s := s) (f := fun no => highAt s (spotAt s day no)) (cells.take k) 0 fun y hy => by
     have := hterm.out y (List.mem_of_mem_take hy)
     exact ⟨this.1, this.2.2⟩
    have hlt12 : (cells.take k).length ≤ 12 := by rw [List.length_take]; omega
    change 0 ≤ sumBy s _ (cells.take k) ∧ sumBy s _ (cells.take k) ≤ _ at hbd1 hbd2
    simp only [spotAt] at y0 y1
    obtain ⟨pc, hpc⟩ : ∃ p : Nat, placeC s.basin.cells no = p := ⟨(placeC s.basin.cells no).toNat, by omega⟩
    rw [hpc] at c3 hpc1 y0
    rw [Int.toNat_natCast] at c3
    obtain ⟨SL, hSL⟩ : ∃ a, sumBy s (fun no => lowAt s (spotAt s day no)) (cells.take k) = a := ⟨_, rfl⟩
    obtain ⟨SH, hSH⟩ : ∃ a, sumBy s (fun no => highAt s (spotAt s day no)) (cells.take k) = a := ⟨_, rfl⟩
    rw [hSL] at hT hs1 hbd1
    rw [hSH] at hT hs2 hbd2
    obtain ⟨LO, hLO⟩ : ∃ a, lowAt s (spotAt s day no) = a := ⟨_, rfl⟩
    obtain ⟨HI, hHI⟩ : ∃ a, highAt s (spotAt s day no) = a := ⟨_, rfl⟩
    simp only [hLO] at hs1 hl1 hl2 p0
    simp only [hHI] at hs2 hh1 hh2 p1
    rw [hxa] at hs1 hs2 ha1 ha2
    obtain ⟨AR, hAR⟩ : ∃ a, x.area = a := ⟨_, rfl⟩
    rw [hAR] at hs1 hs2 ha1 ha2 c3
    have m1 : 0 ≤ AR * LO := Int.mul_nonneg (by omega) hl1
    have m2 : AR * LO ≤ 4096 * 65536 := Int.mul_le_mul ha2 hl2 hl1 (by omega)
    have m3 : 0 ≤ AR * HI := Int.mul_nonneg (by omega) hh1
    have m4 : AR * HI ≤ 4096 * 65536 := Int.mul_le_mul ha2 hh2 hh1 (by omega)
    have m5 : 0 ≤ SL ∧ SL ≤ 3221225472 := by omega
    have m6 : 0 ≤ SH ∧ SH ≤ 3221225472 := by omega
    obtain ⟨w5, hw5, hb7, kX⟩ := al1 wr #[I LO, I HI] 67
    have hT5 := hT.out.grow hb7
    have hW5 := fun o (h : b1 < wr.heap.size) => hb7.cell (p := ⟨b1, o, none⟩) h
    have y05 : w5.cell? ⟨b1, o1 + k * 2, none⟩ = some (I pc) := (hW5 _ zo).trans y0
    have c35 : w5.cell? ⟨b3, o3 + pc * 4 + 3, none⟩ = some (I AR) := (hb7.cell (p := ⟨b3, o3 + pc * 4 + 3, none⟩) zc).trans c3
    obtain ⟨q0, q1, q2, q3, q4, q5, q6, q7⟩ := ((kS3.out.grow hb3r).grow hb7).cells8
    have zS := ((kS3.out.grow hb3r).grow hb7).lt
    have zo5 : b1 < w5.heap.size := Nat.lt_of_lt_of_le zo hb7.size
    have zc5 : b3 < w5.heap.size := Nat.lt_of_lt_of_le zc hb7.size
    have j0 : (0 : Int) ≤ (pc : Int) := by omega
    rw [hAb] at q0
    replace hT5 := hide hT5
    replace kX := hide kX
    clear hcl hcc hbd1 hbd2 hA1 hA2 hW5 hterm hplc c0 c1' c2' y1 c3 y0
    replace hs1 := hide hs1
    replace hs2 := hide hs2
    replace hno := hide hno
    replace hnm := hide hnm
    replace hx := hide hx
    replace hxa := hide hxa
    replace hsp := hide hsp
    replace hsq := hide hsq
    replace hSL := hide hSL
    replace hSH := hide hSH
    replace hLO := hide hLO
    replace hHI := hide hHI
    replace hAR := hide hAR
    replace hpc := hide hpc
    replace hAb := hide hAb
    go_upto_region 11 with fail
    rw [← hw5]
    clear hw5 p0 p1
    (refine wp_grow ?_; (repeat go_big_quiet_step (fail)); refine wp_grow0 ?_; intro W1 hW1)
    clear y05 c35 q0 q1 q2 q3 q4 q5 q6 q7 zS zo5 zc5
    have hT1 := (hT5.out.grow hW1)
    obtain ⟨t0, t1⟩ := hT1.cells2
    have zT := hT1.lt
    have f0 := hT1.frozen 0
    have f1 := hT1.frozen 1
    obtain ⟨x0, x1⟩ := (kX.out.grow hW1).cells2
    have zX := (kX.out.grow hW1).lt
    have gne : wr.heap.size ≠ gT := by have := hT.out.lt; omega
    have hTN := hide (set2 (b0 := I (SL + AR * LO)) (b1 := I (SH + AR * HI)) hT1)
    have hbN := hide (below2s ((hb.out.trans (hb7.mono (by have := hT.out.lt; omega))).trans (hW1.mono (by have := hT.out.lt; have := hb7.size; omega))) (g := gT) (Nat.le_refl _) (I (SL + AR * LO)) (I (SH + AR * HI)))
    clear hT1 hT5 kX hW1 hT hb7 hb
    go_wp2_with fail
    go_roundw
    case rel => exact ⟨k + 1, by omega, by go_num, by rw [hs1.out, hs2.out]; exact hTN, hbN⟩
    case measure => simp [intOf]; omega
   ·have he : k = cells.length := by omega
    subst he
    have hT2 := hT.out
    rw [List.take_length] at hT2
    change Blk wr gT _ #[I (valLo s day cells), I (valHi s day cells)] at hT2
    rw [hVL.out, hVH.out] at hT2
    obtain ⟨t0, t1⟩ := hT2.cells2
    have zT := hT2.lt
    have kOr := kO3.out.grow hb3r
    obtain ⟨x0, x1⟩ := kOr.cells2
    have f0 := kOr.frozen 0
    have f1 := kOr.frozen 1
    have zO := kOr.lt
    have kO4 := hide (set2 (b0 := I VL) (b1 := I VH) kOr)
    have hb4 := hide (below2s hbw.out (g := w.heap.size + 1) (by omega) (I VL) (I VH))
    clear hT2 kOr hT
    go_wp2_with fail
    (try simp only [Exit.inBlock, Exit.then])
    exact bodyPost_ret (results_row2 (P := Tryz.prog) rfl _ _ (w.heap.size + 1) 67 _ _ rfl kO4.out Tryz.underlying67 rfl (by kernel_rfl)) rfl ⟨rfl, hb4.out⟩

theorem getD_row {xss : List (List Int)} {d : Nat} {row : List Int} (h : xss[d]? = some row) : xss.getD d [] = row := by simp [h]
theorem hwF_bd {s : Scene} {day : Int} (hs : SceneOk s) (h : greatE s = 0) : ∀ no u, hwF s day no = some u → 0 ≤ u ∧ u ≤ 65536 := by
 intro no u hu
 unfold hwF at hu
 split at hu
 ·cases hu
 ·injection hu with hu
  subst hu
  rcases hr : (greatF s)[(placeD s.days day).toNat]? with _ | row
  ·simp [hr]
  ·rcases hc : row[(placeC s.basin.cells no).toNat]? with _ | y
   ·simp [hr, hc]
   ·have := greatF_bd hs h row (List.mem_of_getElem? hr) y (List.mem_of_getElem? hc)
    simpa [hr, hc] using this

theorem crew_seen (vs vt : Value) (ss : List Site) (ts : List Track) (s : Scene) (V : SceneV) (day : Int) (g : Nat) (cap : Array Value) (q : Bool) (w : World) (hs : Sl w 3 Site.cells vs ss) (ht : Sl w 6 Track.cells vt ts) (hS : SceneAt w s V)
  (eg : ∀ args w, (callFunc g args).run Tryz.prog w = .ok (.enter g args) w) (hq : RangeOk ss ts → ∀ W, Below w.heap.size w W → Calls Tryz.prog g cap W fun e w' => e = .returned (.bool q) ∧ Below W.heap.size W w') :
  Calls Tryz.prog 86 #[.agg #[vs, vt], s.v V, I day, .func (.func g) #[] cap] w fun e w' => ∃ v, e = .returned (.tuple #[v, I (seenE ss ts s day q)]) ∧
   (seenE ss ts s day q = 0 → ∃ h, v = .pointer (some ⟨h, 0, none⟩) ∧ HillAt w' w.heap.size h vs vt (hwF s day)) ∧ (seenE ss ts s day q ≠ 0 → v = .pointer none) ∧ Below w.heap.size w w' := by
 have hbd := fun h1 h2 => hwF_bd (s := s) (day := day) h1 h2
 have hrow := fun h => greatF_at (s := s) (d := (placeD s.days day).toNat) h
 have hgl := greatF_len s
 obtain ⟨Ac, nc, hcc, _, _, _, hAc⟩ := hS.cells.open_
 obtain ⟨Ap, np, hpp, _⟩ := hS.pairs.open_
 obtain ⟨Ad, nd, hdd, _⟩ := hS.days.open_
 obtain ⟨As, ns, hsi, _⟩ := hS.sights.open_
 obtain ⟨Ah, nh, hch, _⟩ := hS.changes.open_
 have JD := fun w' (hb : Below w.heap.size w w') => index_int V.days s.days day w' (hS.days.mono hb)
 have hcl : s.basin.cells.length ≤ 140737488355328 := by obtain ⟨_, _, _, _, _, h, _⟩ := hS.cells.open_; exact h
 have JR := fun w' (hb : Below w.heap.size w w') => crew_CheckRange vs vt ss ts w' (hs.mono hb) (ht.mono hb)
 have JC := fun w' (hb : Below w.heap.size w w') => basin_Check s V w' (hS.mono hb)
 have JG := fun w' (hb : Below w.heap.size w w') => basin_Greatest s V w' (hS.mono hb)
 have hSc := hS.cells
 rw [hcc] at hSc
 obtain ⟨A, n, rfl, _, _, hlen, hA⟩ := hs.open_
 obtain ⟨A', n', rfl, _, _, hlen', hA'⟩ := ht.open_
 unfold Scene.v at *
 rw [hcc, hpp, hdd, hsi, hch] at JC JG ⊢
 rw [hdd] at JD
 change ∀ w', _ → Calls _ _ _ _ fun e w' => e = .returned (I (placeD s.days day)) ∧ _ at JD
 clear hcc hpp hdd hsi hch hs ht hA hA' hlen hlen' hS
 replace hSc := hide hSc
 replace hcl := hide hcl
 replace hgl := hide hgl
 replace hbd := hide hbd
 replace hrow := hide hrow
 replace JR := hide JR
 replace JC := hide JC
 replace JG := hide JG
 replace JD := hide JD
 replace hAc := hide hAc
 replace hq := hide hq
 obtain ⟨cl, hcll⟩ : ∃ c, s.basin.cells.length = c := ⟨_, rfl⟩
 obtain ⟨w1, hw1, hb1, kR, kS⟩ := al2 w #[.slice A ss.length n, .slice A' ts.length n'] 25 (s8 s Ac nc Ap np Ad nd As ns Ah nh) 42
 clear hcll cl
 obtain ⟨rR0, rR1⟩ := kR.cells2
 have zR := kR.lt
 by_cases hE1 : rangeE ss ts = 0
 case neg =>
  have hE : seenE ss ts s day q = rangeE ss ts := by simp [seenE, hE1]
  rw [hE]
  clear hE hq
  obtain ⟨E, hEE⟩ : ∃ E, rangeE ss ts = E := ⟨_, rfl⟩
  rw [hEE] at hE1 JR ⊢
  have hne : (E != 0) = true := by simpa using hE1
  replace hE1 := hide hE1
  replace kR := hide kR
  replace kS := hide kS
  go_enter Tryz.func86, Tryz.ntmps86
  go_wp2_with fail
  rw [← hw1]
  clear hw1
  go_wp2_with (go_at_call 23; refine (JR.out _ hb1).mono ?_; rintro e w2 ⟨rfl, hb2⟩)
  go_ret2
  exact ⟨_, rfl, fun h => absurd h hE1.out, fun _ => rfl, bup hb1 hb2⟩
 have hro := RangeOk.of hE1
 rw [hE1] at JR
 have hS0 : seenE ss ts s day q = if sceneE s ≠ 0 then sceneE s else if placeD s.days day < 0 ∨ q = false then 1 else greatE s := by simp [seenE, hE1]
 rw [hS0]
 clear hS0 hE1
 by_cases hE2 : sceneE s = 0
 case neg =>
  rw [if_pos hE2]
  clear hq
  obtain ⟨E, hEE⟩ : ∃ E, sceneE s = E := ⟨_, rfl⟩
  rw [hEE] at hE2 JC ⊢
  have hne : (E != 0) = true := by simpa using hE2
  replace hE2 := hide hE2
  replace kR := hide kR
  replace kS := hide kS
  go_enter Tryz.func86, Tryz.ntmps86
  go_wp2_with fail
  rw [← hw1]
  clear hw1
  go_wp2_with (first | (go_at_call 23; refine (JR.out _ hb1).mono ?_; rintro e w2 ⟨rfl, hb2⟩; obtain ⟨q0, q1, q2, q3, q4, q5, q6, q7⟩ := (kS.out.grow hb2).cells8; have zS := (kS.out.grow hb2).lt) | (go_at_call 55; refine (JC.out _ (bup hb1 hb2)).mono ?_; rintro e w3 ⟨rfl, hb3⟩))
  go_ret2
  exact ⟨_, rfl, fun h => absurd h hE2.out, fun _ => rfl, bup (bup hb1 hb2) hb3⟩
 have hso := SceneOk.of hE2
 have hbo : basinOk s.basin = true := by
  cases h9 : basinOk s.basin with
  | true => rfl
  | false => simp [sceneE, h9] at hE2
 rw [if_neg (by omega)]
 rw [hE2] at JC
 clear hE2
 have hq2 := hide (hq.out hro)
 clear hq
 obtain ⟨d, hd⟩ : ∃ d, placeD s.days day = d := ⟨_, rfl⟩
 have hdl := fun h => placeD_lt (s := s) (d := day) h
 rw [hd] at hdl hrow JD ⊢
 by_cases hE3 : d < 0
 case pos =>
  rw [if_pos (Or.inl hE3)]
  replace kR := hide kR
  replace kS := hide kS
  clear hdl
  go_enter Tryz.func86, Tryz.ntmps86
  go_wp2_with fail
  rw [← hw1]
  clear hw1
  go_wp2_with (first | (go_at_call 23; refine (JR.out _ hb1).mono ?_; rintro e w2 ⟨rfl, hb2⟩; obtain ⟨q0, q1, q2, q3, q4, q5, q6, q7⟩ := (kS.out.grow hb2).cells8; have zS := (kS.out.grow hb2).lt) | (go_at_call 55; refine (JC.out _ (bup hb1 hb2)).mono ?_; clear q0 q1 q2 q3 q4 q5 q6 q7 zS; rintro e w3 ⟨rfl, hb3⟩; obtain ⟨q0, q1, q2, q3, q4, q5, q6, q7⟩ := ((kS.out.grow hb2).grow hb3).cells8; have zS := ((kS.out.grow hb2).grow hb3).lt) | (go_at_call 122; refine (JD.out _ (bup (bup hb1 hb2) hb3)).mono ?_; rintro e w4 ⟨rfl, rfl⟩))
  go_ret2
  exact ⟨_, rfl, fun h => absurd h (by omega), fun _ => rfl, bup (bup hb1 hb2) hb3⟩
 case neg =>
 cases q with
 | false =>
  rw [if_pos (Or.inr rfl)]
  replace kR := hide kR
  replace kS := hide kS
  clear hdl
  go_enter Tryz.func86, Tryz.ntmps86
  go_wp2_with fail
  rw [← hw1]
  clear hw1
  go_wp2_with (first | (go_at_call 23; refine (JR.out _ hb1).mono ?_; rintro e w2 ⟨rfl, hb2⟩; obtain ⟨q0, q1, q2, q3, q4, q5, q6, q7⟩ := (kS.out.grow hb2).cells8; have zS := (kS.out.grow hb2).lt) | (go_at_call 55; refine (JC.out _ (bup hb1 hb2)).mono ?_; clear q0 q1 q2 q3 q4 q5 q6 q7 zS; rintro e w3 ⟨rfl, hb3⟩; obtain ⟨q0, q1, q2, q3, q4, q5, q6, q7⟩ := ((kS.out.grow hb2).grow hb3).cells8; have zS := ((kS.out.grow hb2).grow hb3).lt) | (go_at_call 122; refine (JD.out _ (bup (bup hb1 hb2) hb3)).mono ?_; rintro e w4 ⟨rfl, rfl⟩) | (go_at_fn g; refine (hq2.out _ (bup (bup hb1 hb2) hb3)).mono ?_; rintro e w5 ⟨rfl, hb5⟩))
  go_ret2
  exact ⟨_, rfl, fun h => absurd h (by omega), fun _ => rfl, bup (bup (bup hb1 hb2) hb3) hb5⟩
 | true =>
 rw [if_neg (by simp; omega)]
 by_cases hE4 : greatE s = 0
 case neg =>
  obtain ⟨E, hEE⟩ : ∃ E, greatE s = E := ⟨_, rfl⟩
  rw [hEE] at hE4 JG ⊢
  have hne : (E != 0) = true := by simpa using hE4
  replace hE4 := hide hE4
  replace kR := hide kR
  replace kS := hide kS
  clear hdl
  go_enter Tryz.func86, Tryz.ntmps86
  go_wp2_with fail
  rw [← hw1]
  clear hw1
  go_wp2_with (first | (go_at_call 23; refine (JR.out _ hb1).mono ?_; rintro e w2 ⟨rfl, hb2⟩; obtain ⟨q0, q1, q2, q3, q4, q5, q6, q7⟩ := (kS.out.grow hb2).cells8; have zS := (kS.out.grow hb2).lt) | (go_at_call 55; refine (JC.out _ (bup hb1 hb2)).mono ?_; clear q0 q1 q2 q3 q4 q5 q6 q7 zS; rintro e w3 ⟨rfl, hb3⟩; obtain ⟨q0, q1, q2, q3, q4, q5, q6, q7⟩ := ((kS.out.grow hb2).grow hb3).cells8; have zS := ((kS.out.grow hb2).grow hb3).lt) | (go_at_call 122; refine (JD.out _ (bup (bup hb1 hb2) hb3)).mono ?_; rintro e w4 ⟨rfl, rfl⟩) | (go_at_fn g; refine (hq2.out _ (bup (bup hb1 hb2) hb3)).mono ?_; clear q0 q1 q2 q3 q4 q5 q6 q7 zS; rintro e w5 ⟨rfl, hb5⟩; obtain ⟨q0, q1, q2, q3, q4, q5, q6, q7⟩ := (((kS.out.grow hb2).grow hb3).grow hb5).cells8; have zS := (((kS.out.grow hb2).grow hb3).grow hb5).lt) | (go_at_call 71; refine (JG.out _ (bup (bup (bup hb1 hb2) hb3) hb5)).mono ?_; rintro e w6 ⟨v6, rfl, -, hv6, hb6⟩; obtain rfl := hv6 hE4.out))
  go_ret2
  exact ⟨_, rfl, fun h => absurd h hE4.out, fun _ => rfl, bup (bup (bup (bup hb1 hb2) hb3) hb5) hb6⟩
 have hbd2 := hide (hbd.out hso hE4)
 rw [hE4] at JG ⊢
 obtain ⟨row, hrw, hrl⟩ := hrow.out (by have := hdl (by omega); omega)
 obtain ⟨D, hD⟩ : ∃ D : Nat, d = D := ⟨d.toNat, by omega⟩
 rw [show d.toNat = D by omega] at hrw
 have hm : ∀ no, hwF s day no = fw s.basin.cells row no := fun no => by
  unfold hwF fw
  rw [hd, show d.toNat = D by omega, getD_row hrw]
 have hDl : D < s.days.length := by have := hdl (by omega); omega
 clear hdl hrow hbd
 replace hm := hide hm
 replace hbo := hide hbo
 have hn1 := hso.basin.hc1
 have hn2 := hso.basin.hc2
 replace hso := hide hso
 replace hro := hide hro
 subst hD
 replace hd := hide hd
 have hD0 : (0 : Int) ≤ (D : Int) := by omega
 have hD1 : (D : Int) < (s.days.length : Int) := by omega
 have hDd : decide ((D : Int) < 0) = false := by simp
 replace hrw := hide hrw
 replace kR := hide kR
 replace kS := hide kS
 replace hn1 := hide hn1
 replace hn2 := hide hn2
 clear hE3 hE4
 have hmm := @run_makeMap Tryz.prog
 go_enter Tryz.func86, Tryz.ntmps86
 go_wp2_with fail
 rw [← hw1]
 clear hw1
 go_wp2_with (first | (go_at_call 23; refine (JR.out _ hb1).mono ?_; rintro e w2 ⟨rfl, hb2⟩; obtain ⟨q0, q1, q2, q3, q4, q5, q6, q7⟩ := (kS.out.grow hb2).cells8; have zS := (kS.out.grow hb2).lt) | (go_at_call 55; refine (JC.out _ (bup hb1 hb2)).mono ?_; clear q0 q1 q2 q3 q4 q5 q6 q7 zS; rintro e w3 ⟨rfl, hb3⟩; obtain ⟨q0, q1, q2, q3, q4, q5, q6, q7⟩ := ((kS.out.grow hb2).grow hb3).cells8; have zS := ((kS.out.grow hb2).grow hb3).lt) | (go_at_call 122; refine (JD.out _ (bup (bup hb1 hb2) hb3)).mono ?_; rintro e w4 ⟨rfl, rfl⟩) | (go_at_fn g; refine (hq2.out _ (bup (bup hb1 hb2) hb3)).mono ?_; clear q0 q1 q2 q3 q4 q5 q6 q7 zS; rintro e w5 ⟨rfl, hb5⟩; obtain ⟨q0, q1, q2, q3, q4, q5, q6, q7⟩ := (((kS.out.grow hb2).grow hb3).grow hb5).cells8; have zS := (((kS.out.grow hb2).grow hb3).grow hb5).lt) | (go_at_call 71; refine (JG.out _ (bup (bup (bup hb1 hb2) hb3) hb5)).mono ?_; clear q0 q1 q2 q3 q4 q5 q6 q7 zS rR0 rR1 zR; rintro e w6 ⟨v6, rfl, h6, -, hb6⟩; obtain ⟨q0, q1, q2, q3, q4, q5, q6, q7⟩ := ((((kS.out.grow hb2).grow hb3).grow hb5).grow hb6).cells8; have zS := ((((kS.out.grow hb2).grow hb3).grow hb5).grow hb6).lt; obtain ⟨rR0, rR1⟩ := ((((kR.out.grow hb2).grow hb3).grow hb5).grow hb6).cells2; have zR := ((((kR.out.grow hb2).grow hb3).grow hb5).grow hb6).lt; obtain ⟨g6, m6, g7, c7, rfl, -, z6, r6, -, z7, h7⟩ := (h6 trivial).read hrw.out (by have := hn1.out; omega); clear h6; replace h7 := hide h7; replace r6 := hide r6))
 have B6 := bup (bup (bup (bup hb1 hb2) hb3) hb5) hb6
 clear hb1 hb2 hb3 hb5 hb6 q0 q1 q2 q3 q4 q5 q6 q7 zS rR0 rR1 zR kR kS JR JC JG JD hq2
 obtain ⟨W7, hW7⟩ : ∃ W, W = (w6.alloc (.map #[] 0)).alloc (.cells #[.slice A ss.length n, .slice A' ts.length n', .map (some w6.heap.size)] 200) := ⟨_, rfl⟩
 have kM : MapI W7 w6.heap.size [] := by rw [hW7]; exact (MapI.new w6).below (below1 _ _) (MapI.new w6).lt
 have kH : Blk W7 (w6.heap.size + 1) 200 #[.slice A ss.length n, .slice A' ts.length n', .map (some w6.heap.size)] := by rw [hW7]; exact blk_next (Blk.new _ _ _) (by simp)
 have B7 : Below w6.heap.size w6 W7 := by rw [hW7]; exact below2 _ _ _
 rw [← hW7]
 clear hW7
 have s6 := B6.size
 obtain ⟨gm, hgm⟩ : ∃ g, w6.heap.size = g := ⟨_, rfl⟩
 rw [hgm] at kM kH ⊢
 obtain ⟨gh, hgh⟩ : ∃ g, gm + 1 = g := ⟨_, rfl⟩
 rw [hgh] at kH ⊢
 have hg1 : w.heap.size ≤ gm := by omega
 have hg2 : w.heap.size ≤ gh := by omega
 have hg3 : gm ≠ gh := by omega
 replace hgm := hide hgm
 replace hgh := hide hgh
 replace B6 := hide B6
 rw [hgl.out]
 go_loopw [55] (fun i wr => ∃ k : Nat, k ≤ s.basin.cells.length ∧ i = I k ∧ Hid (Below w6.heap.size w6 wr) ∧ Hid (Blk wr gh 200 #[.slice A ss.length n, .slice A' ts.length n', .map (some gm)]) ∧ ∃ L, Hid (MapI wr gm L) ∧ Hid (∀ no, getI L no = (fw (s.basin.cells.take k) row no).map I)) (fun i _ => s.basin.cells.length - (intOf i).toNat)
 case atStart => exact ⟨0, Nat.zero_le _, rfl, hide B7, hide kH, [], hide kM, hide (fun no => rfl)⟩
 case round =>
  obtain ⟨k, hk, rfl, hb, hH, L, hM, hL⟩ := hrel
  by_cases hlt : k < s.basin.cells.length
  ·obtain ⟨b, off, rfl, hbw⟩ := hAc.out k hlt
   obtain ⟨x, hx⟩ := getElem?_of_lt hlt
   obtain ⟨u, hu⟩ := getElem?_of_lt (xs := row) (k := k) (by omega)
   have hsb := (hSc.out.mono B6.out).mono hb.out
   obtain ⟨hbx, f0, f1, f2, f3⟩ := hsb.cell_at hx
   clear hsb hAc
   have sb := hb.out.size
   have rH2 : wr.cell? ⟨gh, 2, none⟩ = some (.map (some gm)) := hH.out.cell 2
   have zH : gh < wr.heap.size := hH.out.lt
   have t6 : wr.cell? ⟨g6, D, none⟩ = some (.slice (some ⟨g7, 0, none⟩) row.length c7) := (hb.out.cell (p := ⟨g6, D, none⟩) z6).trans r6.out
   have t7 : wr.cell? ⟨g7, k, none⟩ = some (I u) := (hb.out.cell (p := ⟨g7, k, none⟩) z7).trans (h7.out k u hu)
   have y6 : g6 < wr.heap.size := by omega
   have y7 : g7 < wr.heap.size := by omega
   have k0 : (0 : Int) ≤ (k : Int) := by omega
   have k1 : (k : Int) < (row.length : Int) := by omega
   have hfw := hide (fw_snoc hbo.out hx hu)
   replace hx := hide hx
   replace hu := hide hu
   have tx : wr.heap.size < (wr.alloc (.cells #[I x.no, I x.height, I x.aspect, I x.area] 101)).heap.size := by simp
   go_wp2_with fail
   (refine wp_region_grow_tail 13 (by kernel_rfl) (by kernel_rfl) ?_; simp only [List.take_succ_cons, List.take_zero, List.drop_succ_cons, List.drop_zero]; (repeat go_big_quiet_step ((skip))); refine wpQuiet_nil ?_; rintro W1 ⟨⟨_, hW1⟩, rfl⟩)
   have hM2 := (hM.out.below (below1 wr (.cells #[I x.no, I x.height, I x.aspect, I x.area] 101)) hM.out.lt).below hW1 (by have := hM.out.lt; simp; omega)
   obtain ⟨o, hput, hM3⟩ := hM2.put (P := Tryz.prog) (t := 198) Tryz.underlying198 Tryz.underlying3 x.no (I u)
   have hH2 := (hH.out.alloc (.cells #[I x.no, I x.height, I x.aspect, I x.area] 101)).grow hW1
   have hb2 := Below.mapped (bup (bup hb.out (below1 _ _)) hW1) (b := gm) (by rw [hgm.out]; exact Nat.le_refl _) o
   have hH3 : Blk { W1 with heap := W1.heap.setIfInBounds gm o } gh 200 #[.slice A ss.length n, .slice A' ts.length n', .map (some gm)] := by
    unfold Blk at hH2 ⊢
    rw [← hH2]
    exact Array.getElem?_setIfInBounds_ne hg3
   have hL2 : ∀ no, getI (setI L x.no (I u)) no = (fw (s.basin.cells.take (k + 1)) row no).map I := fun no => by
    rw [getI_setI, hfw.out]
    split
    ·rfl
    ·exact hL.out no
   replace hM3 := hide hM3
   replace hH3 := hide hH3
   replace hb2 := hide hb2
   replace hL2 := hide hL2
   clear hM2 hH2 hb hM hH hL hW1 hfw tx
   go_wp2_with fail
   go_roundw
   case rel => exact ⟨k + 1, by omega, by go_num, hb2, hH3, _, hM3, hL2⟩
   case measure => simp [intOf]; omega
  ·have he : k = s.basin.cells.length := by omega
   subst he
   have hL1 := hL.out
   rw [List.take_length] at hL1
   go_wp2_with fail
   go_ret2
   refine ⟨_, rfl, fun _ => ⟨gh, rfl, hg2, gm, L, hg1, hH.out, hM.out, fun no => by rw [hL1, hm.out], hbd2.out⟩, fun h => absurd rfl h, bup B6.out hb.out⟩
end Go.Proofs.YtgbbljfmngmjeaaGreat
