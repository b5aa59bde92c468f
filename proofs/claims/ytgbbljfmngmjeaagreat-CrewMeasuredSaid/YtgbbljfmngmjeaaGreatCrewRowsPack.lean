/- The rows of a scene's greatest water, and what a list of cells reads there. Conditions stand in the theorems. -/
import Derived.Test.YtgbbljfmngmjeaaGreatRangePack
import Derived.Test.YtgbbljfmngmjeaaGreatBasin11Pack
import Derived.Test.YtgbbljfmngmjeaaGreatReachPack
import Derived.Test.YtgbbljfmngmjeaaGreatGrowTail
import Derived.Deep.AppendLies
import Derived.Deep.DeepCutAuto
import Derived.Test.YtgbbljfmngmjeaaGreatCrewDefsPack
import Derived.Laws.ResultCell
set_option linter.all false
set_option maxHeartbeats 8000000
set_option maxRecDepth 100000
namespace Go.Proofs.YtgbbljfmngmjeaaGreat
open Go.RowKit

theorem RowsAt.read {w : World} {base : Nat} {v : Value} {xss : List (List Int)} (h : RowsAt w base v xss) {d : Nat} {row : List Int} (hd : xss[d]? = some row) (hr : 0 < row.length) :
  ∃ g m g2 c2, v = .slice (some ⟨g, 0, none⟩) xss.length m ∧ base ≤ g ∧ g < w.heap.size ∧ w.cell? ⟨g, d, none⟩ = some (.slice (some ⟨g2, 0, none⟩) row.length c2) ∧ base ≤ g2 ∧ g2 < w.heap.size ∧ ∀ (i : Nat) (x : Int), row[i]? = some x → w.cell? ⟨g2, i, none⟩ = some (I x) := by
 obtain ⟨vs, h1, h2, h3⟩ := h
 obtain ⟨u, hu, ho⟩ := h3 d row hd
 have hdl : d < vs.length := (List.getElem?_eq_some_iff.1 hu).1
 obtain ⟨g, m, rfl, hg1, hg2⟩ := World.ownsRow.form h2 (by omega)
 obtain ⟨g2, c2, huv, k1, k2⟩ := World.ownsRow.form ho hr
 refine ⟨g, m, g2, c2, by rw [h1], hg1, hg2, ?_, k1, k2, fun i x hx => ?_⟩
 ·have hf := flat_at oneC_len vs d u hu 0 u.v rfl
  have hc := World.ownsRow.cellAt h2 d (by omega)
  rw [hc, ← huv]
  simpa using hf
 ·have hil := (List.getElem?_eq_some_iff.1 hx).1
  have hf := flat_at intC_len row i x hx 0 (I x) rfl
  rw [huv] at ho
  have hc := World.ownsRow.cellAt ho i (by omega)
  rw [hc]
  simpa using hf
theorem rowsF_at {n m : Nat} {l : List Int} {d : Nat} (hd : d < m) (hl : l.length = 1 + m * n) : ∃ row, (rowsF n m l)[d]? = some row ∧ row.length = n := by
 refine ⟨(l.drop (1 + d * n)).take n, by simp [rowsF, List.getElem?_range hd], ?_⟩
 rw [List.length_take, List.length_drop, hl]
 have h4 : (d + 1) * n ≤ m * n := Nat.mul_le_mul_right n hd
 rw [Nat.add_mul, Nat.one_mul] at h4
 omega
theorem greatF_at {s : Scene} {d : Nat} (hd : d < s.days.length) : ∃ row, (greatF s)[d]? = some row ∧ row.length = s.basin.cells.length :=
 rowsF_at hd (by rw [endsL]; exact (growF_len _ _ _).1)
theorem greatF_len (s : Scene) : (greatF s).length = s.days.length := by simp [greatF, rowsF]
theorem leastF_at {s : Scene} {d : Nat} (hd : d < s.days.length) : ∃ row, (leastF s)[d]? = some row ∧ row.length = s.basin.cells.length :=
 rowsF_at hd (by rw [botL, List.length_map, endsL]; exact (growF_len _ _ _).1)
theorem leastF_len (s : Scene) : (leastF s).length = s.days.length := by simp [leastF, rowsF]

def fw (cs : List Cell) (row : List Int) (no : Int) : Option Int := if placeC cs no < 0 then none else some (row.getD (placeC cs no).toNat 0)
theorem place_take {cs : List Cell} {k : Nat} {x : Cell} (hx : cs[k]? = some x) (no : Int) : placeC (cs.take (k + 1)) no = if placeC (cs.take k) no < 0 then (if x.no == no then (k : Int) else -1) else placeC (cs.take k) no := by
 unfold placeC
 rw [List.take_succ_eq_append_getElem (List.getElem?_eq_some_iff.1 hx).1, idxBy_snoc, (List.getElem?_eq_some_iff.1 hx).2, List.length_take, Nat.min_eq_left (Nat.le_of_lt (List.getElem?_eq_some_iff.1 hx).1)]
theorem cells_apart {b : Basin} (h : basinOk b = true) {i j : Nat} {x y : Cell} (hi : b.cells[i]? = some x) (hj : b.cells[j]? = some y) (hij : i < j) : x.no < y.no := by
 simp only [basinOk, Bool.and_eq_true, inB_true, decide_eq_true_eq, List.all_eq_true, List.mem_range] at h
 have hg := h.1.2
 induction j generalizing y with
 | zero => omega
 | succ j ih =>
  have hjl := (List.getElem?_eq_some_iff.1 hj).1
  obtain ⟨z, hz⟩ := getElem?_of_lt (xs := b.cells) (k := j) (by omega)
  have h2 := hg (j + 1) hjl
  simp only [cellGood, getD_of hj, Nat.add_sub_cancel, getD_of hz, Bool.and_eq_true, Bool.or_eq_true, decide_eq_true_eq, beq_iff_eq] at h2
  have h3 : z.no < y.no := by
   rcases h2.2 with h2 | h2
   ·omega
   ·exact h2
  rcases Nat.lt_or_ge i j with h4 | h4
  ·have := ih hz h4
   omega
  ·obtain rfl : i = j := by omega
   rw [hi] at hz
   cases hz
   exact h3
theorem fw_snoc {b : Basin} (h : basinOk b = true) {row : List Int} {k : Nat} {x : Cell} {u : Int} (hx : b.cells[k]? = some x) (hu : row[k]? = some u) (no : Int) : fw (b.cells.take (k + 1)) row no = if no = x.no then some u else fw (b.cells.take k) row no := by
 unfold fw
 rw [place_take hx]
 by_cases e : no = x.no
 ·have hn : placeC (b.cells.take k) no = -1 := by
   refine idxBy_neg fun y hy => ?_
   obtain ⟨i, hi⟩ := List.mem_iff_getElem?.1 hy
   have hik : i < k := by have := (List.getElem?_eq_some_iff.1 hi).1; simp at this; omega
   rw [List.getElem?_take_of_lt hik] at hi
   have := cells_apart h hi hx hik
   simp; omega
  rw [hn, if_pos e]
  simp [e, hu]
 ·rw [if_neg e]
  have : (x.no == no) = false := by simp; omega
  rw [this]
  split <;> simp_all

theorem el_spot : ElemOk Tryz.prog 173 180 2 16 (.agg #[I 0, I 0]) := ⟨Tryz.underlying173, by kernel_rfl, rfl, by omega⟩
theorem el_span : ElemOk Tryz.prog 176 67 2 16 (.agg #[I 0, I 0]) := ⟨Tryz.underlying176, by kernel_rfl, rfl, by omega⟩
theorem Span.cells_len (x : Span) : x.cells.length = 2 := rfl
theorem Span.cells_one (x : Span) : ∀ u ∈ x.cells, u.oneCell' = true := by intro u hu; simp [Span.cells] at hu; rcases hu with rfl | rfl <;> rfl
theorem rises2 {l : List Int} (h : risingB l = true) {i j : Nat} {x y : Int} (hi : l[i]? = some x) (hj : l[j]? = some y) (hij : i < j) : x < y := by
 induction j generalizing y with
 | zero => omega
 | succ j ih =>
  have hjl := (List.getElem?_eq_some_iff.1 hj).1
  obtain ⟨z, hz⟩ := getElem?_of_lt (xs := l) (k := j) (by omega)
  have h2 := List.all_eq_true.1 h (j + 1) (List.mem_range.2 hjl)
  rw [risesAt_pos (by omega) hj (by simpa using hz)] at h2
  have h3 : z < y := by simpa using h2
  rcases Nat.lt_or_ge i j with h4 | h4
  ·have := ih hz h4
   omega
  ·obtain rfl : i = j := by omega
   rw [hi] at hz
   cases hz
   exact h3
theorem place_mono {b : Basin} (h : basinOk b = true) {m n : Int} (hm : 0 ≤ placeC b.cells m) (hn : 0 ≤ placeC b.cells n) (hmn : m < n) : placeC b.cells m < placeC b.cells n := by
 obtain ⟨x, hx, hxm⟩ := idxBy_at _ b.cells hm
 obtain ⟨y, hy, hyn⟩ := idxBy_at _ b.cells hn
 have e1 : x.no = m := by simpa using hxm
 have e2 : y.no = n := by simpa using hyn
 unfold placeC at *
 rcases Nat.lt_or_ge (idxBy (fun c => c.no == m) b.cells).toNat (idxBy (fun c => c.no == n) b.cells).toNat with h1 | h1
 ·omega
 ·rcases Nat.lt_or_ge (idxBy (fun c => c.no == n) b.cells).toNat (idxBy (fun c => c.no == m) b.cells).toNat with h2 | h2
  ·have := cells_apart h hy hx h2
   omega
  ·have e : (idxBy (fun c => c.no == m) b.cells).toNat = (idxBy (fun c => c.no == n) b.cells).toNat := by omega
   rw [e, hy] at hx
   cases hx
   omega
theorem spots_le {b : Basin} (h : basinOk b = true) {cells : List Int} (hr : risingB cells = true) : ∀ k, k < cells.length → (∀ j, j < k + 1 → 0 ≤ placeC b.cells (cells.getD j 0)) → (k : Int) ≤ placeC b.cells (cells.getD k 0)
 | 0, _, ha => ha 0 (by omega)
 | k + 1, hk, ha => by
  have ih := spots_le h hr k (by omega) fun j hj => ha j (by omega)
  obtain ⟨x, hx⟩ := getElem?_of_lt (xs := cells) (k := k) (by omega)
  obtain ⟨y, hy⟩ := getElem?_of_lt hk
  have hxy := rises2 hr hx hy (by omega)
  have e1 : cells.getD k 0 = x := by simp [hx]
  have e2 : cells.getD (k + 1) 0 = y := by simp [hy]
  have h1 := ha k (by omega)
  have h2 := ha (k + 1) (by omega)
  rw [e1] at ih h1
  rw [e2] at h2 ⊢
  have := place_mono h h1 h2 hxy
  omega
def spotAt (s : Scene) (day no : Int) : Int × Int := (placeC s.basin.cells no, placeD s.days day)
def spotsB (s : Scene) (cells : List Int) (day : Int) : Bool := decide (0 ≤ placeD s.days day) && !(cells == []) && risingB cells && cells.all fun no => decide (0 ≤ placeC s.basin.cells no)
def spotsE (s : Scene) (cells : List Int) (day : Int) : Int := if sceneE s ≠ 0 then sceneE s else if spotsB s cells day then 0 else 1
def spotsV (s : Scene) (cells : List Int) (day : Int) : List (Int × Int) := if spotsE s cells day = 0 then cells.map (spotAt s day) else []
theorem basin_spots (s : Scene) (V : SceneV) (vl : Value) (cells : List Int) (day : Int) (w : World) (hS : SceneAt w s V) (hl : Sl w 1 intC vl cells) :
  Calls Tryz.prog 136 #[s.v V, vl, I day] w fun e w' => ∃ v, e = .returned (.tuple #[v, I (spotsE s cells day)]) ∧ Own w' w.heap.size 180 2 pairC v (spotsV s cells day) ∧ Below w.heap.size w w' := by
 have JC := fun w' (hb : Below w.heap.size w w') => basin_Check s V w' (hS.mono hb)
 have JD := fun w' (hb : Below w.heap.size w w') => index_int V.days s.days day w' (hS.days.mono hb)
 have JR := fun w' (hb : Below w.heap.size w w') => basin_rising vl cells w' (hl.mono hb)
 have JI := fun no w' (hb : Below w.heap.size w w') => basin_index V.cells V.pairs s.basin.cells s.basin.gain s.basin.slack s.basin.deep no w' (hS.cells.mono hb)
 obtain ⟨Ac, nc, hcc, _⟩ := hS.cells.open_
 obtain ⟨Ap, np, hpp, _⟩ := hS.pairs.open_
 obtain ⟨Ad, nd, hdd, _⟩ := hS.days.open_
 obtain ⟨As, ns, hsi, _⟩ := hS.sights.open_
 obtain ⟨Ah, nh, hch, _⟩ := hS.changes.open_
 obtain ⟨D, nl, rfl, _, _, hlenl, hD⟩ := hl.open_
 unfold Scene.v at *
 rw [hcc, hpp, hdd, hsi, hch] at JC ⊢
 rw [hdd] at JD
 rw [hcc, hpp] at JI
 change ∀ w', _ → Calls _ _ _ _ fun e w' => e = .returned (I (placeD s.days day)) ∧ _ at JD
 clear hcc hpp hdd hsi hch hS
 have hV1 : spotsE s cells day ≠ 0 → spotsV s cells day = [] := fun h => by simp [spotsV, h]
 have hV0 : spotsE s cells day = 0 → spotsV s cells day = cells.map (spotAt s day) := fun h => by simp [spotsV, h]
 have hE1 : sceneE s ≠ 0 → spotsE s cells day = sceneE s := fun h => by simp [spotsE, h]
 have hE2 : sceneE s = 0 → spotsB s cells day = false → spotsE s cells day = 1 := fun h h2 => by simp [spotsE, h, h2]
 have hE3 : sceneE s = 0 → spotsB s cells day = true → spotsE s cells day = 0 := fun h h2 => by simp [spotsE, h, h2]
 obtain ⟨E, hE⟩ : ∃ E, spotsE s cells day = E := ⟨_, rfl⟩
 obtain ⟨VV, hVV⟩ : ∃ E, spotsV s cells day = E := ⟨_, rfl⟩
 rw [hE] at hE1 hE2 hE3 hV0 hV1 ⊢
 rw [hVV] at hV0 hV1 ⊢
 clear hE hVV
 replace hl := hide hl
 replace hD := hide hD
 replace JR := hide JR
 replace JD := hide JD
 replace JI := hide JI
 obtain ⟨w1, hw1, hb1, kS⟩ := al1 w (s8 s Ac nc Ap np Ad nd As ns Ah nh) 42
 have kF := hide (fun (W : World) (hW : Below w1.heap.size w1 W) => (kS.grow hW).cells8)
 have zF := hide (fun (W : World) (hW : Below w1.heap.size w1 W) => (kS.grow hW).lt)
 clear kS
 obtain ⟨q0, q1, q2, q3, q4, q5, q6, q7⟩ := kF.out _ (Below.refl _ _)
 have zS := zF.out _ (Below.refl _ _)
 by_cases hz : sceneE s = 0
 case neg =>
  obtain rfl := hE1 hz
  obtain rfl := hV1 hz
  obtain ⟨E, hEE⟩ : ∃ E, sceneE s = E := ⟨_, rfl⟩
  rw [hEE] at JC hz ⊢
  have hne : (E != 0) = true := by simpa using hz
  replace hz := hide hz
  replace JC := hide JC
  clear hE1 hE2 hE3 hV0 hV1 hEE
  go_enter Tryz.func136, Tryz.ntmps136
  go_upto_region 1 with fail
  rw [← hw1]
  clear hw1
  go_wp2_with (go_at_call 55; refine (JC.out _ hb1).mono ?_; rintro e w2 ⟨rfl, hb2⟩)
  go_ret2
  exact ⟨_, rfl, Own.nil_ _ _ _ _ _, bup hb1 hb2⟩
 rw [hz] at JC
 replace JC := hide JC
 replace hE2 := hide (hE2 hz)
 replace hE3 := hide (hE3 hz)
 clear hE1
 have hc12 := hide (SceneOk.of hz).basin.hc2
 have hbo : Hid (basinOk s.basin = true) := hide (by
  cases h9 : basinOk s.basin with
  | true => rfl
  | false => simp [sceneE, h9] at hz)
 replace hz := hide hz
 by_cases hd : placeD s.days day < 0
 case pos =>
  obtain rfl := hE2.out (by unfold spotsB; rw [decide_eq_false (by omega)]; rfl)
  obtain rfl := hV1 (by omega)
  obtain ⟨d, hdd⟩ : ∃ d, placeD s.days day = d := ⟨_, rfl⟩
  rw [hdd] at JD hd
  clear hE2 hE3 hV0 hV1 hdd
  go_enter Tryz.func136, Tryz.ntmps136
  go_upto_region 1 with fail
  rw [← hw1]
  clear hw1
  go_wp2_with (first | (go_at_call 55; refine (JC.out _ hb1).mono ?_; clear q0 q1 q2 q3 q4 q5 q6 q7 zS; rintro e w2 ⟨rfl, hb2⟩; obtain ⟨q0, q1, q2, q3, q4, q5, q6, q7⟩ := kF.out _ hb2; have zS := zF.out _ hb2) | (go_at_call 122; refine (JD.out _ (bup hb1 hb2)).mono ?_; rintro e w4 ⟨rfl, rfl⟩))
  go_ret2
  exact ⟨_, rfl, Own.nil_ _ _ _ _ _, bup hb1 hb2⟩
 by_cases hn : cells = []
 case pos =>
  have h1 := hE2.out (by rw [hn]; simp [spotsB])
  subst h1
  obtain rfl := hV1 (by omega)
  have hd0 : decide (placeD s.days day < 0) = false := by simpa using hd
  clear hE2 hE3 hV0 hV1
  subst hn
  go_enter Tryz.func136, Tryz.ntmps136
  go_upto_region 1 with fail
  rw [← hw1]
  clear hw1
  go_wp2_with (first | (go_at_call 55; refine (JC.out _ hb1).mono ?_; clear q0 q1 q2 q3 q4 q5 q6 q7 zS; rintro e w2 ⟨rfl, hb2⟩; obtain ⟨q0, q1, q2, q3, q4, q5, q6, q7⟩ := kF.out _ hb2; have zS := zF.out _ hb2) | (go_at_call 122; refine (JD.out _ (bup hb1 hb2)).mono ?_; rintro e w4 ⟨rfl, rfl⟩))
  go_ret2
  exact ⟨_, rfl, Own.nil_ _ _ _ _ _, bup hb1 hb2⟩
 have hd0 : decide (placeD s.days day < 0) = false := by simpa using hd
 have hn0 : ((cells.length : Int) == 0) = false := by
  rcases cells with _ | _
  ·exact absurd rfl hn
  ·simp; omega
 cases hr : risingB cells with
 | false =>
  obtain rfl := hE2.out (by simp [spotsB, hr])
  obtain rfl := hV1 (by omega)
  rw [hr] at JR
  clear hE2 hE3 hV0 hV1
  replace hd := hide hd
  go_enter Tryz.func136, Tryz.ntmps136
  go_upto_region 1 with fail
  rw [← hw1]
  clear hw1
  go_wp2_with (first | (go_at_call 55; refine (JC.out _ hb1).mono ?_; clear q0 q1 q2 q3 q4 q5 q6 q7 zS; rintro e w2 ⟨rfl, hb2⟩; obtain ⟨q0, q1, q2, q3, q4, q5, q6, q7⟩ := kF.out _ hb2; have zS := zF.out _ hb2) | (go_at_call 122; refine (JD.out _ (bup hb1 hb2)).mono ?_; rintro e w4 ⟨rfl, rfl⟩) | (go_at_call 130; refine (JR.out _ (bup hb1 hb2)).mono ?_; rintro e w5 ⟨rfl, hb5⟩))
  go_ret2
  exact ⟨_, rfl, Own.nil_ _ _ _ _ _, bup (bup hb1 hb2) hb5⟩
 | true =>
 rw [hr] at JR
 have hbad := hide (fun (h : (cells.all fun no => decide (0 ≤ placeC s.basin.cells no)) = false) => hE2.out (by rw [spotsB, h]; simp))
 have hgood := hide (fun (h : (cells.all fun no => decide (0 ≤ placeC s.basin.cells no)) = true) => hE3.out (by
  rw [spotsB, h, hr, decide_eq_true (show 0 ≤ placeD s.days day by omega)]
  simpa using hn))
 obtain ⟨d, hdd⟩ : ∃ d, placeD s.days day = d := ⟨_, rfl⟩
 rw [hdd] at JD hd0
 replace hdd := hide hdd
 replace hn := hide hn
 replace hd := hide hd
 replace hr := hide hr
 clear hE2 hE3
 replace hV0 := hide hV0
 replace hV1 := hide hV1
 go_enter Tryz.func136, Tryz.ntmps136
 go_upto_region 1 with fail
 rw [← hw1]
 clear hw1
 go_wp2_with (first | (go_at_call 55; refine (JC.out _ hb1).mono ?_; clear q0 q1 q2 q3 q4 q5 q6 q7 zS; rintro e w2 ⟨rfl, hb2⟩; obtain ⟨q0, q1, q2, q3, q4, q5, q6, q7⟩ := kF.out _ hb2; have zS := zF.out _ hb2) | (go_at_call 122; refine (JD.out _ (bup hb1 hb2)).mono ?_; rintro e w4 ⟨rfl, rfl⟩) | (go_at_call 130; refine (JR.out _ (bup hb1 hb2)).mono ?_; clear q0 q1 q2 q3 q4 q5 q6 q7 zS; rintro e w5 ⟨rfl, hb5⟩))
 have hbv := bup (bup hb1 hb2) hb5
 have hW5 := hide (bup hb2 hb5)
 have s5 := hbv.size
 clear hb1 hb2 hb5
 go_loopw [10, 37] (fun vo i wr => ∃ k : Nat, k ≤ cells.length ∧ i = I k ∧ Hid (Own wr w5.heap.size 180 2 pairC vo ((cells.map (spotAt s day)).take k)) ∧ Hid (Below w5.heap.size w5 wr) ∧ Hid (∀ j, j < k → 0 ≤ placeC s.basin.cells (cells.getD j 0)) ∧ Hid (k ≤ 100)) (fun _ i _ => cells.length - (intOf i).toNat)
 case atStart => exact ⟨0, Nat.zero_le _, rfl, hide (Own.nil_ _ _ _ _ _), hide (Below.refl _ _), hide (fun j hj => absurd hj (by omega)), hide (by omega)⟩
 case round =>
  obtain ⟨k, hk, rfl, ho, hb, hall, hk100⟩ := hrel
  have sr := hb.out.size
  have hbw := bup hbv hb.out
  by_cases hlt : k < cells.length
  ·obtain ⟨b, off, rfl, _⟩ := hD.out k hlt
   obtain ⟨no, hno⟩ := getElem?_of_lt hlt
   obtain ⟨zl, y0⟩ := ((unhide hl).mono hbw).int_at hno
   obtain ⟨q0, q1, q2, q3, q4, q5, q6, q7⟩ := kF.out _ (bup hW5.out hb.out)
   have zS := zF.out _ (bup hW5.out hb.out)
   have JX := hide (JI.out no)
   rcases ilt (placeC s.basin.cells no) 0 with hp | hp
   ·have hpd : decide (placeC s.basin.cells no < 0) = true := by simpa using hp
    obtain rfl := hbad.out (by
     rw [List.all_eq_false]
     exact ⟨no, List.mem_of_getElem? hno, by simp; omega⟩)
    obtain rfl := hV1.out (by omega)
    obtain ⟨c, hc⟩ : ∃ c, placeC s.basin.cells no = c := ⟨_, rfl⟩
    rw [hc] at JX hpd
    replace hno := hide hno
    replace hp := hide hp
    replace hc := hide hc
    clear hgood hbad hD
    go_wp2_with (go_at_call 167; refine (JX.out _ hbw).mono ?_; rintro e w6 ⟨rfl, hb6⟩)
    go_ret2
    exact ⟨_, rfl, Own.nil_ _ _ _ _ _, bup hbw hb6⟩
   ·have hpd : decide (placeC s.basin.cells no < 0) = false := by simp; omega
    have hall2 := hide (fun (j : Nat) (hj : j < k + 1) => (show 0 ≤ placeC s.basin.cells (cells.getD j 0) by
     rcases Nat.lt_or_ge j k with h9 | h9
     ·exact hall.out j h9
     ·obtain rfl : j = k := by omega
      rw [List.getD_eq_getElem?_getD, hno]; exact hp))
    have hsn : (cells.map (spotAt s day)).take (k + 1) = (cells.map (spotAt s day)).take k ++ [(placeC s.basin.cells no, d)] := by
     rw [← hdd.out]
     have hml : (cells.map (spotAt s day))[k]? = some (spotAt s day no) := by rw [List.getElem?_map, hno]; rfl
     rw [List.take_succ_eq_append_getElem (List.getElem?_eq_some_iff.1 hml).1, (List.getElem?_eq_some_iff.1 hml).2]
     rfl
    have hlen2 : ((cells.map (spotAt s day)).take k).length ≤ 100 := by have := hk100.out; rw [List.length_take]; omega
    have hk12 := hide (show k + 1 ≤ 100 from by
     have h1 := spots_le hbo.out hr.out k hlt hall2.out
     rw [List.getD_eq_getElem?_getD, hno] at h1
     have h2 := placeC_lt (s := s) (no := no) hp
     have h3 := hc12.out
     simp only [Option.getD_some] at h1
     omega)
    obtain ⟨c, hc⟩ : ∃ c, placeC s.basin.cells no = c := ⟨_, rfl⟩
    rw [hc] at JX hpd hsn
    replace hsn := hide hsn
    replace hno := hide hno
    replace hp := hide hp
    replace hc := hide hc
    replace hlen2 := hide hlen2
    clear hgood hbad hD
    go_wp2_with (first | (go_at_call 167; refine (JX.out _ hbw).mono ?_; rintro e w6 ⟨rfl, hb6⟩) | (at_builtin; refine wp_push el_spot pairC_len pairC_one rfl (.tmp 47) (.tmp 51) rfl w5.heap.size rfl ((ho.out.below hb6).alloc _) (c, d) rfl ?c1 ?c2 ?c3 ?c4 ?_))
    case c1 => exact new_cells rfl _ (pairC (c, d))
    case c2 => have := hlen2.out; omega
    case c3 => have := hlen2.out; omega
    case c4 => have := hb6.size; simp; omega
    intro v' w7 hown hbel _
    rw [← hsn.out] at hown
    obtain ⟨A1, n1, c1', rfl⟩ := hown.shape
    replace hown := hide hown
    have hbF := hide (((hb.out.trans (hb6.mono sr)).alloc (by have := hb6.size; omega) (.cells #[I c, I d] 180)).trans hbel)
    clear hbel
    go_wp2_with fail
    go_roundw
    case rel => exact ⟨k + 1, by omega, by go_num, hown, hbF, hall2, hk12⟩
    case measure => simp [intOf]; omega
  ·have he : k = cells.length := by omega
   subst he
   have hE := hgood.out (by
    rw [List.all_eq_true]
    intro y hy
    obtain ⟨j, hj⟩ := List.mem_iff_getElem?.1 hy
    have := hall.out j (List.getElem?_eq_some_iff.1 hj).1
    rw [List.getD_eq_getElem?_getD, hj] at this
    simpa using this)
   subst hE
   have hVe := hV0.out rfl
   have ho2 := ho.out
   rw [List.take_of_length_le (by rw [List.length_map]; exact Nat.le_refl _), ← hVe] at ho2
   obtain ⟨A1, n1, c1', rfl⟩ := ho2.shape
   replace ho2 := hide ho2
   clear hbad hgood hV0 hV1 hVe
   go_wp2_with fail
   go_ret2
   exact ⟨_, rfl, ho2.out.mono s5, bup hbv hb.out⟩

section
variable {P : Program} {ops : Array Oper} {Q : Exit → Act → World → Prop} {md : Region.Mode} {S : World → Prop} {n : Nat}
theorem zg_of_za {fuel : Nat} {listed : Array Bool} {a : Act} {w : World} (h : wpAnyZ P md ops Q S n fuel listed a w) : ZG P md ops Q S n fuel listed a w := fun _ _ _ _ => h
theorem za_ready {i : Nat} {o : Oper} {fuel : Nat} {listed : Array Bool} {a : Act} {w : World} (hin : ¬ i < n) (hi : ops[i]? = some o) (hr : Region.ready md ops listed = [i])
  (h : ∀ K' : Act → World → Prop, Shut (∀ a w, wpAnyZ P md ops Q S n fuel (listed.setIfInBounds i true) a w → K' a w) → if Region.wanted o (yielded ops a.tmps) = true then Oper.wp P o a w K' Q else K' (a.put o.dst undef) w) :
  wpAnyZ P md ops Q S n (fuel + 1) listed a w :=
 ⟨fun h0 => (by rw [h0] at hr; cases hr), fun j hj => by
  rw [hr, List.mem_singleton] at hj
  subst hj
  exact wpOp_step hi fun K' hK => h K' fun a w hZ => hK a w ⟨fun h => absurd h hin, hZ⟩⟩
theorem za_end {listed : Array Bool} {a : Act} {w : World} (hr : Region.ready md ops listed = []) (h : Q .normal a w) : wpAnyZ P md ops Q S n 0 listed a w := ⟨hr, h⟩
end

def lowAt (s : Scene) (p : Int × Int) : Int := ((leastF s).getD p.2.toNat []).getD p.1.toNat 0
def highAt (s : Scene) (p : Int × Int) : Int := ((greatF s).getD p.2.toNat []).getD p.1.toNat 0
def spanAt (s : Scene) (p : Int × Int) : Span := ⟨lowAt s p, highAt s p⟩
def spansE (s : Scene) : Int := if leastE s ≠ 0 then leastE s else greatE s
def spansV (s : Scene) (l : List (Int × Int)) : List Span := if spansE s = 0 then l.map (spanAt s) else []
theorem basin_spans (s : Scene) (V : SceneV) (vl : Value) (l : List (Int × Int)) (w : World) (hS : SceneAt w s V) (hl : Sl w 2 pairC vl l) (hlb : l.length ≤ 100000) (hp : ∀ p ∈ l, (0 ≤ p.1 ∧ p.1 < s.basin.cells.length) ∧ 0 ≤ p.2 ∧ p.2 < s.days.length) :
  Calls Tryz.prog 137 #[s.v V, vl] w fun e w' => ∃ v, e = .returned (.tuple #[v, I (spansE s)]) ∧ Own w' w.heap.size 67 2 Span.cells v (spansV s l) ∧ Below w.heap.size w w' := by
 have JL := fun w' (hb : Below w.heap.size w w') => basin_Least s V w' (hS.mono hb)
 have JG := fun w' (hb : Below w.heap.size w w') => basin_Greatest s V w' (hS.mono hb)
 obtain ⟨Ac, nc, hcc, _⟩ := hS.cells.open_
 obtain ⟨Ap, np, hpp, _⟩ := hS.pairs.open_
 obtain ⟨Ad, nd, hdd, _⟩ := hS.days.open_
 obtain ⟨As, ns, hsi, _⟩ := hS.sights.open_
 obtain ⟨Ah, nh, hch, _⟩ := hS.changes.open_
 obtain ⟨D, nl, rfl, _, _, hlenl, hD⟩ := hl.open_
 unfold Scene.v at *
 rw [hcc, hpp, hdd, hsi, hch] at JL JG ⊢
 clear hcc hpp hdd hsi hch hS
 have hV1 : spansE s ≠ 0 → spansV s l = [] := fun h => by simp [spansV, h]
 have hV0 : spansE s = 0 → spansV s l = l.map (spanAt s) := fun h => by simp [spansV, h]
 have hE1 : leastE s ≠ 0 → spansE s = leastE s := fun h => by simp [spansE, h]
 have hE2 : leastE s = 0 → spansE s = greatE s := fun h => by simp [spansE, h]
 obtain ⟨E, hE⟩ : ∃ E, spansE s = E := ⟨_, rfl⟩
 obtain ⟨VV, hVV⟩ : ∃ E, spansV s l = E := ⟨_, rfl⟩
 rw [hE] at hE1 hE2 hV0 hV1 ⊢
 rw [hVV] at hV0 hV1 ⊢
 clear hE hVV
 replace hl := hide hl
 replace hD := hide hD
 replace hlb := hide hlb
 replace hp := hide hp
 replace JL := hide JL
 replace JG := hide JG
 have hgl := hide (greatF_len s)
 have hll := hide (leastF_len s)
 have hgr := hide (fun d (h : d < s.days.length) => greatF_at (s := s) h)
 have hlr := hide (fun d (h : d < s.days.length) => leastF_at (s := s) h)
 obtain ⟨w1, hw1, hb1, kS⟩ := al1 w (s8 s Ac nc Ap np Ad nd As ns Ah nh) 42
 have kF := hide (fun (W : World) (hW : Below w1.heap.size w1 W) => (kS.grow hW).cells8)
 have zF := hide (fun (W : World) (hW : Below w1.heap.size w1 W) => (kS.grow hW).lt)
 clear kS
 obtain ⟨q0, q1, q2, q3, q4, q5, q6, q7⟩ := kF.out _ (Below.refl _ _)
 have zS := zF.out _ (Below.refl _ _)
 by_cases h1 : leastE s = 0
 case neg =>
  obtain rfl := hE1 h1
  obtain rfl := hV1 h1
  obtain ⟨E, hEE⟩ : ∃ E, leastE s = E := ⟨_, rfl⟩
  rw [hEE] at JL h1 ⊢
  have hne : (E != 0) = true := by simpa using h1
  replace h1 := hide h1
  clear hE1 hE2 hV0 hV1 hEE
  go_enter Tryz.func137, Tryz.ntmps137
  go_upto_region 1 with fail
  rw [← hw1]
  clear hw1
  go_wp2_with (go_at_call 174; refine (JL.out _ hb1).mono ?_; rintro e w2 ⟨v, rfl, -, hv, hb2⟩; obtain rfl := hv h1.out)
  go_ret2
  exact ⟨_, rfl, Own.nil_ _ _ _ _ _, bup hb1 hb2⟩
 obtain rfl := hE2 h1
 rw [h1] at JL
 replace h1 := hide h1
 clear hE1 hE2
 by_cases h2 : greatE s = 0
 case neg =>
  obtain rfl := hV1 h2
  obtain ⟨E, hEE⟩ : ∃ E, greatE s = E := ⟨_, rfl⟩
  rw [hEE] at JG h2 ⊢
  have hne : (E != 0) = true := by simpa using h2
  replace h2 := hide h2
  clear hV0 hV1 hEE
  go_enter Tryz.func137, Tryz.ntmps137
  go_upto_region 1 with fail
  rw [← hw1]
  clear hw1
  go_wp2_with (first | (go_at_call 174; refine (JL.out _ hb1).mono ?_; clear q0 q1 q2 q3 q4 q5 q6 q7 zS; rintro e w2 ⟨v, rfl, hr2, -, hb2⟩; obtain ⟨vs2, -, ho2, -⟩ := hr2 (by first | rfl | trivial); obtain ⟨A2, n2, c2, rfl⟩ := ho2.shape; clear ho2 hr2; obtain ⟨q0, q1, q2, q3, q4, q5, q6, q7⟩ := kF.out _ hb2; have zS := zF.out _ hb2) | (go_at_call 71; refine (JG.out _ (bup hb1 hb2)).mono ?_; rintro e w3 ⟨v, rfl, -, hv, hb3⟩; obtain rfl := hv h2.out))
  go_ret2
  exact ⟨_, rfl, Own.nil_ _ _ _ _ _, bup (bup hb1 hb2) hb3⟩
 obtain rfl := hV0 h2
 rw [h2] at JG ⊢
 replace h2 := hide h2
 clear hV0 hV1
 go_enter Tryz.func137, Tryz.ntmps137
 go_upto_region 1 with fail
 rw [← hw1]
 clear hw1
 go_wp2_with (first | (go_at_call 174; refine (JL.out _ hb1).mono ?_; clear q0 q1 q2 q3 q4 q5 q6 q7 zS; rintro e w2 ⟨v2, rfl, hr2, -, hb2⟩; obtain ⟨vs2, hl2, ho2, -⟩ := id (hr2 (by first | rfl | trivial)); obtain ⟨A2, n2, c2, rfl⟩ := ho2.shape; clear ho2 hl2; replace hr2 := hide (hr2 (by first | rfl | trivial)); obtain ⟨q0, q1, q2, q3, q4, q5, q6, q7⟩ := kF.out _ hb2; have zS := zF.out _ hb2) | (go_at_call 71; refine (JG.out _ (bup hb1 hb2)).mono ?_; clear q0 q1 q2 q3 q4 q5 q6 q7 zS; rintro e w3 ⟨v3, rfl, hr3, -, hb3⟩; obtain ⟨vs3, hl3, ho3, -⟩ := id (hr3 (by first | rfl | trivial)); obtain ⟨A3, n3, c3, rfl⟩ := ho3.shape; clear ho3 hl3; replace hr3 := hide (hr3 (by first | rfl | trivial))))
 replace hr2 := hide (hr2.out.below hb3)
 have hbv := bup (bup hb1 hb2) hb3
 have s3 := hbv.size
 clear hb1 hb2 hb3 kF zF JL JG
 go_loopw [9, 30] (fun vo i wr => ∃ k : Nat, k ≤ l.length ∧ i = I k ∧ Hid (Own wr w3.heap.size 67 2 Span.cells vo ((l.map (spanAt s)).take k)) ∧ Hid (Below w3.heap.size w3 wr)) (fun _ i _ => l.length - (intOf i).toNat)
 case atStart => exact ⟨0, Nat.zero_le _, rfl, hide (Own.nil_ _ _ _ _ _), hide (Below.refl _ _)⟩
 case round =>
  obtain ⟨k, hk, rfl, ho, hb⟩ := hrel
  have sr := hb.out.size
  have hbw := bup hbv hb.out
  by_cases hlt : k < l.length
  ·obtain ⟨b, off, rfl, _⟩ := hD.out k hlt
   obtain ⟨p, hpk⟩ := getElem?_of_lt hlt
   obtain ⟨⟨hp1, hp2⟩, hp3, hp4⟩ := hp.out p (List.mem_of_getElem? hpk)
   obtain ⟨zl, y0, y1⟩ := ((unhide hl).mono hbw).pair_at hpk
   have hsn : (l.map (spanAt s)).take (k + 1) = (l.map (spanAt s)).take k ++ [spanAt s p] := by
    have hml : (l.map (spanAt s))[k]? = some (spanAt s p) := by rw [List.getElem?_map, hpk]; rfl
    rw [List.take_succ_eq_append_getElem (List.getElem?_eq_some_iff.1 hml).1, (List.getElem?_eq_some_iff.1 hml).2]
   have hlen2 : ((l.map (spanAt s)).take k).length ≤ 100000 := by have := hlb.out; rw [List.length_take, List.length_map]; omega
   obtain ⟨c, d⟩ := p
   simp only at hp1 hp2 hp3 hp4
   obtain ⟨cn, rfl⟩ := Int.eq_ofNat_of_zero_le hp1
   obtain ⟨dn, rfl⟩ := Int.eq_ofNat_of_zero_le hp3
   obtain ⟨rl, hrl, hrll⟩ := hlr.out dn (by omega)
   obtain ⟨rg, hrg, hrgl⟩ := hgr.out dn (by omega)
   obtain ⟨ul, hul⟩ := getElem?_of_lt (xs := rl) (k := cn) (by omega)
   obtain ⟨ug, hug⟩ := getElem?_of_lt (xs := rg) (k := cn) (by omega)
   have hsp : spanAt s ((cn : Int), (dn : Int)) = ⟨ul, ug⟩ := by simp [spanAt, lowAt, highAt, hrl, hrg, hul, hug]
   rw [hsp] at hsn
   obtain ⟨g2, m2, g2r, c2r, e2, _, z2, t2, _, z2r, u2⟩ := (hr2.out.below hb.out).read hrl (by omega)
   obtain ⟨g3, m3, g3r, c3r, e3, _, z3, t3, _, z3r, u3⟩ := (hr3.out.below hb.out).read hrg (by omega)
   injection e2 with e2 e2' e2''
   injection e3 with e3 e3' e3''
   rw [hll.out] at e2'
   rw [hgl.out] at e3'
   subst e2 e2' e2'' e3 e3' e3''
   have t2c := u2 cn ul hul
   have t3c := u3 cn ug hug
   obtain ⟨w5, hw5, hb5, kX⟩ := al1 wr #[I cn, I dn] 180
   have s5 := hb5.size
   have HSw := hide (fun (W : World) (hW : Below w5.heap.size w5 W) => (show (W.cell? ⟨wr.heap.size, 0, none⟩ = some (I cn) ∧ W.cell? ⟨wr.heap.size, 1, none⟩ = some (I dn)) ∧ W.cell? ⟨g2, dn, none⟩ = some (.slice (some ⟨g2r, 0, none⟩) rl.length c2r) ∧ W.cell? ⟨g2r, cn, none⟩ = some (I ul) ∧ W.cell? ⟨g3, dn, none⟩ = some (.slice (some ⟨g3r, 0, none⟩) rg.length c3r) ∧ W.cell? ⟨g3r, cn, none⟩ = some (I ug) from by
    have hW5 := bup hb5 hW
    exact ⟨(kX.grow hW).cells2, (hW5.cell (p := ⟨g2, dn, none⟩) z2).trans t2, (hW5.cell (p := ⟨g2r, cn, none⟩) z2r).trans t2c, (hW5.cell (p := ⟨g3, dn, none⟩) z3).trans t3, (hW5.cell (p := ⟨g3r, cn, none⟩) z3r).trans t3c⟩))
   have zX := kX.lt
   have i1 : (cn : Int) < (rl.length : Int) := by omega
   have i2 : (cn : Int) < (rg.length : Int) := by omega
   have ho5 := hide (ho.out.below hb5)
   have hb6 := hide (hb.out.trans (hb5.mono sr))
   clear hD u2 u3 hlr hgr hr2 hr3 kX
   replace hsn := hide hsn
   replace hpk := hide hpk
   replace hsp := hide hsp
   replace hrl := hide hrl
   replace hrg := hide hrg
   replace hul := hide hul
   replace hug := hide hug
   replace hlen2 := hide hlen2
   go_upto_region 11 with fail
   rw [← hw5]
   clear hw5 y0 y1 zl t2 t3 t2c t3c hb5 ho hb
   have wB : Below w5.heap.size w5 w5.drew := (Below.refl _ _).drew
   refine wp_zgo HSw 21 fun hHeld => ?_
   (refine zg_tk 0 ?_; refine zg_tk 1 ?_; refine zg_tk 2 ?_; refine zg_tk 3 ?_; refine zg_tk 4 ?_; refine zg_tk 5 ?_; refine zg_tk 6 ?_; refine zg_tk 7 ?_; refine zg_tk 8 ?_; refine zg_tk 9 ?_; refine zg_tk 10 ?_; refine zg_tk 11 ?_; refine zg_tk 12 ?_; refine zg_tk 13 ?_; refine zg_tk 14 ?_; refine zg_tk 15 ?_; refine zg_tk 16 ?_; refine zg_tk 17 ?_; refine zg_tk 18 ?_; refine zg_tk 19 ?_; (try go_frame))
   refine zg_ready (i := 20) (by decide) rfl (by kernel_rfl) (fun K_ hK_ => ?_)
   go_simp
   obtain ⟨v1, hv1, hs1, kv1⟩ := alvd w5 #[I ul, I ug] 67
   rw [← hv1]
   clear hv1
   have Bv1 := bup wB hs1
   refine hK_.out _ _ (HSw.out _ Bv1) (fun hHeld => ?_)
   clear hK_ K_
   (try go_frame)
   refine zg_of_za ?_
   refine za_ready (i := 21) (by decide) rfl (by kernel_rfl) (fun K_ hK_ => ?_)
   refine step_push el_span Span.cells_len Span.cells_one rfl (.tmp 34) (.tmp 54) rfl w3.heap.size rfl (show Own v1 w3.heap.size 67 2 Span.cells _ _ from (ho5.out.below Bv1)) (⟨ul, ug⟩ : Span) rfl ?c1 ?c2 ?c3 ?c4 ?_
   case c1 => exact fun j u hu => by rw [kv1.cell j]; simpa [Span.cells] using hu
   case c2 => have := hlen2.out; omega
   case c3 => have := hlen2.out; omega
   case c4 => have := Bv1.size; omega
   intro vp v3 ho3 hb3 hne
   clear hne
   have hbF := hide ((hb6.out.trans (Bv1.mono (by omega))).trans hb3)
   rw [← hsn.out] at ho3
   obtain ⟨A1, n1, c1', rfl⟩ := ho3.shape
   replace ho3 := hide ho3
   refine hK_.out _ _ ?_
   clear hK_ K_ hHeld
   (try go_frame)
   (refine za_ready (i := 22) (by decide) rfl (by kernel_rfl) (fun K_ hK_ => ?_); go_simp; skip; refine hK_.out _ _ ?_; clear hK_ K_; (try go_frame))
   refine za_end (by kernel_rfl) ?_
   go_wp2_with fail
   go_roundw
   case rel => exact ⟨k + 1, by omega, by go_num, ho3, hbF⟩
   case measure => simp [intOf]; omega
  ·have he : k = l.length := by omega
   subst he
   have ho2 := ho.out
   rw [List.take_of_length_le (by rw [List.length_map]; exact Nat.le_refl _)] at ho2
   obtain ⟨A1, n1, c1', rfl⟩ := ho2.shape
   replace ho2 := hide ho2
   go_wp2_with fail
   go_ret2
   exact ⟨_, rfl, ho2.out.mono s3, bup hbv hb.out⟩

theorem results_row2 {P : Program} {fn : Func} {p u : Tmp} {ty : TypeId} (h : fn.results = #[.cell p ty, .tmp u]) (tmps : Array Value) (w : World) (g : Nat) (t : TypeId) (cs : Array Value) (d : TypeDesc)
  (hp : tmps.getD p undef = .pointer (some ⟨g, 0, none⟩)) (hg : Blk w g t cs) (hu : P.underlying ty = some d) (hd : (match d with | .struct _ | .array _ _ => true | _ => false) = true) (hi : (P.info? ty).map (·.size) = some cs.size) :
  (results fn tmps).run P w = .ok (.tuple #[.agg cs, tmps.getD u undef]) w := by
 rw [results_cell_tmp h]
 rw [hp]
 simp [asAddr, run_loadVar_row w g t ty cs (0, 0) d hg hu hd hi, Result.andThen]
theorem set2 {w : World} {g : Nat} {t : TypeId} {a0 a1 b0 b1 : Value} (h : Blk w g t #[a0, a1]) : Blk ((w.setCell ⟨g, 0, none⟩ b0).setCell ⟨g, 1, none⟩ b1) g t #[b0, b1] := by
 have := (h.set_ 0 b0).set_ 1 b1
 simpa using this
theorem below2s {w W : World} {B g : Nat} (h : Below B w W) (hg : B ≤ g) (b0 b1 : Value) : Below B w ((W.setCell ⟨g, 0, none⟩ b0).setCell ⟨g, 1, none⟩ b1) := bset (bset h g 0 hg b0) g 1 hg b1
theorem spotsB_in {s : Scene} {cells : List Int} {day : Int} (h : spotsE s cells day = 0) : sceneE s = 0 ∧ 0 ≤ placeD s.days day ∧ cells ≠ [] ∧ risingB cells = true ∧ ∀ no ∈ cells, 0 ≤ placeC s.basin.cells no := by
 unfold spotsE at h
 split at h
 ·rename_i h1; exact absurd h h1
 rename_i h1
 split at h
 ·rename_i h2
  simp only [spotsB, Bool.and_eq_true, decide_eq_true_eq, List.all_eq_true] at h2
  exact ⟨by omega, h2.1.1.1, by simpa using h2.1.1.2, h2.1.2, h2.2⟩
 ·cases h
theorem spot_in {s : Scene} {cells : List Int} {day : Int} (h : spotsE s cells day = 0) : ∀ p ∈ cells.map (spotAt s day), (0 ≤ p.1 ∧ p.1 < s.basin.cells.length) ∧ 0 ≤ p.2 ∧ p.2 < s.days.length := by
 obtain ⟨_, h1, _, _, h2⟩ := spotsB_in h
 intro p hp
 obtain ⟨no, hno, rfl⟩ := List.mem_map.1 hp
 exact ⟨⟨h2 no hno, placeC_lt (h2 no hno)⟩, h1, placeD_lt h1⟩
theorem spots_len {s : Scene} {cells : List Int} {day : Int} (h : spotsE s cells day = 0) : cells.length ≤ 12 := by
 obtain ⟨h0, h1, h3, hr, h2⟩ := spotsB_in h
 have hbo : basinOk s.basin = true := by
  cases h9 : basinOk s.basin with
  | true => rfl
  | false => simp [sceneE, h9] at h0
 rcases hn : cells.length with _ | n
 ·omega
 ·have hlt : n < cells.length := by omega
  obtain ⟨x, hx⟩ := getElem?_of_lt hlt
  have hle := spots_le hbo hr n hlt (fun j hj => by
   obtain ⟨y, hy⟩ := getElem?_of_lt (xs := cells) (k := j) (by omega)
   rw [List.getD_eq_getElem?_getD, hy]
   exact h2 y (List.mem_of_getElem? hy))
  rw [List.getD_eq_getElem?_getD, hx] at hle
  simp only [Option.getD_some] at hle
  have h4 := placeC_lt (s := s) (no := x) (h2 x (List.mem_of_getElem? hx))
  have h5 := (SceneOk.of h0).basin.hc2
  omega
def cellE (s : Scene) (cell day : Int) : Int := if spotsE s [cell] day ≠ 0 then spotsE s [cell] day else spansE s
def cellV (s : Scene) (cell day : Int) : Span := if cellE s cell day = 0 then spanAt s (spotAt s day cell) else ⟨0, 0⟩
theorem basin_Cell (s : Scene) (V : SceneV) (cell day : Int) (w : World) (hS : SceneAt w s V) :
  Calls Tryz.prog 58 #[s.v V, I cell, I day] w fun e w' => e = .returned (.tuple #[.agg #[I (cellV s cell day).lo, I (cellV s cell day).hi], I (cellE s cell day)]) ∧ Below w.heap.size w w' := by
 have JS := fun vl w' (hb : Below w.heap.size w w') (hl : Sl w' 1 intC vl [cell]) => basin_spots s V vl [cell] day w' (hS.mono hb) hl
 have JP := fun vl l w' (hb : Below w.heap.size w w') (hl : Sl w' 2 pairC vl l) => basin_spans s V vl l w' (hS.mono hb) hl
 obtain ⟨Ac, nc, hcc, _⟩ := hS.cells.open_
 obtain ⟨Ap, np, hpp, _⟩ := hS.pairs.open_
 obtain ⟨Ad, nd, hdd, _⟩ := hS.days.open_
 obtain ⟨As, ns, hsi, _⟩ := hS.sights.open_
 obtain ⟨Ah, nh, hch, _⟩ := hS.changes.open_
 unfold Scene.v at *
 rw [hcc, hpp, hdd, hsi, hch] at JS JP ⊢
 clear hcc hpp hdd hsi hch hS
 have hE1 : spotsE s [cell] day ≠ 0 → cellE s cell day = spotsE s [cell] day := fun h => by simp [cellE, h]
 have hE2 : spotsE s [cell] day = 0 → cellE s cell day = spansE s := fun h => by simp [cellE, h]
 have hV1 : cellE s cell day ≠ 0 → cellV s cell day = ⟨0, 0⟩ := fun h => by simp [cellV, h]
 have hV0 : cellE s cell day = 0 → cellV s cell day = spanAt s (spotAt s day cell) := fun h => by simp [cellV, h]
 have hQ0 : spotsE s [cell] day = 0 → spotsV s [cell] day = [spotAt s day cell] := fun h => by simp [spotsV, h]
 have hR0 : spansE s = 0 → spansV s [spotAt s day cell] = [spanAt s (spotAt s day cell)] := fun h => by simp [spansV, h]
 have hin := fun h => spot_in (s := s) (cells := [cell]) (day := day) h
 obtain ⟨E, hE⟩ : ∃ E, cellE s cell day = E := ⟨_, rfl⟩
 obtain ⟨VV, hVV⟩ : ∃ E, cellV s cell day = E := ⟨_, rfl⟩
 rw [hE] at hE1 hE2 hV0 hV1 ⊢
 rw [hVV] at hV0 hV1 ⊢
 clear hE hVV
 obtain ⟨w1, hw1, hb1, kS, kO⟩ := al2 w (s8 s Ac nc Ap np Ad nd As ns Ah nh) 42 #[I 0, I 0] 67
 obtain ⟨q0, q1, q2, q3, q4, q5, q6, q7⟩ := kS.cells8
 have zS := kS.lt
 obtain ⟨wb, hwb, hbb, kB⟩ := al1 w1 #[I cell] 3
 have hsl := blk_sl (l := [cell]) (n := 1) kB rfl (by omega)
 have hb2 := bup hb1 hbb
 have JS1 := hide (JS _ wb hb2 hsl)
 replace JP := hide JP
 by_cases h1 : spotsE s [cell] day = 0
 case neg =>
  obtain rfl := hE1 h1
  obtain rfl := hV1 h1
  obtain ⟨E, hEE⟩ : ∃ E, spotsE s [cell] day = E := ⟨_, rfl⟩
  rw [hEE] at JS1 h1 ⊢
  have hne : (E != 0) = true := by simpa using h1
  replace h1 := hide h1
  clear hE1 hE2 hV0 hV1 hEE hQ0 hR0 hin JS hsl
  replace kS := hide kS
  replace kO := hide kO
  go_enter Tryz.func58, Tryz.ntmps58
  go_upto_region 1 with fail
  rw [← hw1]
  clear hw1
  go_wp2_with fail
  rw [← hwb]
  clear hwb
  go_at_call 136
  refine JS1.out.mono ?_
  clear q0 q1 q2 q3 q4 q5 q6 q7 zS
  rintro e w2 ⟨v, rfl, ho, hb3⟩
  obtain ⟨A1, n1, c1, rfl⟩ := ho.shape
  have kO3 := (kO.out.grow hbb).grow hb3
  obtain ⟨x0, x1⟩ := kO3.cells2
  have f0 := kO3.frozen 0
  have f1 := kO3.frozen 1
  have zO := kO3.lt
  have kO4 := hide (set2 (b0 := I 0) (b1 := I 0) kO3)
  have hb4 := hide (below2s (bup hb2 hb3) (g := w.heap.size + 1) (by omega) (I 0) (I 0))
  clear ho kO3 hb3
  go_wp2_with fail
  (try simp only [Exit.inBlock, Exit.then])
  exact bodyPost_ret (results_row2 (P := Tryz.prog) rfl _ _ (w.heap.size + 1) 67 _ _ rfl kO4.out Tryz.underlying67 rfl (by kernel_rfl)) rfl ⟨rfl, hb4.out⟩
 obtain rfl := hE2 h1
 have hq := hQ0 h1
 have hin1 := hin h1
 rw [hq, h1] at JS1
 clear hE1 hE2 hQ0 hin JS hsl
 replace h1 := hide h1
 have hin2 := hide (show ∀ p ∈ [spotAt s day cell], (0 ≤ p.1 ∧ p.1 < s.basin.cells.length) ∧ 0 ≤ p.2 ∧ p.2 < s.days.length from hin1)
 clear hin1 hq
 obtain ⟨P0, hP0⟩ : ∃ p, spotAt s day cell = p := ⟨_, rfl⟩
 rw [hP0] at hV0 hR0 hin2 JS1
 clear hP0
 have JP1 := hide (fun vl w' hb hl => JP.out vl [P0] w' hb hl (by simp) hin2.out)
 clear JP
 by_cases h2 : spansE s = 0
 case neg =>
  obtain rfl := hV1 h2
  obtain ⟨E, hEE⟩ : ∃ E, spansE s = E := ⟨_, rfl⟩
  rw [hEE] at JP1 h2 ⊢
  have hne : (E != 0) = true := by simpa using h2
  replace h2 := hide h2
  clear hV0 hV1 hEE hR0
  replace kS := hide kS
  replace kO := hide kO
  go_enter Tryz.func58, Tryz.ntmps58
  go_upto_region 1 with fail
  rw [← hw1]
  clear hw1
  go_wp2_with fail
  rw [← hwb]
  clear hwb
  go_at_call 136
  refine JS1.out.mono ?_
  clear q0 q1 q2 q3 q4 q5 q6 q7 zS
  rintro e w2 ⟨v, rfl, ho, hb3⟩
  have hos := hide (ho.sl pairC_len (by simp))
  obtain ⟨A1, n1, c1, rfl⟩ := ho.shape
  obtain ⟨q0, q1, q2, q3, q4, q5, q6, q7⟩ := ((kS.out.grow hbb).grow hb3).cells8
  have zS := ((kS.out.grow hbb).grow hb3).lt
  clear ho
  go_wp2_with fail
  go_at_call 137
  refine (JP1.out _ _ (bup hb2 hb3) hos.out).mono ?_
  clear q0 q1 q2 q3 q4 q5 q6 q7 zS
  rintro e w3 ⟨v, rfl, ho, hb5⟩
  obtain ⟨A2, n2, c2, rfl⟩ := ho.shape
  have kO3 := ((kO.out.grow hbb).grow hb3).grow hb5
  obtain ⟨x0, x1⟩ := kO3.cells2
  have f0 := kO3.frozen 0
  have f1 := kO3.frozen 1
  have zO := kO3.lt
  have kO4 := hide (set2 (b0 := I 0) (b1 := I 0) kO3)
  have hb4 := hide (below2s (bup (bup hb2 hb3) hb5) (g := w.heap.size + 1) (by omega) (I 0) (I 0))
  clear ho kO3 hb3 hb5
  go_wp2_with fail
  (try simp only [Exit.inBlock, Exit.then])
  exact bodyPost_ret (results_row2 (P := Tryz.prog) rfl _ _ (w.heap.size + 1) 67 _ _ rfl kO4.out Tryz.underlying67 rfl (by kernel_rfl)) rfl ⟨rfl, hb4.out⟩
 case pos =>
  have hv := hV0 h2
  have hr := hR0 h2
  subst hv
  rw [h2] at JP1 ⊢
  rw [hr] at JP1
  obtain ⟨X, hX⟩ : ∃ p, spanAt s P0 = p := ⟨_, rfl⟩
  rw [hX] at JP1 ⊢
  replace h2 := hide h2
  clear hV0 hV1 hR0 hr hX
  replace kS := hide kS
  replace kO := hide kO
  go_enter Tryz.func58, Tryz.ntmps58
  go_upto_region 1 with fail
  rw [← hw1]
  clear hw1
  go_wp2_with fail
  rw [← hwb]
  clear hwb
  go_at_call 136
  refine JS1.out.mono ?_
  clear q0 q1 q2 q3 q4 q5 q6 q7 zS
  rintro e w2 ⟨v, rfl, ho, hb3⟩
  have hos := hide (ho.sl pairC_len (by simp))
  obtain ⟨A1, n1, c1, rfl⟩ := ho.shape
  obtain ⟨q0, q1, q2, q3, q4, q5, q6, q7⟩ := ((kS.out.grow hbb).grow hb3).cells8
  have zS := ((kS.out.grow hbb).grow hb3).lt
  clear ho
  go_wp2_with fail
  go_at_call 137
  refine (JP1.out _ _ (bup hb2 hb3) hos.out).mono ?_
  clear q0 q1 q2 q3 q4 q5 q6 q7 zS
  rintro e w3 ⟨v, rfl, ho, hb5⟩
  obtain ⟨g2, c2, rfl, _, z2⟩ := ho.pos (by simp)
  have hv1 := (ho.sl Span.cells_len (by simp)).cells_ (i := 0) (x := X) rfl
  have u0 : w3.cell? ⟨g2, 0, none⟩ = some (I X.lo) := hv1.2 0 _ rfl
  have u1 : w3.cell? ⟨g2, 1, none⟩ = some (I X.hi) := hv1.2 1 _ rfl
  have kO3 := ((kO.out.grow hbb).grow hb3).grow hb5
  obtain ⟨x0, x1⟩ := kO3.cells2
  have f0 := kO3.frozen 0
  have f1 := kO3.frozen 1
  have zO := kO3.lt
  have kO4 := hide (set2 (b0 := I X.lo) (b1 := I X.hi) kO3)
  have hb4 := hide (below2s (bup (bup hb2 hb3) hb5) (g := w.heap.size + 1) (by omega) (I X.lo) (I X.hi))
  clear ho kO3 hb3 hb5 hv1
  go_wp2_with fail
  (try simp only [Exit.inBlock, Exit.then])
  exact bodyPost_ret (results_row2 (P := Tryz.prog) rfl _ _ (w.heap.size + 1) 67 _ _ rfl kO4.out Tryz.underlying67 rfl (by kernel_rfl)) rfl ⟨rfl, hb4.out⟩
end Go.Proofs.YtgbbljfmngmjeaaGreat
