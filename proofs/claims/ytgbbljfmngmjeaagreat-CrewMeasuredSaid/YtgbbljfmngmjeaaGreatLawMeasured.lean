/- The law CrewMeasured: Worst and Told say what a measurement leaves in doubt. Conditions stand in the theorem. -/
import Derived.Test.YtgbbljfmngmjeaaGreatSane7
import Derived.Test.YtgbbljfmngmjeaaGreatFine7
import Derived.Test.YtgbbljfmngmjeaaGreatMeasLeft
import Derived.Test.YtgbbljfmngmjeaaGreatRefPPack
import Derived.Test.YtgbbljfmngmjeaaGreatIndexFuncPack
set_option linter.all false
set_option maxHeartbeats 16000000
set_option maxRecDepth 100000
namespace Go.Proofs.YtgbbljfmngmjeaaGreat
open Go.RowKit

theorem meas_q {s : Scene} {cells : List Int} {day cell width : Int} (hE : outE (worstR s cells day cell width) = 0) : measB s cells width = true ∧ measB s [cell] width = true := by
 unfold worstR at hE
 split at hE
 ·rename_i h; exact absurd hE h
 split at hE
 ·cases hE
 rename_i h1
 have hq : worstQ s cells day cell width = true := by simpa using h1
 simp only [worstQ, Bool.and_eq_true] at hq
 exact ⟨hq.1.1, hq.1.2⟩
structure MeasN (s : Scene) (cells : List Int) (day cell width L H WV NL NH YL YH : Int) : Prop where
 wd : 0 ≤ width ∧ width ≤ 65536
 n0 : 0 ≤ WV
 n1 : WV ≤ NH - NL
 lim : (0 ≤ NL ∧ NL ≤ 3221225472) ∧ 0 ≤ NH ∧ NH ≤ 3221225472
 y : 0 ≤ YL ∧ YL ≤ 65536 ∧ 0 ≤ YH ∧ YH ≤ 65536
 x : 0 ≤ L ∧ L ≤ 65536 ∧ 0 ≤ H ∧ H ≤ 65536 ∧ YL ≤ H ∧ L ≤ YH ∧ H - L ≤ width
 told : withE s ⟨0, cell, day, L, H⟩ = 0 ∧ valE (withS s ⟨0, cell, day, L, H⟩) cells day = 0 ∧ wideV (withS s ⟨0, cell, day, L, H⟩) cells day = WV
 all : ∀ v, v ≤ YH → YL ≤ v + width → withE s ⟨0, cell, day, max v 0, min (v + width) 65536⟩ = 0 ∧ valE (withS s ⟨0, cell, day, max v 0, min (v + width) 65536⟩) cells day = 0 ∧ wideV (withS s ⟨0, cell, day, max v 0, min (v + width) 65536⟩) cells day ≤ WV
theorem meas_n {s : Scene} {cells : List Int} {day cell width : Int} (hE : outE (worstR s cells day cell width) = 0) {L H WV NL NH YL YH : Int} (hO : outV (worstR s cells day cell width) = ⟨L, H, WV⟩) (hN : valV s cells day = ⟨NL, NH⟩) (hY : cellV s cell day = ⟨YL, YH⟩) : MeasN s cells day cell width L H WV NL NH YL YH := by
 have m := meas_of hE
 have hv := val_bd s cells day
 have hc := cell_bd s cell day (SceneOk.of m.scene)
 have hwd := m.wd
 obtain ⟨v, g1, g2, g3, g4, g5⟩ := m.best
 have hall := m.all
 rw [hO] at g3 g4 g5 hall
 rw [hN] at hv
 rw [hY] at hc g1 g2 hall
 simp only at g1 g2 g3 g4 g5 hall hv hc
 obtain ⟨a1, a2, a3⟩ := hall v g1 g2
 have W := (weak_with m.scene a1).wide a2
 have hn := wide_nonneg a2
 have e : wideV s cells day = NH - NL := by unfold wideV; rw [hN]
 rw [e] at W
 refine ⟨hwd, by omega, by omega, hv, hc, by omega, ?_, fun v' b1 b2 => hall v' (by omega) b1⟩
 rw [g3, g4]
 exact ⟨a1, a2, g5.symm⟩
theorem law_CrewMeasured (s : Scene) (V : SceneV) (vl : Value) (cells : List Int) (day : Int) (cell : Int) (width : Int) (wider : Int) (v : Int) (w : World) (hS : SceneAt w s V) (hl : Sl w 1 intC vl cells) :
  Calls Tryz.prog 10 #[s.v V, vl, I day, I cell, I width, I wider, I v] w fun e w' => e = .returned (.bool true) ∧ Below w.heap.size w w' := by
 have JA := fun w' (hb : Below w.heap.size w w') => law7_small s V w' (hS.mono hb)
 have JB := fun w' (hb : Below w.heap.size w w') => basin_Check s V w' (hS.mono hb)
 have JC := fun w' (hb : Below w.heap.size w w') => ref5_Check s V w' (hS.mono hb)
 have JW := fun wd w' (hb : Below w.heap.size w w') => crew_Worst s V vl cells day cell wd w' (hS.mono hb) (hl.mono hb)
 have JT := fun w' (hb : Below w.heap.size w w') => crew_Told s V vl cells day cell width w' (hS.mono hb) (hl.mono hb)
 have JV := fun w' (hb : Below w.heap.size w w') => basin_Valley s V vl cells day w' (hS.mono hb) (hl.mono hb)
 have JY := fun w' (hb : Below w.heap.size w w') => basin_Cell s V cell day w' (hS.mono hb)
 have JL := fun gS gC gD gK lo hi w' (hb : Below w.heap.size w w') => meas_left gS gC gD gK s V vl cells day cell lo hi w' (hS.mono hb) (hl.mono hb)
 obtain ⟨Ac, nc, hcc, -⟩ := hS.cells.open_
 obtain ⟨Ap, np, hpp, -⟩ := hS.pairs.open_
 obtain ⟨Ad, nd, hdd, -⟩ := hS.days.open_
 obtain ⟨As, ns, hsi, -⟩ := hS.sights.open_
 obtain ⟨Ah, nh, hch, -⟩ := hS.changes.open_
 unfold Scene.v at *
 simp only [hcc, hpp, hdd, hsi, hch] at JA JB JC JW JT JV JY JL ⊢
 clear hcc hpp hdd hsi hch
 obtain ⟨Dk, nl, rfl, -⟩ := hl.open_
 obtain ⟨SB, hSB⟩ : ∃ q, smallB s = q := ⟨_, rfl⟩
 obtain ⟨SE, hSE⟩ : ∃ q, sceneE s = q := ⟨_, rfl⟩
 rw [hSB] at JA
 rw [hSE] at JB JC
 have hTE : toldE s cells day cell width = if outE (worstR s cells day cell width) ≠ 0 then outE (worstR s cells day cell width) else valE s cells day := rfl
 have hTV : toldV s cells day cell width = if toldE s cells day cell width = 0 then ⟨(outV (worstR s cells day cell width)).lo, (outV (worstR s cells day cell width)).hi⟩ else ⟨0, 0⟩ := rfl
 have hTB : toldB s cells day cell width = (decide (toldE s cells day cell width = 0) && decide ((outV (worstR s cells day cell width)).wide < (valV s cells day).hi - (valV s cells day).lo)) := rfl
 have hM := fun h => meas_of (s := s) (cells := cells) (day := day) (cell := cell) (width := width) h
 have hQ := fun h => meas_q (s := s) (cells := cells) (day := day) (cell := cell) (width := width) h
 have hZ := fun h => out_wide (R := worstR s cells day cell width) h
 have hX := fun h wider a b => meas_wider (s := s) (cells := cells) (day := day) (cell := cell) (width := width) (hM h) (hQ h).1 (hQ h).2 (wider := wider) a b
 have hN := fun h L H WV NL NH YL YH a b c => meas_n (s := s) (cells := cells) (day := day) (cell := cell) (width := width) h (L := L) (H := H) (WV := WV) (NL := NL) (NH := NH) (YL := YL) (YH := YH) a b c
 have hM2 := fun h => And.intro (hM h).val (hM h).cellz
 have JW1 := JW width
 have JW2 := JW wider
 obtain ⟨E2, hE2⟩ : ∃ q, outE (worstR s cells day cell wider) = q := ⟨_, rfl⟩
 obtain ⟨WW, hWW⟩ : ∃ q, (outV (worstR s cells day cell wider)).wide = q := ⟨_, rfl⟩
 have hX2 := fun h a b => hX h wider a b
 rw [hE2, hWW] at JW2
 simp only [hE2, hWW] at hX2
 obtain ⟨E, hE⟩ : ∃ q, outE (worstR s cells day cell width) = q := ⟨_, rfl⟩
 obtain ⟨⟨L, H, WV⟩, hO⟩ : ∃ q, outV (worstR s cells day cell width) = q := ⟨_, rfl⟩
 obtain ⟨TE, hT1⟩ : ∃ q, toldE s cells day cell width = q := ⟨_, rfl⟩
 obtain ⟨TV, hT2⟩ : ∃ q, toldV s cells day cell width = q := ⟨_, rfl⟩
 obtain ⟨TB, hT3⟩ : ∃ q, toldB s cells day cell width = q := ⟨_, rfl⟩
 obtain ⟨VE, hVE⟩ : ∃ q, valE s cells day = q := ⟨_, rfl⟩
 obtain ⟨CE, hCE⟩ : ∃ q, cellE s cell day = q := ⟨_, rfl⟩
 obtain ⟨⟨NL, NH⟩, hVV⟩ : ∃ q, valV s cells day = q := ⟨_, rfl⟩
 obtain ⟨⟨YL, YH⟩, hCV⟩ : ∃ q, cellV s cell day = q := ⟨_, rfl⟩
 have hN2 := fun h => hN h L H WV NL NH YL YH hO hVV hCV
 simp only [hT1, hT2, hT3, hE, hO, hVE, hCE, hVV, hCV] at JW1 JT JV JY hTE hTV hTB hZ hX2 hN2 hM2
 clear hE hO hT1 hT2 hT3 hVE hCE hVV hCV hN hX hM hQ hE2 hWW hSB hSE JW hl hS
 replace JA := hide JA
 replace JB := hide JB
 replace JC := hide JC
 replace JW1 := hide JW1
 replace JW2 := hide JW2
 replace JT := hide JT
 replace JV := hide JV
 replace JY := hide JY
 replace JL := hide JL
 replace hX2 := hide hX2
 replace hN2 := hide hN2
 replace hM2 := hide hM2
 replace hZ := hide hZ
 replace hTE := hide hTE
 replace hTV := hide hTV
 replace hTB := hide hTB
 have JS := hide law_sane7
 obtain ⟨w1, hw1, hb, kS, kK, kD, kL⟩ := al4 w (s8 s Ac nc Ap np Ad nd As ns Ah nh) 42 #[.slice Dk cells.length nl] 38 #[I day] 3 #[I cell] 3
 replace kS := hide kS
 replace kK := hide kK
 replace kD := hide kD
 replace kL := hide kL
 have B1 := hide hb
 clear hb
 go_enter Tryz.func10, Tryz.ntmps10
 go_wp2_with fail
 rw [← hw1]
 clear hw1
 go_wp2_with fail
 go_at_call 16
 refine (JS.out _).mono ?_
 rintro e w2 ⟨rfl, hb⟩
 replace kS := hide (kS.out.grow hb)
 replace kK := hide (kK.out.grow hb)
 replace kD := hide (kD.out.grow hb)
 replace kL := hide (kL.out.grow hb)
 have B2 := hide (bup B1.out hb)
 clear hb B1
 obtain ⟨q0, q1, q2, q3, q4, q5, q6, q7⟩ := kS.out.cells8
 have zS := kS.out.lt
 go_wp2_with fail
 clear q0 q1 q2 q3 q4 q5 q6 q7 zS
 go_at_call 54
 refine (JA.out _ B2.out).mono ?_
 rintro e w3 ⟨rfl, hb⟩
 replace kS := hide (kS.out.grow hb)
 replace kK := hide (kK.out.grow hb)
 replace kD := hide (kD.out.grow hb)
 replace kL := hide (kL.out.grow hb)
 have B3 := hide (bup B2.out hb)
 clear hb B2
 cases SB with
 | false =>
  go_wp2_with fail
  go_ret
  exact ⟨rfl, B3.out⟩
 | true =>
  obtain ⟨q0, q1, q2, q3, q4, q5, q6, q7⟩ := kS.out.cells8
  have zS := kS.out.lt
  go_wp2_with fail
  clear q0 q1 q2 q3 q4 q5 q6 q7 zS
  go_at_call 55
  refine (JB.out _ B3.out).mono ?_
  rintro e w4 ⟨rfl, hb⟩
  replace kS := hide (kS.out.grow hb)
  replace kK := hide (kK.out.grow hb)
  replace kD := hide (kD.out.grow hb)
  replace kL := hide (kL.out.grow hb)
  have B4 := hide (bup B3.out hb)
  clear hb B3
  by_cases h0 : SE = 0
  case neg =>
   have hne : (SE != 0) = true := by simpa using h0
   replace h0 := hide h0
   go_wp2_with fail
   go_ret
   exact ⟨rfl, B4.out⟩
  subst h0
  obtain ⟨q0, q1, q2, q3, q4, q5, q6, q7⟩ := kS.out.cells8
  have zS := kS.out.lt
  go_wp2_with fail
  clear q0 q1 q2 q3 q4 q5 q6 q7 zS
  go_at_call 56
  refine (JC.out _ B4.out).mono ?_
  rintro e w5 ⟨rfl, hb⟩
  replace kS := hide (kS.out.grow hb)
  replace kK := hide (kK.out.grow hb)
  replace kD := hide (kD.out.grow hb)
  replace kL := hide (kL.out.grow hb)
  have B5 := hide (bup B4.out hb)
  clear hb B4
  obtain ⟨q0, q1, q2, q3, q4, q5, q6, q7⟩ := kS.out.cells8
  have zS := kS.out.lt
  have k_0 : w5.cell? ⟨w.heap.size + 1, 0, none⟩ = some (.slice Dk cells.length nl) := kK.out.cell 0
  have zK := kK.out.lt
  have d_0 : w5.cell? ⟨w.heap.size + 1 + 1, 0, none⟩ = some (I day) := kD.out.cell 0
  have zD := kD.out.lt
  have l_0 : w5.cell? ⟨w.heap.size + 1 + 1 + 1, 0, none⟩ = some (I cell) := kL.out.cell 0
  have zL := kL.out.lt
  go_wp2_with fail
  clear q0 q1 q2 q3 q4 q5 q6 q7 zS k_0 zK d_0 zD l_0 zL
  go_at_call 42
  refine (JW1.out _ B5.out).mono ?_
  rintro e w6 ⟨rfl, hb⟩
  replace kS := hide (kS.out.grow hb)
  replace kK := hide (kK.out.grow hb)
  replace kD := hide (kD.out.grow hb)
  replace kL := hide (kL.out.grow hb)
  have B6 := hide (bup B5.out hb)
  clear hb B5
  obtain ⟨q0, q1, q2, q3, q4, q5, q6, q7⟩ := kS.out.cells8
  have zS := kS.out.lt
  have k_0 : w6.cell? ⟨w.heap.size + 1, 0, none⟩ = some (.slice Dk cells.length nl) := kK.out.cell 0
  have zK := kK.out.lt
  have d_0 : w6.cell? ⟨w.heap.size + 1 + 1, 0, none⟩ = some (I day) := kD.out.cell 0
  have zD := kD.out.lt
  have l_0 : w6.cell? ⟨w.heap.size + 1 + 1 + 1, 0, none⟩ = some (I cell) := kL.out.cell 0
  have zL := kL.out.lt
  go_wp2_with fail
  clear q0 q1 q2 q3 q4 q5 q6 q7 zS k_0 zK d_0 zD l_0 zL
  by_cases h1 : E = 0
  case neg =>
   have hne : (E != 0) = true := by simpa using h1
   have h2 := hTE.out
   rw [if_pos h1] at h2
   obtain rfl := h2
   have h3 := hTV.out
   rw [if_neg h1] at h3
   have h4 := hTB.out
   rw [decide_eq_false h1, Bool.false_and] at h4
   subst h3 h4
   obtain ⟨rfl, rfl, rfl⟩ := Outc.mk.inj (hZ.out h1)
   replace h1 := hide h1
   clear hTE hTV hTB hZ hX2 hN2 hM2
   go_at_call 44
   refine (JT.out _ B6.out).mono ?_
   rintro e w7 ⟨rfl, hb⟩
   replace kS := hide (kS.out.grow hb)
   replace kK := hide (kK.out.grow hb)
   replace kD := hide (kD.out.grow hb)
   replace kL := hide (kL.out.grow hb)
   have B7 := hide (bup B6.out hb)
   clear hb B6
   obtain ⟨wx, hwx, hb, kX⟩ := al1 w7 #[I 0, I 0] 67
   replace kX := hide kX
   replace kS := hide (kS.out.grow hb)
   replace kK := hide (kK.out.grow hb)
   replace kD := hide (kD.out.grow hb)
   replace kL := hide (kL.out.grow hb)
   have B8 := hide (bup B7.out hb)
   clear hb B7
   go_upto_region 7 with fail
   rw [← hwx]
   clear hwx
   obtain ⟨x_0, x_1⟩ := kX.out.cells2
   have zX := kX.out.lt
   go_wp2_with fail
   go_ret
   exact ⟨rfl, B8.out⟩
  subst h1
  obtain ⟨rfl, rfl⟩ := hM2.out rfl
  have h2 := hTE.out
  rw [if_neg (by simp)] at h2
  obtain rfl := h2
  have h3 := hTV.out
  rw [if_pos rfl] at h3
  subst h3
  have h4 := hTB.out
  rw [decide_eq_true rfl, Bool.true_and] at h4
  have hn := hN2.out rfl
  have hx := hX2.out rfl
  clear hTE hTV hTB hZ hX2 hN2 hM2
  replace hx := hide hx
  replace hn := hide hn
  replace h4 := hide h4
  go_at_call 44
  refine (JT.out _ B6.out).mono ?_
  rintro e w7 ⟨rfl, hb⟩
  replace kS := hide (kS.out.grow hb)
  replace kK := hide (kK.out.grow hb)
  replace kD := hide (kD.out.grow hb)
  replace kL := hide (kL.out.grow hb)
  have B7 := hide (bup B6.out hb)
  clear hb B6
  obtain ⟨wx, hwx, hb, kX⟩ := al1 w7 #[I L, I H] 67
  replace kX := hide kX
  replace kS := hide (kS.out.grow hb)
  replace kK := hide (kK.out.grow hb)
  replace kD := hide (kD.out.grow hb)
  replace kL := hide (kL.out.grow hb)
  have B8 := hide (bup B7.out hb)
  clear hb B7
  go_upto_region 7 with fail
  rw [← hwx]
  clear hwx
  obtain ⟨q0, q1, q2, q3, q4, q5, q6, q7⟩ := kS.out.cells8
  have zS := kS.out.lt
  have k_0 : wx.cell? ⟨w.heap.size + 1, 0, none⟩ = some (.slice Dk cells.length nl) := kK.out.cell 0
  have zK := kK.out.lt
  have d_0 : wx.cell? ⟨w.heap.size + 1 + 1, 0, none⟩ = some (I day) := kD.out.cell 0
  have zD := kD.out.lt
  have l_0 : wx.cell? ⟨w.heap.size + 1 + 1 + 1, 0, none⟩ = some (I cell) := kL.out.cell 0
  have zL := kL.out.lt
  go_wp2_with fail
  clear q0 q1 q2 q3 q4 q5 q6 q7 zS k_0 zK d_0 zD l_0 zL
  go_at_call 57
  refine (JV.out _ B8.out).mono ?_
  rintro e w8 ⟨rfl, hb⟩
  replace kS := hide (kS.out.grow hb)
  replace kK := hide (kK.out.grow hb)
  replace kD := hide (kD.out.grow hb)
  replace kL := hide (kL.out.grow hb)
  replace kX := hide (kX.out.grow hb)
  have B9 := hide (bup B8.out hb)
  clear hb B8
  obtain ⟨wn, hwn, hb, kN⟩ := al1 w8 #[I NL, I NH] 67
  replace kN := hide kN
  replace kS := hide (kS.out.grow hb)
  replace kK := hide (kK.out.grow hb)
  replace kD := hide (kD.out.grow hb)
  replace kL := hide (kL.out.grow hb)
  replace kX := hide (kX.out.grow hb)
  have B10 := hide (bup B9.out hb)
  clear hb B9
  obtain ⟨q0, q1, q2, q3, q4, q5, q6, q7⟩ := kS.out.cells8
  have zS := kS.out.lt
  have k_0 : wn.cell? ⟨w.heap.size + 1, 0, none⟩ = some (.slice Dk cells.length nl) := kK.out.cell 0
  have zK := kK.out.lt
  have d_0 : wn.cell? ⟨w.heap.size + 1 + 1, 0, none⟩ = some (I day) := kD.out.cell 0
  have zD := kD.out.lt
  have l_0 : wn.cell? ⟨w.heap.size + 1 + 1 + 1, 0, none⟩ = some (I cell) := kL.out.cell 0
  have zL := kL.out.lt
  rw [hwn] at q0 q1 q2 q3 q4 q5 q6 q7 zS k_0 zK d_0 zD l_0 zL
  go_wp2_with fail
  rw [← hwn]
  clear hwn
  clear q0 q1 q2 q3 q4 q5 q6 q7 zS k_0 zK d_0 zD l_0 zL
  go_at_call 58
  refine (JY.out _ B10.out).mono ?_
  rintro e w9 ⟨rfl, hb⟩
  replace kS := hide (kS.out.grow hb)
  replace kK := hide (kK.out.grow hb)
  replace kD := hide (kD.out.grow hb)
  replace kL := hide (kL.out.grow hb)
  replace kX := hide (kX.out.grow hb)
  replace kN := hide (kN.out.grow hb)
  have B11 := hide (bup B10.out hb)
  clear hb B10
  obtain ⟨wy, hwy, hb, kY⟩ := al1 w9 #[I YL, I YH] 67
  replace kY := hide kY
  replace kS := hide (kS.out.grow hb)
  replace kK := hide (kK.out.grow hb)
  replace kD := hide (kD.out.grow hb)
  replace kL := hide (kL.out.grow hb)
  replace kX := hide (kX.out.grow hb)
  replace kN := hide (kN.out.grow hb)
  have B12 := hide (bup B11.out hb)
  clear hb B11
  go_upto_region 13 with fail
  rw [← hwy]
  clear hwy
  obtain ⟨n1, n2, n3, n4, n5, n6, n7, n8⟩ := hn.out
  have c1 : decide (WV < 0) = false := decide_eq_false (by omega)
  have c2 : decide (NH - NL < WV) = false := decide_eq_false (by omega)
  have c3 : decide (H < YL) = false := decide_eq_false (by omega)
  have c4 : decide (YH < L) = false := decide_eq_false (by omega)
  have c5 : decide (width < H - L) = false := decide_eq_false (by omega)
  have c6 : (TB != decide (WV < NH - NL)) = false := by rw [h4.out]; simp
  have JL1 := fun gS gC gD gK w' hb k1 k2 k3 k4 => JL.out gS gC gD gK L H w' hb k1 k2 k3 k4 n7.1 n7.2.1
  rw [n7.2.2] at JL1
  have JL1 := hide JL1
  replace n7 := hide n7
  replace n8 := hide n8
  obtain ⟨x_0, x_1⟩ := kX.out.cells2
  have zX := kX.out.lt
  obtain ⟨y_0, y_1⟩ := kY.out.cells2
  have zY := kY.out.lt
  obtain ⟨n_0, n_1⟩ := kN.out.cells2
  have zN := kN.out.lt
  go_wp2_with fail
  clear x_0 x_1 zX y_0 y_1 zY n_0 n_1 zN
  clear c1 c2 c3 c4 c5 c6
  go_at_call 59
  refine (JL1.out _ _ _ _ _ B12.out kS.out kL.out kD.out kK.out).mono ?_
  rintro e w10 ⟨rfl, hb⟩
  replace kS := hide (kS.out.grow hb)
  replace kK := hide (kK.out.grow hb)
  replace kD := hide (kD.out.grow hb)
  replace kL := hide (kL.out.grow hb)
  replace kX := hide (kX.out.grow hb)
  replace kN := hide (kN.out.grow hb)
  replace kY := hide (kY.out.grow hb)
  have B13 := hide (bup B12.out hb)
  clear hb B12
  have ht : (wider < width ∨ (width ≤ wider ∧ 65536 < wider)) ∨ (width ≤ wider ∧ wider ≤ 65536) ∧ (E2 = 2 ∨ E2 = 0 ∧ WV ≤ WW) := by
   have := hx.out
   by_cases a : wider < width
   ·exact .inl (.inl a)
   by_cases b : 65536 < wider
   ·exact .inl (.inr ⟨by omega, b⟩)
   exact .inr ⟨⟨by omega, by omega⟩, this (by omega) (by omega)⟩
  clear hx hn
  by_cases hv : ((-65536 ≤ v ∧ v ≤ 65536) ∧ v ≤ YH) ∧ YL ≤ v + width
  case pos =>
   obtain ⟨⟨⟨v1, v2⟩, v3⟩, v4⟩ := hv
   have u1 : decide (-65536 ≤ v) = true := decide_eq_true v1
   have u2 : decide (v ≤ 65536) = true := decide_eq_true v2
   have u3 : decide (v ≤ YH) = true := decide_eq_true v3
   have u4 : decide (YL ≤ v + width) = true := decide_eq_true v4
   obtain ⟨m1, m2, m3⟩ := n8.out v v3 v4
   have JL2 := fun a b (ha : max v 0 = a) (hb' : min (v + width) 65536 = b) gS gC gD gK w' hb k1 k2 k3 k4 => JL.out gS gC gD gK a b w' hb k1 k2 k3 k4 (by rw [← ha, ← hb']; exact m1) (by rw [← ha, ← hb']; exact m2)
   have hq : decide (WV < wideV (withS s ⟨0, cell, day, max v 0, min (v + width) 65536⟩) cells day) = false := decide_eq_false (by omega)
   obtain ⟨Q, hQ⟩ : ∃ q, wideV (withS s ⟨0, cell, day, max v 0, min (v + width) 65536⟩) cells day = q := ⟨_, rfl⟩
   rw [hQ] at hq
   have hW : ∀ a b, max v 0 = a → min (v + width) 65536 = b → wideV (withS s ⟨0, cell, day, a, b⟩) cells day = Q := fun a b ha hb' => by rw [← ha, ← hb']; exact hQ
   clear hQ m1 m2 m3
   replace JL2 := hide JL2
   replace hW := hide hW
   obtain ⟨y_0, y_1⟩ := kY.out.cells2
   have zY := kY.out.lt
   go_wp2_with fail
   all_goals
    clear y_0 y_1 zY
    go_at_call 59
    refine (JL2.out _ _ (by omega) (by omega) _ _ _ _ _ B13.out kS.out kL.out kD.out kK.out).mono ?_
    rintro e w11 ⟨rfl, hb⟩
    rw [hW.out]
    rotate_left
    ·omega
    ·omega
    clear JL2 hW
    replace kS := hide (kS.out.grow hb)
    replace kK := hide (kK.out.grow hb)
    replace kD := hide (kD.out.grow hb)
    replace kL := hide (kL.out.grow hb)
    replace kX := hide (kX.out.grow hb)
    replace kN := hide (kN.out.grow hb)
    replace kY := hide (kY.out.grow hb)
    have B14 := hide (bup B13.out hb)
    clear hb B13
    rcases ht with ht | ⟨ht, hx⟩
    ·rcases ht with ht | ⟨ht, h5⟩
     ·have t1 : decide (wider < width) = true := decide_eq_true ht
      go_wp2_with fail
      go_ret
      exact ⟨rfl, B14.out⟩
     ·have t1 : decide (wider < width) = false := decide_eq_false (by omega)
      have t2 : decide (65536 < wider) = true := decide_eq_true h5
      go_wp2_with fail
      go_ret
      exact ⟨rfl, B14.out⟩
    have t1 : decide (wider < width) = false := decide_eq_false (by omega)
    have t2 : decide (65536 < wider) = false := decide_eq_false (by omega)
    obtain ⟨q0, q1, q2, q3, q4, q5, q6, q7⟩ := kS.out.cells8
    have zS := kS.out.lt
    have k_0 : w11.cell? ⟨w.heap.size + 1, 0, none⟩ = some (.slice Dk cells.length nl) := kK.out.cell 0
    have zK := kK.out.lt
    have d_0 : w11.cell? ⟨w.heap.size + 1 + 1, 0, none⟩ = some (I day) := kD.out.cell 0
    have zD := kD.out.lt
    have l_0 : w11.cell? ⟨w.heap.size + 1 + 1 + 1, 0, none⟩ = some (I cell) := kL.out.cell 0
    have zL := kL.out.lt
    go_wp2_with fail
    clear q0 q1 q2 q3 q4 q5 q6 q7 zS k_0 zK d_0 zD l_0 zL
    go_at_call 42
    refine (JW2.out _ B14.out).mono ?_
    rintro e w12 ⟨rfl, hb⟩
    replace kS := hide (kS.out.grow hb)
    replace kK := hide (kK.out.grow hb)
    replace kD := hide (kD.out.grow hb)
    replace kL := hide (kL.out.grow hb)
    replace kX := hide (kX.out.grow hb)
    replace kN := hide (kN.out.grow hb)
    replace kY := hide (kY.out.grow hb)
    have B15 := hide (bup B14.out hb)
    clear hb B14
    rcases hx with rfl | ⟨rfl, hx⟩
    ·
     go_wp2_with fail
     go_ret
     exact ⟨rfl, B15.out⟩
    ·have t3 : decide (WV ≤ WW) = true := decide_eq_true hx
     go_wp2_with fail
     go_ret
     exact ⟨rfl, B15.out⟩
  case neg =>
   clear JL JL1
   have hf : (decide (-65536 ≤ v) = false) ∨ (decide (-65536 ≤ v) = true ∧ decide (v ≤ 65536) = false) ∨ (decide (-65536 ≤ v) = true ∧ decide (v ≤ 65536) = true ∧ decide (v ≤ YH) = false) ∨ (decide (-65536 ≤ v) = true ∧ decide (v ≤ 65536) = true ∧ decide (v ≤ YH) = true ∧ (-65536 ≤ v ∧ v ≤ 65536) ∧ decide (YL ≤ v + width) = false) := by
    simp only [decide_eq_true_eq, decide_eq_false_iff_not]
    omega
   rcases hf with u1 | ⟨u1, u2⟩ | ⟨u1, u2, u3⟩ | ⟨u1, u2, u3, v1, u4⟩
   all_goals
    obtain ⟨y_0, y_1⟩ := kY.out.cells2
    have zY := kY.out.lt
    rcases ht with ht | ⟨ht, hx⟩
    ·rcases ht with ht | ⟨ht, h5⟩
     ·have t1 : decide (wider < width) = true := decide_eq_true ht
      go_wp2_with fail
      go_ret
      exact ⟨rfl, B13.out⟩
     ·have t1 : decide (wider < width) = false := decide_eq_false (by omega)
      have t2 : decide (65536 < wider) = true := decide_eq_true h5
      go_wp2_with fail
      go_ret
      exact ⟨rfl, B13.out⟩
    have t1 : decide (wider < width) = false := decide_eq_false (by omega)
    have t2 : decide (65536 < wider) = false := decide_eq_false (by omega)
    obtain ⟨q0, q1, q2, q3, q4, q5, q6, q7⟩ := kS.out.cells8
    have zS := kS.out.lt
    have k_0 : w10.cell? ⟨w.heap.size + 1, 0, none⟩ = some (.slice Dk cells.length nl) := kK.out.cell 0
    have zK := kK.out.lt
    have d_0 : w10.cell? ⟨w.heap.size + 1 + 1, 0, none⟩ = some (I day) := kD.out.cell 0
    have zD := kD.out.lt
    have l_0 : w10.cell? ⟨w.heap.size + 1 + 1 + 1, 0, none⟩ = some (I cell) := kL.out.cell 0
    have zL := kL.out.lt
    go_wp2_with fail
    clear q0 q1 q2 q3 q4 q5 q6 q7 zS k_0 zK d_0 zD l_0 zL
    go_at_call 42
    refine (JW2.out _ B13.out).mono ?_
    rintro e w11 ⟨rfl, hb⟩
    replace kS := hide (kS.out.grow hb)
    replace kK := hide (kK.out.grow hb)
    replace kD := hide (kD.out.grow hb)
    replace kL := hide (kL.out.grow hb)
    replace kX := hide (kX.out.grow hb)
    replace kN := hide (kN.out.grow hb)
    replace kY := hide (kY.out.grow hb)
    have B14 := hide (bup B13.out hb)
    clear hb B13
    rcases hx with rfl | ⟨rfl, hx⟩
    ·
     go_wp2_with fail
     go_ret
     exact ⟨rfl, B14.out⟩
    ·have t3 : decide (WV ≤ WW) = true := decide_eq_true hx
     go_wp2_with fail
     go_ret
     exact ⟨rfl, B14.out⟩
end Go.Proofs.YtgbbljfmngmjeaaGreat
