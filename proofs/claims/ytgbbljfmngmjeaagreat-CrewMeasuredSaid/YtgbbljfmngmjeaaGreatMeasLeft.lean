/- The law CrewMeasured's closure: what a measurement leaves. Conditions stand in the theorem. -/
import Derived.Test.YtgbbljfmngmjeaaGreatMeasMathPack
import Derived.Test.YtgbbljfmngmjeaaGreatWat5Pack
set_option linter.all false
set_option maxHeartbeats 8000000
set_option maxRecDepth 100000
namespace Go.Proofs.YtgbbljfmngmjeaaGreat
open Go.RowKit

theorem meas_left (gS gC gD gK : Nat) (s : Scene) (V : SceneV) (vl : Value) (cells : List Int) (day cell lo hi : Int) (w : World) (hS : SceneAt w s V) (hl : Sl w 1 intC vl cells)
  (kS : Blk w gS 42 #[V.cells, V.pairs, I s.basin.gain, I s.basin.slack, I s.basin.deep, V.days, V.sights, V.changes]) (kC : Blk w gC 3 #[I cell]) (kD : Blk w gD 3 #[I day]) (kK : Blk w gK 38 #[vl])
  (h1 : withE s ⟨0, cell, day, lo, hi⟩ = 0) (h2 : valE (withS s ⟨0, cell, day, lo, hi⟩) cells day = 0) :
  Calls Tryz.prog 59 #[.agg #[I lo, I hi], .pointer (some ⟨gS, 0, none⟩), .pointer (some ⟨gC, 0, none⟩), .pointer (some ⟨gD, 0, none⟩), .pointer (some ⟨gK, 0, none⟩)] w fun e w' => e = .returned (.tuple #[I (wideV (withS s ⟨0, cell, day, lo, hi⟩) cells day), I 0]) ∧ Below w.heap.size w w' := by
 have JW := fun w' (hb : Below w.heap.size w w') => basin_With s V ⟨0, cell, day, lo, hi⟩ w' (hS.mono hb)
 have JV := fun S2 V2 w' (hb : Below w.heap.size w w') (hT : SceneAt w' S2 V2) => basin_Valley S2 V2 vl cells day w' hT (hl.mono hb)
 obtain ⟨Ac, nc, hcc, -⟩ := hS.cells.open_
 obtain ⟨Ap, np, hpp, -⟩ := hS.pairs.open_
 obtain ⟨Ad, nd, hdd, -⟩ := hS.days.open_
 obtain ⟨As, ns, hsi, -⟩ := hS.sights.open_
 obtain ⟨Ah, nh, hch, -⟩ := hS.changes.open_
 obtain ⟨D, nl, rfl, -⟩ := hl.open_
 unfold Scene.v at JW
 simp only [hcc, hpp, hdd, hsi, hch, h1] at JW kS
 clear hcc hpp hdd hsi hch hS hl
 obtain ⟨S2, hS2⟩ : ∃ q, withS s ⟨0, cell, day, lo, hi⟩ = q := ⟨_, rfl⟩
 have hbd := val_bd S2 cells day
 have hwv : wideV S2 cells day = (valV S2 cells day).hi - (valV S2 cells day).lo := rfl
 rw [hS2] at h2 ⊢
 simp only [hS2] at JW
 have JV2 := fun V2 => JV S2 V2
 simp only [h2] at JV2
 obtain ⟨⟨va, vb⟩, hVV⟩ : ∃ q, valV S2 cells day = q := ⟨_, rfl⟩
 simp only [hVV] at JV2 hbd hwv
 rw [hwv]
 clear hwv hVV hS2 h1 h2 JV
 replace JW := hide JW
 replace JV2 := hide JV2
 obtain ⟨w1, hw1, hb1, kZ⟩ := al1 w #[I lo, I hi] 67
 obtain ⟨z0, z1⟩ := kZ.cells2
 have zz := kZ.lt
 replace kS := kS.grow hb1
 replace kC := kC.grow hb1
 replace kD := kD.grow hb1
 replace kK := kK.grow hb1
 obtain ⟨q0, q1, q2, q3, q4, q5, q6, q7⟩ := kS.cells8
 have zS := kS.lt
 have c0 : w1.cell? ⟨gC, 0, none⟩ = some (I cell) := kC.cell 0
 have zC := kC.lt
 have d0 : w1.cell? ⟨gD, 0, none⟩ = some (I day) := kD.cell 0
 have zD := kD.lt
 replace kD := hide kD
 replace kK := hide kK
 clear kS kC kZ
 go_enter Tryz.func59, Tryz.ntmps59
 go_upto_region 1 with fail
 rw [← hw1]
 clear hw1
 go_wp2_with fail
 go_at_call 51
 refine (JW.out _ hb1).mono ?_
 clear q0 q1 q2 q3 q4 q5 q6 q7 zS c0 zC d0 zD z0 z1 zz
 rintro e w2 ⟨u, rfl, hu0, -, hb2⟩
 obtain ⟨V2, rfl, hT⟩ := hu0 (by trivial)
 have hb3 := hide (bup hb1 hb2)
 have kD2 := kD.out.grow hb2
 have kK2 := kK.out.grow hb2
 clear hu0 hb2 hb1 kD kK
 (try unfold Scene.v at *)
 have JV3 := hide (fun w' hb hT => JV2.out V2 w' hb hT)
 have hT2 := hide hT
 clear JV2
 have i0 : Sl w2 4 Cell.cells V2.cells S2.basin.cells := hT.cells
 have i1 : Sl w2 2 pairC V2.pairs S2.basin.pairs := hT.pairs
 have i2 : Sl w2 1 intC V2.days S2.days := hT.days
 have i3 : Sl w2 5 Sight.cells V2.sights S2.sights := hT.sights
 have i4 : Sl w2 5 Change.cells V2.changes S2.changes := hT.changes
 obtain ⟨vc, vp, vd, vs_, vh⟩ := V2
 simp only at i0 i1 i2 i3 i4
 obtain ⟨Ac2, nc2, rfl, -⟩ := i0.open_
 obtain ⟨Ap2, np2, rfl, -⟩ := i1.open_
 obtain ⟨Ad2, nd2, rfl, -⟩ := i2.open_
 obtain ⟨As2, ns2, rfl, -⟩ := i3.open_
 obtain ⟨Ah2, nh2, rfl, -⟩ := i4.open_
 clear i0 i1 i2 i3 i4 hT
 obtain ⟨w3, hw3, hb4, kT⟩ := al1 w2 #[.slice Ac2 S2.basin.cells.length nc2, .slice Ap2 S2.basin.pairs.length np2, I S2.basin.gain, I S2.basin.slack, I S2.basin.deep, .slice Ad2 S2.days.length nd2, .slice As2 S2.sights.length ns2, .slice Ah2 S2.changes.length nh2] 42
 obtain ⟨t0, t1, t2, t3, t4, t5, t6, t7⟩ := kT.cells8
 have zT := kT.lt
 have d0 : w3.cell? ⟨gD, 0, none⟩ = some (I day) := (kD2.grow hb4).cell 0
 have zD := (kD2.grow hb4).lt
 have k0 : w3.cell? ⟨gK, 0, none⟩ = some (.slice D cells.length nl) := (kK2.grow hb4).cell 0
 have zK := (kK2.grow hb4).lt
 have hT3 := hide (hT2.out.mono hb4)
 have hb5 := hide (bup hb3.out hb4)
 clear kT kD2 kK2 hT2 hb4 hb3
 go_upto_region 2 with fail
 rw [← hw3]
 clear hw3
 go_wp2_with fail
 go_at_call 57
 refine (JV3.out _ hb5.out hT3.out).mono ?_
 clear t0 t1 t2 t3 t4 t5 t6 t7 zT d0 zD k0 zK
 rintro e w4 ⟨rfl, hb6⟩
 go_wp2_with fail
 go_ret2
 exact ⟨rfl, bup (bup hb5.out hb6) (below1 _ _)⟩
end Go.Proofs.YtgbbljfmngmjeaaGreat
