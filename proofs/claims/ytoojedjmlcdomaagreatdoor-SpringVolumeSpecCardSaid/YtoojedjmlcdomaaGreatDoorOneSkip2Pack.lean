/- The law's skip of a list of springs. Conditions stand in the theorems. -/
import Derived.Test.YtoojedjmlcdomaaGreatDoorRefNetPack
import Derived.Test.YtoojedjmlcdomaaGreatDoorOneAll
import Derived.Test.YtoojedjmlcdomaaGreatDoorSpring28
import Derived.Test.YtoojedjmlcdomaaGreatDoorRefX
set_option linter.all false
set_option maxHeartbeats 8000000
set_option maxRecDepth 100000
namespace Go.Proofs.YtoojedjmlcdomaaGreatDoor
open Go.RowKit

def shortB (n : Nat) : Bool := decide ((n : Int) ≤ 40) || decide ((512 : Int) < n)
theorem law_shortB (no : Int) (vd : Value) (p : List Weather) (w : World) (hv : Sl w 3 Weather.cells vd p) : Calls Tryz.prog 9 #[.agg #[I no, vd]] w fun e w' => e = .returned (.bool (shortB p.length)) ∧ Below w.heap.size w w' := by
 obtain ⟨A, n, rfl, _, _, hlen, hA⟩ := hv.open_
 clear hA hv
 obtain ⟨q, hq⟩ : ∃ q, shortB p.length = q := ⟨_, rfl⟩
 have hq2 : (decide ((p.length : Int) ≤ 40) || decide ((512 : Int) < p.length)) = q := hq
 rw [hq]
 clear hq
 rcases ilt 40 (p.length : Int) with q1 | q1
 ·have g1 : decide ((p.length : Int) ≤ 40) = false := decide_eq_false (by omega)
  rcases ilt 512 (p.length : Int) with q2 | q2
  ·have g2 : decide ((512 : Int) < p.length) = true := decide_eq_true (by omega)
   obtain rfl : q = true := by rw [← hq2, g1, g2]; rfl
   clear q1 q2 hq2
   go_enter Tryz.func9, Tryz.ntmps9
   go_wp2_with fail
   go_ret
   exact ⟨rfl, below1 _ _⟩
  ·have g2 : decide ((512 : Int) < p.length) = false := decide_eq_false (by omega)
   obtain rfl : q = false := by rw [← hq2, g1, g2]; rfl
   clear q1 q2 hq2
   go_enter Tryz.func9, Tryz.ntmps9
   go_wp2_with fail
   go_ret
   exact ⟨rfl, below1 _ _⟩
 ·have g1 : decide ((p.length : Int) ≤ 40) = true := decide_eq_true (by omega)
  obtain rfl : q = true := by rw [← hq2, g1]; rfl
  clear q1 hq2
  go_enter Tryz.func9, Tryz.ntmps9
  go_wp2_with fail
  go_ret
  exact ⟨rfl, below1 _ _⟩
theorem skip1 (xs : List SprL) (w : World) (hd : ∀ x ∈ xs, Sl w 3 Weather.cells x.dv x.days) : Gives Tryz.prog 49 #[] (fun x : SprL => .agg #[I x.no, x.dv]) (fun x => !shortB x.days.length) w xs := by
 intro W x hx hb
 have J := hide (fun w' (h : Below W.heap.size W w') => law_shortB x.no x.dv x.days w' (((hd x hx).mono hb).mono h))
 show Calls Tryz.prog 49 #[.agg #[I x.no, x.dv]] W fun e w' => e = .returned (.bool (!shortB x.days.length)) ∧ Below W.heap.size W w'
 obtain ⟨A, n, hdv, _⟩ := (hd x hx).open_
 rw [hdv] at J ⊢
 obtain ⟨q, hq⟩ : ∃ q, shortB x.days.length = q := ⟨_, rfl⟩
 rw [hq] at J ⊢
 clear hq hdv hd hx
 go_enter Tryz.func49, Tryz.ntmps49
 go_wp2_with fail
 go_at_call 9
 refine (J.out _ (below1 _ _)).mono ?_
 rintro e w1 ⟨rfl, hb1⟩
 go_wp2_with fail
 go_ret
 exact ⟨rfl, bup (below1 _ _) hb1⟩
theorem law_skip (v : Value) (xs : List SprL) (s : Scene) (V : SceneV) (w : World) (hx : SprsAt w v xs) (hs : SceneAt w s V) : Calls Tryz.prog 8 #[v, s.v V] w fun e w' => Flag e ∧ Below w.heap.size w w' := by
 have JS := hide (fun w' (hb : Below w.heap.size w w') => law_small s V w' (hs.mono hb))
 have JC := hide (fun w' (hb : Below w.heap.size w w') => containsFunc_SprL v xs _ _ (fun x => !shortB x.days.length) w' (hx.1.mono hb) (enters_of Tryz.func49 (by kernel_rfl) rfl) (skip1 xs w' fun x h => (hx.2 x h).mono hb))
 obtain ⟨A, n, rfl, _, _, hlen, _⟩ := hx.1.open_
 obtain ⟨vc, vp, vD, vs, vh⟩ := V
 obtain ⟨Ac, nc, rfl, _⟩ := (show Sl w 4 Cell.cells vc s.basin.cells from hs.cells).open_
 obtain ⟨Ap, np, rfl, _⟩ := (show Sl w 2 pairC vp s.basin.pairs from hs.pairs).open_
 obtain ⟨Ad, nd, rfl, _⟩ := (show Sl w 1 intC vD s.days from hs.days).open_
 obtain ⟨As, ns, rfl, _⟩ := (show Sl w 5 Sight.cells vs s.sights from hs.sights).open_
 obtain ⟨Ah, nh, rfl, _⟩ := (show Sl w 5 Change.cells vh s.changes from hs.changes).open_
 unfold Scene.v at *
 simp only at *
 clear hs hx
 obtain ⟨q, hq⟩ : ∃ q, xs.any (fun x => !shortB x.days.length) = q := ⟨_, rfl⟩
 rw [hq] at JC
 clear hq
 go_enter Tryz.func8, Tryz.ntmps8
 go_wp2_with fail
 go_at_call 47
 refine (JS.out _ (below1 _ _)).mono ?_
 rintro e w1 ⟨⟨q1, rfl⟩, hb1⟩
 have B1 := bup (below1 w _) hb1
 clear hb1
 cases q1
 ·go_wp2_with fail
  refine bodyPost_ret (v := .bool true) (by simp [results, Tryz.results8, go_sem]) rfl ⟨⟨_, rfl⟩, B1⟩
 rcases ilt 20 (xs.length : Int) with g | g
 ·have g1 : decide ((20 : Int) < xs.length) = true := decide_eq_true (by omega)
  clear g
  go_wp2_with fail
  refine bodyPost_ret (v := .bool true) (by simp [results, Tryz.results8, go_sem]) rfl ⟨⟨_, rfl⟩, B1⟩
 ·have g1 : decide ((20 : Int) < xs.length) = false := decide_eq_false (by omega)
  clear g
  go_wp2_with fail
  go_at_call 48
  refine (JC.out _ B1).mono ?_
  rintro e w2 ⟨rfl, hb2⟩
  go_wp2_with fail
  refine bodyPost_ret (v := .bool q) (by simp [results, Tryz.results8, go_sem]) rfl ⟨⟨_, rfl⟩, bup B1 hb2⟩

theorem law_VolumeSpec (c : Climate) (no : Int) (vd : Value) (p : List Weather) (v : Value) (xs : List SprL) (s : Scene) (V : SceneV) (vl : Value) (l : List Int) (f t : Int) (w : World) (hp : Pow10 w) (hd : Sl w 3 Weather.cells vd p) (hx : SprsAt w v xs) (hs : SceneAt w s V) (hl : Sl w 1 intC vl l) :
  Calls Tryz.prog 3 #[c.v, .agg #[I no, vd], v, s.v V, vl, I f, I t] w fun e w' => e = .returned (.bool true) ∧ Below w.heap.size w w' := by
 obtain ⟨Ac, nc, hcc, _⟩ := hs.cells.open_
 obtain ⟨Ap, np, hpp, _⟩ := hs.pairs.open_
 obtain ⟨Ad, nd, hdd, _⟩ := hs.days.open_
 obtain ⟨As, ns, hss, _⟩ := hs.sights.open_
 obtain ⟨Ah, nh, hch, _⟩ := hs.changes.open_
 obtain ⟨Aw, nw, hvd, _⟩ := hd.open_
 obtain ⟨Al, nl2, hvl, _⟩ := hl.open_
 obtain ⟨Ax, nx, hvx, _⟩ := hx.1.open_
 have JW := fun w' (hb : Below w.heap.size w w') => spring_Volume c no vd p s V vl l f t w' (hs.mono hb) (hl.mono hb) (hd.mono hb)
 have KW := fun w' (hb : Below w.heap.size w w') => ref_Volume c no vd p s V vl l f t w' (hs.mono hb) (hl.mono hb) (hd.mono hb)
 have JX := fun w' (hb : Below w.heap.size w w') => spring_Volumes c v xs s V vl l f t w' (hx.mono hb) (hs.mono hb) (hl.mono hb)
 have KX := fun w' (hb : Below w.heap.size w w') => ref_Volumes c v xs s V vl l f t w' (hx.mono hb) (hs.mono hb) (hl.mono hb)
 have JS := fun w' (hb : Below w.heap.size w w') => law_skip v xs s V w' (hx.mono hb) (hs.mono hb)
 have JH := fun w' (hb : Below w.heap.size w w') => law_short no vd p w' (hd.mono hb)
 obtain ⟨Z, hZ⟩ : ∃ z, volV c ⟨no, p⟩ s l f t = z := ⟨_, rfl⟩
 obtain ⟨E, hE⟩ : ∃ z, volE c ⟨no, p⟩ s l f t = z := ⟨_, rfl⟩
 obtain ⟨Y, hY⟩ : ∃ z, volsV c xs s l f t = z := ⟨_, rfl⟩
 obtain ⟨F, hF⟩ : ∃ z, volsE c xs s l f t = z := ⟨_, rfl⟩
 simp only [hZ, hE, hY, hF] at JW KW JX KX
 clear hZ hE hY hF
 obtain ⟨z1, z2⟩ := Z
 obtain ⟨y1, y2⟩ := Y
 simp only at JW KW JX KX
 unfold Scene.v at *
 simp only [hcc, hpp, hdd, hss, hch, hvd, hvl, hvx] at JW KW JX KX JS JH ⊢
 (try unfold Climate.v at *)
 clear hcc hpp hdd hss hch hvd hvl hvx hs hl hd hx
 replace JW := hide JW
 replace KW := hide KW
 replace JX := hide JX
 replace KX := hide KX
 replace JS := hide JS
 replace JH := hide JH
 replace hp := hide hp
 (try unfold Climate.v at *)
 (try unfold Weather.v at *)
 go_enter Tryz.func3, Tryz.ntmps3
 have B0 : Below w.heap.size w w := Below.refl _ _
 go_wp2_with fail
 obtain ⟨w1, hw1, hb, kC, kS, kX⟩ := al3 w (c8 c) 25 #[I no, .slice Aw p.length nw] 28 (s8 s Ac nc Ap np Ad nd As ns Ah nh) 38
 have B1 := bup B0 hb
 rw [← hw1]
 clear hw1 hb B0
 obtain ⟨bX, hbX⟩ : ∃ b, w.heap.size + 1 + 1 = b := ⟨_, rfl⟩
 rw [hbX] at kX ⊢
 obtain ⟨bS, hbS⟩ : ∃ b, w.heap.size + 1 = b := ⟨_, rfl⟩
 rw [hbS] at kS ⊢
 obtain ⟨bC, hbC⟩ : ∃ b, w.heap.size = b := ⟨_, rfl⟩
 rw [hbC] at kC ⊢
 replace kC := hide kC
 replace kS := hide kS
 replace kX := hide kX
 clear hbC
 clear hbS
 clear hbX
 go_at_call 7
 refine (law_sane w1 (hp.out.mono B1)).mono ?_
 rintro e w2 ⟨rfl, hb⟩
 replace kC := hide (kC.out.grow hb)
 replace kS := hide (kS.out.grow hb)
 replace kX := hide (kX.out.grow hb)
 have B2 := bup B1 hb
 clear hb B1
 obtain ⟨rX0, rX1, rX2, rX3, rX4, rX5, rX6, rX7⟩ := kX.out.cells8
 have zX : bX < w2.heap.size := kX.out.lt
 go_wp2_with fail
 clear rX0 rX1 rX2 rX3 rX4 rX5 rX6 rX7 zX
 go_at_call 8
 refine (JS.out w2 B2).mono ?_
 rintro e w3 ⟨⟨q, rfl⟩, hb⟩
 replace kC := hide (kC.out.grow hb)
 replace kS := hide (kS.out.grow hb)
 replace kX := hide (kX.out.grow hb)
 have B3 := bup B2 hb
 clear hb B2
 obtain ⟨rS0, rS1⟩ := kS.out.cells2
 have zS : bS < w3.heap.size := kS.out.lt
 cases q
 case true => (go_wp2_with fail; go_ret; exact ⟨rfl, B3⟩)
 go_wp2_with fail
 clear rS0 rS1 zS
 go_at_call 9
 refine (JH.out w3 B3).mono ?_
 rintro e w4 ⟨⟨q, rfl⟩, hb⟩
 replace kC := hide (kC.out.grow hb)
 replace kS := hide (kS.out.grow hb)
 replace kX := hide (kX.out.grow hb)
 have B4 := bup B3 hb
 clear hb B3
 cases q
 case false => (go_wp2_with fail; go_ret; exact ⟨rfl, B4⟩)
 obtain ⟨rC0, rC1, rC2, rC3, rC4, rC5, rC6, rC7⟩ := kC.out.cells8
 have zC : bC < w4.heap.size := kC.out.lt
 obtain ⟨rS0, rS1⟩ := kS.out.cells2
 have zS : bS < w4.heap.size := kS.out.lt
 obtain ⟨rX0, rX1, rX2, rX3, rX4, rX5, rX6, rX7⟩ := kX.out.cells8
 have zX : bX < w4.heap.size := kX.out.lt
 go_wp2_with fail
 clear rC0 rC1 rC2 rC3 rC4 rC5 rC6 rC7 zC rS0 rS1 zS rX0 rX1 rX2 rX3 rX4 rX5 rX6 rX7 zX
 go_at_call 10
 refine (JW.out w4 B4).mono ?_
 rintro e w5 ⟨rfl, hb⟩
 replace kC := hide (kC.out.grow hb)
 replace kS := hide (kS.out.grow hb)
 replace kX := hide (kX.out.grow hb)
 have B5 := bup B4 hb
 clear hb B4
 obtain ⟨rC0, rC1, rC2, rC3, rC4, rC5, rC6, rC7⟩ := kC.out.cells8
 have zC : bC < w5.heap.size := kC.out.lt
 have zC_1 : bC < w5.heap.size + 1 := by omega
 obtain ⟨rS0, rS1⟩ := kS.out.cells2
 have zS : bS < w5.heap.size := kS.out.lt
 have zS_1 : bS < w5.heap.size + 1 := by omega
 obtain ⟨rX0, rX1, rX2, rX3, rX4, rX5, rX6, rX7⟩ := kX.out.cells8
 have zX : bX < w5.heap.size := kX.out.lt
 have zX_1 : bX < w5.heap.size + 1 := by omega
 go_wp2_with fail
 clear rC0 rC1 rC2 rC3 rC4 rC5 rC6 rC7 zC zC_1 rS0 rS1 zS zS_1 rX0 rX1 rX2 rX3 rX4 rX5 rX6 rX7 zX zX_1
 obtain ⟨w6, hw6, hb, kT⟩ := al1 w5 #[I z1, I z2] 23
 replace kC := hide (kC.out.grow hb)
 replace kS := hide (kS.out.grow hb)
 replace kX := hide (kX.out.grow hb)
 have B6 := bup B5 hb
 rw [← hw6]
 clear hw6 hb B5
 obtain ⟨bT, hbT⟩ : ∃ b, w5.heap.size = b := ⟨_, rfl⟩
 rw [hbT] at kT ⊢
 replace kT := hide kT
 clear hbT
 go_at_call 11
 refine (KW.out w6 B6).mono ?_
 rintro e w7 ⟨rfl, hb⟩
 replace kC := hide (kC.out.grow hb)
 replace kS := hide (kS.out.grow hb)
 replace kX := hide (kX.out.grow hb)
 replace kT := hide (kT.out.grow hb)
 have B7 := bup B6 hb
 clear hb B6
 obtain ⟨rC0, rC1, rC2, rC3, rC4, rC5, rC6, rC7⟩ := kC.out.cells8
 have zC : bC < w7.heap.size := kC.out.lt
 have zC_1 : bC < w7.heap.size + 1 := by omega
 obtain ⟨rX0, rX1, rX2, rX3, rX4, rX5, rX6, rX7⟩ := kX.out.cells8
 have zX : bX < w7.heap.size := kX.out.lt
 have zX_1 : bX < w7.heap.size + 1 := by omega
 go_wp2_with fail
 clear rC0 rC1 rC2 rC3 rC4 rC5 rC6 rC7 zC zC_1 rX0 rX1 rX2 rX3 rX4 rX5 rX6 rX7 zX zX_1
 obtain ⟨w8, hw8, hb, kU⟩ := al1 w7 #[I z1, I z2] 23
 replace kC := hide (kC.out.grow hb)
 replace kS := hide (kS.out.grow hb)
 replace kX := hide (kX.out.grow hb)
 replace kT := hide (kT.out.grow hb)
 have B8 := bup B7 hb
 rw [← hw8]
 clear hw8 hb B7
 obtain ⟨bU, hbU⟩ : ∃ b, w7.heap.size = b := ⟨_, rfl⟩
 rw [hbU] at kU ⊢
 replace kU := hide kU
 clear hbU
 go_at_call 12
 refine (JX.out w8 B8).mono ?_
 rintro e w9 ⟨rfl, hb⟩
 replace kC := hide (kC.out.grow hb)
 replace kS := hide (kS.out.grow hb)
 replace kX := hide (kX.out.grow hb)
 replace kT := hide (kT.out.grow hb)
 replace kU := hide (kU.out.grow hb)
 have B9 := bup B8 hb
 clear hb B8
 obtain ⟨rC0, rC1, rC2, rC3, rC4, rC5, rC6, rC7⟩ := kC.out.cells8
 have zC : bC < w9.heap.size := kC.out.lt
 have zC_1 : bC < w9.heap.size + 1 := by omega
 obtain ⟨rX0, rX1, rX2, rX3, rX4, rX5, rX6, rX7⟩ := kX.out.cells8
 have zX : bX < w9.heap.size := kX.out.lt
 have zX_1 : bX < w9.heap.size + 1 := by omega
 go_wp2_with fail
 clear rC0 rC1 rC2 rC3 rC4 rC5 rC6 rC7 zC zC_1 rX0 rX1 rX2 rX3 rX4 rX5 rX6 rX7 zX zX_1
 obtain ⟨w10, hw10, hb, kP⟩ := al1 w9 #[I y1, I y2] 23
 replace kC := hide (kC.out.grow hb)
 replace kS := hide (kS.out.grow hb)
 replace kX := hide (kX.out.grow hb)
 replace kT := hide (kT.out.grow hb)
 replace kU := hide (kU.out.grow hb)
 have B10 := bup B9 hb
 rw [← hw10]
 clear hw10 hb B9
 obtain ⟨bP, hbP⟩ : ∃ b, w9.heap.size = b := ⟨_, rfl⟩
 rw [hbP] at kP ⊢
 replace kP := hide kP
 clear hbP
 go_at_call 13
 refine (KX.out w10 B10).mono ?_
 rintro e w11 ⟨rfl, hb⟩
 replace kC := hide (kC.out.grow hb)
 replace kS := hide (kS.out.grow hb)
 replace kX := hide (kX.out.grow hb)
 replace kT := hide (kT.out.grow hb)
 replace kU := hide (kU.out.grow hb)
 replace kP := hide (kP.out.grow hb)
 have B11 := bup B10 hb
 clear hb B10
 obtain ⟨rT0, rT1⟩ := kT.out.cells2
 have zT : bT < w11.heap.size := kT.out.lt
 have zT_1 : bT < w11.heap.size + 1 := by omega
 obtain ⟨rU0, rU1⟩ := kU.out.cells2
 have zU : bU < w11.heap.size := kU.out.lt
 have zU_1 : bU < w11.heap.size + 1 := by omega
 obtain ⟨rP0, rP1⟩ := kP.out.cells2
 have zP : bP < w11.heap.size := kP.out.lt
 have zP_1 : bP < w11.heap.size + 1 := by omega
 (go_wp2_with fail; go_ret; exact ⟨rfl, bup B11 (below1 _ _)⟩)
end Go.Proofs.YtoojedjmlcdomaaGreatDoor
