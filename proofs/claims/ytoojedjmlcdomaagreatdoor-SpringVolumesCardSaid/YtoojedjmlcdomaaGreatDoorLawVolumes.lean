/- The law SpringVolumes: what comes is within what Volumes returns, and both ends are attained. Conditions stand in the theorems. -/
import Derived.Test.YtoojedjmlcdomaaGreatDoorSpring28
import Derived.Test.YtoojedjmlcdomaaGreatDoorOneBetw
import Derived.Test.YtoojedjmlcdomaaGreatDoorRefQPack
import Derived.Test.YtoojedjmlcdomaaGreatDoorOneSkip2
import Derived.Test.YtoojedjmlcdomaaGreatDoorOneIn
import Derived.Test.YtoojedjmlcdomaaGreatDoorOneField
set_option linter.all false
set_option maxHeartbeats 8000000
set_option maxRecDepth 100000
namespace Go.Proofs.YtoojedjmlcdomaaGreatDoor
open Go.RowKit

theorem RowsAt.end_ {w : World} {base : Nat} {v : Value} {xss : List (List Int)} (h : RowsAt w base v xss) {d : Nat} {row : List Int} (hd : xss[d]? = some row) (hr : 0 < row.length) (hn : row.length ≤ 140737488355328) :
  ∃ g m g2 c2, v = .slice (some ⟨g, 0, none⟩) xss.length m ∧ g < w.heap.size ∧ w.cell? ⟨g, d, none⟩ = some (.slice (some ⟨g2, 0, none⟩) row.length c2) ∧ Sl w 1 intC (.slice (some ⟨g2, 0, none⟩) row.length c2) row := by
 obtain ⟨vs, h1, h2, h3⟩ := h
 obtain ⟨u, hu, ho⟩ := h3 d row hd
 have hdl : d < vs.length := (List.getElem?_eq_some_iff.1 hu).1
 obtain ⟨g, m, rfl, hg1, hg2⟩ := World.ownsRow.form h2 (by omega)
 obtain ⟨g2, c2, huv, k1, k2⟩ := World.ownsRow.form ho hr
 refine ⟨g, m, g2, c2, by rw [h1], hg2, ?_, ?_⟩
 ·have hf := flat_at oneC_len vs d u hu 0 u.v rfl
  have hc := World.ownsRow.cellAt h2 d (by omega)
  rw [hc, ← huv]
  simpa using hf
 ·rw [← huv]
  exact ho.sl intC_len hn
theorem comes_x {c : Climate} {xs : List SprL} {s : Scene} {V : SceneV} {v vl : Value} {l : List Int} {a b : Int} {w : World} (hE : volsE c xs s l a b = 0) (hx : SprsAt w v xs) (hs : SceneAt w s V) (hl : Sl w 1 intC vl l)
  (x : SprL) (hm : x ∈ xs) (k : Int) (hk : k ∈ facL c) (vr : Value) (row : List Int) (hrl : row.length = s.basin.cells.length) (hrb : ∀ u ∈ row, 0 ≤ u ∧ u ≤ 65536) (w' : World) (hb : Below w.heap.size w w') (hr : Sl w' 1 intC vr row) :
  Calls Tryz.prog 17 #[c.v, .agg #[I x.no, x.dv], s.v V, vr, vl, I k, I a, I b] w' fun e w'' => e = .returned (.tuple #[I (comeF c s l row k a b x), .bool true]) ∧ Below w'.heap.size w' w'' := by
 obtain ⟨a1, a2, a3, a4, a5, a6, ⟨a7, a8⟩, _⟩ := vols_is hE
 have ho : SprOk c x.spring := .of (a2 x hm)
 have hF : 0 ≤ k ∧ k ≤ 2000 := by have := mem_facL.1 hk; have := ho.clim.flo; have := ho.clim.fhi; omega
 have hsp := a6 x hm
 simp only [spellB, Bool.and_eq_true, decide_eq_true_eq] at hsp
 exact law_comes c x.no x.dv x.days s V vr row vl l k a b w' ho.clim ho.mem ho.n2 (hs.mono hb) hr (hl.mono hb) ((hx.2 x hm).mono hb) a3 a5 hrl hrb hF (a2 x hm) (inB_true.2 ⟨hsp.1.1, Int.le_trans hsp.1.2 hsp.2⟩) (inB_true.2 ⟨Int.le_trans hsp.1.1 hsp.1.2, hsp.2⟩)
theorem law_Volumes (c : Climate) (v : Value) (xs : List SprL) (s : Scene) (V : SceneV) (vl : Value) (l : List Int) (a b fac : Int) (vf : Value) (f : List RowL) (w : World) (hp : Pow10 w) (hx : SprsAt w v xs) (hs : SceneAt w s V) (hl : Sl w 1 intC vl l) (hf : FieldAt w vf f) :
  Calls Tryz.prog 4 #[c.v, v, s.v V, vl, I a, I b, I fac, vf] w fun e w' => e = .returned (.bool true) ∧ Below w.heap.size w w' := by
 obtain ⟨Ac, nc, hcc, _⟩ := hs.cells.open_
 obtain ⟨Ap, np, hpp, _⟩ := hs.pairs.open_
 obtain ⟨Ad, nd, hdd, _⟩ := hs.days.open_
 obtain ⟨As, ns, hss, _⟩ := hs.sights.open_
 obtain ⟨Ah, nh, hch, _⟩ := hs.changes.open_
 obtain ⟨Al, nl2, hvl, _⟩ := hl.open_
 obtain ⟨Ax, nx, hvx, _, _, hxl, hAx⟩ := hx.1.open_
 obtain ⟨Af, nf, hvf, _, _, hfl, hAf⟩ := hf.1.open_
 have JC := fun w' => spring_CheckClimate c w'
 have JX := fun w' (hb : Below w.heap.size w w') => spring_Volumes c v xs s V vl l a b w' (hx.mono hb) (hs.mono hb) (hl.mono hb)
 have JS := fun w' (hb : Below w.heap.size w w') => law_skip v xs s V w' (hx.mono hb) (hs.mono hb)
 have JF := fun w' (hb : Below w.heap.size w w') => basin_CheckField s V vf f w' (hs.mono hb) (hf.mono hb)
 have JL := fun w' (hb : Below w.heap.size w w') => basin_Least s V w' (hs.mono hb)
 have JG := fun w' (hb : Below w.heap.size w w') => basin_Greatest s V w' (hs.mono hb)
 have JI := fun n lo hi w' => law_in n lo hi w'
 have JM := fun (hE : volsE c xs s l a b = 0) x hm k hk vr row hrl hrb w' hb hr => comes_x hE hx hs hl x hm k hk vr row hrl hrb w' hb hr
 have M1 := fun (h : volsE c xs s l a b = 0) => vols_is h
 have M2 := fun (h : volsE c xs s l a b = 0) (x : SprL) (hx : x ∈ xs) (k : Int) (hk : k ∈ facL c) (row : List Int) h1 h2 => vols_one h (x := x) hx (k := k) hk (row := row) h1 h2
 have M3 := fun (h : volsE c xs s l a b = 0) => vols_att h
 have M4 : volsE c xs s l a b ≠ 0 → volsV c xs s l a b = (0, 0) := fun h => by rw [volsV, if_neg h]
 have M5 := fun (h : fieldE s f = 0) h1 h2 r (hr : f[f.length - 1]? = some r) => field_last h h1 h2 hr
 have hx1 := hx.1
 have hx2 := hx.2
 have hf1 := hf.1
 have hf2 := hf.2
 obtain ⟨Z, hZ⟩ : ∃ z, volsV c xs s l a b = z := ⟨_, rfl⟩
 obtain ⟨E, hE⟩ : ∃ z, volsE c xs s l a b = z := ⟨_, rfl⟩
 simp only [hZ, hE] at JX JM M1 M2 M3 M4
 clear hZ hE
 obtain ⟨z1, z2⟩ := Z
 simp only at JX
 unfold Scene.v at *
 simp only [hcc, hpp, hdd, hss, hch, hvl, hvx, hvf] at JX JS JF JL JG JM hx1 hf1 ⊢
 (try unfold Climate.v at *)
 clear hcc hpp hdd hss hch hvl hvx hvf hs hl hx hf
 replace JX := hide JX
 replace JS := hide JS
 replace JF := hide JF
 replace JL := hide JL
 replace JG := hide JG
 replace JM := hide JM
 replace M1 := hide M1
 replace M2 := hide M2
 replace M3 := hide M3
 replace M4 := hide M4
 replace M5 := hide M5
 replace hx1 := hide hx1
 replace hx2 := hide hx2
 replace hf1 := hide hf1
 replace hf2 := hide hf2
 replace hAx := hide hAx
 replace hAf := hide hAf
 replace hp := hide hp
 (try unfold Climate.v at *)
 (try unfold Weather.v at *)
 go_enter Tryz.func4, Tryz.ntmps4
 have B0 : Below w.heap.size w w := Below.refl _ _
 go_wp2_with fail
 obtain ⟨w1, hw1, hb, kC, kX⟩ := al2 w (c8 c) 25 (s8 s Ac nc Ap np Ad nd As ns Ah nh) 38
 have B1 := bup B0 hb
 rw [← hw1]
 clear hw1 hb B0
 obtain ⟨bX, hbX⟩ : ∃ b, w.heap.size + 1 = b := ⟨_, rfl⟩
 rw [hbX] at kX ⊢
 obtain ⟨bC, hbC⟩ : ∃ b, w.heap.size = b := ⟨_, rfl⟩
 rw [hbC] at kC ⊢
 replace kC := hide kC
 replace kX := hide kX
 clear hbC
 clear hbX
 go_at_call 7
 refine (law_sane w1 (hp.out.mono B1)).mono ?_
 rintro e w2 ⟨rfl, hb⟩
 replace kC := hide (kC.out.grow hb)
 replace kX := hide (kX.out.grow hb)
 have B2 := bup B1 hb
 clear hb B1
 obtain ⟨rX0, rX1, rX2, rX3, rX4, rX5, rX6, rX7⟩ := kX.out.cells8
 have zX : bX < w2.heap.size := kX.out.lt
 go_wp2_with fail
 clear rX0 rX1 rX2 rX3 rX4 rX5 rX6 rX7 zX
 go_at_call 8
 refine (JS.out w2 B2).mono ?_
 rintro e w3 ⟨⟨q, rfl⟩, hb⟩
 replace kC := hide (kC.out.grow hb)
 replace kX := hide (kX.out.grow hb)
 have B3 := bup B2 hb
 clear hb B2
 obtain ⟨rC0, rC1, rC2, rC3, rC4, rC5, rC6, rC7⟩ := kC.out.cells8
 have zC : bC < w3.heap.size := kC.out.lt
 cases q
 case true => (go_wp2_with fail; go_ret; exact ⟨rfl, B3⟩)
 cases g1 : decide ((6 : Int) < xs.length)
 case true => (go_wp2_with fail; go_ret; exact ⟨rfl, B3⟩)
 obtain ⟨K, hK⟩ : ∃ K, climateE c = K := ⟨_, rfl⟩
 rw [hK] at JC
 by_cases k0 : K = 0
 case neg =>
  have k1 : (K != 0) = true := by simpa using k0
  replace JC := hide JC
  go_wp2_with (go_at_call 14; refine (JC.out _).mono ?_; rintro e wz ⟨rfl, hbz⟩)
  go_ret
  exact ⟨rfl, bup B3 hbz⟩
 subst k0
 have hco : ClimOk c := .of (Decidable.byContradiction fun h => by simp [climateE, h] at hK)
 have c1 := hco.flo
 have c2 := hco.fhi
 have c3 := hco.fl
 have c4 : c.fhi ≤ c.flo + 50 := hco.spread
 have d1 : decide (c.flo < 0) = false := decide_eq_false (by omega)
 have d2 : decide ((2000 : Int) < c.fhi) = false := decide_eq_false (by omega)
 have d3 : IntKind.i64.wrap (c.fhi - c.flo) = c.fhi - c.flo := IntWalk.i64_in _ (by omega)
 have d4 : decide ((50 : Int) < c.fhi - c.flo) = false := decide_eq_false (by omega)
 replace JC := hide JC
 replace hco := hide hco
 clear hK
 go_wp2_with fail
 clear rC0 rC1 rC2 rC3 rC4 rC5 rC6 rC7 zC
 go_at_call 14
 refine (JC.out _).mono ?_
 rintro e w4 ⟨rfl, hb⟩
 replace kC := hide (kC.out.grow hb)
 replace kX := hide (kX.out.grow hb)
 have B4 := bup B3 hb
 clear hb B3
 obtain ⟨rC0, rC1, rC2, rC3, rC4, rC5, rC6, rC7⟩ := kC.out.cells8
 have zC : bC < w4.heap.size := kC.out.lt
 obtain ⟨rX0, rX1, rX2, rX3, rX4, rX5, rX6, rX7⟩ := kX.out.cells8
 have zX : bX < w4.heap.size := kX.out.lt
 go_wp2_with fail
 clear rC0 rC1 rC2 rC3 rC4 rC5 rC6 rC7 zC rX0 rX1 rX2 rX3 rX4 rX5 rX6 rX7 zX
 clear d1 d2 d3 d4
 go_at_call 12
 refine (JX.out w4 B4).mono ?_
 rintro e w5 ⟨rfl, hb⟩
 replace kC := hide (kC.out.grow hb)
 replace kX := hide (kX.out.grow hb)
 have B5 := bup B4 hb
 clear hb B4
 by_cases hE : E = 0
 case neg =>
  have h8 := M4.out hE
  injection h8 with h8 h9
  subst h8 h9
  have h7 : (E != 0) = true := by simpa using hE
  go_wp2_with fail
  go_ret
  exact ⟨rfl, bup B5 (below1 _ _)⟩
 subst hE
 obtain ⟨n1, n2, n3, n4, n5, n6, ⟨n7, n8⟩, n9⟩ := M1.out rfl
 injection n9 with n9 n10
 have hm1 := (SceneOk.of n3).hd1
 have hm2 := (SceneOk.of n3).hd2
 have hcl := (SceneOk.of n3).basin.hc1
 have hcl2 := (SceneOk.of n3).basin.hc2
 obtain ⟨rl1, rl2, rl3⟩ := leastF_last (SceneOk.of n3)
 obtain ⟨rg1, rg2, rg3⟩ := greatF_last (SceneOk.of n3)
 have rlb := leastF_bd (SceneOk.of n3) n7 _ (lastRow_mem (xss := leastF s) (i := s.days.length - 1) rl1)
 have rgb := greatF_bd (SceneOk.of n3) n8 _ (lastRow_mem (xss := greatF s) (i := s.days.length - 1) rg1)
 have rle : LeL (lastRow (leastF s)) (lastRow (greatF s)) := least_great n3 n7 n8
 have JM1 := JM.out rfl
 have M21 := M2.out rfl
 have M31 := M3.out rfl
 simp only [← n9, ← n10] at M21 M31
 have M51 := fun h => M5.out h n7 n8
 clear M1 M2 M3 M4 M5 JM n9 n10 JX JS JC
 replace JM1 := hide JM1
 replace M21 := hide M21
 replace M31 := hide M31
 replace M51 := hide M51
 replace n1 := hide n1
 replace n2 := hide n2
 replace n3 := hide n3
 replace n4 := hide n4
 replace n5 := hide n5
 replace n6 := hide n6
 replace n7 := hide n7
 replace n8 := hide n8
 replace rl1 := hide rl1
 replace rg1 := hide rg1
 replace rl2 := hide rl2
 replace rg2 := hide rg2
 replace rl3 := hide rl3
 replace rg3 := hide rg3
 replace rlb := hide rlb
 replace rgb := hide rgb
 replace rle := hide rle
 replace hm1 := hide hm1
 replace hm2 := hide hm2
 replace hcl := hide hcl
 replace hcl2 := hide hcl2
 obtain ⟨rC0, rC1, rC2, rC3, rC4, rC5, rC6, rC7⟩ := kC.out.cells8
 have zC : bC < w5.heap.size := kC.out.lt
 have zC_1 : bC < w5.heap.size + 1 := by omega
 obtain ⟨rX0, rX1, rX2, rX3, rX4, rX5, rX6, rX7⟩ := kX.out.cells8
 have zX : bX < w5.heap.size := kX.out.lt
 have zX_1 : bX < w5.heap.size + 1 := by omega
 go_upto_region 8 with fail
 clear rC0 rC1 rC2 rC3 rC4 rC5 rC6 rC7 zC zC_1 rX0 rX1 rX2 rX3 rX4 rX5 rX6 rX7 zX zX_1
 obtain ⟨w6, hw6, hb, kT⟩ := al1 w5 #[I z1, I z2] 23
 replace kC := hide (kC.out.grow hb)
 replace kX := hide (kX.out.grow hb)
 have B6 := bup B5 hb
 rw [← hw6]
 clear hw6 hb B5
 obtain ⟨bT, hbT⟩ : ∃ b, w5.heap.size = b := ⟨_, rfl⟩
 rw [hbT] at kT ⊢
 replace kT := hide kT
 clear hbT
 go_cut [101] from 87 to 101 (fun q_ w_ => ∃ q : Bool, q_ = .bool q ∧ Hid (q = true → 0 < f.length ∧ fieldE s f = 0 ∧ inB fac c.flo c.fhi = true) ∧ Hid (Below w6.heap.size w6 w_))
 case first =>
  cases f1 : decide (0 < f.length)
  case false => (go_wp2_with fail; go_meet; exact ⟨false, rfl, hide (fun h => nomatch h), hide (Below.refl _ _)⟩)
  obtain ⟨F, hF⟩ : ∃ F, fieldE s f = F := ⟨_, rfl⟩
  rw [hF] at JF
  obtain ⟨rC0, rC1, rC2, rC3, rC4, rC5, rC6, rC7⟩ := kC.out.cells8
  have zC : bC < w6.heap.size := kC.out.lt
  obtain ⟨rX0, rX1, rX2, rX3, rX4, rX5, rX6, rX7⟩ := kX.out.cells8
  have zX : bX < w6.heap.size := kX.out.lt
  by_cases k0 : F = 0
  case neg =>
   have k1 : (F == 0) = false := by simpa using k0
   go_wp2_with (go_at_call 15; refine (JF.out _ B6).mono ?_; rintro e wz ⟨rfl, hbz⟩)
   go_meet
   exact ⟨false, rfl, hide (fun h => nomatch h), hide hbz⟩
  subst k0
  replace hF := hide hF
  go_wp2_with fail
  clear rC0 rC1 rC2 rC3 rC4 rC5 rC6 rC7 zC rX0 rX1 rX2 rX3 rX4 rX5 rX6 rX7 zX
  go_at_call 15
  refine (JF.out _ B6).mono ?_
  rintro e wz ⟨rfl, hbz⟩
  obtain ⟨tC0, tC1, tC2, tC3, tC4, tC5, tC6, tC7⟩ := (kC.out.grow hbz).cells8
  have tC := (kC.out.grow hbz).lt
  go_wp2_with fail
  go_at_call 16
  refine (JI fac c.flo c.fhi _).mono ?_
  rintro e wy ⟨rfl, hby⟩
  obtain ⟨q, hq⟩ : ∃ q, inB fac c.flo c.fhi = q := ⟨_, rfl⟩
  rw [hq]
  replace hq := hide hq
  clear tC0 tC1 tC2 tC3 tC4 tC5 tC6 tC7 tC
  go_wp2_with fail
  go_meet
  exact ⟨q, rfl, hide (fun h => ⟨by simpa using f1, hF.out, by rw [hq.out]; exact h⟩), hide (bup hbz hby)⟩
 case rest =>
 obtain ⟨q, rfl, hq, hb⟩ := hcut
 replace kC := hide (kC.out.grow hb.out)
 replace kX := hide (kX.out.grow hb.out)
 replace kT := hide (kT.out.grow hb.out)
 have BA := bup B6 hb.out
 clear hb B6 JF
 obtain ⟨wA, hwA⟩ : ∃ W, wc = W := ⟨_, rfl⟩
 rw [hwA] at kC kX kT BA ⊢
 clear hwA
 go_upto_if 101 with fail
 go_cut [20, 21, 22] from 102 to 133 (fun _ _ _ w_ => Hid (Below wA.heap.size wA w_))
 case first =>
  cases q
  case false => (go_wp2_with fail; go_meet; exact hide (Below.refl _ _))
  obtain ⟨f0, f1, f2⟩ := hq.out rfl
  obtain ⟨r, hr⟩ := getElem?_of_lt (xs := f) (k := f.length - 1) (by omega)
  obtain ⟨h1, h2, h3⟩ := M51.out f1 r hr
  have hrb := LeL.bd h2 h3 (fun u hu => (rlb.out u hu).1) (fun u hu => (rgb.out u hu).2)
  have hk := mem_facL.2 (inB_true.1 f2)
  have HM := hide (fun x hx w' (hb : Below w.heap.size w w') => JM1.out x hx fac hk r.v r.l h1 hrb w' hb ((hf2.out r (List.mem_of_getElem? hr)).mono hb))
  have HI := hide (fun x (hx : x ∈ xs) => M21.out x hx fac hk r.l h2 h3)
  obtain ⟨gf, of, rfl, _⟩ := hAf.out 0 f0
  obtain ⟨rv, rl⟩ := r
  simp only at HM HI
  obtain ⟨m, hm⟩ : ∃ m : Nat, f.length - 1 = m := ⟨_, rfl⟩
  rw [hm] at hr
  have m1 : IntKind.i64.wrap ((f.length : Int) - 1) = (m : Int) := by rw [IntWalk.i64_in _ (by omega)]; omega
  have m2 : (0 : Int) ≤ (m : Int) := by omega
  have m3 : (m : Int) < (f.length : Int) := by omega
  replace hr := hide hr
  clear h1 h2 h3 hrb hk f1 f2 hm hq M51 M31 JL JG rl1 rl2 rl3 rg1 rg2 rg3 rlb rgb rle M21 JM1 hAf f0
  go_wp2_with fail
  go_loopw [20, 21, 22, 104] (fun _ _ _ i wr => ∃ k : Nat, k ≤ xs.length ∧ i = I k ∧ Hid (Below wA.heap.size wA wr)) (fun _ _ _ i _ => xs.length - (intOf i).toNat)
  case atStart => exact ⟨0, Nat.zero_le _, rfl, hide (Below.refl _ _)⟩
  case round =>
  obtain ⟨k, hk, rfl, hbw⟩ := hrel
  replace kC := hide (kC.out.grow hbw.out)
  replace kX := hide (kX.out.grow hbw.out)
  replace kT := hide (kT.out.grow hbw.out)
  have BM := bup BA hbw.out
  clear BA
  by_cases hlt : k < xs.length
  case neg => (go_wp2_with fail; go_meet; exact hbw)
  obtain ⟨x, hx⟩ := getElem?_of_lt hlt
  have hxm := List.mem_of_getElem? hx
  obtain ⟨gx, ox, rfl, _⟩ := hAx.out k hlt
  obtain ⟨zx, x0, x1⟩ := (hx1.out.mono BM).sprl_at hx
  have HMx := HM.out x hxm
  have HIx := HI.out x hxm
  obtain ⟨N, hN⟩ : ∃ N, comeF c s l rl fac a b x = N := ⟨_, rfl⟩
  rw [hN] at HMx HIx
  clear hN
  have HJ := fun w' => JI N z1 z2 w'
  rw [show inB N z1 z2 = true from inB_true.2 HIx] at HJ
  obtain ⟨no, dv, days⟩ := x
  simp only at HMx x0 x1
  obtain ⟨Aw, nw, hdv, _⟩ := (show Sl w 3 Weather.cells dv days from hx2.out _ hxm).open_
  rw [hdv] at HMx x1
  clear hdv HIx HM HI hxm
  replace HMx := hide HMx
  replace HJ := hide HJ
  replace hx := hide hx
  obtain ⟨zf, y0⟩ := (hf1.out.mono BM).rowl_at hr.out
  simp only at y0
  have x5 : (0 : Int) ≤ (k : Int) := by omega
  have x6 : (k : Int) < (xs.length : Int) := by omega
  obtain ⟨rC0, rC1, rC2, rC3, rC4, rC5, rC6, rC7⟩ := kC.out.cells8
  have zC : bC < wr.heap.size := kC.out.lt
  have zC_1 : bC < wr.heap.size + 1 := by omega
  obtain ⟨rX0, rX1, rX2, rX3, rX4, rX5, rX6, rX7⟩ := kX.out.cells8
  have zX : bX < wr.heap.size := kX.out.lt
  have zX_1 : bX < wr.heap.size + 1 := by omega
  go_upto_region 12 with fail
  clear rC0 rC1 rC2 rC3 rC4 rC5 rC6 rC7 zC zC_1 rX0 rX1 rX2 rX3 rX4 rX5 rX6 rX7 zX zX_1 x0 x1 zx y0 zf
  obtain ⟨w7, hw7, hb, kS⟩ := al1 wr #[I no, .slice Aw days.length nw] 28
  replace kC := hide (kC.out.grow hb)
  replace kX := hide (kX.out.grow hb)
  replace kT := hide (kT.out.grow hb)
  replace hbw := hide (bup hbw.out hb)
  have B7 := bup BM hb
  rw [← hw7]
  clear hw7 hb BM
  obtain ⟨bS, hbS⟩ : ∃ b, wr.heap.size = b := ⟨_, rfl⟩
  rw [hbS] at kS ⊢
  replace kS := hide kS
  clear hbS
  obtain ⟨zf, y0⟩ := (hf1.out.mono B7).rowl_at hr.out
  simp only at y0
  obtain ⟨rC0, rC1, rC2, rC3, rC4, rC5, rC6, rC7⟩ := kC.out.cells8
  have zC : bC < w7.heap.size := kC.out.lt
  obtain ⟨rX0, rX1, rX2, rX3, rX4, rX5, rX6, rX7⟩ := kX.out.cells8
  have zX : bX < w7.heap.size := kX.out.lt
  obtain ⟨rS0, rS1⟩ := kS.out.cells2
  have zS : bS < w7.heap.size := kS.out.lt
  (refine wp_grow ?_; (repeat go_big_quiet_step ((go_at_call 17; exact calls_grew (HMx.out _ (bup B7 (Grew.below _)))))); refine wp_grow0 ?_; intro W1 hW1)
  clear rC0 rC1 rC2 rC3 rC4 rC5 rC6 rC7 zC rX0 rX1 rX2 rX3 rX4 rX5 rX6 rX7 zX rS0 rS1 zS y0 zf
  replace kC := hide (kC.out.grow hW1)
  replace kX := hide (kX.out.grow hW1)
  replace kT := hide (kT.out.grow hW1)
  replace kS := hide (kS.out.grow hW1)
  have BN := bup B7 hW1
  replace hbw := hide (bup hbw.out hW1)
  clear B7
  obtain ⟨rT0, rT1⟩ := kT.out.cells2
  have zT : bT < W1.heap.size := kT.out.lt
  go_wp2_with (go_at_call 16; refine (HJ.out _).mono ?_; rintro e wy ⟨rfl, hby⟩)
  go_roundw
  case rel => exact ⟨k + 1, by omega, by go_num, hide (bup hbw.out hby)⟩
  case measure => simp [intOf]; omega
 case rest =>
 replace kC := hide (kC.out.grow hcut.out)
 replace kX := hide (kX.out.grow hcut.out)
 replace kT := hide (kT.out.grow hcut.out)
 have BD := bup BA hcut.out
 clear BA hcut JI hf1 hf2 M51 hAf
 obtain ⟨wD, hwD⟩ : ∃ W, wc = W := ⟨_, rfl⟩
 rw [hwD] at kC kX kT BD ⊢
 clear hwD
 have JL2 := hide (fun w' hb => (JL.out w' hb).mono (fun e w2 ⟨v, h1, h2, _, h3⟩ => (⟨v, by rw [n7.out] at h1; exact h1, h2 n7.out, h3⟩ : ∃ v : Value, e = Ending.returned (.tuple #[v, I 0]) ∧ RowsAt w2 w'.heap.size v (leastF s) ∧ Below w'.heap.size w' w2)))
 have JG2 := hide (fun w' hb => (JG.out w' hb).mono (fun e w2 ⟨v, h1, h2, _, h3⟩ => (⟨v, by rw [n8.out] at h1; exact h1, h2 n8.out, h3⟩ : ∃ v : Value, e = Ending.returned (.tuple #[v, I 0]) ∧ RowsAt w2 w'.heap.size v (greatF s) ∧ Below w'.heap.size w' w2)))
 clear JL JG
 obtain ⟨rX0, rX1, rX2, rX3, rX4, rX5, rX6, rX7⟩ := kX.out.cells8
 have zX : bX < wD.heap.size := kX.out.lt
 go_wp2_with fail
 clear rX0 rX1 rX2 rX3 rX4 rX5 rX6 rX7 zX
 go_at_call 18
 refine (JL2.out wD BD).mono ?_
 rintro e w8 ⟨vL, rfl, hRL, hb⟩
 replace kC := hide (kC.out.grow hb)
 replace kX := hide (kX.out.grow hb)
 replace kT := hide (kT.out.grow hb)
 have B8 := bup BD hb
 clear hb BD
 obtain ⟨gL, mL, g2, c2, rfl, zL, eL, sL⟩ := hRL.end_ rl1.out (by rw [rl2.out]; exact hcl.out) (by rw [rl2.out]; have := hcl2.out; omega)
 have HL := hide (fun W (h : Below w8.heap.size w8 W) => (⟨Nat.lt_of_lt_of_le zL h.size, (h.cell (p := ⟨gL, s.days.length - 1, none⟩) zL).trans eL, sL.mono h⟩ : gL < W.heap.size ∧ W.cell? ⟨gL, s.days.length - 1, none⟩ = some (.slice (some ⟨g2, 0, none⟩) (lastRow (leastF s)).length c2) ∧ Sl W 1 intC (.slice (some ⟨g2, 0, none⟩) (lastRow (leastF s)).length c2) (lastRow (leastF s))))
 clear zL eL sL hRL
 rw [rl3.out]
 obtain ⟨rX0, rX1, rX2, rX3, rX4, rX5, rX6, rX7⟩ := kX.out.cells8
 have zX : bX < w8.heap.size := kX.out.lt
 go_wp2_with fail
 clear rX0 rX1 rX2 rX3 rX4 rX5 rX6 rX7 zX
 have hLG := hide (Below.refl w8.heap.size w8)
 go_at_call 19
 refine (JG2.out w8 B8).mono ?_
 rintro e w9 ⟨vG, rfl, hRG, hb⟩
 replace kC := hide (kC.out.grow hb)
 replace kX := hide (kX.out.grow hb)
 replace kT := hide (kT.out.grow hb)
 have B9 := bup B8 hb
 replace hLG := hide (bup hLG.out hb)
 clear hb B8
 obtain ⟨gG, mG, g3, c3, rfl, zG, eG, sG⟩ := hRG.end_ rg1.out (by rw [rg2.out]; exact hcl.out) (by rw [rg2.out]; have := hcl2.out; omega)
 have HG := hide (fun W (h : Below w9.heap.size w9 W) => (⟨HL.out W (bup hLG.out h), Nat.lt_of_lt_of_le zG h.size, (h.cell (p := ⟨gG, s.days.length - 1, none⟩) zG).trans eG, sG.mono h⟩ : (gL < W.heap.size ∧ W.cell? ⟨gL, s.days.length - 1, none⟩ = some (.slice (some ⟨g2, 0, none⟩) (lastRow (leastF s)).length c2) ∧ Sl W 1 intC (.slice (some ⟨g2, 0, none⟩) (lastRow (leastF s)).length c2) (lastRow (leastF s))) ∧ gG < W.heap.size ∧ W.cell? ⟨gG, s.days.length - 1, none⟩ = some (.slice (some ⟨g3, 0, none⟩) (lastRow (greatF s)).length c3) ∧ Sl W 1 intC (.slice (some ⟨g3, 0, none⟩) (lastRow (greatF s)).length c3) (lastRow (greatF s))))
 clear zG eG sG hRG HL hLG JL2 JG2
 rw [rg3.out]
 have b1 : ((s.days.length : Int) == 0) = false := beq_eq_false_iff_ne.2 (by have := hm1.out; omega)
 obtain ⟨m, hm⟩ : ∃ m : Nat, s.days.length - 1 = m := ⟨_, rfl⟩
 rw [hm] at HG
 have b2 : IntKind.i64.wrap ((s.days.length : Int) - 1) = (m : Int) := by have := hm1.out; have := hm2.out; rw [IntWalk.i64_in _ (by omega)]; omega
 have b3 : (0 : Int) ≤ (m : Int) := by omega
 have b4 : (m : Int) < (s.days.length : Int) := by have := hm1.out; omega
 have MA : ∀ k ∈ facL c, ∀ x ∈ xs, (z1 ≤ comeF c s l (lastRow (leastF s)) k a b x ∧ comeF c s l (lastRow (leastF s)) k a b x ≤ z2) ∧ z1 ≤ comeF c s l (lastRow (greatF s)) k a b x ∧ comeF c s l (lastRow (greatF s)) k a b x ≤ z2 := fun k hk x hx => ⟨M21.out x hx k hk _ (LeL.refl _) rle.out, M21.out x hx k hk _ rle.out (LeL.refl _)⟩
 have MB : ∀ k ∈ facL c, ∀ x (hx : x ∈ xs) w' (hb : Below w.heap.size w w') vr, (Sl w' 1 intC vr (lastRow (leastF s)) → _) ∧ (Sl w' 1 intC vr (lastRow (greatF s)) → _) := fun k hk x hx w' hb vr => ⟨fun hr => JM1.out x hx k hk vr _ rl2.out rlb.out w' hb hr, fun hr => JM1.out x hx k hk vr _ rg2.out rgb.out w' hb hr⟩
 obtain ⟨⟨ka, hka, xa, hxa, ha⟩, kb, hkb, xb, hxb, hb_⟩ := M31.out
 obtain ⟨lo, hlo⟩ : ∃ q, comeF c s l (lastRow (leastF s)) = q := ⟨_, rfl⟩
 obtain ⟨up, hup⟩ : ∃ q, comeF c s l (lastRow (greatF s)) = q := ⟨_, rfl⟩
 simp only [hlo, hup] at MA MB ha hb_
 clear hlo hup
 have GA : gotB (fun k x => lo k a b x == z1) c xs (nFac c) 0 = true := got_all hka hxa (by simpa using ha)
 have GB : gotB (fun k x => up k a b x == z2) c xs (nFac c) 0 = true := got_all hkb hxb (by simpa using hb_)
 have GA1 := fun j i x h => got_step (fun k x => lo k a b x == z1) c (xs := xs) j (i := i) (x := x) h
 have GB1 := fun j i x h => got_step (fun k x => up k a b x == z2) c (xs := xs) j (i := i) (x := x) h
 have GA2 := fun j h => got_next (fun k x => lo k a b x == z1) (c := c) xs (j := j) h
 have GB2 := fun j h => got_next (fun k x => up k a b x == z2) (c := c) xs (j := j) h
 have GA0 := got_zero (fun k x => lo k a b x == z1) c xs
 have GB0 := got_zero (fun k x => up k a b x == z2) c xs
 obtain ⟨g, hg⟩ : ∃ q, gotB (fun k x => lo k a b x == z1) c xs = q := ⟨_, rfl⟩
 obtain ⟨h, hh⟩ : ∃ q, gotB (fun k x => up k a b x == z2) c xs = q := ⟨_, rfl⟩
 simp only [hg] at GA GA0 GA1 GA2
 simp only [hh] at GB GB0 GB1 GB2
 clear hg hh ha hb_ hka hkb hxa hxb M31 M21 JM1 rle rlb rgb rl1 rg1 rl3 rg3 hm
 replace MA := hide MA
 replace MB := hide MB
 replace GA := hide GA
 replace GB := hide GB
 replace GA1 := hide GA1
 replace GB1 := hide GB1
 replace GA2 := hide GA2
 replace GB2 := hide GB2
 replace GA0 := hide GA0
 replace GB0 := hide GB0
 have hc1 := hco.out.flo
 have hc2 := hco.out.fl
 have hc3 := hco.out.fhi
 replace hc1 := hide hc1
 replace hc2 := hide hc2
 replace hc3 := hide hc3
 obtain ⟨rC0, rC1, rC2, rC3, rC4, rC5, rC6, rC7⟩ := kC.out.cells8
 have zC : bC < w9.heap.size := kC.out.lt
 go_upto_region 18 with fail
 have b5 : ¬ s.days = [] := fun h => by have := hm1.out; rw [h] at this; simp at this
 have b6 : ¬ s.days.length = 0 := by have := hm1.out; omega
 go_upto_region 20 with fail
 go_upto_region 21 with fail
 go_wp2_with fail
 clear rC0 rC1 rC2 rC3 rC4 rC5 rC6 rC7 zC
 have FX := hide (fun W (h : Below w9.heap.size w9 W) => And.intro (hide (kC.out.grow h)) (And.intro (hide (kX.out.grow h)) (And.intro (hide (kT.out.grow h)) (And.intro (bup B9 h) (HG.out W h)))))
 clear kC kX kT B9 HG
 go_loopw [26, 27, 28, 30, 31, 32, 33, 34] (fun lb mb kk _ _ _ _ _ wr => ∃ j : Nat, j ≤ nFac c ∧ kk = I (c.flo + j) ∧ lb = .bool (g j 0) ∧ mb = .bool (h j 0) ∧ Hid (Below w9.heap.size w9 wr)) (fun _ _ kk _ _ _ _ _ _ => (c.fhi + 1 - intOf kk).toNat)
 case atStart => exact ⟨0, Nat.zero_le _, by simp, by rw [GA0.out], by rw [GB0.out], hide (Below.refl _ _)⟩
 case round =>
 obtain ⟨j, hj, rfl, rfl, rfl, hbw⟩ := hrel
 obtain ⟨kC, kX, kT, BM, _⟩ := FX.out wr hbw.out
 have hnf : (nFac c : Int) = c.fhi - c.flo + 1 := by have := hc2.out; unfold nFac; omega
 by_cases hlt : j < nFac c
 case neg =>
  have he : j = nFac c := by omega
  subst he
  rw [GA.out, GB.out]
  have q1 : decide (c.flo + (nFac c : Int) ≤ c.fhi) = false := decide_eq_false (by omega)
  clear hnf
  obtain ⟨rC0, rC1, rC2, rC3, rC4, rC5, rC6, rC7⟩ := kC.out.cells8
  have zC : bC < wr.heap.size := kC.out.lt
  go_wp2_with fail
  go_ret
  exact ⟨rfl, BM⟩
 have q1 : decide (c.flo + (j : Int) ≤ c.fhi) = true := decide_eq_true (by omega)
 have q2 : IntKind.i64.wrap (c.flo + (j : Int) + 1) = c.flo + ((j + 1 : Nat) : Int) := by have := hc1.out; have := hc3.out; rw [IntWalk.i64_in _ (by omega)]; push_cast; omega
 have hkm := mem_facL.2 (show c.flo ≤ c.flo + (j : Int) ∧ c.flo + (j : Int) ≤ c.fhi by omega)
 have hms : (c.fhi + 1 - (c.flo + ((j + 1 : Nat) : Int))).toNat < (c.fhi + 1 - (c.flo + (j : Int))).toNat := by push_cast; omega
 obtain ⟨K, hK⟩ : ∃ K, c.flo + (j : Int) = K := ⟨_, rfl⟩
 have MA1 := MA.out K (by rw [← hK]; exact hkm)
 have MB1 := MB.out K (by rw [← hK]; exact hkm)
 have GAj := GA1.out j
 have GBj := GB1.out j
 simp only [hK] at GAj GBj
 have GAn := GA2.out j hlt
 have GBn := GB2.out j hlt
 rw [hK] at q1 q2 hms ⊢
 replace hK := hide hK
 replace hkm := hide hkm
 replace hnf := hide hnf
 replace hms := hide hms
 replace q2 := hide q2
 replace MA1 := hide MA1
 replace MB1 := hide MB1
 replace GAj := hide GAj
 replace GBj := hide GBj
 replace GAn := hide GAn
 replace GBn := hide GBn
 clear MA MB GA GB GA1 GB1 GA2 GB2 GA0 GB0
 obtain ⟨rC0, rC1, rC2, rC3, rC4, rC5, rC6, rC7⟩ := kC.out.cells8
 have zC : bC < wr.heap.size := kC.out.lt
 go_wp2_with fail
 clear rC0 rC1 rC2 rC3 rC4 rC5 rC6 rC7 zC q1 kC kX kT BM
 go_loopw [26, 27, 30, 31, 32, 33, 34, 172] (fun lb mb _ _ _ _ _ i wi => ∃ k : Nat, k ≤ xs.length ∧ i = I k ∧ lb = .bool (g j k) ∧ mb = .bool (h j k) ∧ Hid (Below w9.heap.size w9 wi)) (fun _ _ _ _ _ _ _ i _ => xs.length - (intOf i).toNat)
 case atStart => exact ⟨0, Nat.zero_le _, rfl, rfl, rfl, hbw⟩
 case round =>
 obtain ⟨k, hk, rfl, rfl, rfl, hbi⟩ := hrel
 clear hbw
 by_cases hlt2 : k < xs.length
 case neg =>
  have he : k = xs.length := by omega
  subst he
  rw [GAn.out, GBn.out]
  have q3 := q2.out
  go_wp2_with fail
  go_roundw
  case rel => exact ⟨j + 1, by omega, rfl, rfl, rfl, hbi⟩
  case measure => simp only [intOf]; exact hms.out
 obtain ⟨kC, kX, kT, BM, ⟨zL, eL, sL⟩, zG, eG, sG⟩ := FX.out wr hbi.out
 obtain ⟨x, hx⟩ := getElem?_of_lt hlt2
 have hxm := List.mem_of_getElem? hx
 obtain ⟨gx, ox, rfl, _⟩ := hAx.out k hlt2
 obtain ⟨zx, x0, x1⟩ := (hx1.out.mono BM).sprl_at hx
 obtain ⟨⟨o1, o2⟩, o3, o4⟩ := MA1.out x hxm
 have MX := fun w' hb vr => MB1.out x hxm w' hb vr
 have GAk := GAj.out k x hx
 have GBk := GBj.out k x hx
 obtain ⟨N, hN⟩ : ∃ N, lo K a b x = N := ⟨_, rfl⟩
 obtain ⟨M, hM⟩ : ∃ M, up K a b x = M := ⟨_, rfl⟩
 rw [hN] at o1 o2 GAk
 rw [hM] at o3 o4 GBk
 simp only [hN, hM] at MX
 clear hN hM
 obtain ⟨no, dv, days⟩ := x
 simp only at MX x0 x1
 obtain ⟨Aw, nw, hdv, _⟩ := (show Sl w 3 Weather.cells dv days from hx2.out _ hxm).open_
 simp only [hdv] at MX x1
 clear hdv hxm MA1 MB1 GAj GBj
 replace MX := hide MX
 replace GAk := hide GAk
 replace GBk := hide GBk
 replace hx := hide hx
 replace sL := hide sL
 replace sG := hide sG
 have x5 : (0 : Int) ≤ (k : Int) := by omega
 have x6 : (k : Int) < (xs.length : Int) := by omega
 have p1 : decide (N < z1) = false := decide_eq_false (by omega)
 have p2 : decide (z2 < M) = false := decide_eq_false (by omega)
 clear o1 o2 o3 o4
 obtain ⟨rC0, rC1, rC2, rC3, rC4, rC5, rC6, rC7⟩ := kC.out.cells8
 have zC : bC < wr.heap.size := kC.out.lt
 have zC_1 : bC < wr.heap.size + 1 := by omega
 obtain ⟨rX0, rX1, rX2, rX3, rX4, rX5, rX6, rX7⟩ := kX.out.cells8
 have zX : bX < wr.heap.size := kX.out.lt
 have zX_1 : bX < wr.heap.size + 1 := by omega
 go_upto_region 27 with fail
 clear rC0 rC1 rC2 rC3 rC4 rC5 rC6 rC7 zC zC_1 rX0 rX1 rX2 rX3 rX4 rX5 rX6 rX7 zX zX_1 x0 x1 zx
 have hZL := hide zL
 have hEL := hide eL
 have hZG := hide zG
 have hEG := hide eG
 clear zL eL zG eG
 have bi := hide (Below.refl wr.heap.size wr)
 obtain ⟨w10, hw10, hb, kS⟩ := al1 wr #[I no, .slice Aw days.length nw] 28
 replace kC := hide (kC.out.grow hb)
 replace kX := hide (kX.out.grow hb)
 replace kT := hide (kT.out.grow hb)
 replace hbi := hide (bup hbi.out hb)
 replace bi := hide (bup bi.out hb)
 have B10 := bup BM hb
 rw [← hw10]
 clear hw10 hb BM
 obtain ⟨bS, hbS⟩ : ∃ b, wr.heap.size = b := ⟨_, rfl⟩
 rw [hbS] at kS ⊢
 replace kS := hide kS
 clear hbS
 have zL := Nat.lt_of_lt_of_le hZL.out bi.out.size
 have eL := (bi.out.cell (p := ⟨gL, m, none⟩) hZL.out).trans hEL.out
 have tL := hide (sL.out.mono bi.out)
 obtain ⟨rC0, rC1, rC2, rC3, rC4, rC5, rC6, rC7⟩ := kC.out.cells8
 have zC : bC < w10.heap.size := kC.out.lt
 obtain ⟨rX0, rX1, rX2, rX3, rX4, rX5, rX6, rX7⟩ := kX.out.cells8
 have zX : bX < w10.heap.size := kX.out.lt
 obtain ⟨rS0, rS1⟩ := kS.out.cells2
 have zS : bS < w10.heap.size := kS.out.lt
 (refine wp_grow ?_; (repeat go_big_quiet_step ((go_at_call 17; exact calls_grew ((MX.out _ (bup B10 (Grew.below _)) _).1 (tL.out.mono (Grew.below _)))))); refine wp_grow0 ?_; intro W1 hW1)
 clear rC0 rC1 rC2 rC3 rC4 rC5 rC6 rC7 zC rX0 rX1 rX2 rX3 rX4 rX5 rX6 rX7 zX rS0 rS1 zS zL eL tL
 replace kC := hide (kC.out.grow hW1)
 replace kX := hide (kX.out.grow hW1)
 replace kT := hide (kT.out.grow hW1)
 replace kS := hide (kS.out.grow hW1)
 replace hbi := hide (bup hbi.out hW1)
 replace bi := hide (bup bi.out hW1)
 have BNL := bup B10 hW1
 clear hW1 B10
 obtain ⟨wP, hwP⟩ : ∃ W, W1 = W := ⟨_, rfl⟩
 rw [hwP] at kC kX kT kS hbi bi BNL ⊢
 clear hwP
 go_upto_region 28 with fail
 have zG := Nat.lt_of_lt_of_le hZG.out bi.out.size
 have eG := (bi.out.cell (p := ⟨gG, m, none⟩) hZG.out).trans hEG.out
 have tG := hide (sG.out.mono bi.out)
 obtain ⟨rC0, rC1, rC2, rC3, rC4, rC5, rC6, rC7⟩ := kC.out.cells8
 have zC : bC < wP.heap.size := kC.out.lt
 obtain ⟨rX0, rX1, rX2, rX3, rX4, rX5, rX6, rX7⟩ := kX.out.cells8
 have zX : bX < wP.heap.size := kX.out.lt
 obtain ⟨rS0, rS1⟩ := kS.out.cells2
 have zS : bS < wP.heap.size := kS.out.lt
 (refine wp_grow ?_; (repeat go_big_quiet_step ((go_at_call 17; exact calls_grew ((MX.out _ (bup BNL (Grew.below _)) _).2 (tG.out.mono (Grew.below _)))))); refine wp_grow0 ?_; intro W1 hW1)
 clear rC0 rC1 rC2 rC3 rC4 rC5 rC6 rC7 zC rX0 rX1 rX2 rX3 rX4 rX5 rX6 rX7 zX rS0 rS1 zS zG eG tG
 replace kC := hide (kC.out.grow hW1)
 replace kX := hide (kX.out.grow hW1)
 replace kT := hide (kT.out.grow hW1)
 replace kS := hide (kS.out.grow hW1)
 replace hbi := hide (bup hbi.out hW1)
 replace bi := hide (bup bi.out hW1)
 have BNG := bup BNL hW1
 clear hW1 BNL
 obtain ⟨wQ, hwQ⟩ : ∃ W, W1 = W := ⟨_, rfl⟩
 rw [hwQ] at kC kX kT kS hbi bi BNG ⊢
 clear hwQ
 obtain ⟨rT0, rT1⟩ := kT.out.cells2
 have zT : bT < wQ.heap.size := kT.out.lt
 go_upto_region 31 with fail
 obtain ⟨u1, hu1⟩ : ∃ q, g j k = q := ⟨_, rfl⟩
 obtain ⟨u2, hu2⟩ : ∃ q, h j k = q := ⟨_, rfl⟩
 have GAk1 := GAk.out
 have GBk1 := GBk.out
 rw [hu1] at GAk1 ⊢
 rw [hu2] at GBk1 ⊢
 replace hu1 := hide hu1
 replace hu2 := hide hu2
 clear GAk GBk
 replace GAk1 := hide GAk1
 replace GBk1 := hide GBk1
 cases u1 <;> cases u2
 ·(refine wp_grow ?_; (repeat go_big_quiet_step (fail)); refine wp_grow0 ?_; intro W1 hW1)
  go_wp2_with fail
  go_roundw
  case rel => exact ⟨k + 1, by omega, by go_num, by rw [GAk1.out]; simp, by rw [GBk1.out]; simp, hide (bup hbi.out hW1)⟩
  case measure => simp [intOf]; omega
 ·(refine wp_grow ?_; (repeat go_big_quiet_step (fail)); refine wp_grow0 ?_; intro W1 hW1)
  go_wp2_with fail
  go_roundw
  case rel => exact ⟨k + 1, by omega, by go_num, by rw [GAk1.out]; simp, by rw [GBk1.out]; simp, hide (bup hbi.out hW1)⟩
  case measure => simp [intOf]; omega
 ·(refine wp_grow ?_; (repeat go_big_quiet_step (fail)); refine wp_grow0 ?_; intro W1 hW1)
  go_wp2_with fail
  go_roundw
  case rel => exact ⟨k + 1, by omega, by go_num, by rw [GAk1.out]; simp, by rw [GBk1.out]; simp, hide (bup hbi.out hW1)⟩
  case measure => simp [intOf]; omega
 ·(refine wp_grow ?_; (repeat go_big_quiet_step (fail)); refine wp_grow0 ?_; intro W1 hW1)
  go_wp2_with fail
  go_roundw
  case rel => exact ⟨k + 1, by omega, by go_num, by rw [GAk1.out]; simp, by rw [GBk1.out]; simp, hide (bup hbi.out hW1)⟩
  case measure => simp [intOf]; omega
end Go.Proofs.YtoojedjmlcdomaaGreatDoor
