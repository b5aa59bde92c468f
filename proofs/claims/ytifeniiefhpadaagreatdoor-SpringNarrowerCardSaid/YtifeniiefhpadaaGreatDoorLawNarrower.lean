/- The law SpringNarrower (begun: to region 5). Conditions stand in the theorems. -/
import Derived.Test.YtifeniiefhpadaaGreatDoorSpring28
import Derived.Test.YtifeniiefhpadaaGreatDoorLight
import Derived.Test.YtifeniiefhpadaaGreatDoorPoolLibPack
import Derived.Test.YtifeniiefhpadaaGreatDoorBasin10
import Derived.Test.YtifeniiefhpadaaGreatDoorOneNarr
import Derived.Test.YtifeniiefhpadaaGreatDoorOneNarF
import Derived.Test.YtifeniiefhpadaaGreatDoorSortAnyPack
import Derived.Test.YtifeniiefhpadaaGreatDoorStepPush
import Derived.Test.YtifeniiefhpadaaGreatDoorAgainClone
set_option linter.all false
set_option maxHeartbeats 8000000
set_option maxRecDepth 100000
namespace Go.Proofs.YtifeniiefhpadaaGreatDoor
open Go.RowKit

theorem nar_left_len (c : Climate) (l : List Weather) (xs : List SprL) : (leftV c l xs).length ≤ xs.length := by
 unfold leftV
 split
 ·exact leftF_len c l xs
 ·simp
theorem inside_true (a b c d : Int) (h1 : c ≤ a) (h2 : b ≤ d) (w : World) : Calls Tryz.prog 11 #[.agg #[I a, I b], .agg #[I c, I d]] w fun e w' => e = .returned (.bool true) ∧ Below w.heap.size w w' := by
 have h := law_inside a b c d w
 rw [decide_eq_true h1, decide_eq_true h2] at h
 exact h
theorem law_Narrower (c : Climate) (vl : Value) (l : List Weather) (x : Weather) (h a b : Int) (vx : Value) (xs : List SprL) (w : World) (hp : Pow10 w) (hl : Sl w 3 Weather.cells vl l) (hx : SprsAt w vx xs) :
  Calls Tryz.prog 3 #[c.v, vl, .agg #[I x.day, I x.temp, I x.rain], I h, I a, I b, vx] w fun e w' => e = .returned (.bool true) ∧ Below w.heap.size w w' := by
 have hl0 := hide hl
 have JL := hide (fun w' (hb : Below w.heap.size w w') => law_light vl l a b w' (hl.mono hb))
 have JC := hide (fun w' (hb : Below w.heap.size w w') (hn : l.length ≤ 60) => clone_Weather vl l w' (hl.mono hb) (by omega))
 have JK := fun w' (hb : Below w.heap.size w w') => spring_CheckLog c vl l w' (hl.mono hb)
 have JG := fun w' (hb : Below w.heap.size w w') => spring_Gap c vl l a w' (hl.mono hb)
 have JH := fun w' (hb : Below w.heap.size w w') => spring_Change c vl l h a b w' (hl.mono hb)
 have JF := fun w' (hb : Below w.heap.size w w') => spring_Left c vl vx l xs w' (hl.mono hb) (hx.mono hb)
 obtain ⟨Al, nl, hvl, _⟩ := hl.open_
 obtain ⟨Ax, nx, hvx, _⟩ := hx.1.open_
 rw [hvl] at JL JC ⊢
 simp only [hvl] at JK JG JH JF
 rw [hvx] at JF hx
 unfold Climate.v at JK JG JH JF
 replace JK := hide JK
 replace JG := hide JG
 replace JH := hide JH
 replace JF := hide JF
 rw [hvx]
 replace hx := hide hx
 replace hl := hide hl
 replace hp := hide hp
 clear hvl hvx
 unfold Climate.v
 go_enter Tryz.func3, Tryz.ntmps3
 go_wp2_with fail
 obtain ⟨w1, hw1, B1, kC, kX⟩ := al2 w (c8 c) 25 #[I x.day, I x.temp, I x.rain] 28
 rw [← hw1]
 clear hw1
 obtain ⟨bX, hbX⟩ : ∃ b, w.heap.size + 1 = b := ⟨_, rfl⟩
 rw [hbX] at kX ⊢
 obtain ⟨bC, hbC⟩ : ∃ b, w.heap.size = b := ⟨_, rfl⟩
 rw [hbC] at kC ⊢
 replace kC := hide kC
 replace kX := hide kX
 clear hbC hbX
 go_at_call 4
 refine (law_sane w1 (hp.out.mono B1)).mono ?_
 rintro e w2 ⟨rfl, hb⟩
 replace kC := hide (kC.out.grow hb)
 replace kX := hide (kX.out.grow hb)
 have B2 := bup B1 hb
 clear hb B1
 go_wp2_with fail
 go_at_call 5
 refine (JL.out w2 B2).mono ?_
 rintro e w_ ⟨⟨q, rfl⟩, rfl⟩
 cases q
 case false => (go_wp2_with fail; go_ret; exact ⟨rfl, B2⟩)
 cases g : decide ((60 : Int) < l.length)
 case true => (go_wp2_with fail; go_ret; exact ⟨rfl, B2⟩)
 have hn : l.length ≤ 60 := by simp at g; omega
 go_upto_region 5 with fail
 have HSw := hide (fun (W : World) (hW : Below w2.heap.size w2 W) => (show W.cell? ⟨bX, 0, none⟩ = some (I x.day) ∧ W.cell? ⟨bX, 1, none⟩ = some (I x.temp) ∧ W.cell? ⟨bX, 2, none⟩ = some (I x.rain) from (kX.out.grow hW).cells3))
 have zX : bX < w2.heap.size := kX.out.lt
 refine wp_zgo HSw 5 fun hHeld => ?_
 (refine zg_tk 0 ?_; refine zg_tk 2 ?_; (try go_frame))
 have wB : Below w2.heap.size w2 w2.drew := (Below.refl _ _).drew
 apply via
 case f =>
  intro key
  refine zg_two (i := 1) (j := 3) (by decide) (by decide) rfl rfl (by kernel_rfl) (fun K_ hK_ => ?_) (fun K_ hK_ => ?_)
  ·go_simp
   refine (JC.out w2.drew (bup B2 wB) hn).mono ?_
   rintro e v1 ⟨vm, rfl, ho, -, hs1⟩
   have Bv1 := bup wB hs1
   refine hK_.out _ _ (HSw.out _ Bv1) (fun hHeld => ?_)
   clear hK_ K_
   (try go_frame)
   refine zg_ready (i := 3) (by decide) rfl (by kernel_rfl) (fun K_ hK_ => ?_)
   go_simp
   obtain ⟨v2, hv2, hs2, kv2⟩ := alv v1 #[I x.day, I x.temp, I x.rain] 28
   rw [← hv2]
   clear hv2
   have Bv2 := bup Bv1 hs2
   refine hK_.out _ _ (HSw.out _ Bv2) (fun hHeld => ?_)
   clear hK_ K_
   (try go_frame)
   refine zg_ready (i := 4) (by decide) rfl (by kernel_rfl) (fun K_ hK_ => ?_)
   refine step_push el_Weather Weather.cells_len Weather.cells_one rfl (.tmp 39) (.tmp 41) rfl w2.heap.size rfl (show Own v2 w2.heap.size 28 3 Weather.cells vm l from ho.below hs2) x rfl ?c1 ?c2 ?c3 ?c4 ?_
   case c1 => exact fun j u hu => by rw [kv2.cell j]; simpa [Weather.cells] using hu
   case c2 => omega
   case c3 => omega
   case c4 => exact Bv2.size
   intro vp v3 ho3 hb3 hne
   clear hne
   have Bv3 : Below w2.heap.size w2 v3 := Bv2.trans hb3
   refine hK_.out _ _ (HSw.out _ Bv3) (fun hHeld => ?_)
   clear hK_ K_
   (try go_frame)
   (refine zg_ls 5 fun K_ hK_ => ?_; go_simp; skip; refine hK_.out _ _ ?_; clear hK_ K_; (try go_frame))
   clear hHeld hb3 ho
   generalize v1.heap.size = g41
   revert Bv3
   revert ho3
   revert v3
   revert vp
   revert g41
   revert vm
   exact key.out
  ·go_simp
   obtain ⟨v1, hv1, hs1, kv1⟩ := alvd w2 #[I x.day, I x.temp, I x.rain] 28
   rw [← hv1]
   clear hv1
   have Bv1 := bup wB hs1
   refine hK_.out _ _ (HSw.out _ Bv1) (fun hHeld => ?_)
   clear hK_ K_
   (try go_frame)
   refine zg_ready (i := 1) (by decide) rfl (by kernel_rfl) (fun K_ hK_ => ?_)
   go_simp
   refine (JC.out v1 (bup B2 Bv1) hn).mono ?_
   rintro e v2 ⟨vm, rfl, ho, -, hs2⟩
   have kv2 := kv1.grow hs2
   have Bv2 := bup Bv1 hs2
   refine hK_.out _ _ (HSw.out _ Bv2) (fun hHeld => ?_)
   clear hK_ K_
   (try go_frame)
   refine zg_ready (i := 4) (by decide) rfl (by kernel_rfl) (fun K_ hK_ => ?_)
   refine step_push el_Weather Weather.cells_len Weather.cells_one rfl (.tmp 39) (.tmp 41) rfl w2.heap.size rfl (ho.mono Bv1.size) x rfl ?d1 ?d2 ?d3 ?d4 ?_
   case d1 => exact fun j u hu => by rw [kv2.cell j]; simpa [Weather.cells] using hu
   case d2 => omega
   case d3 => omega
   case d4 => exact Bv2.size
   intro vp v3 ho3 hb3 hne
   clear hne
   have Bv3 : Below w2.heap.size w2 v3 := Bv2.trans hb3
   refine hK_.out _ _ (HSw.out _ Bv3) (fun hHeld => ?_)
   clear hK_ K_
   (try go_frame)
   (refine zg_ls 5 fun K_ hK_ => ?_; go_simp; skip; refine hK_.out _ _ ?_; clear hK_ K_; (try go_frame))
   exact key.out _ _ _ _ ho3 Bv3
 case g =>
  intro vm g41 vp w3 hm Bw3
  have zC : bC < w2.heap.size := kC.out.lt
  clear hHeld HSw wB JC
  replace kC := hide (kC.out.grow Bw3)
  replace kX := hide (kX.out.grow Bw3)
  have B3 := bup B2 Bw3
  obtain ⟨gr, cr, rfl, hgr, hgl, hnc, hc, hh⟩ := own_holds hm (by simp)
  have hls : (l ++ [x]).length = l.length + 1 := by simp
  have s2 := B2.size
  have s3 := Bw3.size
  clear hm Bw3 B2
  by_cases hd : ∀ y ∈ l ++ [x], 0 ≤ y.day ∧ y.day ≤ 1048576
  case neg =>
   have H := sort_any gr 0 cr (l ++ [x]).toArray w3 hh hgl (by simp; omega)
   have hsz : (l ++ [x]).toArray.size = (l ++ [x]).length := by simp
   rw [hsz] at H
   obtain ⟨m, hm⟩ : ∃ m, (l ++ [x]).length = m := ⟨_, rfl⟩
   rw [hm] at H ⊢
   unfold cmpV at H
   replace H := hide H
   replace hh := hide hh
   replace hm := hide hm
   replace hls := hide hls
   go_wp2_with fail
   go_at_call 7
   refine H.out.mono ?_
   rintro e w4 ⟨rfl, hS⟩
   have B4 := B3.trans ((hS.keep.below (m := w2.heap.size) s3 (fun b hb => by have h9 : b = gr := hb; omega)).mono s2)
   have kX4 := hS.keep.blk kX.out (by omega) (by show ¬ bX = gr; omega)
   have kC4 := hS.keep.blk kC.out (by omega) (by show ¬ bC = gr; omega)
   clear hS H
   have rX0 : w4.cell? ⟨bX, 0, none⟩ = some (I x.day) := kX4.cell 0
   have zX4 := kX4.lt
   by_cases e1 : x.day < 0
   case pos =>
    replace kX4 := hide kX4
    replace kC4 := hide kC4
    replace hd := hide hd
    go_wp2_with fail
    go_ret
    exact ⟨rfl, B4⟩
   case neg =>
    by_cases e2 : 1048576 < x.day
    case pos =>
     replace kX4 := hide kX4
     replace kC4 := hide kC4
     replace hd := hide hd
     go_wp2_with fail
     go_ret
     exact ⟨rfl, B4⟩
    case neg =>
     have hE : logE c l ≠ 0 := fun h0 => hd fun y hy => by
      rcases List.mem_append.1 hy with hy | hy
      ·exact ((LogOk.of h0).mem y hy).day
      ·simp at hy
       subst hy
       omega
     obtain ⟨E, hEE⟩ : ∃ E, logE c l = E := ⟨_, rfl⟩
     rw [hEE] at hE JK
     have hE2 : (E != 0) = true := by simpa using hE
     replace hEE := hide hEE
     replace hE := hide hE
     replace hd := hide hd
     obtain ⟨rC0, rC1, rC2, rC3, rC4, rC5, rC6, rC7⟩ := kC4.cells8
     have zC4 := kC4.lt
     replace kX4 := hide kX4
     replace kC4 := hide kC4
     go_wp2_with (first | (go_at_call 9; refine (JK.out w4 B4).mono ?_; rintro e w5 ⟨rfl, hb⟩))
     go_ret
     exact ⟨rfl, bup B4 hb⟩
  case pos =>
   have H := sort_list gr cr (l ++ [x]) w3 hd hh hgl (by omega) hnc hc
   obtain ⟨m, hm⟩ : ∃ m, (l ++ [x]).length = m := ⟨_, rfl⟩
   rw [hm] at H ⊢
   have hxd := hd x (by simp)
   unfold cmpV at H
   replace H := hide H
   replace hh := hide hh
   replace hm := hide hm
   replace hls := hide hls
   replace hd := hide hd
   replace hxd := hide hxd
   go_wp2_with fail
   go_at_call 7
   refine H.out.mono ?_
   rintro e w4 ⟨rfl, zs, hzs, sm, hS⟩
   replace hzs := hide hzs
   have B4 := B3.trans ((hS.below (m := w2.heap.size) s3 (fun b hb => by have h9 : b = gr := hb; omega)).mono s2)
   replace kX := hide (hS.blk kX.out (by omega) (by show ¬ bX = gr; omega))
   replace kC := hide (hS.blk kC.out (by omega) (by show ¬ bC = gr; omega))
   clear hS H B3 hgl hgr hnc hc s2 s3 hh
   replace sm := hide sm
   have rX0 : w4.cell? ⟨bX, 0, none⟩ = some (I x.day) := kX.out.cell 0
   have zX4 := kX.out.lt
   have e1 : ¬ x.day < 0 := by have := hxd.out; omega
   have e2 : ¬ 1048576 < x.day := by have := hxd.out; omega
   obtain ⟨rC0, rC1, rC2, rC3, rC4, rC5, rC6, rC7⟩ := kC.out.cells8
   have zC : bC < w4.heap.size := kC.out.lt
   obtain ⟨E, hEE⟩ : ∃ E, logE c l = E := ⟨_, rfl⟩
   have JM := hide (fun W (hW : Below w4.heap.size w4 W) => spring_CheckLog c _ zs W (sm.out.mono hW))
   unfold Climate.v at JM
   rw [hEE] at JK
   go_wp2_with fail
   go_at_call 9
   refine (JK.out w4 B4).mono ?_
   rintro e w5 ⟨rfl, hb⟩
   by_cases hE : E = 0
   case neg =>
    have hE2 : (E != 0) = true := by simpa using hE
    replace hE := hide hE
    replace hEE := hide hEE
    clear rC0 rC1 rC2 rC3 rC4 rC5 rC6 rC7 zC
    go_wp2_with fail
    go_ret
    exact ⟨rfl, bup B4 hb⟩
   rw [hE] at hEE ⊢
   clear hE JK
   replace hEE := hide hEE
   obtain ⟨F, hFF⟩ : ∃ F, logE c zs = F := ⟨_, rfl⟩
   rw [hFF] at JM
   clear rC0 rC1 rC2 rC3 rC4 rC5 rC6 rC7 zC
   replace kC := hide (kC.out.grow hb)
   replace kX := hide (kX.out.grow hb)
   obtain ⟨rC0, rC1, rC2, rC3, rC4, rC5, rC6, rC7⟩ := kC.out.cells8
   have zC : bC < w5.heap.size := kC.out.lt
   go_wp2_with fail
   go_at_call 9
   refine (JM.out w5 hb).mono ?_
   rintro e w6 ⟨rfl, hb2⟩
   have B6 := bup (bup B4 hb) hb2
   by_cases hF : F = 0
   case neg =>
    have hF2 : (F != 0) = true := by simpa using hF
    replace hF := hide hF
    replace hFF := hide hFF
    clear rC0 rC1 rC2 rC3 rC4 rC5 rC6 rC7 zC
    go_wp2_with fail
    go_ret
    exact ⟨rfl, B6⟩
   rw [hF] at hFF ⊢
   clear hF JM
   clear rC0 rC1 rC2 rC3 rC4 rC5 rC6 rC7 zC
   replace kC := hide (kC.out.grow hb2)
   replace sm := hide (sm.out.mono (bup hb hb2))
   have hmem : ∀ y ∈ l, y ∈ zs := fun y hy => (List.Perm.mem_iff hzs.out).2 (by simp [hy])
   have nG := nar_gapV hEE.out hFF hmem a
   have nC := nar_changeV hEE.out hFF hmem h a b
   have nL := nar_left hEE.out hFF hmem xs
   have eG := nar_gapE hEE.out hFF a
   have eC := nar_changeE hEE.out hFF h a b
   have eL := nar_leftE hEE.out hFF xs
   clear kX rX0 zX4 B4 hb hb2 hmem hEE hFF hzs hxd hd hls zX zC
   have JGM := fun W (hW : Below w6.heap.size w6 W) => spring_Gap c _ zs a W (sm.out.mono hW)
   have JHM := fun W (hW : Below w6.heap.size w6 W) => spring_Change c _ zs h a b W (sm.out.mono hW)
   have JFM := fun W (hW : Below w6.heap.size w6 W) => spring_Left c _ _ zs xs W (sm.out.mono hW) (hx.out.mono (bup B6 hW))
   rw [eG] at JGM
   rw [eC] at JHM
   rw [eL] at JFM
   clear eG eC eL
   obtain ⟨G, hG⟩ : ∃ G, gapV c l a = G := ⟨_, rfl⟩
   obtain ⟨G2, hG2⟩ : ∃ G, gapV c zs a = G := ⟨_, rfl⟩
   obtain ⟨V, hV⟩ : ∃ V, changeV c l h a b = V := ⟨_, rfl⟩
   obtain ⟨V2, hV2⟩ : ∃ V, changeV c zs h a b = V := ⟨_, rfl⟩
   obtain ⟨EG, hEG⟩ : ∃ E, gapE c l a = E := ⟨_, rfl⟩
   obtain ⟨EC, hEC⟩ : ∃ E, changeE c l h a b = E := ⟨_, rfl⟩
   obtain ⟨EL, hEL⟩ : ∃ E, leftE c l xs = E := ⟨_, rfl⟩
   have lF := nar_left_len c l xs
   have lF2 := nar_left_len c zs xs
   have lx : xs.length ≤ 140737488355328 := by
    obtain ⟨_, _, _, _, _, h9, _⟩ := hx.out.1.open_
    exact h9
   obtain ⟨L, hL⟩ : ∃ L, leftV c l xs = L := ⟨_, rfl⟩
   obtain ⟨L2, hL2⟩ : ∃ L, leftV c zs xs = L := ⟨_, rfl⟩
   rw [hG, hEG] at JG
   rw [hG2, hEG] at JGM
   rw [hV, hEC] at JH
   rw [hV2, hEC] at JHM
   rw [hL, hEL] at JF
   rw [hL2, hEL] at JFM
   rw [hG, hG2] at nG
   rw [hV, hV2] at nC
   rw [hL, hL2] at nL
   rw [hL] at lF
   rw [hL2] at lF2
   unfold Climate.v at JGM JHM JFM
   have lF := hide (Nat.le_trans lF lx)
   have lF2 := hide (Nat.le_trans lF2 lx)
   replace JGM := hide JGM
   replace JHM := hide JHM
   replace JFM := hide JFM
   clear hG hG2 hV hV2 hEG hEC hEL hL hL2 lx
   have iG := hide (fun w => inside_true G2.tlo G2.thi G.tlo G.thi nG.1.1 nG.1.2 w)
   have iR := hide (fun w => inside_true G2.rlo G2.rhi G.rlo G.rhi nG.2.1 nG.2.2 w)
   have iV := hide (fun w => inside_true V2.1 V2.2 V.1 V.2 nC.1 nC.2 w)
   replace nL := hide nL
   have qG : (EG != EG) = false := bne_self_eq_false EG
   have qC : (EC != EC) = false := bne_self_eq_false EC
   have qL : (EL == EL) = true := beq_self_eq_true EL
   clear nG nC
   have D6 : Below w6.heap.size w6 w6 := Below.refl _ _
   obtain ⟨rC0, rC1, rC2, rC3, rC4, rC5, rC6, rC7⟩ := kC.out.cells8
   have zC : bC < w6.heap.size := kC.out.lt
   go_wp2_with fail
   clear e1 e2
   clear rC0 rC1 rC2 rC3 rC4 rC5 rC6 rC7 zC
   go_at_call 10
   refine (JG.out _ B6).mono ?_
   rintro e w7 ⟨rfl, hb⟩
   replace kC := hide (kC.out.grow hb)
   have B7 := bup B6 hb
   have D7 := bup D6 hb
   clear B6 D6
   go_upto_region 10 with fail
   obtain ⟨w8, hw8, hb, kA, kR⟩ := al2 w7 #[I G.tlo, I G.thi] 23 #[I G.rlo, I G.rhi] 23
   replace kC := hide (kC.out.grow hb)
   have B8 := bup B7 hb
   have D8 := bup D7 hb
   rw [← hw8]
   clear hw8 hb B7 D7
   obtain ⟨bR, hbR⟩ : ∃ b, w7.heap.size + 1 = b := ⟨_, rfl⟩
   rw [hbR] at kR ⊢
   obtain ⟨bA, hbA⟩ : ∃ b, w7.heap.size = b := ⟨_, rfl⟩
   rw [hbA] at kA ⊢
   replace kA := hide kA
   clear hbA
   replace kR := hide kR
   clear hbR
   obtain ⟨rC0, rC1, rC2, rC3, rC4, rC5, rC6, rC7⟩ := kC.out.cells8
   have zC : bC < w8.heap.size := kC.out.lt
   obtain ⟨rA0, rA1⟩ := kA.out.cells2
   have zA : bA < w8.heap.size := kA.out.lt
   obtain ⟨rR0, rR1⟩ := kR.out.cells2
   have zR : bR < w8.heap.size := kR.out.lt
   go_wp2_with fail
   clear rC0 rC1 rC2 rC3 rC4 rC5 rC6 rC7 zC rA0 rA1 zA rR0 rR1 zR
   go_at_call 10
   refine (JGM.out _ D8).mono ?_
   rintro e w9 ⟨rfl, hb⟩
   replace kC := hide (kC.out.grow hb)
   replace kA := hide (kA.out.grow hb)
   replace kR := hide (kR.out.grow hb)
   have B9 := bup B8 hb
   have D9 := bup D8 hb
   clear B8 D8
   go_upto_region 11 with fail
   obtain ⟨w10, hw10, hb, kP, kQ⟩ := al2 w9 #[I G2.tlo, I G2.thi] 23 #[I G2.rlo, I G2.rhi] 23
   replace kC := hide (kC.out.grow hb)
   replace kA := hide (kA.out.grow hb)
   replace kR := hide (kR.out.grow hb)
   have B10 := bup B9 hb
   have D10 := bup D9 hb
   rw [← hw10]
   clear hw10 hb B9 D9
   obtain ⟨bQ, hbQ⟩ : ∃ b, w9.heap.size + 1 = b := ⟨_, rfl⟩
   rw [hbQ] at kQ ⊢
   obtain ⟨bP, hbP⟩ : ∃ b, w9.heap.size = b := ⟨_, rfl⟩
   rw [hbP] at kP ⊢
   replace kP := hide kP
   clear hbP
   replace kQ := hide kQ
   clear hbQ
   obtain ⟨rC0, rC1, rC2, rC3, rC4, rC5, rC6, rC7⟩ := kC.out.cells8
   have zC : bC < w10.heap.size := kC.out.lt
   obtain ⟨rA0, rA1⟩ := kA.out.cells2
   have zA : bA < w10.heap.size := kA.out.lt
   obtain ⟨rR0, rR1⟩ := kR.out.cells2
   have zR : bR < w10.heap.size := kR.out.lt
   obtain ⟨rP0, rP1⟩ := kP.out.cells2
   have zP : bP < w10.heap.size := kP.out.lt
   obtain ⟨rQ0, rQ1⟩ := kQ.out.cells2
   have zQ : bQ < w10.heap.size := kQ.out.lt
   go_wp2_with fail
   clear rC0 rC1 rC2 rC3 rC4 rC5 rC6 rC7 zC rA0 rA1 zA rR0 rR1 zR rP0 rP1 zP rQ0 rQ1 zQ
   go_at_call 11
   refine (iG.out _).mono ?_
   rintro e w11 ⟨rfl, hb⟩
   replace kC := hide (kC.out.grow hb)
   replace kA := hide (kA.out.grow hb)
   replace kR := hide (kR.out.grow hb)
   replace kP := hide (kP.out.grow hb)
   replace kQ := hide (kQ.out.grow hb)
   have B11 := bup B10 hb
   have D11 := bup D10 hb
   clear B10 D10
   obtain ⟨rC0, rC1, rC2, rC3, rC4, rC5, rC6, rC7⟩ := kC.out.cells8
   have zC : bC < w11.heap.size := kC.out.lt
   obtain ⟨rA0, rA1⟩ := kA.out.cells2
   have zA : bA < w11.heap.size := kA.out.lt
   obtain ⟨rR0, rR1⟩ := kR.out.cells2
   have zR : bR < w11.heap.size := kR.out.lt
   obtain ⟨rP0, rP1⟩ := kP.out.cells2
   have zP : bP < w11.heap.size := kP.out.lt
   obtain ⟨rQ0, rQ1⟩ := kQ.out.cells2
   have zQ : bQ < w11.heap.size := kQ.out.lt
   go_wp2_with fail
   clear rC0 rC1 rC2 rC3 rC4 rC5 rC6 rC7 zC rA0 rA1 zA rR0 rR1 zR rP0 rP1 zP rQ0 rQ1 zQ
   go_at_call 11
   refine (iR.out _).mono ?_
   rintro e w12 ⟨rfl, hb⟩
   replace kC := hide (kC.out.grow hb)
   replace kA := hide (kA.out.grow hb)
   replace kR := hide (kR.out.grow hb)
   replace kP := hide (kP.out.grow hb)
   replace kQ := hide (kQ.out.grow hb)
   have B12 := bup B11 hb
   have D12 := bup D11 hb
   clear B11 D11
   obtain ⟨rC0, rC1, rC2, rC3, rC4, rC5, rC6, rC7⟩ := kC.out.cells8
   have zC : bC < w12.heap.size := kC.out.lt
   obtain ⟨rA0, rA1⟩ := kA.out.cells2
   have zA : bA < w12.heap.size := kA.out.lt
   obtain ⟨rR0, rR1⟩ := kR.out.cells2
   have zR : bR < w12.heap.size := kR.out.lt
   obtain ⟨rP0, rP1⟩ := kP.out.cells2
   have zP : bP < w12.heap.size := kP.out.lt
   obtain ⟨rQ0, rQ1⟩ := kQ.out.cells2
   have zQ : bQ < w12.heap.size := kQ.out.lt
   go_wp2_with fail
   clear rC0 rC1 rC2 rC3 rC4 rC5 rC6 rC7 zC rA0 rA1 zA rR0 rR1 zR rP0 rP1 zP rQ0 rQ1 zQ
   clear kA kR kP kQ qG
   go_at_call 12
   refine (JH.out _ B12).mono ?_
   rintro e w13 ⟨rfl, hb⟩
   replace kC := hide (kC.out.grow hb)
   have B13 := bup B12 hb
   have D13 := bup D12 hb
   clear B12 D12
   go_upto_region 14 with fail
   obtain ⟨w14, hw14, hb, kU⟩ := al1 w13 #[I V.1, I V.2] 23
   replace kC := hide (kC.out.grow hb)
   have B14 := bup B13 hb
   have D14 := bup D13 hb
   rw [← hw14]
   clear hw14 hb B13 D13
   obtain ⟨bU, hbU⟩ : ∃ b, w13.heap.size = b := ⟨_, rfl⟩
   rw [hbU] at kU ⊢
   replace kU := hide kU
   clear hbU
   obtain ⟨rC0, rC1, rC2, rC3, rC4, rC5, rC6, rC7⟩ := kC.out.cells8
   have zC : bC < w14.heap.size := kC.out.lt
   obtain ⟨rU0, rU1⟩ := kU.out.cells2
   have zU : bU < w14.heap.size := kU.out.lt
   go_wp2_with fail
   clear rC0 rC1 rC2 rC3 rC4 rC5 rC6 rC7 zC rU0 rU1 zU
   go_at_call 12
   refine (JHM.out _ D14).mono ?_
   rintro e w15 ⟨rfl, hb⟩
   replace kC := hide (kC.out.grow hb)
   replace kU := hide (kU.out.grow hb)
   have B15 := bup B14 hb
   have D15 := bup D14 hb
   clear B14 D14
   go_upto_region 15 with fail
   obtain ⟨w16, hw16, hb, kT⟩ := al1 w15 #[I V2.1, I V2.2] 23
   replace kC := hide (kC.out.grow hb)
   replace kU := hide (kU.out.grow hb)
   have B16 := bup B15 hb
   have D16 := bup D15 hb
   rw [← hw16]
   clear hw16 hb B15 D15
   obtain ⟨bT, hbT⟩ : ∃ b, w15.heap.size = b := ⟨_, rfl⟩
   rw [hbT] at kT ⊢
   replace kT := hide kT
   clear hbT
   obtain ⟨rC0, rC1, rC2, rC3, rC4, rC5, rC6, rC7⟩ := kC.out.cells8
   have zC : bC < w16.heap.size := kC.out.lt
   obtain ⟨rU0, rU1⟩ := kU.out.cells2
   have zU : bU < w16.heap.size := kU.out.lt
   obtain ⟨rT0, rT1⟩ := kT.out.cells2
   have zT : bT < w16.heap.size := kT.out.lt
   go_wp2_with fail
   clear rC0 rC1 rC2 rC3 rC4 rC5 rC6 rC7 zC rU0 rU1 zU rT0 rT1 zT
   go_at_call 11
   refine (iV.out _).mono ?_
   rintro e w17 ⟨rfl, hb⟩
   replace kC := hide (kC.out.grow hb)
   replace kU := hide (kU.out.grow hb)
   replace kT := hide (kT.out.grow hb)
   have B17 := bup B16 hb
   have D17 := bup D16 hb
   clear B16 D16
   obtain ⟨rC0, rC1, rC2, rC3, rC4, rC5, rC6, rC7⟩ := kC.out.cells8
   have zC : bC < w17.heap.size := kC.out.lt
   obtain ⟨rU0, rU1⟩ := kU.out.cells2
   have zU : bU < w17.heap.size := kU.out.lt
   obtain ⟨rT0, rT1⟩ := kT.out.cells2
   have zT : bT < w17.heap.size := kT.out.lt
   go_wp2_with fail
   clear rC0 rC1 rC2 rC3 rC4 rC5 rC6 rC7 zC rU0 rU1 zU rT0 rT1 zT
   clear kU kT qC
   go_at_call 13
   refine (JF.out _ B17).mono ?_
   rintro e w18 ⟨v1, rfl, ho, hb⟩
   replace kC := hide (kC.out.grow hb)
   have B18 := bup B17 hb
   have D18 := bup D17 hb
   clear B17 D17
   have s1 := hide (ho.sl intC_len lF.out)
   obtain ⟨NA, Nn, Nc, rfl⟩ := ho.shape
   clear ho
   go_upto_region 18 with fail
   obtain ⟨w19, hw19, hb, kN⟩ := al1 w18 #[.slice NA Nn Nc] 42
   replace kC := hide (kC.out.grow hb)
   replace s1 := hide (s1.out.mono hb)
   have B19 := bup B18 hb
   have D19 := bup D18 hb
   rw [← hw19]
   clear hw19 hb B18 D18
   obtain ⟨bN, hbN⟩ : ∃ b, w18.heap.size = b := ⟨_, rfl⟩
   rw [hbN] at kN ⊢
   replace kN := hide kN
   clear hbN
   obtain ⟨rC0, rC1, rC2, rC3, rC4, rC5, rC6, rC7⟩ := kC.out.cells8
   have zC : bC < w19.heap.size := kC.out.lt
   have rN0 : w19.cell? ⟨bN, 0, none⟩ = some (.slice NA Nn Nc) := kN.out.cell 0
   have zN : bN < w19.heap.size := kN.out.lt
   go_wp2_with fail
   clear rC0 rC1 rC2 rC3 rC4 rC5 rC6 rC7 zC rN0 zN
   go_at_call 13
   refine (JFM.out _ D19).mono ?_
   rintro e w20 ⟨v2, rfl, ho, hb⟩
   replace kC := hide (kC.out.grow hb)
   replace kN := hide (kN.out.grow hb)
   replace s1 := hide (s1.out.mono hb)
   have B20 := bup B19 hb
   have D20 := bup D19 hb
   clear B19 D19
   have s2 := hide (ho.sl intC_len lF2.out)
   obtain ⟨MA, Mn, Mc, rfl⟩ := ho.shape
   clear ho
   obtain ⟨rC0, rC1, rC2, rC3, rC4, rC5, rC6, rC7⟩ := kC.out.cells8
   have zC : bC < w20.heap.size := kC.out.lt
   have rN0 : w20.cell? ⟨bN, 0, none⟩ = some (.slice NA Nn Nc) := kN.out.cell 0
   have zN : bN < w20.heap.size := kN.out.lt
   go_wp2_with fail
   clear rC0 rC1 rC2 rC3 rC4 rC5 rC6 rC7 zC rN0 zN
   go_at_call 14
   refine (nar_lacks bN _ L _ L2 w20 s1.out s2.out (kN.out.cell 0)).mono ?_
   rintro e wz ⟨rfl, hb⟩
   have hfin : (L2.any fun n => !L.any (fun x => x == n)) = false := by
    rw [Bool.eq_false_iff]
    intro h9
    obtain ⟨n, hn, h9⟩ := List.any_eq_true.1 h9
    have h8 : L.any (fun x => x == n) = true := List.any_eq_true.2 ⟨n, nL.out n hn, by simp⟩
    rw [h8] at h9
    cases h9
   rw [hfin]
   clear hfin
   go_wp2_with fail
   go_ret
   exact ⟨rfl, bup B20 hb⟩
end Go.Proofs.YtifeniiefhpadaaGreatDoor
