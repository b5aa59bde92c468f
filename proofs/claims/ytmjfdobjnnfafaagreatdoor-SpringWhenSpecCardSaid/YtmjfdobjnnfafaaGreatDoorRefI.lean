/- The reference's Cells, begins, days, ends. Conditions stand in the theorems. -/
import Derived.Test.YtmjfdobjnnfafaaGreatDoorRefPPack
import Derived.Test.YtmjfdobjnnfafaaGreatDoorRef4Pack
import Derived.Test.YtmjfdobjnnfafaaGreatDoorSpring15Pack
set_option linter.all false
set_option maxHeartbeats 4000000
set_option maxRecDepth 100000
namespace Go.Proofs.YtmjfdobjnnfafaaGreatDoor
open Go.RowKit

theorem anyC_eq {cs : List Cell} {no : Int} : (cs.any fun c => c.no == no) = decide (0 ≤ placeC cs no) := (idxBy_nonneg _ _).symm
theorem chosenAt_out {cs : List Cell} {l : List Int} {k : Nat} {d : Int} (h : l[k]? = some d) (hq : placeC cs d < 0) : chosenAt cs l k = false := by
 have hg : l.getD k 0 = d := by simp [h]
 unfold chosenAt
 rw [hg, anyC_eq, decide_eq_false (by omega)]
 simp
theorem chosenAt_in {cs : List Cell} {l : List Int} {k : Nat} {d : Int} (h : l[k]? = some d) (hq : 0 ≤ placeC cs d) : chosenAt cs l k = risesAt l k := by
 have hg : l.getD k 0 = d := by simp [h]
 unfold chosenAt
 rw [hg, anyC_eq, decide_eq_true hq]
 simp

theorem ref5_Cells (s : Scene) (V : SceneV) (vl : Value) (l : List Int) (w : World) (hs : SceneAt w s V) (hl : Sl w 1 intC vl l) :
  Calls Tryz.prog 182 #[s.basin.v V.cells V.pairs, vl] w fun e w' => e = .returned (.bool (chosenB s l)) ∧ Below w.heap.size w w' := by
 obtain ⟨vc, vp, vd, vs, vh⟩ := V
 have h1 : Sl w 4 Cell.cells vc s.basin.cells := hs.cells
 have h2 : Sl w 2 pairC vp s.basin.pairs := hs.pairs
 clear hs
 obtain ⟨Ac, nc, rfl, _⟩ := h1.open_
 obtain ⟨Ap, np, rfl, _⟩ := h2.open_
 obtain ⟨A, n, rfl, _, _, hlen, hA⟩ := hl.open_
 have HP := fun no w' (hb : Below w.heap.size w w') => ref5_Place s.basin _ _ no w' (h1.mono hb) (h2.mono hb)
 have hbad : ∀ k, k < l.length → chosenAt s.basin.cells l k = false → chosenB s l = false := fun k hk h => by
  have : (List.range l.length).all (chosenAt s.basin.cells l) = false := all_of_not hk h
  simp [chosenB, this]
 have hlast : AllTo (chosenAt s.basin.cells l) l.length → chosenB s l = decide (0 < l.length) := fun h => by
  rw [chosenB, h.all, Bool.true_and]
 obtain ⟨E, hE⟩ : ∃ E, chosenB s l = E := ⟨_, rfl⟩
 rw [hE] at hbad hlast ⊢
 clear hE
 unfold Basin.v at *
 simp only at *
 clear h1 h2
 replace HP := hide HP
 replace hl := hide hl
 replace hA := hide hA
 replace hbad := hide hbad
 replace hlast := hide hlast
 go_enter Tryz.func182, Tryz.ntmps182
 go_wp2_with fail
 obtain ⟨w0, hw0⟩ : ∃ w0, w0 = w.alloc (.cells #[.slice Ac s.basin.cells.length nc, .slice Ap s.basin.pairs.length np, I s.basin.gain, I s.basin.slack, I s.basin.deep] 58) := ⟨_, rfl⟩
 obtain ⟨kS, B1⟩ := blkw hw0
 rw [← hw0]
 clear hw0
 obtain ⟨g, hg⟩ : ∃ g, w.heap.size = g := ⟨_, rfl⟩
 rw [hg] at kS ⊢
 replace hg := hide hg
 replace kS := hide kS
 replace B1 := hide B1
 go_loopw [5] (fun i wr => ∃ k : Nat, k ≤ l.length ∧ i = I k ∧ Hid (AllTo (chosenAt s.basin.cells l) k) ∧ Hid (Below w0.heap.size w0 wr)) (fun i _ => l.length - (intOf i).toNat)
 case atStart => exact ⟨0, Nat.zero_le _, rfl, hide (AllTo.zero _), hide (Below.refl _ _)⟩
 case round =>
  obtain ⟨k, hkl, rfl, ha, hbw⟩ := hrel
  replace kS := hide (kS.out.grow hbw.out)
  have B2 := hide (bup B1.out hbw.out)
  obtain ⟨s0, s1, s2, s3, s4⟩ := kS.out.five
  have zS := kS.out.lt
  by_cases hlt : k < l.length
  case pos =>
   obtain ⟨d, hd⟩ := getElem?_of_lt hlt
   obtain ⟨ga, oa, rfl, _⟩ := hA.out k hlt
   obtain ⟨zd, e0⟩ := (hl.out.mono B2.out).int_at hd
   have hpl := fun h => chosenAt_out (cs := s.basin.cells) hd h
   have hpi := fun h => chosenAt_in (cs := s.basin.cells) hd h
   have HX := fun w' hb => HP.out d w' hb
   obtain ⟨q, hq⟩ : ∃ q, placeC s.basin.cells d = q := ⟨_, rfl⟩
   rw [hq] at hpl hpi HX
   clear hq
   replace HX := hide HX
   rcases ilt q 0 with q1 | q1
   ·have hqv : E = false := hbad.out k hlt (hpl q1)
    subst hqv
    have c1 : decide (q < 0) = true := decide_eq_true q1
    replace hd := hide hd
    clear hpl hpi hlast hbad
    go_wp2_with fail
    (refine wp_grow ?_; (repeat go_big_quiet_step ((go_at_call 220; exact calls_grew (HX.out _ (bup B2.out (Grew.below _)))))); refine wp_grow0 ?_; intro W1 hW1)
    go_wp2_with fail
    go_ret
    exact ⟨rfl, by have h := bup B2.out hW1; first | exact h | rwa [hg.out] at h⟩
   have c1 : decide (q < 0) = false := decide_eq_false (by omega)
   replace hpi := hpi q1
   clear hpl
   cases k with
   | zero =>
    have ha2 := hide (ha.out.succ (by rw [hpi]; rfl))
    replace hd := hide hd
    simp only [Nat.add_zero] at e0
    clear hpi
    go_wp2_with fail
    (refine wp_grow ?_; (repeat go_big_quiet_step ((go_at_call 220; exact calls_grew (HX.out _ (bup B2.out (Grew.below _)))))); refine wp_grow0 ?_; intro W1 hW1)
    go_wp2_with fail
    go_roundw
    case rel => exact ⟨1, by omega, by go_num, ha2, hide (bup hbw.out hW1)⟩
    case measure => simp [intOf]; omega
   | succ k =>
    obtain ⟨d0, hd0⟩ := getElem?_of_lt (xs := l) (k := k) (by omega)
    obtain ⟨_, e1⟩ := (hl.out.mono B2.out).int_at hd0
    have hp := risesAt_pos (l := l) (k := k + 1) (by omega) hd (by simpa using hd0)
    rw [hp] at hpi
    clear hp
    have w3_ : IntKind.i64.wrap (((k + 1 : Nat) : Int) - 1) = (k : Int) := by rw [IntWalk.i64_in _ (by omega)]; omega
    have w4_ : (0 : Int) ≤ (k : Int) := by omega
    have w5_ : (k : Int) < (l.length : Int) := by omega
    have w6_ : ((k + 1 : Nat) : Int) < (l.length : Int) := by omega
    have w7_ : decide ((0 : Int) < ((k + 1 : Nat) : Int)) = true := decide_eq_true (by omega)
    have w8_ : (0 : Int) ≤ ((k + 1 : Nat) : Int) := by omega
    rcases ilt d0 d with hc | hc
    ·rw [decide_eq_true hc] at hpi
     have ha2 := hide (ha.out.succ hpi)
     have hcc : decide (d ≤ d0) = false := decide_eq_false (by omega)
     replace hd := hide hd
     replace hd0 := hide hd0
     clear hpi
     go_wp2_with fail
     (refine wp_grow ?_; (repeat go_big_quiet_step ((go_at_call 220; exact calls_grew (HX.out _ (bup B2.out (Grew.below _)))))); refine wp_grow0 ?_; intro W1 hW1)
     go_wp2_with fail
     go_roundw
     case rel => exact ⟨k + 2, by omega, by go_num, ha2, hide (bup hbw.out hW1)⟩
     case measure => simp [intOf]; omega
    ·rw [decide_eq_false (by omega)] at hpi
     have hqv : E = false := hbad.out (k + 1) hlt hpi
     subst hqv
     have hcc : decide (d ≤ d0) = true := decide_eq_true hc
     replace hd := hide hd
     replace hd0 := hide hd0
     clear hpi hlast hbad
     go_wp2_with fail
     (refine wp_grow ?_; (repeat go_big_quiet_step ((go_at_call 220; exact calls_grew (HX.out _ (bup B2.out (Grew.below _)))))); refine wp_grow0 ?_; intro W1 hW1)
     go_wp2_with fail
     go_ret
     exact ⟨rfl, by have h := bup B2.out hW1; first | exact h | rwa [hg.out] at h⟩
  case neg =>
  have he : k = l.length := by omega
  subst he
  have hqv := hlast.out ha.out
  clear hlast hbad
  rcases Nat.eq_zero_or_pos l.length with n0 | n0
  ·rw [decide_eq_false (by omega)] at hqv
   subst hqv
   have c2 : decide ((0 : Int) < (l.length : Int)) = false := decide_eq_false (by omega)
   go_wp2_with fail
   go_ret
   exact ⟨rfl, by have h := B2.out; first | exact h | rwa [hg.out] at h⟩
  ·rw [decide_eq_true n0] at hqv
   subst hqv
   have c2 : decide ((0 : Int) < (l.length : Int)) = true := decide_eq_true (by omega)
   go_wp2_with fail
   go_ret
   exact ⟨rfl, by have h := B2.out; first | exact h | rwa [hg.out] at h⟩

theorem ref_begins (no : Int) (vd : Value) (p : List Weather) (s : Scene) (V : SceneV) (vl : Value) (l : List Int) (w : World) (h0 : 0 < p.length) (h1 : 0 < s.days.length) (hd : Sl w 3 Weather.cells vd p) (hs : SceneAt w s V) (hl : Sl w 1 intC vl l) :
  Calls Tryz.prog 131 #[.agg #[I no, vd], s.v V, vl] w fun e w' => e = .returned (.bool (beginsB s ⟨no, p⟩ && chosenB s l)) ∧ Below w.heap.size w w' := by
 have HS := hide (fun w' (hb : Below w.heap.size w w') => ref_Start no vd p w' h0 (hd.mono hb))
 have HC := hide (fun w' (hb : Below w.heap.size w w') => ref5_Cells s V vl l w' (hs.mono hb) (hl.mono hb))
 have HC2 := HC
 obtain ⟨vc, vp, vD, vs, vh⟩ := V
 have h3 : Sl w 3 Weather.cells vd p := hd
 have h4 : Sl w 1 intC vD s.days := hs.days
 obtain ⟨Ac, nc, rfl, _⟩ := (show Sl w 4 Cell.cells vc s.basin.cells from hs.cells).open_
 obtain ⟨Ap, np, rfl, _⟩ := (show Sl w 2 pairC vp s.basin.pairs from hs.pairs).open_
 obtain ⟨As, ns, rfl, _⟩ := (show Sl w 5 Sight.cells vs s.sights from hs.sights).open_
 obtain ⟨Ah, nh, rfl, _⟩ := (show Sl w 5 Change.cells vh s.changes from hs.changes).open_
 obtain ⟨Aw, nw, rfl, _⟩ := h3.open_
 obtain ⟨Al, nl, rfl, _⟩ := hl.open_
 obtain ⟨Ad, nd, rfl, _, _, hld, hAd⟩ := h4.open_
 obtain ⟨d, hdl⟩ := getElem?_of_lt (xs := s.days) (k := s.days.length - 1) (by omega)
 obtain ⟨ga, oa, rfl, _⟩ := hAd (s.days.length - 1) (by omega)
 have hq : s.days.getD (s.days.length - 1) 0 = d := by simp [hdl]
 have hB : beginsB s ⟨no, p⟩ = (d == beginF ⟨no, p⟩) := by unfold beginsB; rw [hq]
 rw [hB]
 obtain ⟨bg, hbg⟩ : ∃ bg, beginF ⟨no, p⟩ = bg := ⟨_, rfl⟩
 obtain ⟨ch, hch⟩ : ∃ ch, chosenB s l = ch := ⟨_, rfl⟩
 rw [hbg] at HS ⊢
 rw [hch] at HC ⊢
 obtain ⟨R, hR⟩ : ∃ R, ((d == bg) && ch) = R := ⟨_, rfl⟩
 rw [hR]
 replace hR := hide hR
 clear hB hq hbg hch HC2 hAd hs hl hd
 unfold Scene.v at *
 unfold Basin.v at *
 simp only at *
 have h5 := hide h4
 have hdl2 := hide hdl
 have n9 : ((s.days.length - 1 : Nat) : Int) = (s.days.length : Int) - 1 := by omega
 replace h3 := hide h3
 clear h4 hdl
 have w3_ : IntKind.i64.wrap ((s.days.length : Int) - 1) = (s.days.length : Int) - 1 := IntWalk.i64_in _ (by omega)
 have w4_ : (0 : Int) ≤ (s.days.length : Int) - 1 := by omega
 have w5_ : (s.days.length : Int) - 1 < (s.days.length : Int) := by omega
 go_enter Tryz.func131, Tryz.ntmps131
 go_wp2_with fail
 obtain ⟨W0, hW0⟩ : ∃ W0, W0 = (w.alloc (.cells #[I no, .slice Aw p.length nw] 28)).alloc (.cells #[.slice Ac s.basin.cells.length nc, .slice Ap s.basin.pairs.length np, I s.basin.gain, I s.basin.slack, I s.basin.deep, .slice (some ⟨ga, oa, none⟩) s.days.length nd, .slice As s.sights.length ns, .slice Ah s.changes.length nh] 63) := ⟨_, rfl⟩
 have kP : Blk W0 w.heap.size 28 #[I no, .slice Aw p.length nw] := by rw [hW0]; exact (Blk.new w _ _).alloc _
 have kS : Blk W0 (w.heap.size + 1) 63 #[.slice Ac s.basin.cells.length nc, .slice Ap s.basin.pairs.length np, I s.basin.gain, I s.basin.slack, I s.basin.deep, .slice (some ⟨ga, oa, none⟩) s.days.length nd, .slice As s.sights.length ns, .slice Ah s.changes.length nh] := by rw [hW0]; exact blk21 w _ _ _
 have B0 : Below w.heap.size w W0 := by rw [hW0]; exact below2 _ _ _
 rw [← hW0]
 clear hW0
 obtain ⟨zP, p0, p1, _, _⟩ := blk_box kP
 obtain ⟨s0, s1, s2, s3, s4, s5, s6, s7⟩ := kS.cells8
 have zS := kS.lt
 obtain ⟨zd, e0⟩ := (h5.out.mono B0).int_at hdl2.out
 replace B0 := hide B0
 clear kP kS
 obtain ⟨q, hq⟩ : ∃ q, s.days.length - 1 = q := ⟨_, rfl⟩
 have w6_ : (s.days.length : Int) - 1 = (q : Int) := by omega
 have w7_ : IntKind.i64.wrap ((s.days.length : Int) - 1) = (q : Int) := by rw [w3_, w6_]
 rw [w6_] at w4_ w5_
 rw [hq] at e0
 clear w6_ w3_ n9 hq
 by_cases hc : bg = d
 ·subst hc
  have hqv : R = ch := by rw [← hR.out]; simp
  subst hqv
  clear hR
  go_wp2_with fail
  (refine wp_grow ?_; (repeat go_big_quiet_step ((first | (go_at_call 119; exact calls_grew (HS.out _ (bup B0.out (Grew.below _)))) | (go_at_call 182; exact calls_grew (HC.out _ (bup B0.out (Grew.below _))))))); refine wp_grow0 ?_; intro W1 hW1)
  go_wp2_with fail
  go_ret
  exact ⟨rfl, bup B0.out hW1⟩
 ·have c1 : (d == bg) = false := by simpa using fun h => hc h.symm
  have c2 : (bg == d) = false := by simpa using hc
  have hqv : R = false := by rw [← hR.out, c1]; rfl
  subst hqv
  replace hc := hide hc
  clear hR c1
  go_wp2_with fail
  (refine wp_grow ?_; (repeat go_big_quiet_step ((first | (go_at_call 119; exact calls_grew (HS.out _ (bup B0.out (Grew.below _)))) | (go_at_call 182; exact calls_grew (HC.out _ (bup B0.out (Grew.below _))))))); refine wp_grow0 ?_; intro W1 hW1)
  go_wp2_with fail
  go_ret
  exact ⟨rfl, bup B0.out hW1⟩

end Go.Proofs.YtmjfdobjnnfafaaGreatDoor
