/- The package basin: CheckField. Conditions stand in the theorems. -/
import Derived.Test.YtoojedjmlcdomaaGreatDoorOneHoldPack
import Derived.Test.YtoojedjmlcdomaaGreatDoorBasin10
import Derived.Test.YtoojedjmlcdomaaGreatDoorBasin7Pack
import Derived.Test.YtoojedjmlcdomaaGreatDoorBasin3Pack
set_option linter.all false
set_option maxHeartbeats 4000000
set_option maxRecDepth 100000
namespace Go.Proofs.YtoojedjmlcdomaaGreatDoor
open Go.RowKit

structure RowL where
 v : Value
 l : List Int
def RowL.cells (r : RowL) : List Value := [r.v]
def FieldAt (w : World) (v : Value) (f : List RowL) : Prop := Sl w 1 RowL.cells v f ∧ ∀ r ∈ f, Sl w 1 intC r.v r.l
theorem FieldAt.mono {w w' : World} {v : Value} {f : List RowL} (h : FieldAt w v f) (hb : Below w.heap.size w w') : FieldAt w' v f := ⟨h.1.mono hb, fun r hr => (h.2 r hr).mono hb⟩
theorem Sl.rowl_at {w : World} {b off c : Nat} {xs : List RowL} (h : Sl w 1 RowL.cells (.slice (some ⟨b, off, none⟩) xs.length c) xs) {i : Nat} {x : RowL} (hx : xs[i]? = some x) :
  b < w.heap.size ∧ w.cell? ⟨b, off + i, none⟩ = some x.v := by
 obtain ⟨h1, h2⟩ := h.cells_ hx
 exact ⟨h1, by simpa using h2 0 _ rfl⟩
def fieldL (f : List RowL) : List Int := 0 :: f.flatMap RowL.l
def fitsB (s : Scene) (f : List RowL) : Bool := numsB (fieldL f) && holdsB (layD s) (fieldL f)
def rowsB (s : Scene) (f : List RowL) : Bool := f.all fun r => decide (r.l.length = s.basin.cells.length)
def fieldE (s : Scene) (f : List RowL) : Int :=
 if sceneE s ≠ 0 then sceneE s else if f.length ≠ s.days.length then 53 else if rowsB s f = false then 53 else if fitsB s f then 0 else 53
theorem flat_rows {n : Nat} : ∀ {f : List RowL}, (∀ r ∈ f, r.l.length = n) → (f.flatMap RowL.l).length = f.length * n
 | [], _ => by simp
 | r :: f, h => by
  rw [List.flatMap_cons, List.length_append, h r (List.mem_cons_self ..), flat_rows fun x hx => h x (List.mem_cons_of_mem _ hx), List.length_cons, Nat.add_mul]
  omega
theorem fieldL_succ {f : List RowL} {k : Nat} {r : RowL} (h : f[k]? = some r) : fieldL (f.take (k + 1)) = fieldL (f.take k) ++ r.l := by
 unfold fieldL
 rw [take_succ_of h, List.flatMap_append]
 simp

theorem basin_CheckField (s : Scene) (V : SceneV) (v : Value) (f : List RowL) (w : World) (hs : SceneAt w s V) (hf : FieldAt w v f) :
  Calls Tryz.prog 15 #[s.v V, v] w fun e w' => e = .returned (I (fieldE s f)) ∧ Below w.heap.size w w' := by
 obtain ⟨vc, vp, vd, vs, vh⟩ := V
 have HC := fun w' (h : Below w.heap.size w w') => basin_Check s ⟨vc, vp, vd, vs, vh⟩ w' (hs.mono h)
 have HL := fun hv w' (h : Below w.heap.size w w') => basin_lay s ⟨vc, vp, vd, vs, vh⟩ w' (hs.mono h) hv
 have HH := hide (fun (hv : SceneOk s) vd' x v' w' hd hx hn => diffs_Holds vd' v' (nodesN s) (layD s) x w' hv.net hd hx hn)
 obtain ⟨Ac, nc, rfl, _⟩ := (show Sl w 4 Cell.cells vc s.basin.cells from hs.cells).open_
 obtain ⟨Ap, np, rfl, _⟩ := (show Sl w 2 pairC vp s.basin.pairs from hs.pairs).open_
 obtain ⟨Ad, nd, rfl, _⟩ := (show Sl w 1 intC vd s.days from hs.days).open_
 obtain ⟨As, ns, rfl, _⟩ := (show Sl w 5 Sight.cells vs s.sights from hs.sights).open_
 obtain ⟨Ah, nh, rfl, _⟩ := (show Sl w 5 Change.cells vh s.changes from hs.changes).open_
 obtain ⟨A, n, rfl, _, _, hlen, hA⟩ := hf.1.open_
 have hf1 := hide hf.1
 have hf2 := hide hf.2
 clear hf hs
 replace hA := hide hA
 simp only [Scene.v] at HC HL ⊢
 by_cases h : sceneE s = 0
 case neg =>
  have hE : fieldE s f = sceneE s := by simp [fieldE, h]
  rw [hE]
  obtain ⟨E, hE2⟩ : ∃ E, sceneE s = E := ⟨_, rfl⟩
  rw [hE2] at HC h ⊢
  have h0 : (E != 0) = true := by simpa using h
  replace h := hide h
  replace HC := hide HC
  clear HL HH hE hE2 hA hf1 hf2
  go_enter Tryz.func15, Tryz.ntmps15
  go_wp2_with (go_at_call 50; refine (HC.out _ (below1 _ _)).mono ?_; rintro e w1 ⟨rfl, hb1⟩)
  go_ret
  exact ⟨rfl, bup (below1 _ _) hb1⟩
 have hv := SceneOk.of h
 rw [h] at HC
 replace HC := hide HC
 replace HL := hide (HL hv)
 replace HH := hide (HH.out hv)
 by_cases hm : f.length = s.days.length
 case neg =>
  have hE : fieldE s f = 53 := by simp [fieldE, h, hm]
  rw [hE]
  have h1 : ((f.length : Int) == (s.days.length : Int)) = false := by simp; omega
  replace hm := hide hm
  clear HL HH hE hA hf1 hf2 h hv
  go_enter Tryz.func15, Tryz.ntmps15
  go_wp2_with (go_at_call 50; refine (HC.out _ (below1 _ _)).mono ?_; rintro e w1 ⟨rfl, hb1⟩; have hc1 := fun o => (bcell hb1).1 w.heap.size o (by simp))
  go_ret
  exact ⟨rfl, bup (below1 _ _) hb1⟩
 have hn12 : 1 ≤ s.basin.cells.length ∧ s.basin.cells.length ≤ 12 := ⟨hv.basin.hc1, hv.basin.hc2⟩
 have hm16 : s.days.length ≤ 16 := hv.hd2
 have hbad : ∀ r ∈ f, r.l.length ≠ s.basin.cells.length → fieldE s f = 53 := fun r hr hne => by
  have : rowsB s f = false := by
   rw [rowsB, List.all_eq_false]
   exact ⟨r, hr, by simpa using hne⟩
  simp [fieldE, h, hm, this]
 have hgood : (∀ r ∈ f, r.l.length = s.basin.cells.length) → fieldE s f = (if fitsB s f then 0 else 53) ∧ (fieldL f).length = nodesN s := fun hr => by
  have : rowsB s f = true := by
   rw [rowsB, List.all_eq_true]
   exact fun x hx => by simpa using hr x hx
  refine ⟨by simp [fieldE, h, hm, this], ?_⟩
  rw [fieldL, List.length_cons, flat_rows hr, hm, nodesN]
  omega
 have hll := hide hv.lay_len
 obtain ⟨E, hE⟩ : ∃ E, fieldE s f = E := ⟨_, rfl⟩
 rw [hE] at hbad hgood ⊢
 clear hE h hv
 replace hbad := hide hbad
 replace hgood := hide hgood
 rw [← hm] at HC HL ⊢ hm16
 have hm' := hide hm
 clear hm
 go_enter Tryz.func15, Tryz.ntmps15
 go_wp2_with (go_at_call 50; refine (HC.out _ (below1 _ _)).mono ?_; rintro e w1 ⟨rfl, hb1⟩; have hc1 := fun o => (bcell hb1).1 w.heap.size o (by simp))
 obtain ⟨W0, hW0⟩ : ∃ W0, W0 = w1.alloc (.cells #[I 0] 3) := ⟨_, rfl⟩
 have kS : Blk W0 w.heap.size 38 #[.slice Ac s.basin.cells.length nc, .slice Ap s.basin.pairs.length np, I s.basin.gain, I s.basin.slack, I s.basin.deep, .slice Ad f.length nd, .slice As s.sights.length ns, .slice Ah s.changes.length nh] := by rw [hW0]; exact ((Blk.new w _ _).grow hb1).alloc _
 have hm1 : w.heap.size < w1.heap.size := by have := hb1.size; simp at this; omega
 have kL : Own W0 w1.heap.size 3 1 intC (.slice (some ⟨w1.heap.size, 0, none⟩) 1 1) (fieldL (f.take 0)) := by
  rw [hW0]
  exact own_row intC_len (Blk.new w1 3 #[I 0]) (Nat.le_refl _) (by unfold maxLen; omega) (Nat.le_refl _) rfl (by simp [fieldL, intC])
 have B0 : Below w.heap.size w W0 := by rw [hW0]; exact bup (bup (below1 _ _) hb1) (below1 _ _)
 have z0 : w1.heap.size ≤ W0.heap.size := by rw [hW0]; simp
 rw [← hW0]
 clear hW0 hc1 HC
 obtain ⟨m, hm⟩ : ∃ m, w1.heap.size = m := ⟨_, rfl⟩
 rw [hm] at kL z0 hm1 ⊢
 clear hm hb1 w1
 replace kS := hide kS
 replace B0 := hide B0
 go_loopw [25, 8, 6] (fun i _ lv wr => ∃ k : Nat, k ≤ f.length ∧ i = I k ∧ Hid (Upto (fun r : RowL => decide (r.l.length = s.basin.cells.length)) f k) ∧ Hid (Own wr m 3 1 intC lv (fieldL (f.take k))) ∧ Hid (Below m W0 wr)) (fun i _ _ _ => f.length - (intOf i).toNat)
 case atStart => exact ⟨0, Nat.zero_le _, rfl, hide (Upto.zero _ _), hide kL, hide (Below.refl _ _)⟩
 case round =>
  obtain ⟨k, hk, rfl, hU, hO, hB⟩ := hrel
  have hBw := hide (B0.out.trans (hB.out.mono (Nat.le_of_lt hm1)))
  have kS2 := kS.out.below hB.out hm1
  obtain ⟨s0, s1, s2, s3, s4, s5, s6, s7⟩ := kS2.cells8
  have zS := kS2.lt
  have zm : m ≤ wr.heap.size := Nat.le_trans z0 hB.out.size
  by_cases hlt : k < f.length
  case pos =>
   obtain ⟨r, hr⟩ := getElem?_of_lt hlt
   obtain ⟨g, o, rfl, _⟩ := hA.out k hlt
   obtain ⟨zr, r0⟩ := (hf1.out.mono hBw.out).rowl_at hr
   have hrs := (hf2.out r (List.mem_of_getElem? hr)).mono hBw.out
   obtain ⟨rv, rl⟩ := r
   simp only at r0 hrs
   obtain ⟨Ar, nr, rfl, _, _, _, hAr⟩ := hrs.open_
   by_cases hne : rl.length = s.basin.cells.length
   case neg =>
    have hfin := hide (hbad.out _ (List.mem_of_getElem? hr) hne)
    have h1 : ((rl.length : Int) == (s.basin.cells.length : Int)) = false := by simp; omega
    replace hr := hide hr
    replace hne := hide hne
    replace hrs := hide hrs
    clear HL HH hgood hbad
    go_wp2_with fail
    go_ret
    exact ⟨ret_int hfin.out.symm, hBw.out⟩
   case pos =>
    obtain ⟨ga, oa, rfl, _⟩ := hAr 0 (by omega)
    have hU2 := hide (hU.out.succ hr (by simpa using hne))
    have hsc := hide (fieldL_succ hr)
    have hlk : (fieldL (f.take k)).length ≤ 1 + k * 12 := by
     rw [fieldL, List.length_cons]
     have := flatMap_len (f := RowL.l) (c := 12) (f.take k) (fun x hx => by
      obtain ⟨i, hi⟩ := List.mem_iff_getElem?.1 hx
      have hik : i < k := by
       have := (List.getElem?_eq_some_iff.1 hi).1
       simp at this; omega
      have := hU.out i x hik (by rwa [List.getElem?_take_of_lt hik] at hi)
      have : x.l.length = s.basin.cells.length := by simpa using this
      omega)
     simp only [List.length_take] at this
     have : min k f.length = k := by omega
     omega
    have hl2 : rl.length ≤ 12 := by omega
    rw [← hne] at s0
    clear hne
    replace hr := hide hr
    replace hrs := hide hrs
    obtain ⟨L, hL⟩ : ∃ L, fieldL (f.take k) = L := ⟨_, rfl⟩
    rw [hL] at hO hsc hlk
    clear hL
    clear HL HH hgood hbad hU
    go_wp2_with (at_builtin; refine wp_append_all el_int intC_len intC_one rfl (.tmp 36) (.tmp 37) rfl m rfl hO.out rfl hrs.out ?c1 ?c2 ?c3 ?c4 ?_)
    case c1 => omega
    case c2 => omega
    intro v' w' hown hb' _
    go_wp2_with fail
    go_roundw
    case rel => exact ⟨k + 1, by omega, by go_num, hU2, hide (by rw [hsc.out]; exact hown), hide (hB.out.trans hb')⟩
    case measure => simp [intOf]; omega
  case neg =>
   have he : k = f.length := by omega
   subst he
   obtain ⟨hfin, hN⟩ := hgood.out (fun r hr => by
    obtain ⟨i, hi⟩ := List.mem_iff_getElem?.1 hr
    simpa using hU.out i r (List.getElem?_eq_some_iff.1 hi).1 hi)
   replace hfin := hide hfin
   rw [List.take_length] at hO
   have hNn : nodesN s ≤ 193 := by
    have := Nat.mul_le_mul hm16 hn12.2
    rw [hm'.out] at this
    unfold nodesN; omega
   have hsl := hide (hO.out.sl intC_len (by omega))
   obtain ⟨Al, nl, cl, rfl⟩ := hO.out.shape
   replace hN := hide hN
   clear hbad hgood hU hA
   obtain ⟨N, hNs⟩ : ∃ N, nodesN s = N := ⟨_, rfl⟩
   rw [hNs] at HL HH hN hNn
   clear hNs
   have hll2 := hll.out
   go_wp2_with fail
   go_at_call 68
   refine (HL.out wr hBw.out).mono ?_
   rintro e w2 ⟨rfl, hL⟩
   have hb2 := hL.below
   obtain ⟨v, r, rs, k1, k2, k3, k4⟩ := hL.laid
   have zX := k1.lt
   have x8 : w2.cell? ⟨wr.heap.size + 2, 8, none⟩ = some (I N) := k1.cell 8
   have x9 : w2.cell? ⟨wr.heap.size + 2, 9, none⟩ = some v := k1.cell 9
   have HX := HH.out v (fieldL f) _ w2 (k2.sl Diff.cells_len (by omega)) (hsl.out.mono hb2) hN.out
   obtain ⟨q1, hq1⟩ : ∃ q, numsB (fieldL f) = q := ⟨_, rfl⟩
   obtain ⟨q2, hq2⟩ : ∃ q, holdsB (layD s) (fieldL f) = q := ⟨_, rfl⟩
   have hfin2 := hfin.out
   rw [fitsB, hq1, hq2] at hfin2
   rw [hq1, hq2] at HX
   replace HX := hide HX
   have hb3' := hide hb2
   clear hq1 hq2 hfin HL HH hL k1 k2 k3 k4 hb2 hsl hO hN hB hll hll2 s0 s1 s2 s3 s4 s5 s6 s7 zS kS2 hf1 hf2
   go_wp2_with fail
   go_at_call 67
   refine HX.out.mono ?_
   rintro e w3 ⟨rfl, hb3⟩
   have hend := bup hBw.out (bup hb3'.out hb3)
   clear HX
   cases q1
   ·subst hfin2
    go_wp2_with fail
    go_ret
    exact ⟨rfl, hend⟩
   cases q2
   ·subst hfin2
    go_wp2_with fail
    go_ret
    exact ⟨rfl, hend⟩
   ·subst hfin2
    go_wp2_with fail
    go_ret
    exact ⟨rfl, hend⟩


end Go.Proofs.YtoojedjmlcdomaaGreatDoor
