/- The law CrewNext: Best can be visited by the trip that Next returns, and no course that a trip visits has a lesser Worst. Conditions stand in the theorem. -/
import Derived.Test.YtgbbljfmngmjeaaGreatSane7
import Derived.Test.YtgbbljfmngmjeaaGreatFine7
import Derived.Test.YtgbbljfmngmjeaaGreatNextMathPack
import Derived.Test.YtgbbljfmngmjeaaGreatCrew14Pack
import Derived.Test.YtgbbljfmngmjeaaGreatIndexFuncPack
set_option linter.all false
set_option maxHeartbeats 16000000
set_option maxRecDepth 100000
namespace Go.Proofs.YtgbbljfmngmjeaaGreat
open Go.RowKit

theorem next_gives (x : Site) (g : Nat) (w : World) (hB : Blk w g 80 #[I x.no, I x.kind, I x.cell]) (xs : List Cell) :
  Gives Tryz.prog 64 #[.pointer (some ⟨g, 0, none⟩)] (fun y => .agg #[I y.no, I y.height, I y.aspect, I y.area]) (fun y => y.no == x.cell) w xs := by
 intro W y _ hb
 obtain ⟨x0, x1, x2⟩ := (hB.grow hb).cells3
 have zX := (hB.grow hb).lt
 clear hB hb
 go_enter Tryz.func64, Tryz.ntmps64
 go_wp2
 go_ret
 exact ⟨rfl, below1 _ _⟩
theorem cell_any {cs : List Cell} {no : Int} : (cs.any fun c => c.no == no) = decide (0 ≤ placeC cs no) := (idxBy_nonneg _ _).symm
def hitB (ss : List Site) (is : Bool) (no : Int) (i : Nat) : Bool := is && ((ss.getD i default).kind == 2) && ((ss.getD i default).no == no)
def lsF (b : Bool) (l : Int) : Int := if b then l else 0
theorem hit_snoc (ss : List Site) (is : Bool) (no : Int) (k : Nat) : (List.range (k + 1)).any (hitB ss is no) = ((List.range k).any (hitB ss is no) || hitB ss is no k) := by simp [List.range_succ]
theorem law_CrewNext (vs vt : Value) (ss : List Site) (ts : List Track) (s : Scene) (V : SceneV) (c : Crew) (day : Int) (vk : Value) (cs : List Int) (width : Int) (w : World) (hs : Sl w 3 Site.cells vs ss) (ht : Sl w 6 Track.cells vt ts) (hS : SceneAt w s V) (hk : Sl w 1 intC vk cs) :
  Calls Tryz.prog 12 #[.agg #[vs, vt], s.v V, .agg #[I c.hut, I c.work, I c.load], I day, vk, I width] w fun e w' => e = .returned (.bool true) ∧ Below w.heap.size w w' := by
 have JF := fun w' (hb : Below w.heap.size w w') => law7_fine vs vt ss ts s V w' (hs.mono hb) (ht.mono hb) (hS.mono hb)
 have JB := fun w' (hb : Below w.heap.size w w') => crew_Best vs vt vk ss ts s V c day cs width w' (hs.mono hb) (ht.mono hb) (hS.mono hb) (hk.mono hb)
 have JN := fun w' (hb : Below w.heap.size w w') => crew_Next vs vt vk ss ts s V c day cs width w' (hs.mono hb) (ht.mono hb) (hS.mono hb) (hk.mono hb)
 have JW := fun cell w' (hb : Below w.heap.size w w') => crew_Worst s V vk cs day cell width w' (hS.mono hb) (hk.mono hb)
 have JT := fun vk cs w' (hb : Below w.heap.size w w') hk => crew_Trip vs vt vk ss ts s V c day cs w' (hs.mono hb) (ht.mono hb) (hS.mono hb) hk
 have JC := fun vl l vk cs w' (hb : Below w.heap.size w w') hl hk => crew_CheckTrip vs vt vl vk ss ts s V c day l cs w' (hs.mono hb) (ht.mono hb) (hS.mono hb) hl hk
 have JX := fun (x : Site) g w' (hb : Below w.heap.size w w') (kx : Blk w' g 80 #[I x.no, I x.kind, I x.cell]) => containsFunc_Cell V.cells s.basin.cells 64 #[.pointer (some ⟨g, 0, none⟩)] (fun y => y.no == x.cell) w' (hS.cells.mono hb) (enters_of Tryz.func64 (by kernel_rfl) rfl) (next_gives x g w' kx s.basin.cells)
 have HSs := hide hs
 obtain ⟨D, nk, rfl, -⟩ := hk.open_
 obtain ⟨Ac, nc, hcc, -⟩ := hS.cells.open_
 obtain ⟨Ap, np, hpp, -⟩ := hS.pairs.open_
 obtain ⟨Ad, nd, hdd, -⟩ := hS.days.open_
 obtain ⟨As, ns, hsi, -⟩ := hS.sights.open_
 obtain ⟨Ah, nh, hch, -⟩ := hS.changes.open_
 obtain ⟨A, n, rfl, _, _, _, hA⟩ := hs.open_
 obtain ⟨A', n', rfl, -⟩ := ht.open_
 unfold Scene.v at *
 simp only [hcc, hpp, hdd, hsi, hch] at JF JB JN JW JT JC JX ⊢
 clear hcc hpp hdd hsi hch
 obtain ⟨F, hF⟩ : ∃ q, fineB ss ts s = q := ⟨_, rfl⟩
 rw [hF] at JF
 have hfz := hide (fun h => fine_zero (ss := ss) (ts := ts) (s := s) (hF.trans h))
 have hbad := hide (fun h => best_bad (ss := ss) (ts := ts) (s := s) (c := c) (day := day) (cs := cs) (width := width) h)
 have hgood := hide (fun hr h => best_is (ss := ss) (ts := ts) (s := s) (c := c) (day := day) (cs := cs) (width := width) hr h)
 have hLl : (bestL (bestR ss ts s c day cs width)).length ≤ 64 ∨ True := .inr trivial
 obtain ⟨R, hR⟩ : ∃ q, bestR ss ts s c day cs width = q := ⟨_, rfl⟩
 rw [hR] at JB JN hbad hgood
 obtain ⟨NO, hNO⟩ : ∃ q, bestNo R = q := ⟨_, rfl⟩
 obtain ⟨BB, hBB⟩ : ∃ q, bestB R = q := ⟨_, rfl⟩
 obtain ⟨EE, hEE⟩ : ∃ q, bestE R = q := ⟨_, rfl⟩
 obtain ⟨LL, hLL⟩ : ∃ q, bestL R = q := ⟨_, rfl⟩
 rw [hNO, hBB, hEE] at JB
 rw [hBB, hEE, hLL] at JN
 rw [hNO, hBB, hEE, hLL] at hbad
 rw [hNO, hBB, hEE, hLL] at hgood
 clear hR hNO hBB hEE hLL hLl hF hs ht hS hk
 replace JF := hide JF
 replace JB := hide JB
 replace JN := hide JN
 replace JW := hide JW
 replace JT := hide JT
 replace JC := hide JC
 replace JX := hide JX
 replace hA := hide hA
 have JS := hide law_sane7
 obtain ⟨w1, hw1, hb, kR, kS, kC⟩ := al3 w #[.slice A ss.length n, .slice A' ts.length n'] 25 (s8 s Ac nc Ap np Ad nd As ns Ah nh) 42 #[I c.hut, I c.work, I c.load] 44
 replace kR := hide kR
 replace kS := hide kS
 replace kC := hide kC
 have B1 := hide hb
 clear hb
 go_enter Tryz.func12, Tryz.ntmps12
 go_wp2_with fail
 rw [← hw1]
 clear hw1
 go_wp2_with fail
 go_at_call 16
 refine (JS.out _).mono ?_
 rintro e w2 ⟨rfl, hb⟩
 replace kR := hide (kR.out.grow hb)
 replace kS := hide (kS.out.grow hb)
 replace kC := hide (kC.out.grow hb)
 have B2 := hide (bup B1.out hb)
 clear hb B1
 obtain ⟨r0, r1⟩ := kR.out.cells2
 have zR := kR.out.lt
 obtain ⟨q0, q1, q2, q3, q4, q5, q6, q7⟩ := kS.out.cells8
 have zS := kS.out.lt
 go_wp2_with fail
 clear r0 r1 zR q0 q1 q2 q3 q4 q5 q6 q7 zS
 go_at_call 46
 refine (JF.out _ B2.out).mono ?_
 rintro e w3 ⟨rfl, hb⟩
 replace kR := hide (kR.out.grow hb)
 replace kS := hide (kS.out.grow hb)
 replace kC := hide (kC.out.grow hb)
 have B3 := hide (bup B2.out hb)
 clear hb B2
 cases F with
 | false =>
  go_wp2_with fail
  go_ret
  exact ⟨rfl, B3.out⟩
 | true =>
 obtain ⟨hr0, -, -, -⟩ := hfz.out rfl
 clear hfz JF JS
 have hro := hide (RangeOk.of hr0)
 replace hr0 := hide hr0
 obtain ⟨r0, r1⟩ := kR.out.cells2
 have zR := kR.out.lt
 obtain ⟨q0, q1, q2, q3, q4, q5, q6, q7⟩ := kS.out.cells8
 have zS := kS.out.lt
 obtain ⟨c_0, c_1, c_2⟩ := kC.out.cells3
 have zC := kC.out.lt
 go_wp2_with fail
 clear r0 r1 zR q0 q1 q2 q3 q4 q5 q6 q7 zS c_0 c_1 c_2 zC
 go_at_call 60
 refine (JB.out _ B3.out).mono ?_
 rintro e w4 ⟨rfl, hb⟩
 replace kR := hide (kR.out.grow hb)
 replace kS := hide (kS.out.grow hb)
 replace kC := hide (kC.out.grow hb)
 have B4 := hide (bup B3.out hb)
 clear hb B3
 obtain ⟨r0, r1⟩ := kR.out.cells2
 have zR := kR.out.lt
 obtain ⟨q0, q1, q2, q3, q4, q5, q6, q7⟩ := kS.out.cells8
 have zS := kS.out.lt
 obtain ⟨c_0, c_1, c_2⟩ := kC.out.cells3
 have zC := kC.out.lt
 go_wp2_with fail
 clear r0 r1 zR q0 q1 q2 q3 q4 q5 q6 q7 zS c_0 c_1 c_2 zC
 have hLl : LL.length ≤ 64 := by
  by_cases h : EE = 0
  ·obtain ⟨least, hb⟩ := hgood.out hro.out h
   exact hb.len
  ·rw [(hbad.out h).2.2]; simp
 go_at_call 62
 refine (JN.out _ B4.out).mono ?_
 rintro e w5 ⟨v4, rfl, hO, hb⟩
 have hLs := hO.sl intC_len (by omega)
 obtain ⟨AL, nL, rfl, -⟩ := hLs.open_
 replace hLs := hide hLs
 clear hO
 replace kR := hide (kR.out.grow hb)
 replace kS := hide (kS.out.grow hb)
 replace kC := hide (kC.out.grow hb)
 have B5 := hide (bup B4.out hb)
 clear hb B4
 have hEE : (EE != EE) = false := by simp
 have hBq : (BB != BB) = false := by simp
 by_cases h0 : EE = 0
 case neg =>
  obtain ⟨rfl, rfl, rfl⟩ := hbad.out h0
  have hne : (EE != 0) = true := by simpa using h0
  replace h0 := hide h0
  clear hgood
  go_wp2_with fail
  go_ret
  exact ⟨rfl, B5.out⟩
 subst h0
 obtain ⟨least, hb⟩ := hgood.out hro.out rfl
 have hat := fun (i : Nat) x (hx : ss[i]? = some x) => getD_of hx
 have hfn : (List.range ss.length).any (hitB ss BB NO) = BB := by
  cases hq : BB with
  | false =>
   rw [Bool.eq_false_iff]
   intro h
   obtain ⟨i, _, hi⟩ := List.any_eq_true.1 h
   simp [hitB] at hi
  | true =>
   obtain ⟨-, i, x, hx, hk, hn⟩ := hb.ok hq
   exact List.any_eq_true.2 ⟨i, List.mem_range.2 (List.getElem?_eq_some_iff.1 hx).1, by unfold hitB; rw [getD_of hx]; simp [hk, hn]⟩
 have hB := hide hb
 replace hfn := hide hfn
 have n16 := hro.out.n1
 clear hgood hbad hb hat JB JN
 obtain ⟨r0, r1⟩ := kR.out.cells2
 have zR := kR.out.lt
 go_wp2_with fail
 clear r0 r1 zR
 go_loopw [19, 20, 83] (fun u v i wr => ∃ k : Nat, k ≤ ss.length ∧ i = I k ∧ u = I (lsF ((List.range k).any (hitB ss BB NO)) least) ∧ v = .bool ((List.range k).any (hitB ss BB NO)) ∧ Hid (Below w5.heap.size w5 wr)) (fun _ _ i _ => ss.length - (intOf i).toNat)
 case atStart => exact ⟨0, Nat.zero_le _, rfl, rfl, rfl, hide (Below.refl _ _)⟩
 case round =>
  obtain ⟨k, hk, rfl, rfl, rfl, hbk⟩ := hrel
  have hb := hbk.out
  clear hbk
  have hb0 := hide hb
  replace kR := hide (kR.out.grow hb)
  replace kS := hide (kS.out.grow hb)
  replace kC := hide (kC.out.grow hb)
  replace hLs := hide (hLs.out.mono hb)
  have B6 := hide (bup B5.out hb)
  clear hb B5
  by_cases hlt : k < ss.length
  case neg =>
   obtain rfl : k = ss.length := by omega
   rename World => wo
   rw [hfn.out]
   obtain ⟨LS, hLS⟩ : ∃ q, lsF BB least = q := ⟨_, rfl⟩
   rw [hLS]
   replace hLS := hide hLS
   have hA2 := hide (fun (i : Nat) (h : i < ss.length) => hA.out i h)
   cases hq : BB with
   | false =>
    have hbf : (false != false) = false := rfl
    rw [hq] at hB hfn hLS hBq
    obtain ⟨r0, r1⟩ := kR.out.cells2
    have zR := kR.out.lt
    go_wp2_with fail
    clear r0 r1 zR
    go_loopw [133] (fun i wr => ∃ k : Nat, k ≤ ss.length ∧ i = I k ∧ Hid (Below wo.heap.size wo wr)) (fun i _ => ss.length - (intOf i).toNat)
    case atStart => exact ⟨0, Nat.zero_le _, rfl, hide (Below.refl _ _)⟩
    case round =>
     obtain ⟨k, hk, rfl, hbk⟩ := hrel
     have hb := hbk.out
     clear hbk
     have hb0 := hide hb
     replace kR := hide (kR.out.grow hb)
     replace kS := hide (kS.out.grow hb)
     replace kC := hide (kC.out.grow hb)
     replace hLs := hide (hLs.out.mono hb)
     have B7 := hide (bup B6.out hb)
     clear hb B6
     by_cases hlt : k < ss.length
     case neg =>
      obtain rfl : k = ss.length := by omega
      go_wp2_with fail
      go_ret
      exact ⟨rfl, B7.out⟩
     obtain ⟨b, off, rfl, hbw⟩ := hA.out k hlt
     replace hbw := hide hbw
     have hbx : b < wr.heap.size := by have := B7.out.size; have := hbw.out; omega
     obtain ⟨x, hx⟩ := getElem?_of_lt hlt
     obtain ⟨_, f0, f1, f2⟩ := (HSs.out.mono B7.out).site_at hx
     have k0 : (0 : Int) ≤ (k : Int) := by omega
     have k1 : (k : Int) < (ss.length : Int) := by omega
     obtain ⟨wx, hwx, hb, kX⟩ := al1 wr #[I x.no, I x.kind, I x.cell] 80
     replace kX := hide kX
     replace hb0 := hide (bup hb0.out hb)
     replace kR := hide (kR.out.grow hb)
     replace kS := hide (kS.out.grow hb)
     replace kC := hide (kC.out.grow hb)
     replace hLs := hide (hLs.out.mono hb)
     have B8 := hide (bup B7.out hb)
     clear hb B7
     go_upto_region 26 with fail
     rw [← hwx]
     clear hwx f0 f1 f2 hbx
     by_cases hk2 : x.kind = 2
     case neg =>
      have hkn : (x.kind != 2) = true := by simpa using hk2
      replace hk2 := hide hk2
      obtain ⟨q0, q1, q2, q3, q4, q5, q6, q7⟩ := kS.out.cells8
      have zS := kS.out.lt
      obtain ⟨x_0, x_1, x_2⟩ := kX.out.cells3
      have zX := kX.out.lt
      go_wp2_with fail
      go_roundw
      case rel => exact ⟨k + 1, by omega, by go_num, hb0⟩
      case measure => simp [intOf]; omega
     have hkn : (x.kind != 2) = false := by simpa using hk2
     have JX1 := JX.out x wr.heap.size wx B8.out kX.out
     rw [cell_any] at JX1
     replace JX1 := hide JX1
     obtain ⟨q0, q1, q2, q3, q4, q5, q6, q7⟩ := kS.out.cells8
     have zS := kS.out.lt
     obtain ⟨x_0, x_1, x_2⟩ := kX.out.cells3
     have zX := kX.out.lt
     go_wp2_with fail
     clear q0 q1 q2 q3 q4 q5 q6 q7 zS x_0 x_1 x_2 zX
     go_at_call 63
     refine (JX1.out).mono ?_
     rintro e w6 ⟨rfl, hb⟩
     replace hb0 := hide (bup hb0.out hb)
     clear JX1
     replace kR := hide (kR.out.grow hb)
     replace kS := hide (kS.out.grow hb)
     replace kC := hide (kC.out.grow hb)
     replace kX := hide (kX.out.grow hb)
     replace hLs := hide (hLs.out.mono hb)
     have B9 := hide (bup B8.out hb)
     clear hb B8
     by_cases hpc : 0 ≤ placeC s.basin.cells x.cell
     case neg =>
      rw [decide_eq_false hpc]
      replace hpc := hide hpc
      replace hk2 := hide hk2
      obtain ⟨q0, q1, q2, q3, q4, q5, q6, q7⟩ := kS.out.cells8
      have zS := kS.out.lt
      obtain ⟨x_0, x_1, x_2⟩ := kX.out.cells3
      have zX := kX.out.lt
      go_wp2_with fail
      go_roundw
      case rel => exact ⟨k + 1, by omega, by go_num, hb0⟩
      case measure => simp [intOf]; omega
     rw [decide_eq_true hpc]
     have htE := hB.out.trip k x hx hk2
     have hmE := meas_one hB.out.meas x.cell
     rw [decide_eq_true hpc] at hmE
     have hbst := hide (fun h => hB.out.best k x hx ⟨hk2, hmE, h⟩)
     have htB : tripB ss ts s c day [x.no] = (tripF ss ts s c day [x.no]).isSome := by simp [tripB, htE]
     have JT1 := fun vk w' hb hk => JT.out vk [x.no] w' hb hk
     have JW1 := fun w' hb => JW.out x.cell w' hb
     obtain ⟨TB, hTB⟩ : ∃ q, (tripF ss ts s c day [x.no]).isSome = q := ⟨_, rfl⟩
     obtain ⟨WV, hWV⟩ : ∃ q, (outV (worstR s cs day x.cell width)).wide = q := ⟨_, rfl⟩
     obtain ⟨WE, hWE⟩ : ∃ q, outE (worstR s cs day x.cell width) = q := ⟨_, rfl⟩
     simp only [htE, htB, hTB] at JT1
     simp only [hWV, hWE] at JW1
     rw [hTB, hWV, hWE] at hbst
     replace JT1 := hide JT1
     replace JW1 := hide JW1
     replace hk2 := hide hk2
     replace hpc := hide hpc
     replace hx := hide hx
     clear htE hmE htB hTB hWV hWE
     obtain ⟨wn, hwn, hb, kN⟩ := al1 w6 #[I x.no] 3
     have hNs := hide (blk_sl (l := [x.no]) (n := 1) kN rfl (by omega))
     obtain ⟨r0, r1⟩ := kR.out.cells2
     have zR := kR.out.lt
     obtain ⟨q0, q1, q2, q3, q4, q5, q6, q7⟩ := kS.out.cells8
     have zS := kS.out.lt
     obtain ⟨c_0, c_1, c_2⟩ := kC.out.cells3
     have zC := kC.out.lt
     obtain ⟨x_0, x_1, x_2⟩ := kX.out.cells3
     have zX := kX.out.lt
     go_wp2_with fail
     rw [← hwn]
     clear hwn kN
     clear r0 r1 zR q0 q1 q2 q3 q4 q5 q6 q7 zS c_0 c_1 c_2 zC x_0 x_1 x_2 zX
     replace hb0 := hide (bup hb0.out hb)
     replace kR := hide (kR.out.grow hb)
     replace kS := hide (kS.out.grow hb)
     replace kC := hide (kC.out.grow hb)
     replace kX := hide (kX.out.grow hb)
     replace hLs := hide (hLs.out.mono hb)
     have B10 := hide (bup B9.out hb)
     clear hb B9
     go_at_call 40
     refine (JT1.out _ _ B10.out hNs.out).mono ?_
     rintro e w7 ⟨v7, rfl, -, hb⟩
     replace hb0 := hide (bup hb0.out hb)
     clear JT1 hNs
     replace kR := hide (kR.out.grow hb)
     replace kS := hide (kS.out.grow hb)
     replace kC := hide (kC.out.grow hb)
     replace kX := hide (kX.out.grow hb)
     replace hLs := hide (hLs.out.mono hb)
     have B11 := hide (bup B10.out hb)
     clear hb B10
     obtain ⟨q0, q1, q2, q3, q4, q5, q6, q7⟩ := kS.out.cells8
     have zS := kS.out.lt
     obtain ⟨x_0, x_1, x_2⟩ := kX.out.cells3
     have zX := kX.out.lt
     go_wp2_with fail
     clear q0 q1 q2 q3 q4 q5 q6 q7 zS x_0 x_1 x_2 zX
     go_at_call 42
     refine (JW1.out _ B11.out).mono ?_
     rintro e w8 ⟨rfl, hb⟩
     replace hb0 := hide (bup hb0.out hb)
     clear JW1
     replace kR := hide (kR.out.grow hb)
     replace kS := hide (kS.out.grow hb)
     replace kC := hide (kC.out.grow hb)
     replace kX := hide (kX.out.grow hb)
     replace hLs := hide (hLs.out.mono hb)
     have B12 := hide (bup B11.out hb)
     clear hb B11
     cases TB with
     | false =>
      obtain ⟨x_0, x_1, x_2⟩ := kX.out.cells3
      have zX := kX.out.lt
      go_wp2_with fail
      go_roundw
      case rel => exact ⟨k + 1, by omega, by go_num, hb0⟩
      case measure => simp [intOf]; omega
     | true =>
     obtain ⟨h9, -⟩ := hbst.out rfl
     cases h9
   | true =>
    rw [hq] at hB hfn hLS hBq
    have hck := (hB.out.ok rfl).1
    have JC1 := fun vl vk w' hb hl hk => JC.out vl LL vk [NO] w' hb hl hk
    simp only [hck] at JC1
    replace JC1 := hide JC1
    replace hck := hide hck
    obtain ⟨wn, hwn, hb, kN⟩ := al1 wo #[I NO] 3
    have hNs := hide (blk_sl (l := [NO]) (n := 1) kN rfl (by omega))
    obtain ⟨r0, r1⟩ := kR.out.cells2
    have zR := kR.out.lt
    obtain ⟨q0, q1, q2, q3, q4, q5, q6, q7⟩ := kS.out.cells8
    have zS := kS.out.lt
    obtain ⟨c_0, c_1, c_2⟩ := kC.out.cells3
    have zC := kC.out.lt
    go_wp2_with fail
    rw [← hwn]
    clear hwn kN
    clear r0 r1 zR q0 q1 q2 q3 q4 q5 q6 q7 zS c_0 c_1 c_2 zC
    replace kR := hide (kR.out.grow hb)
    replace kS := hide (kS.out.grow hb)
    replace kC := hide (kC.out.grow hb)
    replace hLs := hide (hLs.out.mono hb)
    have B7 := hide (bup B6.out hb)
    clear hb B6
    go_at_call 38
    refine (JC1.out _ _ _ B7.out hLs.out hNs.out).mono ?_
    rintro e w6 ⟨rfl, hb⟩
    clear JC1 hNs
    replace kR := hide (kR.out.grow hb)
    replace kS := hide (kS.out.grow hb)
    replace kC := hide (kC.out.grow hb)
    replace hLs := hide (hLs.out.mono hb)
    have B8 := hide (bup B7.out hb)
    clear hb B7
    obtain ⟨r0, r1⟩ := kR.out.cells2
    have zR := kR.out.lt
    go_wp2_with fail
    clear r0 r1 zR
    go_loopw [133] (fun i wr => ∃ k : Nat, k ≤ ss.length ∧ i = I k ∧ Hid (Below w6.heap.size w6 wr)) (fun i _ => ss.length - (intOf i).toNat)
    case atStart => exact ⟨0, Nat.zero_le _, rfl, hide (Below.refl _ _)⟩
    case round =>
     obtain ⟨k, hk, rfl, hbk⟩ := hrel
     have hb := hbk.out
     clear hbk
     have hb0 := hide hb
     replace kR := hide (kR.out.grow hb)
     replace kS := hide (kS.out.grow hb)
     replace kC := hide (kC.out.grow hb)
     replace hLs := hide (hLs.out.mono hb)
     have B9 := hide (bup B8.out hb)
     clear hb B8
     by_cases hlt : k < ss.length
     case neg =>
      obtain rfl : k = ss.length := by omega
      go_wp2_with fail
      go_ret
      exact ⟨rfl, B9.out⟩
     obtain ⟨b, off, rfl, hbw⟩ := hA.out k hlt
     replace hbw := hide hbw
     have hbx : b < wr.heap.size := by have := B9.out.size; have := hbw.out; omega
     obtain ⟨x, hx⟩ := getElem?_of_lt hlt
     obtain ⟨_, f0, f1, f2⟩ := (HSs.out.mono B9.out).site_at hx
     have k0 : (0 : Int) ≤ (k : Int) := by omega
     have k1 : (k : Int) < (ss.length : Int) := by omega
     obtain ⟨wx, hwx, hb, kX⟩ := al1 wr #[I x.no, I x.kind, I x.cell] 80
     replace kX := hide kX
     replace hb0 := hide (bup hb0.out hb)
     replace kR := hide (kR.out.grow hb)
     replace kS := hide (kS.out.grow hb)
     replace kC := hide (kC.out.grow hb)
     replace hLs := hide (hLs.out.mono hb)
     have B10 := hide (bup B9.out hb)
     clear hb B9
     go_upto_region 26 with fail
     rw [← hwx]
     clear hwx f0 f1 f2 hbx
     by_cases hk2 : x.kind = 2
     case neg =>
      have hkn : (x.kind != 2) = true := by simpa using hk2
      replace hk2 := hide hk2
      obtain ⟨q0, q1, q2, q3, q4, q5, q6, q7⟩ := kS.out.cells8
      have zS := kS.out.lt
      obtain ⟨x_0, x_1, x_2⟩ := kX.out.cells3
      have zX := kX.out.lt
      go_wp2_with fail
      go_roundw
      case rel => exact ⟨k + 1, by omega, by go_num, hb0⟩
      case measure => simp [intOf]; omega
     have hkn : (x.kind != 2) = false := by simpa using hk2
     have JX1 := JX.out x wr.heap.size wx B10.out kX.out
     rw [cell_any] at JX1
     replace JX1 := hide JX1
     obtain ⟨q0, q1, q2, q3, q4, q5, q6, q7⟩ := kS.out.cells8
     have zS := kS.out.lt
     obtain ⟨x_0, x_1, x_2⟩ := kX.out.cells3
     have zX := kX.out.lt
     go_wp2_with fail
     clear q0 q1 q2 q3 q4 q5 q6 q7 zS x_0 x_1 x_2 zX
     go_at_call 63
     refine (JX1.out).mono ?_
     rintro e w7 ⟨rfl, hb⟩
     replace hb0 := hide (bup hb0.out hb)
     clear JX1
     replace kR := hide (kR.out.grow hb)
     replace kS := hide (kS.out.grow hb)
     replace kC := hide (kC.out.grow hb)
     replace kX := hide (kX.out.grow hb)
     replace hLs := hide (hLs.out.mono hb)
     have B11 := hide (bup B10.out hb)
     clear hb B10
     by_cases hpc : 0 ≤ placeC s.basin.cells x.cell
     case neg =>
      rw [decide_eq_false hpc]
      replace hpc := hide hpc
      replace hk2 := hide hk2
      obtain ⟨q0, q1, q2, q3, q4, q5, q6, q7⟩ := kS.out.cells8
      have zS := kS.out.lt
      obtain ⟨x_0, x_1, x_2⟩ := kX.out.cells3
      have zX := kX.out.lt
      go_wp2_with fail
      go_roundw
      case rel => exact ⟨k + 1, by omega, by go_num, hb0⟩
      case measure => simp [intOf]; omega
     rw [decide_eq_true hpc]
     have htE := hB.out.trip k x hx hk2
     have hmE := meas_one hB.out.meas x.cell
     rw [decide_eq_true hpc] at hmE
     have hbst := hide (fun h => hB.out.best k x hx ⟨hk2, hmE, h⟩)
     have htB : tripB ss ts s c day [x.no] = (tripF ss ts s c day [x.no]).isSome := by simp [tripB, htE]
     have JT1 := fun vk w' hb hk => JT.out vk [x.no] w' hb hk
     have JW1 := fun w' hb => JW.out x.cell w' hb
     obtain ⟨TB, hTB⟩ : ∃ q, (tripF ss ts s c day [x.no]).isSome = q := ⟨_, rfl⟩
     obtain ⟨WV, hWV⟩ : ∃ q, (outV (worstR s cs day x.cell width)).wide = q := ⟨_, rfl⟩
     obtain ⟨WE, hWE⟩ : ∃ q, outE (worstR s cs day x.cell width) = q := ⟨_, rfl⟩
     simp only [htE, htB, hTB] at JT1
     simp only [hWV, hWE] at JW1
     rw [hTB, hWV, hWE] at hbst
     replace JT1 := hide JT1
     replace JW1 := hide JW1
     replace hk2 := hide hk2
     replace hpc := hide hpc
     replace hx := hide hx
     clear htE hmE htB hTB hWV hWE
     obtain ⟨wn, hwn, hb, kN⟩ := al1 w7 #[I x.no] 3
     have hNs := hide (blk_sl (l := [x.no]) (n := 1) kN rfl (by omega))
     obtain ⟨r0, r1⟩ := kR.out.cells2
     have zR := kR.out.lt
     obtain ⟨q0, q1, q2, q3, q4, q5, q6, q7⟩ := kS.out.cells8
     have zS := kS.out.lt
     obtain ⟨c_0, c_1, c_2⟩ := kC.out.cells3
     have zC := kC.out.lt
     obtain ⟨x_0, x_1, x_2⟩ := kX.out.cells3
     have zX := kX.out.lt
     go_wp2_with fail
     rw [← hwn]
     clear hwn kN
     clear r0 r1 zR q0 q1 q2 q3 q4 q5 q6 q7 zS c_0 c_1 c_2 zC x_0 x_1 x_2 zX
     replace hb0 := hide (bup hb0.out hb)
     replace kR := hide (kR.out.grow hb)
     replace kS := hide (kS.out.grow hb)
     replace kC := hide (kC.out.grow hb)
     replace kX := hide (kX.out.grow hb)
     replace hLs := hide (hLs.out.mono hb)
     have B12 := hide (bup B11.out hb)
     clear hb B11
     go_at_call 40
     refine (JT1.out _ _ B12.out hNs.out).mono ?_
     rintro e w8 ⟨v7, rfl, -, hb⟩
     replace hb0 := hide (bup hb0.out hb)
     clear JT1 hNs
     replace kR := hide (kR.out.grow hb)
     replace kS := hide (kS.out.grow hb)
     replace kC := hide (kC.out.grow hb)
     replace kX := hide (kX.out.grow hb)
     replace hLs := hide (hLs.out.mono hb)
     have B13 := hide (bup B12.out hb)
     clear hb B12
     obtain ⟨q0, q1, q2, q3, q4, q5, q6, q7⟩ := kS.out.cells8
     have zS := kS.out.lt
     obtain ⟨x_0, x_1, x_2⟩ := kX.out.cells3
     have zX := kX.out.lt
     go_wp2_with fail
     clear q0 q1 q2 q3 q4 q5 q6 q7 zS x_0 x_1 x_2 zX
     go_at_call 42
     refine (JW1.out _ B13.out).mono ?_
     rintro e w9 ⟨rfl, hb⟩
     replace hb0 := hide (bup hb0.out hb)
     clear JW1
     replace kR := hide (kR.out.grow hb)
     replace kS := hide (kS.out.grow hb)
     replace kC := hide (kC.out.grow hb)
     replace kX := hide (kX.out.grow hb)
     replace hLs := hide (hLs.out.mono hb)
     have B14 := hide (bup B13.out hb)
     clear hb B13
     cases TB with
     | false =>
      obtain ⟨x_0, x_1, x_2⟩ := kX.out.cells3
      have zX := kX.out.lt
      go_wp2_with fail
      go_roundw
      case rel => exact ⟨k + 1, by omega, by go_num, hb0⟩
      case measure => simp [intOf]; omega
     | true =>
     obtain ⟨-, rfl, g3, g4⟩ := hbst.out rfl
     obtain rfl : LS = least := hLS.out.symm
     have hl1 : decide (WV < LS) = false := decide_eq_false (by omega)
     clear hbst
     by_cases h9 : WV = LS
     case pos =>
      have h5 := g4 h9
      have h6 : (WV == LS) = true := by simpa using h9
      have h7 : decide (x.no < NO) = false := decide_eq_false (by omega)
      replace h9 := hide h9
      replace h5 := hide h5
      replace g3 := hide g3
      clear g4
      obtain ⟨x_0, x_1, x_2⟩ := kX.out.cells3
      have zX := kX.out.lt
      go_wp2_with fail
      go_roundw
      case rel => exact ⟨k + 1, by omega, by go_num, hb0⟩
      case measure => simp [intOf]; omega
     have h6 : (WV == LS) = false := by simpa using h9
     replace h9 := hide h9
     replace g3 := hide g3
     clear g4
     obtain ⟨x_0, x_1, x_2⟩ := kX.out.cells3
     have zX := kX.out.lt
     go_wp2_with fail
     go_roundw
     case rel => exact ⟨k + 1, by omega, by go_num, hb0⟩
     case measure => simp [intOf]; omega
  obtain ⟨b, off, rfl, hbw⟩ := hA.out k hlt
  replace hbw := hide hbw
  have hbx : b < wr.heap.size := by have := B6.out.size; have := hbw.out; omega
  obtain ⟨x, hx⟩ := getElem?_of_lt hlt
  obtain ⟨_, f0, f1, f2⟩ := (HSs.out.mono B6.out).site_at hx
  have k0 : (0 : Int) ≤ (k : Int) := by omega
  have k1 : (k : Int) < (ss.length : Int) := by omega
  obtain ⟨wx, hwx, hb, kX⟩ := al1 wr #[I x.no, I x.kind, I x.cell] 80
  replace kX := hide kX
  replace hb0 := hide (bup hb0.out hb)
  replace kR := hide (kR.out.grow hb)
  replace kS := hide (kS.out.grow hb)
  replace kC := hide (kC.out.grow hb)
  replace hLs := hide (hLs.out.mono hb)
  have B7 := hide (bup B6.out hb)
  clear hb B6
  go_upto_region 15 with fail
  rw [← hwx]
  clear hwx f0 f1 f2 hbx
  have hsn := hit_snoc ss BB NO k
  have hhit : hitB ss BB NO k = (BB && (x.kind == 2) && (x.no == NO)) := by rw [hitB, getD_of hx]
  rw [hhit] at hsn
  have hht := hide (fun h h2 h3 => hB.out.hit h k x hx h2 h3)
  replace hx := hide hx
  obtain ⟨FD, hFD⟩ : ∃ q, (List.range k).any (hitB ss BB NO) = q := ⟨_, rfl⟩
  rw [hFD] at hsn ⊢
  obtain ⟨LS, hLS⟩ : ∃ q, lsF FD least = q := ⟨_, rfl⟩
  rw [hLS]
  replace hLS := hide hLS
  replace hFD := hide hFD
  replace hsn := hide hsn
  clear hhit
  cases hk2 : (x.kind == 2) with
  | false =>
   obtain ⟨x_0, x_1, x_2⟩ := kX.out.cells3
   have zX := kX.out.lt
   go_wp2_with fail
   go_roundw
   case rel => exact ⟨k + 1, by omega, by go_num, by rw [hsn.out]; simp [hk2]; first | exact hLS.out.symm | exact congrArg I hLS.out.symm, by rw [hsn.out]; simp [hk2], hb0⟩
   case measure => simp [intOf]; omega
  | true =>
  cases hn2 : (x.no == NO) with
  | false =>
   obtain ⟨x_0, x_1, x_2⟩ := kX.out.cells3
   have zX := kX.out.lt
   go_wp2_with fail
   go_roundw
   case rel => exact ⟨k + 1, by omega, by go_num, by rw [hsn.out]; simp [hk2, hn2]; first | exact hLS.out.symm | exact congrArg I hLS.out.symm, by rw [hsn.out]; simp [hk2, hn2], hb0⟩
   case measure => simp [intOf]; omega
  | true =>
  cases BB with
  | false =>
   obtain ⟨x_0, x_1, x_2⟩ := kX.out.cells3
   have zX := kX.out.lt
   go_wp2_with fail
   go_roundw
   case rel => exact ⟨k + 1, by omega, by go_num, by rw [hsn.out]; simp; first | exact hLS.out.symm | exact congrArg I hLS.out.symm, by rw [hsn.out]; simp, hb0⟩
   case measure => simp [intOf]; omega
  | true =>
  obtain ⟨g1, g2⟩ := hht.out rfl (by simpa using hk2) (by simpa using hn2)
  have JW1 := fun w' hb => JW.out x.cell w' hb
  simp only [g1, g2] at JW1
  replace JW1 := hide JW1
  replace g1 := hide g1
  replace g2 := hide g2
  have hf1 : (List.range (k + 1)).any (hitB ss true NO) = true := by rw [hsn.out]; simp [hk2, hn2]
  have hf2 : least = lsF true least := rfl
  replace hf1 := hide hf1
  replace hf2 := hide hf2
  obtain ⟨q0, q1, q2, q3, q4, q5, q6, q7⟩ := kS.out.cells8
  have zS := kS.out.lt
  obtain ⟨x_0, x_1, x_2⟩ := kX.out.cells3
  have zX := kX.out.lt
  go_wp2_with fail
  clear q0 q1 q2 q3 q4 q5 q6 q7 zS x_0 x_1 x_2 zX
  go_at_call 42
  refine (JW1.out _ B7.out).mono ?_
  rintro e w6 ⟨rfl, hb⟩
  replace hb0 := hide (bup hb0.out hb)
  clear JW1
  replace kR := hide (kR.out.grow hb)
  replace kS := hide (kS.out.grow hb)
  replace kC := hide (kC.out.grow hb)
  replace kX := hide (kX.out.grow hb)
  replace hLs := hide (hLs.out.mono hb)
  have B8 := hide (bup B7.out hb)
  clear hb B7
  go_wp2_with fail
  go_roundw
  case rel => exact ⟨k + 1, by omega, by go_num, by rw [hf1.out]; first | exact hf2.out | exact congrArg I hf2.out, by rw [hf1.out], hb0⟩
  case measure => simp [intOf]; omega
end Go.Proofs.YtgbbljfmngmjeaaGreat
