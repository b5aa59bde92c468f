/- The reference's small functions of a scene: Place, When, node, like, more. Conditions stand in the theorems. -/
import Derived.Test.YtoojedjmlcdomaaGreatDoorBasin7Pack
import Derived.Test.YtoojedjmlcdomaaGreatDoorRefNetPack
import Derived.Test.YtoojedjmlcdomaaGreatDoorBasin3Pack
import Derived.Test.YtoojedjmlcdomaaGreatDoorRef4Pack
import Derived.Test.YtoojedjmlcdomaaGreatDoorSpring15Pack
set_option linter.all false
set_option maxHeartbeats 4000000
set_option maxRecDepth 100000
namespace Go.Proofs.YtoojedjmlcdomaaGreatDoor
open Go.RowKit

theorem blkw {w W : World} {t : TypeId} {cs : Array Value} (h : W = w.alloc (.cells cs t)) : Blk W w.heap.size t cs ∧ Below w.heap.size w W := by
 subst h
 exact ⟨Blk.new _ _ _, below1 _ _⟩
theorem ref5_Place (b : Basin) (vc vp : Value) (no : Int) (w : World) (hc : Sl w 4 Cell.cells vc b.cells) (hp : Sl w 2 pairC vp b.pairs) :
  Calls Tryz.prog 170 #[b.v vc vp, I no] w fun e w' => e = .returned (I (placeC b.cells no)) ∧ Below w.heap.size w w' := by
 obtain ⟨A, n, rfl, _, _, hlen, hA⟩ := hc.open_
 obtain ⟨P, m, rfl, _⟩ := hp.open_
 unfold Basin.v placeC
 replace hc := hide hc
 replace hA := hide hA
 go_enter Tryz.func170, Tryz.ntmps170
 go_wp2_with fail
 obtain ⟨W1, hW1⟩ : ∃ W1, W1 = w.alloc (.cells #[.slice A b.cells.length n, .slice P b.pairs.length m, I b.gain, I b.slack, I b.deep] 33) := ⟨_, rfl⟩
 obtain ⟨hk, hb⟩ := blkw hW1
 rw [← hW1]
 clear hW1
 obtain ⟨g, hg⟩ : ∃ g, w.heap.size = g := ⟨_, rfl⟩
 rw [hg] at hk ⊢
 have c0 : W1.cell? ⟨g, 0, none⟩ = some (.slice A b.cells.length n) := hk.cell 0
 have zg := hk.lt
 replace hb := hide hb
 clear hk
 replace hg := hide hg
 go_loopw [5] (fun i wr => ∃ k : Nat, k ≤ b.cells.length ∧ i = I k ∧ Hid (NoneTo (fun c : Cell => c.no == no) b.cells k) ∧ wr = W1) (fun i _ => b.cells.length - (intOf i).toNat)
 case atStart => exact ⟨0, Nat.zero_le _, rfl, hide (NoneTo.zero _ _), rfl⟩
 case round =>
  obtain ⟨k, hk, rfl, hn, rfl⟩ := hrel
  by_cases hlt : k < b.cells.length
  ·obtain ⟨ga, oa, rfl, _⟩ := hA.out k hlt
   obtain ⟨x, hx⟩ := getElem?_of_lt hlt
   obtain ⟨zx, e0, _, _, _⟩ := (hc.out.mono hb.out).cell_at hx
   by_cases hno : x.no = no
   ·have q1 : (x.no == no) = true := by simpa using hno
    have hf := hn.out.found hx (by simpa using hno)
    replace hno := hide hno
    replace hx := hide hx
    replace hf := hide hf
    go_wp2_with fail
    go_ret
    exact ⟨ret_int hf.out.symm, hb.out⟩
   ·have q1 : (x.no == no) = false := by simpa using hno
    have hs := hide (hn.out.succ hx (by simpa using hno))
    replace hno := hide hno
    replace hx := hide hx
    go_wp2_with fail
    go_roundw
    case rel => exact ⟨k + 1, by omega, by go_num, hs, by first | rfl | trivial⟩
    case measure => simp [intOf]; omega
  ·have he : k = b.cells.length := by omega
   subst he
   have hm := hide hn.out.missed
   go_wp2_with fail
   go_ret
   exact ⟨ret_int hm.out.symm, hb.out⟩

theorem ref5_When (s : Scene) (V : SceneV) (d : Int) (w : World) (hs : SceneAt w s V) :
  Calls Tryz.prog 171 #[s.v V, I d] w fun e w' => e = .returned (I (placeD s.days d)) ∧ Below w.heap.size w w' := by
 obtain ⟨vc, vp, vd, vs, vh⟩ := V
 obtain ⟨Ac, nc, hcc, _⟩ := hs.cells.open_
 obtain ⟨Ap, np, hpp, _⟩ := hs.pairs.open_
 obtain ⟨A, n, hdd, _, _, hlen, hA⟩ := hs.days.open_
 obtain ⟨As, ns, hss, _⟩ := hs.sights.open_
 obtain ⟨Ah, nh, hch, _⟩ := hs.changes.open_
 simp only at hcc hpp hdd hss hch
 subst hcc hpp hdd hss hch
 have hd := hide hs.days
 unfold Scene.v placeD
 simp only at hd ⊢
 clear hs
 replace hA := hide hA
 go_enter Tryz.func171, Tryz.ntmps171
 go_wp2_with fail
 obtain ⟨W1, hW1⟩ : ∃ W1, W1 = w.alloc (.cells #[.slice Ac s.basin.cells.length nc, .slice Ap s.basin.pairs.length np, I s.basin.gain, I s.basin.slack, I s.basin.deep, .slice A s.days.length n, .slice As s.sights.length ns, .slice Ah s.changes.length nh] 38) := ⟨_, rfl⟩
 obtain ⟨hk, hb⟩ := blkw hW1
 rw [← hW1]
 clear hW1
 obtain ⟨g, hg⟩ : ∃ g, w.heap.size = g := ⟨_, rfl⟩
 rw [hg] at hk ⊢
 have c0 : W1.cell? ⟨g, 5, none⟩ = some (.slice A s.days.length n) := hk.cell 5
 have zg := hk.lt
 replace hb := hide hb
 clear hk
 replace hg := hide hg
 go_loopw [5] (fun i wr => ∃ k : Nat, k ≤ s.days.length ∧ i = I k ∧ Hid (NoneTo (fun x : Int => x == d) s.days k) ∧ wr = W1) (fun i _ => s.days.length - (intOf i).toNat)
 case atStart => exact ⟨0, Nat.zero_le _, rfl, hide (NoneTo.zero _ _), rfl⟩
 case round =>
  obtain ⟨k, hk, rfl, hn, rfl⟩ := hrel
  by_cases hlt : k < s.days.length
  ·obtain ⟨ga, oa, rfl, _⟩ := hA.out k hlt
   obtain ⟨x, hx⟩ := getElem?_of_lt hlt
   obtain ⟨zx, e0⟩ := (hd.out.mono hb.out).int_at hx
   by_cases hno : x = d
   ·have q1 : (x == d) = true := by simpa using hno
    have hf := hn.out.found hx (by simpa using hno)
    replace hno := hide hno
    replace hx := hide hx
    replace hf := hide hf
    go_wp2_with fail
    go_ret
    exact ⟨ret_int hf.out.symm, hb.out⟩
   ·have q1 : (x == d) = false := by simpa using hno
    have hs := hide (hn.out.succ hx (by simpa using hno))
    replace hno := hide hno
    replace hx := hide hx
    go_wp2_with fail
    go_roundw
    case rel => exact ⟨k + 1, by omega, by go_num, hs, by first | rfl | trivial⟩
    case measure => simp [intOf]; omega
  ·have he : k = s.days.length := by omega
   subst he
   have hm := hide hn.out.missed
   go_wp2_with fail
   go_ret
   exact ⟨ret_int hm.out.symm, hb.out⟩

theorem ref5_node (s : Scene) (V : SceneV) (c d : Int) (w : World) (hs : SceneAt w s V) (hc : 0 ≤ c ∧ c ≤ 12) (hd : 0 ≤ d ∧ d ≤ 16) (hn : s.basin.cells.length ≤ 12) :
  Calls Tryz.prog 200 #[s.v V, I c, I d] w fun e w' => e = .returned (I (nodeF s.basin.cells.length c d)) ∧ Below w.heap.size w w' := by
 obtain ⟨vc, vp, vd, vs, vh⟩ := V
 obtain ⟨Ac, nc, hcc, _⟩ := hs.cells.open_
 obtain ⟨Ap, np, hpp, _⟩ := hs.pairs.open_
 obtain ⟨A, n, hdd, _⟩ := hs.days.open_
 obtain ⟨As, ns, hss, _⟩ := hs.sights.open_
 obtain ⟨Ah, nh, hch, _⟩ := hs.changes.open_
 simp only at hcc hpp hdd hss hch
 subst hcc hpp hdd hss hch
 have h1 : 0 ≤ d * (s.basin.cells.length : Int) := Int.mul_nonneg hd.1 (by omega)
 have h2 : d * (s.basin.cells.length : Int) ≤ 16 * 12 := Int.mul_le_mul hd.2 (by omega) (by omega) (by omega)
 obtain ⟨p, hp⟩ : ∃ p, d * (s.basin.cells.length : Int) = p := ⟨_, rfl⟩
 have w1 : IntKind.i64.wrap p = p := IntWalk.i64_in _ (by omega)
 have w2 : IntKind.i64.wrap (1 + p) = 1 + p := IntWalk.i64_in _ (by omega)
 have w3 : IntKind.i64.wrap (1 + p + c) = 1 + p + c := IntWalk.i64_in _ (by omega)
 unfold Scene.v nodeF
 simp only
 clear hs
 rw [hp]
 go_enter Tryz.func200, Tryz.ntmps200
 go_wp2_with fail
 go_ret
 exact ⟨ret_int (by first | rfl | (simp [hp, w1, w2, w3])), below1 _ _⟩

theorem like5_eq {a b : Int} (ha : 0 ≤ a ∧ a ≤ 7) (hb : 0 ≤ b ∧ b ≤ 7) : (decide ((a - b + 8) % 8 ≤ 1) || decide ((a - b + 8) % 8 = 7)) = (decide (a - b = 0) || decide (a - b = 1) || decide (b - a = 1) || decide (a - b = 7) || decide (b - a = 7)) := by
 rw [Bool.eq_iff_iff]
 simp only [Bool.or_eq_true, decide_eq_true_eq]
 omega
theorem ref5_like (a b : Cell) (w : World) (ha : 0 ≤ a.aspect ∧ a.aspect ≤ 7) (hb : 0 ≤ b.aspect ∧ b.aspect ≤ 7) :
  Calls Tryz.prog 201 #[.agg #[I a.no, I a.height, I a.aspect, I a.area], .agg #[I b.no, I b.height, I b.aspect, I b.area]] w fun e w' => e = .returned (.bool (likeB a b)) ∧ Below w.heap.size w w' := by
 have w1 : IntKind.i64.wrap (a.aspect - b.aspect) = a.aspect - b.aspect := IntWalk.i64_in _ (by omega)
 have w2 : IntKind.i64.wrap (b.aspect - a.aspect) = b.aspect - a.aspect := IntWalk.i64_in _ (by omega)
 obtain ⟨q, hq⟩ : ∃ q, likeB a b = q := ⟨_, rfl⟩
 have hq2 := hq
 unfold likeB at hq2
 rw [like5_eq ha hb] at hq2
 rw [hq]
 clear hq
 rcases ilt (a.aspect - b.aspect) (b.aspect - a.aspect) with h | h
 ·obtain ⟨d, hd⟩ : ∃ d, b.aspect - a.aspect = d := ⟨_, rfl⟩
  have hd2 : a.aspect - b.aspect = -d := by omega
  have hq3 : (decide (d = 0) || decide (d = 1) || decide (d = 7)) = q := by
   rw [← hq2, Bool.eq_iff_iff]; simp only [Bool.or_eq_true, decide_eq_true_eq]; omega
  rw [hd] at w2
  rw [hd2] at w1
  rw [hd2, hd] at h
  clear hq2 ha hb
  by_cases d0 : d = 0
  ·have e0 : (d == 0) = true := by simpa using d0
   have hq4 : q = true := by rw [← hq3]; simp [d0]
   subst hq4
   clear hq3 d0
   go_enter Tryz.func201, Tryz.ntmps201
   go_wp2_with fail
   go_ret
   exact ⟨ret_bool (by first | rfl | (simp; done) | (simp; omega)), below2 _ _ _⟩
  ·have e0 : (d == 0) = false := by simpa using d0
   by_cases d1 : d = 1
   ·have e1 : (d == 1) = true := by simpa using d1
    have hq4 : q = true := by rw [← hq3]; simp [d1]
    subst hq4
    clear hq3 d0 d1
    go_enter Tryz.func201, Tryz.ntmps201
    go_wp2_with fail
    go_ret
    exact ⟨ret_bool (by first | rfl | (simp; done) | (simp; omega)), below2 _ _ _⟩
   ·have e1 : (d == 1) = false := by simpa using d1
    have hq4 : q = decide (d = 7) := by rw [← hq3]; simp [d0, d1]
    subst hq4
    clear hq3 d0 d1
    go_enter Tryz.func201, Tryz.ntmps201
    go_wp2_with fail
    go_ret
    exact ⟨ret_bool (by first | rfl | (simp; done) | (simp; omega)), below2 _ _ _⟩
 ·obtain ⟨d, hd⟩ : ∃ d, a.aspect - b.aspect = d := ⟨_, rfl⟩
  have hd2 : b.aspect - a.aspect = -d := by omega
  have hq3 : (decide (d = 0) || decide (d = 1) || decide (d = 7)) = q := by
   rw [← hq2, Bool.eq_iff_iff]; simp only [Bool.or_eq_true, decide_eq_true_eq]; omega
  rw [hd] at w1
  rw [hd2] at w2
  rw [hd, hd2] at h
  clear hq2 ha hb
  by_cases d0 : d = 0
  ·have e0 : (d == 0) = true := by simpa using d0
   have hq4 : q = true := by rw [← hq3]; simp [d0]
   subst hq4
   clear hq3 d0
   go_enter Tryz.func201, Tryz.ntmps201
   go_wp2_with fail
   go_ret
   exact ⟨ret_bool (by first | rfl | (simp; done) | (simp; omega)), below2 _ _ _⟩
  ·have e0 : (d == 0) = false := by simpa using d0
   by_cases d1 : d = 1
   ·have e1 : (d == 1) = true := by simpa using d1
    have hq4 : q = true := by rw [← hq3]; simp [d1]
    subst hq4
    clear hq3 d0 d1
    go_enter Tryz.func201, Tryz.ntmps201
    go_wp2_with fail
    go_ret
    exact ⟨ret_bool (by first | rfl | (simp; done) | (simp; omega)), below2 _ _ _⟩
   ·have e1 : (d == 1) = false := by simpa using d1
    have hq4 : q = decide (d = 7) := by rw [← hq3]; simp [d0, d1]
    subst hq4
    clear hq3 d0 d1
    go_enter Tryz.func201, Tryz.ntmps201
    go_wp2_with fail
    go_ret
    exact ⟨ret_bool (by first | rfl | (simp; done) | (simp; omega)), below2 _ _ _⟩

theorem ref5_more (b : Basin) (vc vp : Value) (j k : Nat) (x y : Cell) (w : World) (hc : Sl w 4 Cell.cells vc b.cells) (hp : Sl w 2 pairC vp b.pairs) (hg : 0 ≤ b.gain ∧ b.gain ≤ 65536) (hs : 0 ≤ b.slack ∧ b.slack ≤ 65536)
  (hx : b.cells[j]? = some x) (hy : b.cells[k]? = some y) (hx0 : 0 ≤ x.height) (hy9 : y.height ≤ 9000) (hxy : x.height ≤ y.height) :
  Calls Tryz.prog 202 #[b.v vc vp, .agg #[I j, I k]] w fun e w' => e = .returned (I (moreF b ((j : Int), (k : Int)))) ∧ Below w.heap.size w w' := by
 have hb := more_bounds hg hxy hx0 hy9
 have hv : moreF b ((j : Int), (k : Int)) = b.slack + b.gain * (y.height - x.height) / 100 := by
  simp only [moreF, Int.toNat_natCast, getD_of hx, getD_of hy]
 rw [hv]
 obtain ⟨A, n, rfl, _, _, hlc, hA⟩ := hc.open_
 obtain ⟨P, m, rfl, _⟩ := hp.open_
 have hjl := (List.getElem?_eq_some_iff.1 hx).1
 have hkl := (List.getElem?_eq_some_iff.1 hy).1
 obtain ⟨g, off, rfl, hgw⟩ := hA j hjl
 obtain ⟨_, _, e1, _, _⟩ := hc.cell_at hx
 obtain ⟨_, _, p1, _, _⟩ := hc.cell_at hy
 have w1 : IntKind.i64.wrap (y.height - x.height) = y.height - x.height := IntWalk.i64_in _ (by omega)
 obtain ⟨d, hd⟩ : ∃ d, b.gain * (y.height - x.height) = d := ⟨_, rfl⟩
 rw [hd] at hb ⊢
 have w2 : IntKind.i64.wrap d = d := IntWalk.i64_in _ (by omega)
 have w3 : Int.tdiv d 100 = d / 100 := Int.tdiv_eq_ediv_of_nonneg hb.1
 have w4 : IntKind.i64.wrap (d / 100) = d / 100 := IntWalk.i64_in _ (by omega)
 have w5 : IntKind.i64.wrap (b.slack + d / 100) = b.slack + d / 100 := IntWalk.i64_in _ (by omega)
 have hg1 : g < w.heap.size + 1 := by omega
 have hg2 : g < w.heap.size + 1 + 1 := by omega
 have hg3 : g ≤ w.heap.size := by omega
 unfold Basin.v
 clear hA hc hx hy hv hp
 go_enter Tryz.func202, Tryz.ntmps202
 go_wp2_with fail
 (refine wp_grow ?_; (repeat go_big_quiet_step (fail)); refine wp_grow0 ?_; intro W1 hW1)
 go_wp2_with fail
 go_ret
 exact ⟨rfl, bup (below2 _ _ _) hW1⟩

theorem hasD_eq {ds : List Int} {d : Int} : hasD ds d = decide (0 ≤ placeD ds d) := by
 cases h : hasD ds d with
 | true => exact (decide_eq_true (hasD_place h)).symm
 | false =>
  rw [eq_comm, decide_eq_false_iff_not]
  intro h0
  obtain ⟨x, hx, hp⟩ := idxBy_at (fun x => x == d) ds h0
  have : hasD ds d = true := List.any_eq_true.2 ⟨x, List.mem_of_getElem? hx, hp⟩
  rw [h] at this
  cases this
theorem Blk.five {w : World} {g : Nat} {t : TypeId} {a b c d e : Value} (h : Blk w g t #[a, b, c, d, e]) : w.cell? ⟨g, 0, none⟩ = some a ∧ w.cell? ⟨g, 1, none⟩ = some b ∧ w.cell? ⟨g, 2, none⟩ = some c ∧ w.cell? ⟨g, 3, none⟩ = some d ∧ w.cell? ⟨g, 4, none⟩ = some e := ⟨h.cell 0, h.cell 1, h.cell 2, h.cell 3, h.cell 4⟩

theorem ref5_validSight (s : Scene) (V : SceneV) (x : Sight) (w : World) (hs : SceneAt w s V) :
  Calls Tryz.prog 119 #[s.v V, .agg #[I x.no, I x.cell, I x.day, I x.lo, I x.hi]] w fun e w' => e = .returned (.bool (sightOk s x)) ∧ Below w.heap.size w w' := by
 obtain ⟨vc, vp, vd, vs, vh⟩ := V
 have h1 : Sl w 4 Cell.cells vc s.basin.cells := hs.cells
 have h2 : Sl w 2 pairC vp s.basin.pairs := hs.pairs
 have h3 : Sl w 1 intC vd s.days := hs.days
 have h4 : Sl w 5 Sight.cells vs s.sights := hs.sights
 have h5 : Sl w 5 Change.cells vh s.changes := hs.changes
 obtain ⟨Ac, nc, rfl, _⟩ := h1.open_
 obtain ⟨Ap, np, rfl, _⟩ := h2.open_
 obtain ⟨Ad, nd, rfl, _, _, hld, hAd⟩ := h3.open_
 obtain ⟨As, ns, rfl, _, _, hls, hAs⟩ := h4.open_
 obtain ⟨Ah, nh, rfl, _, _, hlh, hAh⟩ := h5.open_
 have HP := fun no w' (hb : Below w.heap.size w w') => ref5_Place s.basin _ _ no w' (h1.mono hb) (h2.mono hb)
 have HW := fun d w' (hb : Below w.heap.size w w') => ref5_When s ⟨.slice Ac s.basin.cells.length nc, .slice Ap s.basin.pairs.length np, .slice Ad s.days.length nd, .slice As s.sights.length ns, .slice Ah s.changes.length nh⟩ d w' (hs.mono hb)
 obtain ⟨q, hq⟩ : ∃ q, sightOk s x = q := ⟨_, rfl⟩
 rw [hq]
 simp only [sightOk, hasD_eq] at hq
 unfold Scene.v at *
 unfold Basin.v at *
 simp only at *
 clear hAd hAs hAh hs h1 h2 h3 h4 h5
 replace HP := hide HP
 replace HW := hide HW
 replace hq := hide hq
 go_enter Tryz.func119, Tryz.ntmps119
 go_wp2_with fail
 obtain ⟨w0, hw0⟩ : ∃ w0, w0 = (w.alloc (.cells (s8 s Ac nc Ap np Ad nd As ns Ah nh) 38)).alloc (.cells #[I x.no, I x.cell, I x.day, I x.lo, I x.hi] 94) := ⟨_, rfl⟩
 have kS : Blk w0 w.heap.size 38 (s8 s Ac nc Ap np Ad nd As ns Ah nh) := by rw [hw0]; exact (Blk.new _ _ _).alloc _
 have kX : Blk w0 (w.heap.size + 1) 94 #[I x.no, I x.cell, I x.day, I x.lo, I x.hi] := by
  rw [hw0]
  have h := Blk.new (w.alloc (.cells (s8 s Ac nc Ap np Ad nd As ns Ah nh) 38)) 94 #[I x.no, I x.cell, I x.day, I x.lo, I x.hi]
  simpa using h
 have B0 : Below w.heap.size w w0 := by rw [hw0]; exact below2 _ _ _
 rw [← hw0]
 clear hw0
 obtain ⟨g, hg⟩ : ∃ g, w.heap.size = g := ⟨_, rfl⟩
 rw [hg] at kS kX ⊢
 replace hg := hide hg
 replace kS := hide kS
 replace kX := hide kX
 replace B0 := hide B0
 obtain ⟨s0, s1, s2, s3, s4, s5, s6, s7⟩ := kS.out.cells8
 obtain ⟨x0, x1, x2, x3, x4⟩ := kX.out.five
 have zS := kS.out.lt
 have zX := kX.out.lt
 skip
 go_at_call 118
 refine (ref5_within _ _ _).mono ?_
 rintro e w_ ⟨rfl, rfl⟩
 cases g0 : inB x.no 0 8191
 case false =>
  have hqv : q = false := by rw [← hq.out]; simp [*] <;> omega
  subst hqv
  clear hq
  go_wp2_with fail
  go_ret
  exact ⟨(by first | rfl | (simp <;> omega)), by have h := B0.out; first | exact h | rwa [hg.out] at h⟩
 go_wp2_with fail
 clear s0 s1 s2 s3 s4 s5 s6 s7 x0 x1 x2 x3 x4 zS zX
 go_at_call 170
 refine (HP.out x.cell w0 B0.out).mono ?_
 rintro e w1 ⟨rfl, hb1⟩
 obtain ⟨P1, hP1⟩ : ∃ z, placeC s.basin.cells x.cell = z := ⟨_, rfl⟩
 have hq1 := hq.out
 rw [hP1] at hq1 ⊢
 replace hq := hide hq1
 clear hP1 hq1
 replace kS := hide (kS.out.grow hb1)
 replace kX := hide (kX.out.grow hb1)
 have B1 := hide (bup B0.out hb1)
 clear B0 hb1
 obtain ⟨s0, s1, s2, s3, s4, s5, s6, s7⟩ := kS.out.cells8
 obtain ⟨x0, x1, x2, x3, x4⟩ := kX.out.five
 have zS := kS.out.lt
 have zX := kX.out.lt
 rcases ilt P1 0 with g1 | g1
 case inl =>
  have hqv : q = false := by rw [← hq.out]; simp [*] <;> omega
  subst hqv
  clear hq
  go_wp2_with fail
  go_ret
  exact ⟨(by first | rfl | (simp <;> omega)), by have h := B1.out; first | exact h | rwa [hg.out] at h⟩
 go_wp2_with fail
 clear s0 s1 s2 s3 s4 s5 s6 s7 x0 x1 x2 x3 x4 zS zX
 go_at_call 171
 refine (HW.out x.day w1 B1.out).mono ?_
 rintro e w2 ⟨rfl, hb2⟩
 obtain ⟨P2, hP2⟩ : ∃ z, placeD s.days x.day = z := ⟨_, rfl⟩
 have hq2 := hq.out
 rw [hP2] at hq2 ⊢
 replace hq := hide hq2
 clear hP2 hq2
 replace kS := hide (kS.out.grow hb2)
 replace kX := hide (kX.out.grow hb2)
 have B2 := hide (bup B1.out hb2)
 clear B1 hb2
 obtain ⟨s0, s1, s2, s3, s4, s5, s6, s7⟩ := kS.out.cells8
 obtain ⟨x0, x1, x2, x3, x4⟩ := kX.out.five
 have zS := kS.out.lt
 have zX := kX.out.lt
 rcases ilt P2 0 with g2 | g2
 case inl =>
  have hqv : q = false := by rw [← hq.out]; simp [*] <;> omega
  subst hqv
  clear hq
  go_wp2_with fail
  go_ret
  exact ⟨(by first | rfl | (simp <;> omega)), by have h := B2.out; first | exact h | rwa [hg.out] at h⟩
 rcases ilt x.lo 0 with c1 | c1
 case inl =>
  have hqv : q = false := by rw [← hq.out]; simp [*] <;> omega
  subst hqv
  clear hq
  go_wp2_with fail
  go_ret
  exact ⟨(by first | rfl | (simp <;> omega)), by have h := B2.out; first | exact h | rwa [hg.out] at h⟩
 rcases ilt x.hi x.lo with c2 | c2
 case inl =>
  have hqv : q = false := by rw [← hq.out]; simp [*] <;> omega
  subst hqv
  clear hq
  go_wp2_with fail
  go_ret
  exact ⟨(by first | rfl | (simp <;> omega)), by have h := B2.out; first | exact h | rwa [hg.out] at h⟩
 rcases ilt 65536 x.hi with c3 | c3
 case inl =>
  have hqv : q = false := by rw [← hq.out]; simp [*] <;> omega
  subst hqv
  clear hq
  go_wp2_with fail
  go_ret
  exact ⟨(by first | rfl | (simp <;> omega)), by have h := B2.out; first | exact h | rwa [hg.out] at h⟩
 have hqv : q = true := by rw [← hq.out]; simp [*] <;> omega
 subst hqv
 clear hq
 go_wp2_with fail
 go_ret
 exact ⟨(by first | rfl | (simp <;> omega)), by have h := B2.out; first | exact h | rwa [hg.out] at h⟩

theorem ref5_validChange (s : Scene) (V : SceneV) (x : Change) (w : World) (hs : SceneAt w s V) :
  Calls Tryz.prog 120 #[s.v V, .agg #[I x.cell, I x.frm, I x.to, I x.lo, I x.hi]] w fun e w' => e = .returned (.bool (changeOk s x)) ∧ Below w.heap.size w w' := by
 obtain ⟨vc, vp, vd, vs, vh⟩ := V
 have h1 : Sl w 4 Cell.cells vc s.basin.cells := hs.cells
 have h2 : Sl w 2 pairC vp s.basin.pairs := hs.pairs
 have h3 : Sl w 1 intC vd s.days := hs.days
 have h4 : Sl w 5 Sight.cells vs s.sights := hs.sights
 have h5 : Sl w 5 Change.cells vh s.changes := hs.changes
 obtain ⟨Ac, nc, rfl, _⟩ := h1.open_
 obtain ⟨Ap, np, rfl, _⟩ := h2.open_
 obtain ⟨Ad, nd, rfl, _, _, hld, hAd⟩ := h3.open_
 obtain ⟨As, ns, rfl, _, _, hls, hAs⟩ := h4.open_
 obtain ⟨Ah, nh, rfl, _, _, hlh, hAh⟩ := h5.open_
 have HP := fun no w' (hb : Below w.heap.size w w') => ref5_Place s.basin _ _ no w' (h1.mono hb) (h2.mono hb)
 have HW := fun d w' (hb : Below w.heap.size w w') => ref5_When s ⟨.slice Ac s.basin.cells.length nc, .slice Ap s.basin.pairs.length np, .slice Ad s.days.length nd, .slice As s.sights.length ns, .slice Ah s.changes.length nh⟩ d w' (hs.mono hb)
 obtain ⟨q, hq⟩ : ∃ q, changeOk s x = q := ⟨_, rfl⟩
 rw [hq]
 simp only [changeOk, hasD_eq] at hq
 unfold Scene.v at *
 unfold Basin.v at *
 simp only at *
 clear hAd hAs hAh hs h1 h2 h3 h4 h5
 replace HP := hide HP
 replace HW := hide HW
 replace hq := hide hq
 go_enter Tryz.func120, Tryz.ntmps120
 go_wp2_with fail
 obtain ⟨w0, hw0⟩ : ∃ w0, w0 = (w.alloc (.cells (s8 s Ac nc Ap np Ad nd As ns Ah nh) 38)).alloc (.cells #[I x.cell, I x.frm, I x.to, I x.lo, I x.hi] 163) := ⟨_, rfl⟩
 have kS : Blk w0 w.heap.size 38 (s8 s Ac nc Ap np Ad nd As ns Ah nh) := by rw [hw0]; exact (Blk.new _ _ _).alloc _
 have kX : Blk w0 (w.heap.size + 1) 163 #[I x.cell, I x.frm, I x.to, I x.lo, I x.hi] := by
  rw [hw0]
  have h := Blk.new (w.alloc (.cells (s8 s Ac nc Ap np Ad nd As ns Ah nh) 38)) 163 #[I x.cell, I x.frm, I x.to, I x.lo, I x.hi]
  simpa using h
 have B0 : Below w.heap.size w w0 := by rw [hw0]; exact below2 _ _ _
 rw [← hw0]
 clear hw0
 obtain ⟨g, hg⟩ : ∃ g, w.heap.size = g := ⟨_, rfl⟩
 rw [hg] at kS kX ⊢
 replace hg := hide hg
 replace kS := hide kS
 replace kX := hide kX
 replace B0 := hide B0
 obtain ⟨s0, s1, s2, s3, s4, s5, s6, s7⟩ := kS.out.cells8
 obtain ⟨x0, x1, x2, x3, x4⟩ := kX.out.five
 have zS := kS.out.lt
 have zX := kX.out.lt
 go_wp2_with fail
 clear s0 s1 s2 s3 s4 s5 s6 s7 x0 x1 x2 x3 x4 zS zX
 go_at_call 170
 refine (HP.out x.cell w0 B0.out).mono ?_
 rintro e w1 ⟨rfl, hb1⟩
 obtain ⟨P1, hP1⟩ : ∃ z, placeC s.basin.cells x.cell = z := ⟨_, rfl⟩
 have hq1 := hq.out
 rw [hP1] at hq1 ⊢
 replace hq := hide hq1
 clear hP1 hq1
 replace kS := hide (kS.out.grow hb1)
 replace kX := hide (kX.out.grow hb1)
 have B1 := hide (bup B0.out hb1)
 clear B0 hb1
 obtain ⟨s0, s1, s2, s3, s4, s5, s6, s7⟩ := kS.out.cells8
 obtain ⟨x0, x1, x2, x3, x4⟩ := kX.out.five
 have zS := kS.out.lt
 have zX := kX.out.lt
 rcases ilt P1 0 with g1 | g1
 case inl =>
  have hqv : q = false := by rw [← hq.out]; simp [*] <;> omega
  subst hqv
  clear hq
  go_wp2_with fail
  go_ret
  exact ⟨(by first | rfl | (simp <;> omega)), by have h := B1.out; first | exact h | rwa [hg.out] at h⟩
 go_wp2_with fail
 clear s0 s1 s2 s3 s4 s5 s6 s7 x0 x1 x2 x3 x4 zS zX
 go_at_call 171
 refine (HW.out x.frm w1 B1.out).mono ?_
 rintro e w2 ⟨rfl, hb2⟩
 obtain ⟨P2, hP2⟩ : ∃ z, placeD s.days x.frm = z := ⟨_, rfl⟩
 have hq2 := hq.out
 rw [hP2] at hq2 ⊢
 replace hq := hide hq2
 clear hP2 hq2
 replace kS := hide (kS.out.grow hb2)
 replace kX := hide (kX.out.grow hb2)
 have B2 := hide (bup B1.out hb2)
 clear B1 hb2
 obtain ⟨s0, s1, s2, s3, s4, s5, s6, s7⟩ := kS.out.cells8
 obtain ⟨x0, x1, x2, x3, x4⟩ := kX.out.five
 have zS := kS.out.lt
 have zX := kX.out.lt
 rcases ilt P2 0 with g2 | g2
 case inl =>
  have hqv : q = false := by rw [← hq.out]; simp [*] <;> omega
  subst hqv
  clear hq
  go_wp2_with fail
  go_ret
  exact ⟨(by first | rfl | (simp <;> omega)), by have h := B2.out; first | exact h | rwa [hg.out] at h⟩
 go_wp2_with fail
 clear s0 s1 s2 s3 s4 s5 s6 s7 x0 x1 x2 x3 x4 zS zX
 go_at_call 171
 refine (HW.out x.to w2 B2.out).mono ?_
 rintro e w3 ⟨rfl, hb3⟩
 obtain ⟨P3, hP3⟩ : ∃ z, placeD s.days x.to = z := ⟨_, rfl⟩
 have hq3 := hq.out
 rw [hP3] at hq3 ⊢
 replace hq := hide hq3
 clear hP3 hq3
 replace kS := hide (kS.out.grow hb3)
 replace kX := hide (kX.out.grow hb3)
 have B3 := hide (bup B2.out hb3)
 clear B2 hb3
 obtain ⟨s0, s1, s2, s3, s4, s5, s6, s7⟩ := kS.out.cells8
 obtain ⟨x0, x1, x2, x3, x4⟩ := kX.out.five
 have zS := kS.out.lt
 have zX := kX.out.lt
 rcases ilt P3 0 with g3 | g3
 case inl =>
  have hqv : q = false := by rw [← hq.out]; simp [*] <;> omega
  subst hqv
  clear hq
  go_wp2_with fail
  go_ret
  exact ⟨(by first | rfl | (simp <;> omega)), by have h := B3.out; first | exact h | rwa [hg.out] at h⟩
 rcases ilt x.to (x.frm + 1) with c0 | c0
 case inl =>
  have hqv : q = false := by rw [← hq.out]; simp [*] <;> omega
  subst hqv
  clear hq
  go_wp2_with fail
  go_ret
  exact ⟨(by first | rfl | (simp <;> omega)), by have h := B3.out; first | exact h | rwa [hg.out] at h⟩
 rcases ilt x.lo (-65536) with c1 | c1
 case inl =>
  have hqv : q = false := by rw [← hq.out]; simp [*] <;> omega
  subst hqv
  clear hq
  go_wp2_with fail
  go_ret
  exact ⟨(by first | rfl | (simp <;> omega)), by have h := B3.out; first | exact h | rwa [hg.out] at h⟩
 rcases ilt x.hi x.lo with c2 | c2
 case inl =>
  have hqv : q = false := by rw [← hq.out]; simp [*] <;> omega
  subst hqv
  clear hq
  go_wp2_with fail
  go_ret
  exact ⟨(by first | rfl | (simp <;> omega)), by have h := B3.out; first | exact h | rwa [hg.out] at h⟩
 rcases ilt 65536 x.hi with c3 | c3
 case inl =>
  have hqv : q = false := by rw [← hq.out]; simp [*] <;> omega
  subst hqv
  clear hq
  go_wp2_with fail
  go_ret
  exact ⟨(by first | rfl | (simp <;> omega)), by have h := B3.out; first | exact h | rwa [hg.out] at h⟩
 have hqv : q = true := by rw [← hq.out]; simp [*] <;> omega
 subst hqv
 clear hq
 go_wp2_with fail
 go_ret
 exact ⟨(by first | rfl | (simp <;> omega)), by have h := B3.out; first | exact h | rwa [hg.out] at h⟩

def dyAt (l : List Int) (i : Nat) : Bool := inB (l.getD i 0) 0 1048576 && (i == 0 || decide (l.getD (i - 1) 0 < l.getD i 0))
theorem rising_le {l : List Int} (h : risingB l = true) : ∀ (n i : Nat), i + n < l.length → l.getD i 0 ≤ l.getD (i + n) 0
 | 0, i, _ => Int.le_refl _
 | n + 1, i, hl => by
  have h1 := rising_le h n i (by omega)
  have h2 := List.all_eq_true.1 h (i + n + 1) (List.mem_range.2 (by omega))
  simp only [risesAt, Nat.add_sub_cancel, Bool.or_eq_true, beq_iff_eq, decide_eq_true_eq] at h2
  rw [← Nat.add_assoc]
  omega
theorem daysOk_eq {l : List Int} : daysOk l = (inB l.length 1 16 && (List.range l.length).all (dyAt l)) := by
 rw [Bool.eq_iff_iff]
 unfold daysOk
 simp only [Bool.and_eq_true, decide_eq_true_eq]
 constructor
 ·rintro ⟨⟨⟨h1, h2⟩, h3⟩, h4⟩
  refine ⟨h1, List.all_eq_true.2 fun i hi => ?_⟩
  have hi := List.mem_range.1 hi
  have a1 := rising_le h2 i 0 (by omega)
  have a2 := rising_le h2 (l.length - 1 - i) i (by omega)
  rw [Nat.zero_add] at a1
  rw [show i + (l.length - 1 - i) = l.length - 1 by omega] at a2
  have h5 := List.all_eq_true.1 h2 i (List.mem_range.2 hi)
  unfold dyAt
  rw [inB_true.2 ⟨by omega, by omega⟩, Bool.true_and]
  exact h5
 ·rintro ⟨h1, h2⟩
  have hl := inB_true.1 h1
  have h3 := fun i (hi : i < l.length) => List.all_eq_true.1 h2 i (List.mem_range.2 hi)
  have b0 := h3 0 (by omega)
  have b1 := h3 (l.length - 1) (by omega)
  unfold dyAt at b0 b1
  rw [Bool.and_eq_true] at b0 b1
  refine ⟨⟨⟨h1, List.all_eq_true.2 fun i hi => ?_⟩, (inB_true.1 b0.1).1⟩, (inB_true.1 b1.1).2⟩
  have := h3 i (List.mem_range.1 hi)
  unfold dyAt at this
  rw [Bool.and_eq_true] at this
  exact this.2
theorem days_bad {l : List Int} {k : Nat} (hk : k < l.length) (h : dyAt l k = false) : daysOk l = false := by
 rw [daysOk_eq, all_of_not hk h, Bool.and_false]
theorem dyAt_out {l : List Int} {k : Nat} {d : Int} (h : l[k]? = some d) (hq : inB d 0 1048576 = false) : dyAt l k = false := by
 simp [dyAt, h, hq]
theorem dyAt_zero {l : List Int} {d : Int} (h : l[0]? = some d) (hq : inB d 0 1048576 = true) : dyAt l 0 = true := by
 simp [dyAt, h, hq]
theorem dyAt_pair {l : List Int} {k : Nat} {d e : Int} (h : l[k]? = some d) (h' : l[k + 1]? = some e) (hq : inB e 0 1048576 = true) : dyAt l (k + 1) = decide (d < e) := by
 simp [dyAt, h, h', hq]

theorem ref5_Check (s : Scene) (V : SceneV) (w : World) (hs : SceneAt w s V) : Calls Tryz.prog 57 #[s.v V] w fun e w' => e = .returned (I (sceneE s)) ∧ Below w.heap.size w w' := by
 obtain ⟨vc, vp, vd, vs, vh⟩ := V
 have h1 : Sl w 4 Cell.cells vc s.basin.cells := hs.cells
 have h2 : Sl w 2 pairC vp s.basin.pairs := hs.pairs
 have h3 : Sl w 1 intC vd s.days := hs.days
 have h4 : Sl w 5 Sight.cells vs s.sights := hs.sights
 have h5 : Sl w 5 Change.cells vh s.changes := hs.changes
 obtain ⟨Ac, nc, rfl, _⟩ := h1.open_
 obtain ⟨Ap, np, rfl, _⟩ := h2.open_
 obtain ⟨Ad, nd, rfl, _, _, hld, hAd⟩ := h3.open_
 obtain ⟨As, ns, rfl, _, _, hls, hAs⟩ := h4.open_
 obtain ⟨Ah, nh, rfl, _, _, hlh, hAh⟩ := h5.open_
 have HB := fun w' (hb : Below w.heap.size w w') => ref5_CheckBasin s.basin _ _ w' (h1.mono hb) (h2.mono hb)
 have HV := fun x w' (hb : Below w.heap.size w w') => ref5_validSight s ⟨.slice Ac s.basin.cells.length nc, .slice Ap s.basin.pairs.length np, .slice Ad s.days.length nd, .slice As s.sights.length ns, .slice Ah s.changes.length nh⟩ x w' (hs.mono hb)
 have HC := fun x w' (hb : Below w.heap.size w w') => ref5_validChange s ⟨.slice Ac s.basin.cells.length nc, .slice Ap s.basin.pairs.length np, .slice Ad s.days.length nd, .slice As s.sights.length ns, .slice Ah s.changes.length nh⟩ x w' (hs.mono hb)
 unfold Scene.v at *
 unfold Basin.v at *
 simp only at *
 clear hs h1 h2
 replace HB := hide HB
 replace HV := hide HV
 replace HC := hide HC
 replace h3 := hide h3
 replace h4 := hide h4
 replace h5 := hide h5
 replace hAd := hide hAd
 replace hAs := hide hAs
 replace hAh := hide hAh
 obtain ⟨E, hE⟩ : ∃ E, sceneE s = E := ⟨_, rfl⟩
 rw [hE]
 replace hE := hide hE
 go_enter Tryz.func57, Tryz.ntmps57
 go_wp2_with fail
 obtain ⟨w0, hw0⟩ : ∃ w0, w0 = w.alloc (.cells (s8 s Ac nc Ap np Ad nd As ns Ah nh) 38) := ⟨_, rfl⟩
 obtain ⟨kS, B0⟩ := blkw hw0
 rw [← hw0]
 clear hw0
 obtain ⟨g, hg⟩ : ∃ g, w.heap.size = g := ⟨_, rfl⟩
 rw [hg] at kS ⊢
 replace hg := hide hg
 replace kS := hide kS
 replace B0 := hide B0
 go_at_call 117
 refine (HB.out w0 B0.out).mono ?_
 rintro e w1 ⟨rfl, hb1⟩
 replace kS := hide (kS.out.grow hb1)
 have B1 := hide (bup B0.out hb1)
 clear B0 hb1
 obtain ⟨s0, s1, s2, s3, s4, s5, s6, s7⟩ := kS.out.cells8
 have zS := kS.out.lt
 cases hbo : basinOk s.basin
 case false =>
  have e1 : basinE s.basin = 50 := by simp [basinE, hbo]
  rw [e1]
  have hqv : E = 50 := by rw [← hE.out]; exact sceneE_basin hbo
  subst hqv
  clear hE
  go_wp2_with fail
  go_ret
  exact ⟨rfl, by have h := B1.out; first | exact h | rwa [hg.out] at h⟩
 rw [basinE_of hbo]
 simp only [if_true]
 rcases Nat.lt_or_ge s.days.length 1 with n1 | n1
 case inl =>
  have hqv : E = 1 := by rw [← hE.out]; exact sceneE_days hbo (by rw [daysOk_eq]; simp [inB]; omega)
  subst hqv
  clear hE
  go_wp2_with fail
  go_ret
  exact ⟨rfl, by have h := B1.out; first | exact h | rwa [hg.out] at h⟩
 rcases Nat.lt_or_ge 16 s.days.length with n2 | n2
 case inl =>
  have hqv : E = 1 := by rw [← hE.out]; exact sceneE_days hbo (by rw [daysOk_eq]; simp [inB]; omega)
  subst hqv
  clear hE
  go_wp2_with fail
  go_ret
  exact ⟨rfl, by have h := B1.out; first | exact h | rwa [hg.out] at h⟩
 go_wp2_with fail
 clear s0 s1 s2 s3 s4 s5 s6 s7 zS
 go_loopw [3] (fun i wr => ∃ k : Nat, k ≤ s.days.length ∧ i = I k ∧ Hid (AllTo (dyAt s.days) k) ∧ Hid (Below w1.heap.size w1 wr)) (fun i _ => s.days.length - (intOf i).toNat)
 case atStart => exact ⟨0, Nat.zero_le _, rfl, hide (AllTo.zero _), hide (Below.refl _ _)⟩
 case round =>
  obtain ⟨k, hkl, rfl, ha, hbw⟩ := hrel
  replace kS := hide (kS.out.grow hbw.out)
  have B2 := hide (bup B1.out hbw.out)
  obtain ⟨s0, s1, s2, s3, s4, s5, s6, s7⟩ := kS.out.cells8
  have zS := kS.out.lt
  by_cases hlt : k < s.days.length
  case pos =>
   obtain ⟨d, hd⟩ := getElem?_of_lt hlt
   obtain ⟨ga, oa, rfl, _⟩ := hAd.out k hlt
   obtain ⟨zd, e0⟩ := (h3.out.mono B2.out).int_at hd
   cases hin : inB d 0 1048576
   case false =>
    have hqv : E = 1 := by rw [← hE.out]; exact sceneE_days hbo (days_bad hlt (dyAt_out hd hin))
    subst hqv
    replace hin := hide hin
    replace hd := hide hd
    clear hE
    go_wp2_with fail
    (refine wp_grow ?_; (repeat go_big_quiet_step ((go_at_call 118; exact calls_grew_same (within5_is hin.out _)))); refine wp_grow0 ?_; intro W1 hW1)
    go_wp2_with fail
    go_ret
    exact ⟨rfl, by have h := bup B2.out hW1; first | exact h | rwa [hg.out] at h⟩
   cases k with
   | zero =>
    have ha2 := hide (ha.out.succ (dyAt_zero hd hin))
    replace hin := hide hin
    replace hd := hide hd
    simp only [Nat.add_zero] at e0
    go_wp2_with fail
    (refine wp_grow ?_; (repeat go_big_quiet_step ((go_at_call 118; exact calls_grew_same (within5_is hin.out _)))); refine wp_grow0 ?_; intro W1 hW1)
    go_wp2_with fail
    go_roundw
    case rel => exact ⟨1, by omega, by go_num, ha2, hide (bup hbw.out hW1)⟩
    case measure => simp [intOf]; omega
   | succ k =>
    obtain ⟨d0, hd0⟩ := getElem?_of_lt (xs := s.days) (k := k) (by omega)
    obtain ⟨_, e1⟩ := (h3.out.mono B2.out).int_at hd0
    have hp := dyAt_pair hd0 hd hin
    have w3_ : IntKind.i64.wrap (((k + 1 : Nat) : Int) - 1) = (k : Int) := by rw [IntWalk.i64_in _ (by omega)]; omega
    have w4_ : (0 : Int) ≤ (k : Int) := by omega
    have w5_ : (k : Int) < (s.days.length : Int) := by omega
    have w6_ : ((k + 1 : Nat) : Int) < (s.days.length : Int) := by omega
    have w7_ : decide ((0 : Int) < ((k + 1 : Nat) : Int)) = true := decide_eq_true (by omega)
    have w8_ : (0 : Int) ≤ ((k + 1 : Nat) : Int) := by omega
    rcases ilt d0 d with hc | hc
    ·rw [decide_eq_true hc] at hp
     have ha2 := hide (ha.out.succ hp)
     have hcc : decide (d ≤ d0) = false := decide_eq_false (by omega)
     replace hin := hide hin
     replace hd := hide hd
     replace hd0 := hide hd0
     clear hp
     go_wp2_with fail
     (refine wp_grow ?_; (repeat go_big_quiet_step ((go_at_call 118; exact calls_grew_same (within5_is hin.out _)))); refine wp_grow0 ?_; intro W1 hW1)
     go_wp2_with fail
     go_roundw
     case rel => exact ⟨k + 2, by omega, by go_num, ha2, hide (bup hbw.out hW1)⟩
     case measure => simp [intOf]; omega
    ·rw [decide_eq_false (by omega)] at hp
     have hqv : E = 1 := by rw [← hE.out]; exact sceneE_days hbo (days_bad hlt hp)
     subst hqv
     have hcc : decide (d ≤ d0) = true := decide_eq_true hc
     replace hin := hide hin
     replace hd := hide hd
     replace hd0 := hide hd0
     clear hE hp
     go_wp2_with fail
     (refine wp_grow ?_; (repeat go_big_quiet_step ((go_at_call 118; exact calls_grew_same (within5_is hin.out _)))); refine wp_grow0 ?_; intro W1 hW1)
     go_wp2_with fail
     go_ret
     exact ⟨rfl, by have h := bup B2.out hW1; first | exact h | rwa [hg.out] at h⟩
  case neg =>
  have he : k = s.days.length := by omega
  subst he
  have hdo : daysOk s.days = true := by rw [daysOk_eq, ha.out.all, inB_true.2 ⟨by omega, by omega⟩]; rfl
  clear ha hbw B1
  rcases Nat.lt_or_ge 256 s.sights.length with n3 | n3
  case inl =>
   have hqv : E = 2 := by rw [← hE.out]; exact sceneE_many hbo hdo (.inl n3)
   subst hqv
   clear hE
   go_wp2_with fail
   go_ret
   exact ⟨rfl, by have h := B2.out; first | exact h | rwa [hg.out] at h⟩
  rcases Nat.lt_or_ge 256 s.changes.length with n4 | n4
  case inl =>
   have hqv : E = 2 := by rw [← hE.out]; exact sceneE_many hbo hdo (.inr n4)
   subst hqv
   clear hE
   go_wp2_with fail
   go_ret
   exact ⟨rfl, by have h := B2.out; first | exact h | rwa [hg.out] at h⟩
  replace hdo := hide hdo
  replace hbo := hide hbo
  go_wp2_with fail
  clear s0 s1 s2 s3 s4 s5 s6 s7 zS
  go_loopw [4] (fun i w2 => ∃ k : Nat, k ≤ s.sights.length ∧ i = I k ∧ Hid (Upto (sightOk s) s.sights k) ∧ Hid (Below wr.heap.size wr w2)) (fun i _ => s.sights.length - (intOf i).toNat)
  case atStart => exact ⟨0, Nat.zero_le _, rfl, hide (Upto.zero _ _), hide (Below.refl _ _)⟩
  case round =>
   obtain ⟨k, hkl, rfl, ha, hbw⟩ := hrel
   replace kS := hide (kS.out.grow hbw.out)
   have B3 := hide (bup B2.out hbw.out)
   obtain ⟨s0, s1, s2, s3, s4, s5, s6, s7⟩ := kS.out.cells8
   have zS := kS.out.lt
   by_cases hlt : k < s.sights.length
   case pos =>
    obtain ⟨x, hx⟩ := getElem?_of_lt hlt
    obtain ⟨ga, oa, rfl, _⟩ := hAs.out k hlt
    obtain ⟨zd, e0, e1, e2, e3, e4⟩ := (h4.out.mono B3.out).sight_at hx
    have HX := fun w' hb => HV.out x w' hb
    cases hq : sightOk s x
    case false =>
     rw [hq] at HX
     replace HX := hide HX
     have hqv : E = 51 := by rw [← hE.out]; exact sceneE_sight hbo.out hdo.out ⟨n3, n4⟩ (all_bad hx hq)
     subst hqv
     clear hE hq
     replace hx := hide hx
     go_wp2_with fail
     (refine wp_grow ?_; (repeat go_big_quiet_step ((go_at_call 119; exact calls_grew (HX.out _ (bup B3.out (Grew.below _)))))); refine wp_grow0 ?_; intro W1 hW1)
     go_wp2_with fail
     go_ret
     exact ⟨rfl, by have h := bup B3.out hW1; first | exact h | rwa [hg.out] at h⟩
    case true =>
     rw [hq] at HX
     replace HX := hide HX
     have ha2 := hide (ha.out.succ hx hq)
     clear hq
     replace hx := hide hx
     go_wp2_with fail
     (refine wp_grow ?_; (repeat go_big_quiet_step ((go_at_call 119; exact calls_grew (HX.out _ (bup B3.out (Grew.below _)))))); refine wp_grow0 ?_; intro W1 hW1)
     go_wp2_with fail
     go_roundw
     case rel => exact ⟨k + 1, by omega, by go_num, ha2, hide (bup hbw.out hW1)⟩
     case measure => simp [intOf]; omega
   case neg =>
   have he : k = s.sights.length := by omega
   subst he
   have hso := hide ha.out.all
   clear ha hbw B2
   go_wp2_with fail
   clear s0 s1 s2 s3 s4 s5 s6 s7 zS
   skip
   obtain ⟨wq, hwq⟩ : ∃ W, W = wr := ⟨_, rfl⟩
   rw [← hwq]
   rw [← hwq] at kS B3
   clear hwq
   go_loopw [5] (fun i w3 => ∃ k : Nat, k ≤ s.changes.length ∧ i = I k ∧ Hid (Upto (changeOk s) s.changes k) ∧ Hid (Below wq.heap.size wq w3)) (fun i _ => s.changes.length - (intOf i).toNat)
   case atStart => exact ⟨0, Nat.zero_le _, rfl, hide (Upto.zero _ _), hide (Below.refl _ _)⟩
   case round =>
    obtain ⟨k, hkl, rfl, ha, hbw⟩ := hrel
    replace kS := hide (kS.out.grow hbw.out)
    have B4 := hide (bup B3.out hbw.out)
    obtain ⟨s0, s1, s2, s3, s4, s5, s6, s7⟩ := kS.out.cells8
    have zS := kS.out.lt
    by_cases hlt : k < s.changes.length
    case pos =>
     obtain ⟨x, hx⟩ := getElem?_of_lt hlt
     obtain ⟨ga, oa, rfl, _⟩ := hAh.out k hlt
     obtain ⟨zd, e0, e1, e2, e3, e4⟩ := (h5.out.mono B4.out).change_at hx
     have HX := fun w' hb => HC.out x w' hb
     cases hq : changeOk s x
     case false =>
      rw [hq] at HX
      replace HX := hide HX
      have hqv : E = 52 := by rw [← hE.out]; exact sceneE_change hbo.out hdo.out ⟨n3, n4⟩ hso.out (all_bad hx hq)
      subst hqv
      clear hE hq
      replace hx := hide hx
      go_wp2_with fail
      (refine wp_grow ?_; (repeat go_big_quiet_step ((go_at_call 120; exact calls_grew (HX.out _ (bup B4.out (Grew.below _)))))); refine wp_grow0 ?_; intro W1 hW1)
      go_wp2_with fail
      go_ret
      exact ⟨rfl, by have h := bup B4.out hW1; first | exact h | rwa [hg.out] at h⟩
     case true =>
      rw [hq] at HX
      replace HX := hide HX
      have ha2 := hide (ha.out.succ hx hq)
      clear hq
      replace hx := hide hx
      go_wp2_with fail
      (refine wp_grow ?_; (repeat go_big_quiet_step ((go_at_call 120; exact calls_grew (HX.out _ (bup B4.out (Grew.below _)))))); refine wp_grow0 ?_; intro W1 hW1)
      go_wp2_with fail
      go_roundw
      case rel => exact ⟨k + 1, by omega, by go_num, ha2, hide (bup hbw.out hW1)⟩
      case measure => simp [intOf]; omega
    case neg =>
    have he : k = s.changes.length := by omega
    subst he
    have hco := ha.out.all
    have hqv : E = 0 := by rw [← hE.out]; exact sceneE_all hbo.out hdo.out ⟨n3, n4⟩ hso.out hco
    subst hqv
    clear hE
    go_wp2_with fail
    go_ret
    exact ⟨rfl, by have h := B4.out; first | exact h | rwa [hg.out] at h⟩

theorem anyC_eq {cs : List Cell} {no : Int} : (cs.any fun c => c.no == no) = decide (0 ≤ placeC cs no) := (idxBy_nonneg _ _).symm
theorem chosenAt_out {cs : List Cell} {l : List Int} {k : Nat} {d : Int} (h : l[k]? = some d) (hq : placeC cs d < 0) : chosenAt cs l k = false := by
 have hg : l.getD k 0 = d := by simp [h]
 unfold chosenAt
 rw [hg, anyC_eq, decide_eq_false (by omega)]
 simp
theorem chosenAt_in {cs : List Cell} {l : List Int} {k : Nat} {d : Int} (h : l[k]? = some d) (hq : 0 ≤ placeC cs d) : chosenAt cs l k = risesAt l k := by
 have hg : l.getD k 0 = d := by simp [h]
 unfold chosenAt
 rw [hg, anyC_eq, decide_eq_true hq]
 simp

theorem ref5_Cells (s : Scene) (V : SceneV) (vl : Value) (l : List Int) (w : World) (hs : SceneAt w s V) (hl : Sl w 1 intC vl l) :
  Calls Tryz.prog 122 #[s.basin.v V.cells V.pairs, vl] w fun e w' => e = .returned (.bool (chosenB s l)) ∧ Below w.heap.size w w' := by
 obtain ⟨vc, vp, vd, vs, vh⟩ := V
 have h1 : Sl w 4 Cell.cells vc s.basin.cells := hs.cells
 have h2 : Sl w 2 pairC vp s.basin.pairs := hs.pairs
 clear hs
 obtain ⟨Ac, nc, rfl, _⟩ := h1.open_
 obtain ⟨Ap, np, rfl, _⟩ := h2.open_
 obtain ⟨A, n, rfl, _, _, hlen, hA⟩ := hl.open_
 have HP := fun no w' (hb : Below w.heap.size w w') => ref5_Place s.basin _ _ no w' (h1.mono hb) (h2.mono hb)
 have hbad : ∀ k, k < l.length → chosenAt s.basin.cells l k = false → chosenB s l = false := fun k hk h => by
  have : (List.range l.length).all (chosenAt s.basin.cells l) = false := all_of_not hk h
  simp [chosenB, this]
 have hlast : AllTo (chosenAt s.basin.cells l) l.length → chosenB s l = decide (0 < l.length) := fun h => by
  rw [chosenB, h.all, Bool.true_and]
 obtain ⟨E, hE⟩ : ∃ E, chosenB s l = E := ⟨_, rfl⟩
 rw [hE] at hbad hlast ⊢
 clear hE
 unfold Basin.v at *
 simp only at *
 clear h1 h2
 replace HP := hide HP
 replace hl := hide hl
 replace hA := hide hA
 replace hbad := hide hbad
 replace hlast := hide hlast
 go_enter Tryz.func122, Tryz.ntmps122
 go_wp2_with fail
 obtain ⟨w0, hw0⟩ : ∃ w0, w0 = w.alloc (.cells #[.slice Ac s.basin.cells.length nc, .slice Ap s.basin.pairs.length np, I s.basin.gain, I s.basin.slack, I s.basin.deep] 33) := ⟨_, rfl⟩
 obtain ⟨kS, B1⟩ := blkw hw0
 rw [← hw0]
 clear hw0
 obtain ⟨g, hg⟩ : ∃ g, w.heap.size = g := ⟨_, rfl⟩
 rw [hg] at kS ⊢
 replace hg := hide hg
 replace kS := hide kS
 replace B1 := hide B1
 go_loopw [5] (fun i wr => ∃ k : Nat, k ≤ l.length ∧ i = I k ∧ Hid (AllTo (chosenAt s.basin.cells l) k) ∧ Hid (Below w0.heap.size w0 wr)) (fun i _ => l.length - (intOf i).toNat)
 case atStart => exact ⟨0, Nat.zero_le _, rfl, hide (AllTo.zero _), hide (Below.refl _ _)⟩
 case round =>
  obtain ⟨k, hkl, rfl, ha, hbw⟩ := hrel
  replace kS := hide (kS.out.grow hbw.out)
  have B2 := hide (bup B1.out hbw.out)
  obtain ⟨s0, s1, s2, s3, s4⟩ := kS.out.five
  have zS := kS.out.lt
  by_cases hlt : k < l.length
  case pos =>
   obtain ⟨d, hd⟩ := getElem?_of_lt hlt
   obtain ⟨ga, oa, rfl, _⟩ := hA.out k hlt
   obtain ⟨zd, e0⟩ := (hl.out.mono B2.out).int_at hd
   have hpl := fun h => chosenAt_out (cs := s.basin.cells) hd h
   have hpi := fun h => chosenAt_in (cs := s.basin.cells) hd h
   have HX := fun w' hb => HP.out d w' hb
   obtain ⟨q, hq⟩ : ∃ q, placeC s.basin.cells d = q := ⟨_, rfl⟩
   rw [hq] at hpl hpi HX
   clear hq
   replace HX := hide HX
   rcases ilt q 0 with q1 | q1
   ·have hqv : E = false := hbad.out k hlt (hpl q1)
    subst hqv
    have c1 : decide (q < 0) = true := decide_eq_true q1
    replace hd := hide hd
    clear hpl hpi hlast hbad
    go_wp2_with fail
    (refine wp_grow ?_; (repeat go_big_quiet_step ((go_at_call 170; exact calls_grew (HX.out _ (bup B2.out (Grew.below _)))))); refine wp_grow0 ?_; intro W1 hW1)
    go_wp2_with fail
    go_ret
    exact ⟨rfl, by have h := bup B2.out hW1; first | exact h | rwa [hg.out] at h⟩
   have c1 : decide (q < 0) = false := decide_eq_false (by omega)
   replace hpi := hpi q1
   clear hpl
   cases k with
   | zero =>
    have ha2 := hide (ha.out.succ (by rw [hpi]; rfl))
    replace hd := hide hd
    simp only [Nat.add_zero] at e0
    clear hpi
    go_wp2_with fail
    (refine wp_grow ?_; (repeat go_big_quiet_step ((go_at_call 170; exact calls_grew (HX.out _ (bup B2.out (Grew.below _)))))); refine wp_grow0 ?_; intro W1 hW1)
    go_wp2_with fail
    go_roundw
    case rel => exact ⟨1, by omega, by go_num, ha2, hide (bup hbw.out hW1)⟩
    case measure => simp [intOf]; omega
   | succ k =>
    obtain ⟨d0, hd0⟩ := getElem?_of_lt (xs := l) (k := k) (by omega)
    obtain ⟨_, e1⟩ := (hl.out.mono B2.out).int_at hd0
    have hp := risesAt_pos (l := l) (k := k + 1) (by omega) hd (by simpa using hd0)
    rw [hp] at hpi
    clear hp
    have w3_ : IntKind.i64.wrap (((k + 1 : Nat) : Int) - 1) = (k : Int) := by rw [IntWalk.i64_in _ (by omega)]; omega
    have w4_ : (0 : Int) ≤ (k : Int) := by omega
    have w5_ : (k : Int) < (l.length : Int) := by omega
    have w6_ : ((k + 1 : Nat) : Int) < (l.length : Int) := by omega
    have w7_ : decide ((0 : Int) < ((k + 1 : Nat) : Int)) = true := decide_eq_true (by omega)
    have w8_ : (0 : Int) ≤ ((k + 1 : Nat) : Int) := by omega
    rcases ilt d0 d with hc | hc
    ·rw [decide_eq_true hc] at hpi
     have ha2 := hide (ha.out.succ hpi)
     have hcc : decide (d ≤ d0) = false := decide_eq_false (by omega)
     replace hd := hide hd
     replace hd0 := hide hd0
     clear hpi
     go_wp2_with fail
     (refine wp_grow ?_; (repeat go_big_quiet_step ((go_at_call 170; exact calls_grew (HX.out _ (bup B2.out (Grew.below _)))))); refine wp_grow0 ?_; intro W1 hW1)
     go_wp2_with fail
     go_roundw
     case rel => exact ⟨k + 2, by omega, by go_num, ha2, hide (bup hbw.out hW1)⟩
     case measure => simp [intOf]; omega
    ·rw [decide_eq_false (by omega)] at hpi
     have hqv : E = false := hbad.out (k + 1) hlt hpi
     subst hqv
     have hcc : decide (d ≤ d0) = true := decide_eq_true hc
     replace hd := hide hd
     replace hd0 := hide hd0
     clear hpi hlast hbad
     go_wp2_with fail
     (refine wp_grow ?_; (repeat go_big_quiet_step ((go_at_call 170; exact calls_grew (HX.out _ (bup B2.out (Grew.below _)))))); refine wp_grow0 ?_; intro W1 hW1)
     go_wp2_with fail
     go_ret
     exact ⟨rfl, by have h := bup B2.out hW1; first | exact h | rwa [hg.out] at h⟩
  case neg =>
  have he : k = l.length := by omega
  subst he
  have hqv := hlast.out ha.out
  clear hlast hbad
  rcases Nat.eq_zero_or_pos l.length with n0 | n0
  ·rw [decide_eq_false (by omega)] at hqv
   subst hqv
   have c2 : decide ((0 : Int) < (l.length : Int)) = false := decide_eq_false (by omega)
   go_wp2_with fail
   go_ret
   exact ⟨rfl, by have h := B2.out; first | exact h | rwa [hg.out] at h⟩
  ·rw [decide_eq_true n0] at hqv
   subst hqv
   have c2 : decide ((0 : Int) < (l.length : Int)) = true := decide_eq_true (by omega)
   go_wp2_with fail
   go_ret
   exact ⟨rfl, by have h := B2.out; first | exact h | rwa [hg.out] at h⟩

theorem ref_begins (no : Int) (vd : Value) (p : List Weather) (s : Scene) (V : SceneV) (vl : Value) (l : List Int) (w : World) (h0 : 0 < p.length) (h1 : 0 < s.days.length) (hd : Sl w 3 Weather.cells vd p) (hs : SceneAt w s V) (hl : Sl w 1 intC vl l) :
  Calls Tryz.prog 58 #[.agg #[I no, vd], s.v V, vl] w fun e w' => e = .returned (.bool (beginsB s ⟨no, p⟩ && chosenB s l)) ∧ Below w.heap.size w w' := by
 have HS := hide (fun w' (hb : Below w.heap.size w w') => ref_Start no vd p w' h0 (hd.mono hb))
 have HC := hide (fun w' (hb : Below w.heap.size w w') => ref5_Cells s V vl l w' (hs.mono hb) (hl.mono hb))
 have HC2 := HC
 obtain ⟨vc, vp, vD, vs, vh⟩ := V
 have h3 : Sl w 3 Weather.cells vd p := hd
 have h4 : Sl w 1 intC vD s.days := hs.days
 obtain ⟨Ac, nc, rfl, _⟩ := (show Sl w 4 Cell.cells vc s.basin.cells from hs.cells).open_
 obtain ⟨Ap, np, rfl, _⟩ := (show Sl w 2 pairC vp s.basin.pairs from hs.pairs).open_
 obtain ⟨As, ns, rfl, _⟩ := (show Sl w 5 Sight.cells vs s.sights from hs.sights).open_
 obtain ⟨Ah, nh, rfl, _⟩ := (show Sl w 5 Change.cells vh s.changes from hs.changes).open_
 obtain ⟨Aw, nw, rfl, _⟩ := h3.open_
 obtain ⟨Al, nl, rfl, _⟩ := hl.open_
 obtain ⟨Ad, nd, rfl, _, _, hld, hAd⟩ := h4.open_
 obtain ⟨d, hdl⟩ := getElem?_of_lt (xs := s.days) (k := s.days.length - 1) (by omega)
 obtain ⟨ga, oa, rfl, _⟩ := hAd (s.days.length - 1) (by omega)
 have hq : s.days.getD (s.days.length - 1) 0 = d := by simp [hdl]
 have hB : beginsB s ⟨no, p⟩ = (d == beginF ⟨no, p⟩) := by unfold beginsB; rw [hq]
 rw [hB]
 obtain ⟨bg, hbg⟩ : ∃ bg, beginF ⟨no, p⟩ = bg := ⟨_, rfl⟩
 obtain ⟨ch, hch⟩ : ∃ ch, chosenB s l = ch := ⟨_, rfl⟩
 rw [hbg] at HS ⊢
 rw [hch] at HC ⊢
 obtain ⟨R, hR⟩ : ∃ R, ((d == bg) && ch) = R := ⟨_, rfl⟩
 rw [hR]
 replace hR := hide hR
 clear hB hq hbg hch HC2 hAd hs hl hd
 unfold Scene.v at *
 unfold Basin.v at *
 simp only at *
 have h5 := hide h4
 have hdl2 := hide hdl
 have n9 : ((s.days.length - 1 : Nat) : Int) = (s.days.length : Int) - 1 := by omega
 replace h3 := hide h3
 clear h4 hdl
 have w3_ : IntKind.i64.wrap ((s.days.length : Int) - 1) = (s.days.length : Int) - 1 := IntWalk.i64_in _ (by omega)
 have w4_ : (0 : Int) ≤ (s.days.length : Int) - 1 := by omega
 have w5_ : (s.days.length : Int) - 1 < (s.days.length : Int) := by omega
 go_enter Tryz.func58, Tryz.ntmps58
 go_wp2_with fail
 obtain ⟨W0, hW0⟩ : ∃ W0, W0 = (w.alloc (.cells #[I no, .slice Aw p.length nw] 28)).alloc (.cells #[.slice Ac s.basin.cells.length nc, .slice Ap s.basin.pairs.length np, I s.basin.gain, I s.basin.slack, I s.basin.deep, .slice (some ⟨ga, oa, none⟩) s.days.length nd, .slice As s.sights.length ns, .slice Ah s.changes.length nh] 38) := ⟨_, rfl⟩
 have kP : Blk W0 w.heap.size 28 #[I no, .slice Aw p.length nw] := by rw [hW0]; exact (Blk.new w _ _).alloc _
 have kS : Blk W0 (w.heap.size + 1) 38 #[.slice Ac s.basin.cells.length nc, .slice Ap s.basin.pairs.length np, I s.basin.gain, I s.basin.slack, I s.basin.deep, .slice (some ⟨ga, oa, none⟩) s.days.length nd, .slice As s.sights.length ns, .slice Ah s.changes.length nh] := by rw [hW0]; exact blk21 w _ _ _
 have B0 : Below w.heap.size w W0 := by rw [hW0]; exact below2 _ _ _
 rw [← hW0]
 clear hW0
 obtain ⟨zP, p0, p1, _, _⟩ := blk_box kP
 obtain ⟨s0, s1, s2, s3, s4, s5, s6, s7⟩ := kS.cells8
 have zS := kS.lt
 obtain ⟨zd, e0⟩ := (h5.out.mono B0).int_at hdl2.out
 replace B0 := hide B0
 clear kP kS
 obtain ⟨q, hq⟩ : ∃ q, s.days.length - 1 = q := ⟨_, rfl⟩
 have w6_ : (s.days.length : Int) - 1 = (q : Int) := by omega
 have w7_ : IntKind.i64.wrap ((s.days.length : Int) - 1) = (q : Int) := by rw [w3_, w6_]
 rw [w6_] at w4_ w5_
 rw [hq] at e0
 clear w6_ w3_ n9 hq
 by_cases hc : bg = d
 ·subst hc
  have hqv : R = ch := by rw [← hR.out]; simp
  subst hqv
  clear hR
  go_wp2_with fail
  (refine wp_grow ?_; (repeat go_big_quiet_step ((first | (go_at_call 121; exact calls_grew (HS.out _ (bup B0.out (Grew.below _)))) | (go_at_call 122; exact calls_grew (HC.out _ (bup B0.out (Grew.below _))))))); refine wp_grow0 ?_; intro W1 hW1)
  go_wp2_with fail
  go_ret
  exact ⟨rfl, bup B0.out hW1⟩
 ·have c1 : (d == bg) = false := by simpa using fun h => hc h.symm
  have c2 : (bg == d) = false := by simpa using hc
  have hqv : R = false := by rw [← hR.out, c1]; rfl
  subst hqv
  replace hc := hide hc
  clear hR c1
  go_wp2_with fail
  (refine wp_grow ?_; (repeat go_big_quiet_step ((first | (go_at_call 121; exact calls_grew (HS.out _ (bup B0.out (Grew.below _)))) | (go_at_call 122; exact calls_grew (HC.out _ (bup B0.out (Grew.below _))))))); refine wp_grow0 ?_; intro W1 hW1)
  go_wp2_with fail
  go_ret
  exact ⟨rfl, bup B0.out hW1⟩

theorem ref_days (no : Int) (vd : Value) (p : List Weather) (a b : Int) (w : World) (h0 : 0 < p.length) (hb : 0 ≤ beginF ⟨no, p⟩ ∧ beginF ⟨no, p⟩ ≤ 1048576) (hn : p.length ≤ 512) (hd : Sl w 3 Weather.cells vd p) :
  Calls Tryz.prog 59 #[.agg #[I no, vd], I a, I b] w fun e w' => e = .returned (.bool (spellB ⟨no, p⟩ a b)) ∧ Below w.heap.size w w' := by
 have HS := hide (fun w' (hb : Below w.heap.size w w') => ref_Start no vd p w' h0 (hd.mono hb))
 have HE := hide (fun w' (hw : Below w.heap.size w w') => ref_End no vd p w' h0 hb hn (hd.mono hw))
 obtain ⟨Aw, nw, rfl, _⟩ := hd.open_
 unfold spellB
 obtain ⟨bg, hbg⟩ : ∃ bg, beginF ⟨no, p⟩ = bg := ⟨_, rfl⟩
 obtain ⟨en, hen⟩ : ∃ en, endF ⟨no, p⟩ = en := ⟨_, rfl⟩
 rw [hbg] at HS ⊢
 rw [hen] at HE ⊢
 obtain ⟨R, hR⟩ : ∃ R, (decide (bg ≤ a) && decide (a ≤ b) && decide (b ≤ en)) = R := ⟨_, rfl⟩
 rw [hR]
 clear hbg hen hd hb
 replace hR := hide hR
 go_enter Tryz.func59, Tryz.ntmps59
 go_wp2_with fail
 obtain ⟨W0, hW0⟩ : ∃ W0, W0 = w.alloc (.cells #[I no, .slice Aw p.length nw] 28) := ⟨_, rfl⟩
 obtain ⟨kP, B0⟩ := blkw hW0
 rw [← hW0]
 clear hW0
 obtain ⟨zP, p0, p1, _, _⟩ := blk_box kP
 replace B0 := hide B0
 go_at_call 121
 refine (HS.out _ B0.out).mono ?_
 rintro e w1 ⟨rfl, hb1⟩
 replace kP := kP.grow hb1
 have B1 := hide (bup B0.out hb1)
 clear hb1 zP p0 p1 B0
 obtain ⟨zP, p0, p1, _, _⟩ := blk_box kP
 clear kP
 rcases ilt a bg with c1 | c1
 ·have hqv : R = false := by rw [← hR.out, decide_eq_false (by omega : ¬ bg ≤ a)]; rfl
  subst hqv
  have d1 : decide (bg ≤ a) = false := decide_eq_false (by omega)
  clear hR
  go_wp2_with fail
  go_ret
  exact ⟨rfl, B1.out⟩
 have d1 : decide (bg ≤ a) = true := decide_eq_true c1
 rcases ilt b a with c2 | c2
 ·have hqv : R = false := by rw [← hR.out, d1, decide_eq_false (by omega : ¬ a ≤ b)]; rfl
  subst hqv
  have d2 : decide (a ≤ b) = false := decide_eq_false (by omega)
  clear hR
  go_wp2_with fail
  go_ret
  exact ⟨rfl, B1.out⟩
 have d2 : decide (a ≤ b) = true := decide_eq_true c2
 rcases ilt en b with c3 | c3
 ·have hqv : R = false := by rw [← hR.out, d1, d2, decide_eq_false (by omega : ¬ b ≤ en)]; rfl
  subst hqv
  have d3 : decide (b ≤ en) = false := decide_eq_false (by omega)
  clear hR
  go_wp2_with fail
  go_at_call 123
  refine (HE.out _ B1.out).mono ?_
  rintro e w2 ⟨rfl, hb2⟩
  go_wp2_with fail
  go_ret
  exact ⟨rfl, bup B1.out hb2⟩
 ·have hqv : R = true := by rw [← hR.out, d1, d2, decide_eq_true c3]; rfl
  subst hqv
  have d3 : decide (b ≤ en) = true := decide_eq_true c3
  clear hR
  go_wp2_with fail
  go_at_call 123
  refine (HE.out _ B1.out).mono ?_
  rintro e w2 ⟨rfl, hb2⟩
  go_wp2_with fail
  go_ret
  exact ⟨rfl, bup B1.out hb2⟩
end Go.Proofs.YtoojedjmlcdomaaGreatDoor
