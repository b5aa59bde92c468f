/- The reference's small functions of a scene: Place, When, node, like, more. Conditions stand in the theorems. -/
import Derived.Test.YtgbbljfmngmjeaaGreatBasin7Pack
import Derived.Test.YtgbbljfmngmjeaaGreatReachPack
import Derived.Test.YtgbbljfmngmjeaaGreatGrow
import Derived.Test.YtgbbljfmngmjeaaGreatBasin3Pack
set_option linter.all false
set_option maxHeartbeats 4000000
set_option maxRecDepth 100000
namespace Go.Proofs.YtgbbljfmngmjeaaGreat
open Go.RowKit

theorem blkw {w W : World} {t : TypeId} {cs : Array Value} (h : W = w.alloc (.cells cs t)) : Blk W w.heap.size t cs ∧ Below w.heap.size w W := by
 subst h
 exact ⟨Blk.new _ _ _, below1 _ _⟩
theorem ref5_Place (b : Basin) (vc vp : Value) (no : Int) (w : World) (hc : Sl w 4 Cell.cells vc b.cells) (hp : Sl w 2 pairC vp b.pairs) :
  Calls Tryz.prog 141 #[b.v vc vp, I no] w fun e w' => e = .returned (I (placeC b.cells no)) ∧ Below w.heap.size w w' := by
 obtain ⟨A, n, rfl, _, _, hlen, hA⟩ := hc.open_
 obtain ⟨P, m, rfl, _⟩ := hp.open_
 unfold Basin.v placeC
 replace hc := hide hc
 replace hA := hide hA
 go_enter Tryz.func141, Tryz.ntmps141
 go_wp2_with fail
 obtain ⟨W1, hW1⟩ : ∃ W1, W1 = w.alloc (.cells #[.slice A b.cells.length n, .slice P b.pairs.length m, I b.gain, I b.slack, I b.deep] 37) := ⟨_, rfl⟩
 obtain ⟨hk, hb⟩ := blkw hW1
 rw [← hW1]
 clear hW1
 obtain ⟨g, hg⟩ : ∃ g, w.heap.size = g := ⟨_, rfl⟩
 rw [hg] at hk ⊢
 have c0 : W1.cell? ⟨g, 0, none⟩ = some (.slice A b.cells.length n) := hk.cell 0
 have zg := hk.lt
 replace hb := hide hb
 clear hk
 replace hg := hide hg
 go_loopw [5] (fun i wr => ∃ k : Nat, k ≤ b.cells.length ∧ i = I k ∧ Hid (NoneTo (fun c : Cell => c.no == no) b.cells k) ∧ wr = W1) (fun i _ => b.cells.length - (intOf i).toNat)
 case atStart => exact ⟨0, Nat.zero_le _, rfl, hide (NoneTo.zero _ _), rfl⟩
 case round =>
  obtain ⟨k, hk, rfl, hn, rfl⟩ := hrel
  by_cases hlt : k < b.cells.length
  ·obtain ⟨ga, oa, rfl, _⟩ := hA.out k hlt
   obtain ⟨x, hx⟩ := getElem?_of_lt hlt
   obtain ⟨zx, e0, _, _, _⟩ := (hc.out.mono hb.out).cell_at hx
   by_cases hno : x.no = no
   ·have q1 : (x.no == no) = true := by simpa using hno
    have hf := hn.out.found hx (by simpa using hno)
    replace hno := hide hno
    replace hx := hide hx
    replace hf := hide hf
    go_wp2_with fail
    go_ret
    exact ⟨ret_int hf.out.symm, hb.out⟩
   ·have q1 : (x.no == no) = false := by simpa using hno
    have hs := hide (hn.out.succ hx (by simpa using hno))
    replace hno := hide hno
    replace hx := hide hx
    go_wp2_with fail
    go_roundw
    case rel => exact ⟨k + 1, by omega, by go_num, hs, by first | rfl | trivial⟩
    case measure => simp [intOf]; omega
  ·have he : k = b.cells.length := by omega
   subst he
   have hm := hide hn.out.missed
   go_wp2_with fail
   go_ret
   exact ⟨ret_int hm.out.symm, hb.out⟩

theorem ref5_When (s : Scene) (V : SceneV) (d : Int) (w : World) (hs : SceneAt w s V) :
  Calls Tryz.prog 156 #[s.v V, I d] w fun e w' => e = .returned (I (placeD s.days d)) ∧ Below w.heap.size w w' := by
 obtain ⟨vc, vp, vd, vs, vh⟩ := V
 obtain ⟨Ac, nc, hcc, _⟩ := hs.cells.open_
 obtain ⟨Ap, np, hpp, _⟩ := hs.pairs.open_
 obtain ⟨A, n, hdd, _, _, hlen, hA⟩ := hs.days.open_
 obtain ⟨As, ns, hss, _⟩ := hs.sights.open_
 obtain ⟨Ah, nh, hch, _⟩ := hs.changes.open_
 simp only at hcc hpp hdd hss hch
 subst hcc hpp hdd hss hch
 have hd := hide hs.days
 unfold Scene.v placeD
 simp only at hd ⊢
 clear hs
 replace hA := hide hA
 go_enter Tryz.func156, Tryz.ntmps156
 go_wp2_with fail
 obtain ⟨W1, hW1⟩ : ∃ W1, W1 = w.alloc (.cells #[.slice Ac s.basin.cells.length nc, .slice Ap s.basin.pairs.length np, I s.basin.gain, I s.basin.slack, I s.basin.deep, .slice A s.days.length n, .slice As s.sights.length ns, .slice Ah s.changes.length nh] 42) := ⟨_, rfl⟩
 obtain ⟨hk, hb⟩ := blkw hW1
 rw [← hW1]
 clear hW1
 obtain ⟨g, hg⟩ : ∃ g, w.heap.size = g := ⟨_, rfl⟩
 rw [hg] at hk ⊢
 have c0 : W1.cell? ⟨g, 5, none⟩ = some (.slice A s.days.length n) := hk.cell 5
 have zg := hk.lt
 replace hb := hide hb
 clear hk
 replace hg := hide hg
 go_loopw [5] (fun i wr => ∃ k : Nat, k ≤ s.days.length ∧ i = I k ∧ Hid (NoneTo (fun x : Int => x == d) s.days k) ∧ wr = W1) (fun i _ => s.days.length - (intOf i).toNat)
 case atStart => exact ⟨0, Nat.zero_le _, rfl, hide (NoneTo.zero _ _), rfl⟩
 case round =>
  obtain ⟨k, hk, rfl, hn, rfl⟩ := hrel
  by_cases hlt : k < s.days.length
  ·obtain ⟨ga, oa, rfl, _⟩ := hA.out k hlt
   obtain ⟨x, hx⟩ := getElem?_of_lt hlt
   obtain ⟨zx, e0⟩ := (hd.out.mono hb.out).int_at hx
   by_cases hno : x = d
   ·have q1 : (x == d) = true := by simpa using hno
    have hf := hn.out.found hx (by simpa using hno)
    replace hno := hide hno
    replace hx := hide hx
    replace hf := hide hf
    go_wp2_with fail
    go_ret
    exact ⟨ret_int hf.out.symm, hb.out⟩
   ·have q1 : (x == d) = false := by simpa using hno
    have hs := hide (hn.out.succ hx (by simpa using hno))
    replace hno := hide hno
    replace hx := hide hx
    go_wp2_with fail
    go_roundw
    case rel => exact ⟨k + 1, by omega, by go_num, hs, by first | rfl | trivial⟩
    case measure => simp [intOf]; omega
  ·have he : k = s.days.length := by omega
   subst he
   have hm := hide hn.out.missed
   go_wp2_with fail
   go_ret
   exact ⟨ret_int hm.out.symm, hb.out⟩

theorem ref5_node (s : Scene) (V : SceneV) (c d : Int) (w : World) (hs : SceneAt w s V) (hc : 0 ≤ c ∧ c ≤ 12) (hd : 0 ≤ d ∧ d ≤ 16) (hn : s.basin.cells.length ≤ 12) :
  Calls Tryz.prog 198 #[s.v V, I c, I d] w fun e w' => e = .returned (I (nodeF s.basin.cells.length c d)) ∧ Below w.heap.size w w' := by
 obtain ⟨vc, vp, vd, vs, vh⟩ := V
 obtain ⟨Ac, nc, hcc, _⟩ := hs.cells.open_
 obtain ⟨Ap, np, hpp, _⟩ := hs.pairs.open_
 obtain ⟨A, n, hdd, _⟩ := hs.days.open_
 obtain ⟨As, ns, hss, _⟩ := hs.sights.open_
 obtain ⟨Ah, nh, hch, _⟩ := hs.changes.open_
 simp only at hcc hpp hdd hss hch
 subst hcc hpp hdd hss hch
 have h1 : 0 ≤ d * (s.basin.cells.length : Int) := Int.mul_nonneg hd.1 (by omega)
 have h2 : d * (s.basin.cells.length : Int) ≤ 16 * 12 := Int.mul_le_mul hd.2 (by omega) (by omega) (by omega)
 obtain ⟨p, hp⟩ : ∃ p, d * (s.basin.cells.length : Int) = p := ⟨_, rfl⟩
 have w1 : IntKind.i64.wrap p = p := IntWalk.i64_in _ (by omega)
 have w2 : IntKind.i64.wrap (1 + p) = 1 + p := IntWalk.i64_in _ (by omega)
 have w3 : IntKind.i64.wrap (1 + p + c) = 1 + p + c := IntWalk.i64_in _ (by omega)
 unfold Scene.v nodeF
 simp only
 clear hs
 rw [hp]
 go_enter Tryz.func198, Tryz.ntmps198
 go_wp2_with fail
 go_ret
 exact ⟨ret_int (by first | rfl | (simp [hp, w1, w2, w3])), below1 _ _⟩

theorem like5_eq {a b : Int} (ha : 0 ≤ a ∧ a ≤ 7) (hb : 0 ≤ b ∧ b ≤ 7) : (decide ((a - b + 8) % 8 ≤ 1) || decide ((a - b + 8) % 8 = 7)) = (decide (a - b = 0) || decide (a - b = 1) || decide (b - a = 1) || decide (a - b = 7) || decide (b - a = 7)) := by
 rw [Bool.eq_iff_iff]
 simp only [Bool.or_eq_true, decide_eq_true_eq]
 omega
theorem ref5_like (a b : Cell) (w : World) (ha : 0 ≤ a.aspect ∧ a.aspect ≤ 7) (hb : 0 ≤ b.aspect ∧ b.aspect ≤ 7) :
  Calls Tryz.prog 199 #[.agg #[I a.no, I a.height, I a.aspect, I a.area], .agg #[I b.no, I b.height, I b.aspect, I b.area]] w fun e w' => e = .returned (.bool (likeB a b)) ∧ Below w.heap.size w w' := by
 have w1 : IntKind.i64.wrap (a.aspect - b.aspect) = a.aspect - b.aspect := IntWalk.i64_in _ (by omega)
 have w2 : IntKind.i64.wrap (b.aspect - a.aspect) = b.aspect - a.aspect := IntWalk.i64_in _ (by omega)
 obtain ⟨q, hq⟩ : ∃ q, likeB a b = q := ⟨_, rfl⟩
 have hq2 := hq
 unfold likeB at hq2
 rw [like5_eq ha hb] at hq2
 rw [hq]
 clear hq
 rcases ilt (a.aspect - b.aspect) (b.aspect - a.aspect) with h | h
 ·obtain ⟨d, hd⟩ : ∃ d, b.aspect - a.aspect = d := ⟨_, rfl⟩
  have hd2 : a.aspect - b.aspect = -d := by omega
  have hq3 : (decide (d = 0) || decide (d = 1) || decide (d = 7)) = q := by
   rw [← hq2, Bool.eq_iff_iff]; simp only [Bool.or_eq_true, decide_eq_true_eq]; omega
  rw [hd] at w2
  rw [hd2] at w1
  rw [hd2, hd] at h
  clear hq2 ha hb
  by_cases d0 : d = 0
  ·have e0 : (d == 0) = true := by simpa using d0
   have hq4 : q = true := by rw [← hq3]; simp [d0]
   subst hq4
   clear hq3 d0
   go_enter Tryz.func199, Tryz.ntmps199
   go_wp2_with fail
   go_ret
   exact ⟨ret_bool (by first | rfl | (simp; done) | (simp; omega)), below2 _ _ _⟩
  ·have e0 : (d == 0) = false := by simpa using d0
   by_cases d1 : d = 1
   ·have e1 : (d == 1) = true := by simpa using d1
    have hq4 : q = true := by rw [← hq3]; simp [d1]
    subst hq4
    clear hq3 d0 d1
    go_enter Tryz.func199, Tryz.ntmps199
    go_wp2_with fail
    go_ret
    exact ⟨ret_bool (by first | rfl | (simp; done) | (simp; omega)), below2 _ _ _⟩
   ·have e1 : (d == 1) = false := by simpa using d1
    have hq4 : q = decide (d = 7) := by rw [← hq3]; simp [d0, d1]
    subst hq4
    clear hq3 d0 d1
    go_enter Tryz.func199, Tryz.ntmps199
    go_wp2_with fail
    go_ret
    exact ⟨ret_bool (by first | rfl | (simp; done) | (simp; omega)), below2 _ _ _⟩
 ·obtain ⟨d, hd⟩ : ∃ d, a.aspect - b.aspect = d := ⟨_, rfl⟩
  have hd2 : b.aspect - a.aspect = -d := by omega
  have hq3 : (decide (d = 0) || decide (d = 1) || decide (d = 7)) = q := by
   rw [← hq2, Bool.eq_iff_iff]; simp only [Bool.or_eq_true, decide_eq_true_eq]; omega
  rw [hd] at w1
  rw [hd2] at w2
  rw [hd, hd2] at h
  clear hq2 ha hb
  by_cases d0 : d = 0
  ·have e0 : (d == 0) = true := by simpa using d0
   have hq4 : q = true := by rw [← hq3]; simp [d0]
   subst hq4
   clear hq3 d0
   go_enter Tryz.func199, Tryz.ntmps199
   go_wp2_with fail
   go_ret
   exact ⟨ret_bool (by first | rfl | (simp; done) | (simp; omega)), below2 _ _ _⟩
  ·have e0 : (d == 0) = false := by simpa using d0
   by_cases d1 : d = 1
   ·have e1 : (d == 1) = true := by simpa using d1
    have hq4 : q = true := by rw [← hq3]; simp [d1]
    subst hq4
    clear hq3 d0 d1
    go_enter Tryz.func199, Tryz.ntmps199
    go_wp2_with fail
    go_ret
    exact ⟨ret_bool (by first | rfl | (simp; done) | (simp; omega)), below2 _ _ _⟩
   ·have e1 : (d == 1) = false := by simpa using d1
    have hq4 : q = decide (d = 7) := by rw [← hq3]; simp [d0, d1]
    subst hq4
    clear hq3 d0 d1
    go_enter Tryz.func199, Tryz.ntmps199
    go_wp2_with fail
    go_ret
    exact ⟨ret_bool (by first | rfl | (simp; done) | (simp; omega)), below2 _ _ _⟩

theorem ref5_more (b : Basin) (vc vp : Value) (j k : Nat) (x y : Cell) (w : World) (hc : Sl w 4 Cell.cells vc b.cells) (hp : Sl w 2 pairC vp b.pairs) (hg : 0 ≤ b.gain ∧ b.gain ≤ 65536) (hs : 0 ≤ b.slack ∧ b.slack ≤ 65536)
  (hx : b.cells[j]? = some x) (hy : b.cells[k]? = some y) (hx0 : 0 ≤ x.height) (hy9 : y.height ≤ 9000) (hxy : x.height ≤ y.height) :
  Calls Tryz.prog 200 #[b.v vc vp, .agg #[I j, I k]] w fun e w' => e = .returned (I (moreF b ((j : Int), (k : Int)))) ∧ Below w.heap.size w w' := by
 have hb := more_bounds hg hxy hx0 hy9
 have hv : moreF b ((j : Int), (k : Int)) = b.slack + b.gain * (y.height - x.height) / 100 := by
  simp only [moreF, Int.toNat_natCast, getD_of hx, getD_of hy]
 rw [hv]
 obtain ⟨A, n, rfl, _, _, hlc, hA⟩ := hc.open_
 obtain ⟨P, m, rfl, _⟩ := hp.open_
 have hjl := (List.getElem?_eq_some_iff.1 hx).1
 have hkl := (List.getElem?_eq_some_iff.1 hy).1
 obtain ⟨g, off, rfl, hgw⟩ := hA j hjl
 obtain ⟨_, _, e1, _, _⟩ := hc.cell_at hx
 obtain ⟨_, _, p1, _, _⟩ := hc.cell_at hy
 have w1 : IntKind.i64.wrap (y.height - x.height) = y.height - x.height := IntWalk.i64_in _ (by omega)
 obtain ⟨d, hd⟩ : ∃ d, b.gain * (y.height - x.height) = d := ⟨_, rfl⟩
 rw [hd] at hb ⊢
 have w2 : IntKind.i64.wrap d = d := IntWalk.i64_in _ (by omega)
 have w3 : Int.tdiv d 100 = d / 100 := Int.tdiv_eq_ediv_of_nonneg hb.1
 have w4 : IntKind.i64.wrap (d / 100) = d / 100 := IntWalk.i64_in _ (by omega)
 have w5 : IntKind.i64.wrap (b.slack + d / 100) = b.slack + d / 100 := IntWalk.i64_in _ (by omega)
 have hg1 : g < w.heap.size + 1 := by omega
 have hg2 : g < w.heap.size + 1 + 1 := by omega
 have hg3 : g ≤ w.heap.size := by omega
 unfold Basin.v
 clear hA hc hx hy hv hp
 go_enter Tryz.func200, Tryz.ntmps200
 go_wp2_with fail
 (refine wp_grow ?_; (repeat go_big_quiet_step (fail)); refine wp_grow0 ?_; intro W1 hW1)
 go_wp2_with fail
 go_ret
 exact ⟨rfl, bup (below2 _ _ _) hW1⟩

theorem ref5_within (n m : Int) (w : World) : Calls Tryz.prog 133 #[I n, I m] w fun e w' => e = .returned (.bool (inB n 0 m)) ∧ w = w' := by
 rcases ilt n 0 with h1 | h1
 ·have h : inB n 0 m = false := by simp [inB]; omega
  rw [h]
  clear h
  have h2 : decide (0 ≤ n) = false := decide_eq_false (by omega)
  go_enter Tryz.func133, Tryz.ntmps133
  go_wp2
  go_ret
  exact ⟨(by first | rfl | (simp <;> omega)), rfl⟩
 ·rcases ilt m n with h2 | h2
  ·have h : inB n 0 m = false := by simp [inB]; omega
   rw [h]
   clear h
   go_enter Tryz.func133, Tryz.ntmps133
   go_wp2
   go_ret
   exact ⟨(by first | rfl | (simp <;> omega)), rfl⟩
  ·have h : inB n 0 m = true := inB_true.2 ⟨h1, h2⟩
   rw [h]
   clear h
   go_enter Tryz.func133, Tryz.ntmps133
   go_wp2
   go_ret
   exact ⟨(by first | rfl | (simp <;> omega)), rfl⟩
theorem within5_is {n m : Int} {b : Bool} (h : inB n 0 m = b) (w : World) : Calls Tryz.prog 133 #[I n, I m] w fun e w' => e = .returned (.bool b) ∧ w = w' := h ▸ ref5_within n m w
theorem ref5_validCell (x : Cell) (w : World) : Calls Tryz.prog 173 #[.agg #[I x.no, I x.height, I x.aspect, I x.area]] w fun e w' => e = .returned (.bool (cellOk x)) ∧ Below w.heap.size w w' := by
 cases g0 : inB x.no 0 4095 with
 | false =>
  rw [show cellOk x = false by simp [cellOk, g0]]
  go_enter Tryz.func173, Tryz.ntmps173
  go_wp2_with (go_at_call 133; refine (within5_is (by assumption) _).mono ?_; rintro e w' ⟨rfl, rfl⟩)
  go_ret
  exact ⟨(by first | rfl | (simp <;> omega)), below1 _ _⟩
 | true =>
  cases g1 : inB x.height 0 9000 with
  | false =>
   rw [show cellOk x = false by simp [cellOk, g0, g1]]
   go_enter Tryz.func173, Tryz.ntmps173
   go_wp2_with (go_at_call 133; refine (within5_is (by assumption) _).mono ?_; rintro e w' ⟨rfl, rfl⟩)
   go_ret
   exact ⟨(by first | rfl | (simp <;> omega)), below1 _ _⟩
  | true =>
   cases g2 : inB x.aspect 0 7 with
   | false =>
    rw [show cellOk x = false by simp [cellOk, g0, g1, g2]]
    go_enter Tryz.func173, Tryz.ntmps173
    go_wp2_with (go_at_call 133; refine (within5_is (by assumption) _).mono ?_; rintro e w' ⟨rfl, rfl⟩)
    go_ret
    exact ⟨(by first | rfl | (simp <;> omega)), below1 _ _⟩
   | true =>
    rcases ilt x.area 1 with g3 | g3
    ·rw [show cellOk x = false by simp [cellOk, g0, g1, g2, inB]; omega]
     go_enter Tryz.func173, Tryz.ntmps173
     go_wp2_with (go_at_call 133; refine (within5_is (by assumption) _).mono ?_; rintro e w' ⟨rfl, rfl⟩)
     go_ret
     exact ⟨(by first | rfl | (simp <;> omega)), below1 _ _⟩
    ·rcases ilt 4096 x.area with g4 | g4
     ·rw [show cellOk x = false by simp [cellOk, g0, g1, g2, inB]; omega]
      go_enter Tryz.func173, Tryz.ntmps173
      go_wp2_with (go_at_call 133; refine (within5_is (by assumption) _).mono ?_; rintro e w' ⟨rfl, rfl⟩)
      go_ret
      exact ⟨(by first | rfl | (simp <;> omega)), below1 _ _⟩
     ·rw [show cellOk x = true by simp [cellOk, g0, g1, g2, inB_true.2 ⟨g3, g4⟩]]
      go_enter Tryz.func173, Tryz.ntmps173
      go_wp2_with (go_at_call 133; refine (within5_is (by assumption) _).mono ?_; rintro e w' ⟨rfl, rfl⟩)
      go_ret
      exact ⟨(by first | rfl | (simp <;> omega)), below1 _ _⟩
theorem Change.eq_iff {x y : Change} : x = y ↔ x.cell = y.cell ∧ x.frm = y.frm ∧ x.to = y.to ∧ x.lo = y.lo ∧ x.hi = y.hi := by
 cases x; cases y; simp
theorem same_changes {l m : List Change} {k : Nat} {x y : Change} (hx : l[k]? = some x) (hy : m[k]? = some y) (h : l.take k = m.take k) (hxy : x = y) : l.take (k + 1) = m.take (k + 1) := by
 rw [take_succ_of hx, take_succ_of hy, h, hxy]

theorem bothP_eq {a c d e : Int} : bothP (d, e) = bothP (a, c) ↔ (d = a ∧ e = c) ∨ (d = c ∧ e = a) := by
 simp only [bothP, Prod.mk.injEq]; omega
theorem bothP_no {a c d e : Int} {l : List (Int × Int)} {j : Nat} (hx : l[j]? = some (d, e)) (h : ((l.take j).map bothP).any (fun r => r == bothP (a, c)) = false) (hn : ¬ ((d = a ∧ e = c) ∨ (d = c ∧ e = a))) :
  ((l.take (j + 1)).map bothP).any (fun r => r == bothP (a, c)) = false := by
 rw [take_map_succ bothP hx, List.any_append, h]
 have : bothP (d, e) ≠ bothP (a, c) := fun h => hn (bothP_eq.1 h)
 simpa using this
theorem bothP_hit {a c d e : Int} {l : List (Int × Int)} {j k : Nat} (hj : j < k) (hx : l[j]? = some (d, e)) (hn : (d = a ∧ e = c) ∨ (d = c ∧ e = a)) :
  ((l.take k).map bothP).any (fun r => r == bothP (a, c)) = true := by
 rw [List.any_eq_true]
 refine ⟨bothP (d, e), List.mem_map.2 ⟨(d, e), ?_, rfl⟩, by simpa using bothP_eq.2 hn⟩
 refine List.mem_of_getElem? (i := j) ?_
 rw [List.getElem?_take_of_lt hj, hx]
theorem head5 {b : Basin} (h : b.headOk = false) (h1 : 1 ≤ b.cells.length) (h2 : b.cells.length ≤ 12) (h3 : b.pairs.length ≤ 24) (h4 : inB b.gain 0 65536 = true) (h5 : inB b.slack 0 65536 = true) (h6 : inB b.deep 0 65536 = true) : False := by
 have e1 : inB b.cells.length 1 12 = true := inB_true.2 ⟨by omega, by omega⟩
 simp [Basin.headOk, e1, h3, h4, h5, h6] at h
theorem ref5_CheckBasin_head (b : Basin) (vc vp : Value) (w : World) (hc : Sl w 4 Cell.cells vc b.cells) (hp : Sl w 2 pairC vp b.pairs) (hh : b.headOk = false) :
  Calls Tryz.prog 132 #[b.v vc vp] w fun e w' => e = .returned (I (basinE b)) ∧ Below w.heap.size w w' := by
 obtain ⟨Ac, nc, rfl, _, _, hlc, hAc⟩ := hc.open_
 obtain ⟨Ap, np, rfl, _, _, hlp, hAp⟩ := hp.open_
 clear hc hp hAc hAp
 rw [basinOk_head hh]
 unfold Basin.v
 rcases ilt b.cells.length 1 with h1 | h1
 ·clear hh
  go_enter Tryz.func132, Tryz.ntmps132
  go_wp2_with (go_at_call 133; refine (within5_is (by assumption) _).mono ?_; rintro e w' ⟨rfl, rfl⟩)
  go_ret
  exact ⟨rfl, below1 _ _⟩
 ·rcases ilt 12 b.cells.length with h2 | h2
  ·clear hh
   go_enter Tryz.func132, Tryz.ntmps132
   go_wp2_with (go_at_call 133; refine (within5_is (by assumption) _).mono ?_; rintro e w' ⟨rfl, rfl⟩)
   go_ret
   exact ⟨rfl, below1 _ _⟩
  ·rcases ilt 24 b.pairs.length with h3 | h3
   ·clear hh
    go_enter Tryz.func132, Tryz.ntmps132
    go_wp2_with (go_at_call 133; refine (within5_is (by assumption) _).mono ?_; rintro e w' ⟨rfl, rfl⟩)
    go_ret
    exact ⟨rfl, below1 _ _⟩
   ·cases h4 : inB b.gain 0 65536 with
    | false =>
     clear hh
     go_enter Tryz.func132, Tryz.ntmps132
     go_wp2_with (go_at_call 133; refine (within5_is (by assumption) _).mono ?_; rintro e w' ⟨rfl, rfl⟩)
     go_ret
     exact ⟨rfl, below1 _ _⟩
    | true =>
     cases h5 : inB b.slack 0 65536 with
     | false =>
      clear hh
      go_enter Tryz.func132, Tryz.ntmps132
      go_wp2_with (go_at_call 133; refine (within5_is (by assumption) _).mono ?_; rintro e w' ⟨rfl, rfl⟩)
      go_ret
      exact ⟨rfl, below1 _ _⟩
     | true =>
      cases h6 : inB b.deep 0 65536 with
      | false =>
       clear hh
       go_enter Tryz.func132, Tryz.ntmps132
       go_wp2_with (go_at_call 133; refine (within5_is (by assumption) _).mono ?_; rintro e w' ⟨rfl, rfl⟩)
       go_ret
       exact ⟨rfl, below1 _ _⟩
      | true => exact (head5 hh (by omega) (by omega) (by omega) h4 h5 h6).elim
theorem ref5_CheckBasin_valid (b : Basin) (vc vp : Value) (w : World) (hc : Sl w 4 Cell.cells vc b.cells) (hp : Sl w 2 pairC vp b.pairs) (hh : b.headOk = true) :
  Calls Tryz.prog 132 #[b.v vc vp] w fun e w' => e = .returned (I (basinE b)) ∧ Below w.heap.size w w' := by
 obtain ⟨A, n, rfl, _, _, hlc, hA⟩ := hc.open_
 obtain ⟨D, m, rfl, _, _, hlp, hD⟩ := hp.open_
 replace hc := hide hc
 replace hp := hide hp
 replace hA := hide hA
 replace hD := hide hD
 have hbad1 := hide (fun k (hk : k < b.cells.length) (h : cellGood b.cells k = false) => basinOk_cell (b := b) (all_of_not hk h))
 have hbad2 := hide (fun k (hk : k < b.pairs.length) (h : pairGood b.cells b.pairs k = false) => basinOk_pair (b := b) (all_of_not hk h))
 have hgood := hide (fun h2 h3 => basinOk_all (b := b) hh h2 h3)
 obtain ⟨⟨hl1, hl2⟩, hp2, h3, h4, h5⟩ := Basin.headOk_of hh
 clear hh
 have g1 : (1 : Int) ≤ b.cells.length := by omega
 have g2 : (b.cells.length : Int) ≤ 12 := by omega
 have g3 : (b.pairs.length : Int) ≤ 24 := by omega
 obtain ⟨E, hE⟩ : ∃ E, basinE b = E := ⟨_, rfl⟩
 rw [hE] at hbad1 hbad2 hgood ⊢
 clear hE
 unfold Basin.v
 go_enter Tryz.func132, Tryz.ntmps132
 go_wp2_with (go_at_call 133; refine (within5_is (by assumption) _).mono ?_; rintro e w' ⟨rfl, rfl⟩)
 clear h3 h4 h5 g1 g2 g3
 obtain ⟨W0, hW0⟩ : ∃ W0, W0 = w.alloc (.cells #[.slice A b.cells.length n, .slice D b.pairs.length m, I b.gain, I b.slack, I b.deep] 37) := ⟨_, rfl⟩
 have hK : BasAt W0 w.heap.size b (.slice A b.cells.length n) (.slice D b.pairs.length m) := by rw [hW0]; exact BasAt.new _ _ _ _ _
 have hbl : Below w.heap.size w W0 := by rw [hW0]; exact below1 _ _
 rw [← hW0]
 clear hW0
 replace hK := hide hK
 go_loopw [3] (fun i wr => ∃ k : Nat, k ≤ b.cells.length ∧ i = I k ∧ Hid (AllTo (cellGood b.cells) k) ∧ Below W0.heap.size W0 wr) (fun i _ => b.cells.length - (intOf i).toNat)
 case atStart => exact ⟨0, Nat.zero_le _, rfl, hide (AllTo.zero _), Below.refl _ _⟩
 case round =>
  obtain ⟨k, hk, rfl, hn, hb⟩ := hrel
  obtain ⟨hg0, q0, q1, q2, q3, q4⟩ := hK.out.grow hb
  by_cases hlt : k < b.cells.length
  ·obtain ⟨g, off, rfl, hbw⟩ := hA.out k hlt
   obtain ⟨x, hx⟩ := getElem?_of_lt hlt
   obtain ⟨hbx, e0, e1, e2, e3⟩ := ((unhide hc).mono (bup hbl hb)).cell_at hx
   have HR := fun w => ref5_validCell x w
   cases hok : cellOk x with
   | false =>
    have hfin := hide (hbad1.out k hlt (cellGood_head hx hok))
    rw [hok] at HR
    replace HR := hide HR
    clear hbad1 hbad2 hgood hx hn hok q1 q2 q3 q4
    go_wp2_with fail
    (refine wp_grow ?_; (repeat go_big_quiet_step ((go_at_call 173; exact calls_grew (HR.out _)))); refine wp_grow0 ?_; intro W1 hW1)
    go_wp2_with fail
    go_ret
    exact ⟨ret_int hfin.out.symm, bup (bup hbl hb) hW1⟩
   | true =>
    rw [hok] at HR
    replace HR := hide HR
    rcases Nat.lt_or_ge 0 k with hk0 | hk0
    ·obtain ⟨y, hy⟩ := getElem?_of_lt (xs := b.cells) (k := k - 1) (by omega)
     obtain ⟨_, p0, p1, p2, p3⟩ := ((unhide hc).mono (bup hbl hb)).cell_at hy
     have hpos := cellGood_pos hk0 hx hy hok
     clear hok
     rcases ilt y.no x.no with hd | hd
     ·have hyd : decide (x.no ≤ y.no) = false := by simp; omega
      have hg := hide (hn.out.succ (show cellGood b.cells k = true by rw [hpos]; simpa using hd))
      clear hbad1 hbad2 hgood hx hn hy hpos q1 q2 q3 q4
      go_wp2_with fail
      (refine wp_grow ?_; (repeat go_big_quiet_step ((go_at_call 173; exact calls_grew (HR.out _)))); refine wp_grow0 ?_; intro W1 hW1)
      go_wp2_with fail
      go_roundw
      case rel => exact ⟨k + 1, by omega, by go_num, hg, bup hb hW1⟩
      case measure => simp [intOf]; omega
     ·have hfin := hide (hbad1.out k hlt (by rw [hpos]; simp; omega))
      have hyd : decide (x.no ≤ y.no) = true := by simp; omega
      clear hbad1 hbad2 hgood hx hn hy hpos q1 q2 q3 q4
      go_wp2_with fail
      (refine wp_grow ?_; (repeat go_big_quiet_step ((go_at_call 173; exact calls_grew (HR.out _)))); refine wp_grow0 ?_; intro W1 hW1)
      go_wp2_with fail
      go_ret
      exact ⟨ret_int hfin.out.symm, bup (bup hbl hb) hW1⟩
    ·have hkd : decide (0 < k) = false := by simp; omega
     have hg := hide (hn.out.succ (show cellGood b.cells k = true by
      have hk00 : k = 0 := by omega
      subst hk00; exact cellGood_zero hx hok))
     clear hok
     clear hbad1 hbad2 hgood hx hn q1 q2 q3 q4
     go_wp2_with fail
     (refine wp_grow ?_; (repeat go_big_quiet_step ((go_at_call 173; exact calls_grew (HR.out _)))); refine wp_grow0 ?_; intro W1 hW1)
     go_wp2_with fail
     go_roundw
     case rel => exact ⟨k + 1, by omega, by go_num, hg, bup hb hW1⟩
     case measure => simp [intOf]; omega
  ·have he : k = b.cells.length := by omega
   subst he
   have hgood1 := hide (hgood.out (AllTo.all hn.out))
   clear hbad1 hn hgood
   go_wp2_with fail
   have hb0 := hide hb
   clear hb hg0 q0 q1 q2 q3 q4
   go_loopw [4] (fun i wr => ∃ k : Nat, k ≤ b.pairs.length ∧ i = I k ∧ Hid (AllTo (pairGood b.cells b.pairs) k) ∧ Below W0.heap.size W0 wr) (fun i _ => b.pairs.length - (intOf i).toNat)
   case atStart => exact ⟨0, Nat.zero_le _, rfl, hide (AllTo.zero _), hb0.out⟩
   case round =>
    clear hb0
    obtain ⟨k, hk, rfl, hn, hb⟩ := hrel
    obtain ⟨hg0, q0, q1, q2, q3, q4⟩ := hK.out.grow hb
    by_cases hlt : k < b.pairs.length
    ·obtain ⟨g, off, rfl, hbw⟩ := hD.out k hlt
     obtain ⟨⟨a, c⟩, hx⟩ := getElem?_of_lt hlt
     obtain ⟨hbx, e0, e1⟩ := ((unhide hp).mono (bup hbl hb)).pair_at hx
     simp only at e0 e1
     have hwl : IntKind.i64.wrap ((b.cells.length : Int) - 1) = (b.cells.length : Int) - 1 := IntWalk.i64_in _ (by omega)
     cases f1 : inB a 0 (b.cells.length - 1) with
     | false =>
      have hfin := hide (hbad2.out k hlt (pairGood_bad hx (by simp [pairOk_eq, f1])))
      clear hbad2 hgood1 hx hn q2 q3 q4
      go_wp2_with fail
      (refine wp_grow ?_; (repeat go_big_quiet_step ((go_at_call 133; exact calls_grew_same (within5_is (by assumption) _)))); refine wp_grow0 ?_; intro W1 hW1)
      go_wp2_with fail
      go_ret
      exact ⟨ret_int hfin.out.symm, bup (bup hbl hb) (bup (below1 _ _) hW1)⟩
     | true =>
      cases f2 : inB c 0 (b.cells.length - 1) with
      | false =>
       have hfin := hide (hbad2.out k hlt (pairGood_bad hx (by simp [pairOk_eq, f2])))
       clear hbad2 hgood1 hx hn q2 q3 q4
       go_wp2_with fail
       (refine wp_grow ?_; (repeat go_big_quiet_step ((go_at_call 133; exact calls_grew_same (within5_is (by assumption) _)))); refine wp_grow0 ?_; intro W1 hW1)
       go_wp2_with fail
       go_ret
       exact ⟨ret_int hfin.out.symm, bup (bup hbl hb) (bup (below1 _ _) hW1)⟩
      | true =>
       cases f3 : a == c with
       | true =>
        have hfin := hide (hbad2.out k hlt (pairGood_bad hx (by simp only [pairOk_eq, f3]; simp)))
        clear hbad2 hgood1 hx hn q2 q3 q4
        go_wp2_with fail
        (refine wp_grow ?_; (repeat go_big_quiet_step ((go_at_call 133; exact calls_grew_same (within5_is (by assumption) _)))); refine wp_grow0 ?_; intro W1 hW1)
        go_wp2_with fail
        go_ret
        exact ⟨ret_int hfin.out.symm, bup (bup hbl hb) (bup (below1 _ _) hW1)⟩
       | false =>
        obtain ⟨i, rfl⟩ : ∃ i : Nat, a = i := ⟨a.toNat, by have := inB_true.1 f1; omega⟩
        obtain ⟨j, rfl⟩ : ∃ j : Nat, c = j := ⟨c.toNat, by have := inB_true.1 f2; omega⟩
        have hil : i < b.cells.length := by have := inB_true.1 f1; omega
        have hjl : j < b.cells.length := by have := inB_true.1 f2; omega
        obtain ⟨x, hxi⟩ := getElem?_of_lt hil
        obtain ⟨y, hyj⟩ := getElem?_of_lt hjl
        obtain ⟨gc, oc, rfl, hcw⟩ := hA.out i hil
        obtain ⟨_, _, u1, _, _⟩ := ((unhide hc).mono (bup hbl hb)).cell_at hxi
        obtain ⟨_, _, v1, _, _⟩ := ((unhide hc).mono (bup hbl hb)).cell_at hyj
        have hgc := ((unhide hc).mono (bup hbl hb)).cell_at hxi |>.1
        have hok : pairOk b.cells ((i : Int), (j : Int)) = decide (x.height ≤ y.height) := by
         simp only [pairOk_eq, f1, f2, f3, Int.toNat_natCast, getD_of hxi, getD_of hyj]; rfl
        clear hxi hyj
        rcases ilt y.height x.height with hd | hd
        ·have hfin := hide (hbad2.out k hlt (pairGood_bad hx (by rw [hok]; simp; omega)))
         have hyd : decide (y.height < x.height) = true := by simpa using hd
         clear hok
         clear hbad2 hgood1 hx hn q2 q3 q4
         go_wp2_with fail
         (refine wp_grow ?_; (repeat go_big_quiet_step ((go_at_call 133; exact calls_grew_same (within5_is (by assumption) _)))); refine wp_grow0 ?_; intro W1 hW1)
         go_wp2_with fail
         go_ret
         exact ⟨ret_int hfin.out.symm, bup (bup hbl hb) (bup (below1 _ _) hW1)⟩
        ·have hpos := hide (pairGood_at hx (hok.trans (by simpa using hd)))
         have hyd : decide (y.height < x.height) = false := by simp; omega
         clear hok
         replace hbad2 := hide (fun h => hbad2.out k hlt h)
         have hij : ¬ ((i : Int) = j) := by simpa using f3
         obtain ⟨p, hpp⟩ : ∃ p : Int, p = i := ⟨_, rfl⟩
         obtain ⟨q, hqq⟩ : ∃ q : Int, q = j := ⟨_, rfl⟩
         go_wp2_with fail
         (refine wp_grow ?_; (repeat go_big_quiet_step ((go_at_call 133; exact calls_grew_same (within5_is (by assumption) _)))); refine wp_grow0 ?_; intro W1 hW1)
         clear hg0 q0 q1 q2 q3 q4 hbx e0 e1 u1 v1 hgc hyd hd hwl f1 f2
         have kP : Blk W1 wr.heap.size 203 #[I i, I j] := (Blk.new wr _ _).grow hW1
         have hbP := bup hb (bup (below1 _ _) hW1)
         clear hb hW1
         replace hbP := hide hbP
         obtain ⟨P, hP⟩ : ∃ P, P = wr.heap.size := ⟨_, rfl⟩
         simp only [← hP] at kP ⊢
         clear hP
         replace kP := hide kP
         replace hx := hide hx
         go_wp2_with fail
         go_loopw [6] (fun i' wr => ∃ k' : Nat, k' ≤ k ∧ i' = I k' ∧ Hid (((b.pairs.take k').map bothP).any (fun r => r == bothP ((i : Int), (j : Int))) = false) ∧ Below W1.heap.size W1 wr) (fun i' _ => k - (intOf i').toNat)
         case atStart => exact ⟨0, Nat.zero_le _, rfl, hide (by simp), Below.refl _ _⟩
         case round =>
          obtain ⟨k', hk', rfl, hany, hb2⟩ := hrel
          by_cases hlt' : k' < k
          ·have hbT := bup hbP.out hb2
           obtain ⟨hg0, q0, q1, q2, q3, q4⟩ := hK.out.grow hbT
           obtain ⟨g', off', hg', hbw'⟩ := hD.out k' (by omega)
           cases hg'
           obtain ⟨⟨d, e⟩, hy⟩ := getElem?_of_lt (show k' < b.pairs.length by omega)
           obtain ⟨hby, y0, y1⟩ := ((unhide hp).mono (bup hbl hbT)).pair_at hy
           simp only at y0 y1
           have kP2 := kP.out.grow hb2
           obtain ⟨p0, p1⟩ := kP2.cells2
           have hPlt := kP2.lt
           have hno := fun hn => bothP_no (a := (i : Int)) (c := (j : Int)) hy hany.out hn
           have hhit := fun hn => hbad2.out (by rw [hpos.out, bothP_hit hlt' hy hn]; rfl)
           clear hbad2 hgood1 hpos hx hany hn hy q2 q3 q4 kP2
           cases h1 : (d == (i : Int)) with
           | true =>
            have h1' : d = i := by simpa using h1
            cases h2 : (e == (j : Int)) with
            | true =>
             have h2' : e = j := by simpa using h2
             have hfin := hide (hhit (.inl ⟨h1', h2'⟩))
             clear h1' h2' hno hhit
             go_wp2_with fail
             go_ret
             exact ⟨ret_int hfin.out.symm, bup (bup hbl hbT) (below1 _ _)⟩
            | false =>
             have h2' : e ≠ j := by simpa using h2
             have h3 : (d == (j : Int)) = false := by simpa [h1'] using hij
             have hg := hide (hno (fun h => h.elim (fun h => h2' h.2) (fun h => hij (h1'.symm.trans h.1))))
             clear h1' h2' hno hhit
             go_wp2_with fail
             go_roundw
             case rel => exact ⟨k' + 1, by omega, by go_num, hg, bup hb2 (below1 _ _)⟩
             case measure => simp [intOf]; omega
           | false =>
            have h1' : d ≠ i := by simpa using h1
            cases h3 : (d == (j : Int)) with
            | false =>
             have h3' : d ≠ j := by simpa using h3
             have hg := hide (hno (fun h => h.elim (fun h => h1' h.1) (fun h => h3' h.1)))
             clear h1' h3' hno hhit
             go_wp2_with fail
             go_roundw
             case rel => exact ⟨k' + 1, by omega, by go_num, hg, bup hb2 (below1 _ _)⟩
             case measure => simp [intOf]; omega
            | true =>
             have h3' : d = j := by simpa using h3
             cases h4 : (e == (i : Int)) with
             | false =>
              have h4' : e ≠ i := by simpa using h4
              have hg := hide (hno (fun h => h.elim (fun h => h1' h.1) (fun h => h4' h.2)))
              clear h1' h3' h4' hno hhit
              go_wp2_with fail
              go_roundw
              case rel => exact ⟨k' + 1, by omega, by go_num, hg, bup hb2 (below1 _ _)⟩
              case measure => simp [intOf]; omega
             | true =>
              have h4' : e = i := by simpa using h4
              have hfin := hide (hhit (.inr ⟨h3', h4'⟩))
              clear h1' h3' h4' hno hhit
              go_wp2_with fail
              go_ret
              exact ⟨ret_int hfin.out.symm, bup (bup hbl hbT) (below1 _ _)⟩
          ·have he : k' = k := by omega
           subst he
           have hg := hide (hn.out.succ (show pairGood b.cells b.pairs k' = true by rw [hpos.out, hany.out]; rfl))
           clear hbad2 hgood1 hpos hx hany hn
           go_wp2_with fail
           go_roundw
           case rel => exact ⟨k' + 1, by omega, by go_num, hg, bup hbP.out hb2⟩
           case measure => simp [intOf]; omega
    ·have he : k = b.pairs.length := by omega
     subst he
     have hfin := hide (hgood1.out (AllTo.all hn.out))
     clear hbad2 hn hgood1
     go_wp2_with fail
     go_ret
     exact ⟨ret_int hfin.out.symm, bup hbl hb⟩
theorem ref5_CheckBasin (b : Basin) (vc vp : Value) (w : World) (hc : Sl w 4 Cell.cells vc b.cells) (hp : Sl w 2 pairC vp b.pairs) :
  Calls Tryz.prog 132 #[b.v vc vp] w fun e w' => e = .returned (I (basinE b)) ∧ Below w.heap.size w w' := by
 cases h : b.headOk with
 | false => exact ref5_CheckBasin_head b vc vp w hc hp h
 | true => exact ref5_CheckBasin_valid b vc vp w hc hp h

theorem hasD_eq {ds : List Int} {d : Int} : hasD ds d = decide (0 ≤ placeD ds d) := by
 cases h : hasD ds d with
 | true => exact (decide_eq_true (hasD_place h)).symm
 | false =>
  rw [eq_comm, decide_eq_false_iff_not]
  intro h0
  obtain ⟨x, hx, hp⟩ := idxBy_at (fun x => x == d) ds h0
  have : hasD ds d = true := List.any_eq_true.2 ⟨x, List.mem_of_getElem? hx, hp⟩
  rw [h] at this
  cases this
theorem Blk.five {w : World} {g : Nat} {t : TypeId} {a b c d e : Value} (h : Blk w g t #[a, b, c, d, e]) : w.cell? ⟨g, 0, none⟩ = some a ∧ w.cell? ⟨g, 1, none⟩ = some b ∧ w.cell? ⟨g, 2, none⟩ = some c ∧ w.cell? ⟨g, 3, none⟩ = some d ∧ w.cell? ⟨g, 4, none⟩ = some e := ⟨h.cell 0, h.cell 1, h.cell 2, h.cell 3, h.cell 4⟩

theorem ref5_validSight (s : Scene) (V : SceneV) (x : Sight) (w : World) (hs : SceneAt w s V) :
  Calls Tryz.prog 134 #[s.v V, .agg #[I x.no, I x.cell, I x.day, I x.lo, I x.hi]] w fun e w' => e = .returned (.bool (sightOk s x)) ∧ Below w.heap.size w w' := by
 obtain ⟨vc, vp, vd, vs, vh⟩ := V
 have h1 : Sl w 4 Cell.cells vc s.basin.cells := hs.cells
 have h2 : Sl w 2 pairC vp s.basin.pairs := hs.pairs
 have h3 : Sl w 1 intC vd s.days := hs.days
 have h4 : Sl w 5 Sight.cells vs s.sights := hs.sights
 have h5 : Sl w 5 Change.cells vh s.changes := hs.changes
 obtain ⟨Ac, nc, rfl, _⟩ := h1.open_
 obtain ⟨Ap, np, rfl, _⟩ := h2.open_
 obtain ⟨Ad, nd, rfl, _, _, hld, hAd⟩ := h3.open_
 obtain ⟨As, ns, rfl, _, _, hls, hAs⟩ := h4.open_
 obtain ⟨Ah, nh, rfl, _, _, hlh, hAh⟩ := h5.open_
 have HP := fun no w' (hb : Below w.heap.size w w') => ref5_Place s.basin _ _ no w' (h1.mono hb) (h2.mono hb)
 have HW := fun d w' (hb : Below w.heap.size w w') => ref5_When s ⟨.slice Ac s.basin.cells.length nc, .slice Ap s.basin.pairs.length np, .slice Ad s.days.length nd, .slice As s.sights.length ns, .slice Ah s.changes.length nh⟩ d w' (hs.mono hb)
 obtain ⟨q, hq⟩ : ∃ q, sightOk s x = q := ⟨_, rfl⟩
 rw [hq]
 simp only [sightOk, hasD_eq] at hq
 unfold Scene.v at *
 unfold Basin.v at *
 simp only at *
 clear hAd hAs hAh hs h1 h2 h3 h4 h5
 replace HP := hide HP
 replace HW := hide HW
 replace hq := hide hq
 go_enter Tryz.func134, Tryz.ntmps134
 go_wp2_with fail
 obtain ⟨w0, hw0⟩ : ∃ w0, w0 = (w.alloc (.cells (s8 s Ac nc Ap np Ad nd As ns Ah nh) 42)).alloc (.cells #[I x.no, I x.cell, I x.day, I x.lo, I x.hi] 83) := ⟨_, rfl⟩
 have kS : Blk w0 w.heap.size 42 (s8 s Ac nc Ap np Ad nd As ns Ah nh) := by rw [hw0]; exact (Blk.new _ _ _).alloc _
 have kX : Blk w0 (w.heap.size + 1) 83 #[I x.no, I x.cell, I x.day, I x.lo, I x.hi] := by
  rw [hw0]
  have h := Blk.new (w.alloc (.cells (s8 s Ac nc Ap np Ad nd As ns Ah nh) 42)) 83 #[I x.no, I x.cell, I x.day, I x.lo, I x.hi]
  simpa using h
 have B0 : Below w.heap.size w w0 := by rw [hw0]; exact below2 _ _ _
 rw [← hw0]
 clear hw0
 obtain ⟨g, hg⟩ : ∃ g, w.heap.size = g := ⟨_, rfl⟩
 rw [hg] at kS kX ⊢
 replace hg := hide hg
 replace kS := hide kS
 replace kX := hide kX
 replace B0 := hide B0
 obtain ⟨s0, s1, s2, s3, s4, s5, s6, s7⟩ := kS.out.cells8
 obtain ⟨x0, x1, x2, x3, x4⟩ := kX.out.five
 have zS := kS.out.lt
 have zX := kX.out.lt
 skip
 go_at_call 133
 refine (ref5_within _ _ _).mono ?_
 rintro e w_ ⟨rfl, rfl⟩
 cases g0 : inB x.no 0 8191
 case false =>
  have hqv : q = false := by rw [← hq.out]; simp [*] <;> omega
  subst hqv
  clear hq
  go_wp2_with fail
  go_ret
  exact ⟨(by first | rfl | (simp <;> omega)), by have h := B0.out; first | exact h | rwa [hg.out] at h⟩
 go_wp2_with fail
 clear s0 s1 s2 s3 s4 s5 s6 s7 x0 x1 x2 x3 x4 zS zX
 go_at_call 141
 refine (HP.out x.cell w0 B0.out).mono ?_
 rintro e w1 ⟨rfl, hb1⟩
 obtain ⟨P1, hP1⟩ : ∃ z, placeC s.basin.cells x.cell = z := ⟨_, rfl⟩
 have hq1 := hq.out
 rw [hP1] at hq1 ⊢
 replace hq := hide hq1
 clear hP1 hq1
 replace kS := hide (kS.out.grow hb1)
 replace kX := hide (kX.out.grow hb1)
 have B1 := hide (bup B0.out hb1)
 clear B0 hb1
 obtain ⟨s0, s1, s2, s3, s4, s5, s6, s7⟩ := kS.out.cells8
 obtain ⟨x0, x1, x2, x3, x4⟩ := kX.out.five
 have zS := kS.out.lt
 have zX := kX.out.lt
 rcases ilt P1 0 with g1 | g1
 case inl =>
  have hqv : q = false := by rw [← hq.out]; simp [*] <;> omega
  subst hqv
  clear hq
  go_wp2_with fail
  go_ret
  exact ⟨(by first | rfl | (simp <;> omega)), by have h := B1.out; first | exact h | rwa [hg.out] at h⟩
 go_wp2_with fail
 clear s0 s1 s2 s3 s4 s5 s6 s7 x0 x1 x2 x3 x4 zS zX
 go_at_call 156
 refine (HW.out x.day w1 B1.out).mono ?_
 rintro e w2 ⟨rfl, hb2⟩
 obtain ⟨P2, hP2⟩ : ∃ z, placeD s.days x.day = z := ⟨_, rfl⟩
 have hq2 := hq.out
 rw [hP2] at hq2 ⊢
 replace hq := hide hq2
 clear hP2 hq2
 replace kS := hide (kS.out.grow hb2)
 replace kX := hide (kX.out.grow hb2)
 have B2 := hide (bup B1.out hb2)
 clear B1 hb2
 obtain ⟨s0, s1, s2, s3, s4, s5, s6, s7⟩ := kS.out.cells8
 obtain ⟨x0, x1, x2, x3, x4⟩ := kX.out.five
 have zS := kS.out.lt
 have zX := kX.out.lt
 rcases ilt P2 0 with g2 | g2
 case inl =>
  have hqv : q = false := by rw [← hq.out]; simp [*] <;> omega
  subst hqv
  clear hq
  go_wp2_with fail
  go_ret
  exact ⟨(by first | rfl | (simp <;> omega)), by have h := B2.out; first | exact h | rwa [hg.out] at h⟩
 rcases ilt x.lo 0 with c1 | c1
 case inl =>
  have hqv : q = false := by rw [← hq.out]; simp [*] <;> omega
  subst hqv
  clear hq
  go_wp2_with fail
  go_ret
  exact ⟨(by first | rfl | (simp <;> omega)), by have h := B2.out; first | exact h | rwa [hg.out] at h⟩
 rcases ilt x.hi x.lo with c2 | c2
 case inl =>
  have hqv : q = false := by rw [← hq.out]; simp [*] <;> omega
  subst hqv
  clear hq
  go_wp2_with fail
  go_ret
  exact ⟨(by first | rfl | (simp <;> omega)), by have h := B2.out; first | exact h | rwa [hg.out] at h⟩
 rcases ilt 65536 x.hi with c3 | c3
 case inl =>
  have hqv : q = false := by rw [← hq.out]; simp [*] <;> omega
  subst hqv
  clear hq
  go_wp2_with fail
  go_ret
  exact ⟨(by first | rfl | (simp <;> omega)), by have h := B2.out; first | exact h | rwa [hg.out] at h⟩
 have hqv : q = true := by rw [← hq.out]; simp [*] <;> omega
 subst hqv
 clear hq
 go_wp2_with fail
 go_ret
 exact ⟨(by first | rfl | (simp <;> omega)), by have h := B2.out; first | exact h | rwa [hg.out] at h⟩

theorem ref5_validChange (s : Scene) (V : SceneV) (x : Change) (w : World) (hs : SceneAt w s V) :
  Calls Tryz.prog 135 #[s.v V, .agg #[I x.cell, I x.frm, I x.to, I x.lo, I x.hi]] w fun e w' => e = .returned (.bool (changeOk s x)) ∧ Below w.heap.size w w' := by
 obtain ⟨vc, vp, vd, vs, vh⟩ := V
 have h1 : Sl w 4 Cell.cells vc s.basin.cells := hs.cells
 have h2 : Sl w 2 pairC vp s.basin.pairs := hs.pairs
 have h3 : Sl w 1 intC vd s.days := hs.days
 have h4 : Sl w 5 Sight.cells vs s.sights := hs.sights
 have h5 : Sl w 5 Change.cells vh s.changes := hs.changes
 obtain ⟨Ac, nc, rfl, _⟩ := h1.open_
 obtain ⟨Ap, np, rfl, _⟩ := h2.open_
 obtain ⟨Ad, nd, rfl, _, _, hld, hAd⟩ := h3.open_
 obtain ⟨As, ns, rfl, _, _, hls, hAs⟩ := h4.open_
 obtain ⟨Ah, nh, rfl, _, _, hlh, hAh⟩ := h5.open_
 have HP := fun no w' (hb : Below w.heap.size w w') => ref5_Place s.basin _ _ no w' (h1.mono hb) (h2.mono hb)
 have HW := fun d w' (hb : Below w.heap.size w w') => ref5_When s ⟨.slice Ac s.basin.cells.length nc, .slice Ap s.basin.pairs.length np, .slice Ad s.days.length nd, .slice As s.sights.length ns, .slice Ah s.changes.length nh⟩ d w' (hs.mono hb)
 obtain ⟨q, hq⟩ : ∃ q, changeOk s x = q := ⟨_, rfl⟩
 rw [hq]
 simp only [changeOk, hasD_eq] at hq
 unfold Scene.v at *
 unfold Basin.v at *
 simp only at *
 clear hAd hAs hAh hs h1 h2 h3 h4 h5
 replace HP := hide HP
 replace HW := hide HW
 replace hq := hide hq
 go_enter Tryz.func135, Tryz.ntmps135
 go_wp2_with fail
 obtain ⟨w0, hw0⟩ : ∃ w0, w0 = (w.alloc (.cells (s8 s Ac nc Ap np Ad nd As ns Ah nh) 42)).alloc (.cells #[I x.cell, I x.frm, I x.to, I x.lo, I x.hi] 171) := ⟨_, rfl⟩
 have kS : Blk w0 w.heap.size 42 (s8 s Ac nc Ap np Ad nd As ns Ah nh) := by rw [hw0]; exact (Blk.new _ _ _).alloc _
 have kX : Blk w0 (w.heap.size + 1) 171 #[I x.cell, I x.frm, I x.to, I x.lo, I x.hi] := by
  rw [hw0]
  have h := Blk.new (w.alloc (.cells (s8 s Ac nc Ap np Ad nd As ns Ah nh) 42)) 171 #[I x.cell, I x.frm, I x.to, I x.lo, I x.hi]
  simpa using h
 have B0 : Below w.heap.size w w0 := by rw [hw0]; exact below2 _ _ _
 rw [← hw0]
 clear hw0
 obtain ⟨g, hg⟩ : ∃ g, w.heap.size = g := ⟨_, rfl⟩
 rw [hg] at kS kX ⊢
 replace hg := hide hg
 replace kS := hide kS
 replace kX := hide kX
 replace B0 := hide B0
 obtain ⟨s0, s1, s2, s3, s4, s5, s6, s7⟩ := kS.out.cells8
 obtain ⟨x0, x1, x2, x3, x4⟩ := kX.out.five
 have zS := kS.out.lt
 have zX := kX.out.lt
 go_wp2_with fail
 clear s0 s1 s2 s3 s4 s5 s6 s7 x0 x1 x2 x3 x4 zS zX
 go_at_call 141
 refine (HP.out x.cell w0 B0.out).mono ?_
 rintro e w1 ⟨rfl, hb1⟩
 obtain ⟨P1, hP1⟩ : ∃ z, placeC s.basin.cells x.cell = z := ⟨_, rfl⟩
 have hq1 := hq.out
 rw [hP1] at hq1 ⊢
 replace hq := hide hq1
 clear hP1 hq1
 replace kS := hide (kS.out.grow hb1)
 replace kX := hide (kX.out.grow hb1)
 have B1 := hide (bup B0.out hb1)
 clear B0 hb1
 obtain ⟨s0, s1, s2, s3, s4, s5, s6, s7⟩ := kS.out.cells8
 obtain ⟨x0, x1, x2, x3, x4⟩ := kX.out.five
 have zS := kS.out.lt
 have zX := kX.out.lt
 rcases ilt P1 0 with g1 | g1
 case inl =>
  have hqv : q = false := by rw [← hq.out]; simp [*] <;> omega
  subst hqv
  clear hq
  go_wp2_with fail
  go_ret
  exact ⟨(by first | rfl | (simp <;> omega)), by have h := B1.out; first | exact h | rwa [hg.out] at h⟩
 go_wp2_with fail
 clear s0 s1 s2 s3 s4 s5 s6 s7 x0 x1 x2 x3 x4 zS zX
 go_at_call 156
 refine (HW.out x.frm w1 B1.out).mono ?_
 rintro e w2 ⟨rfl, hb2⟩
 obtain ⟨P2, hP2⟩ : ∃ z, placeD s.days x.frm = z := ⟨_, rfl⟩
 have hq2 := hq.out
 rw [hP2] at hq2 ⊢
 replace hq := hide hq2
 clear hP2 hq2
 replace kS := hide (kS.out.grow hb2)
 replace kX := hide (kX.out.grow hb2)
 have B2 := hide (bup B1.out hb2)
 clear B1 hb2
 obtain ⟨s0, s1, s2, s3, s4, s5, s6, s7⟩ := kS.out.cells8
 obtain ⟨x0, x1, x2, x3, x4⟩ := kX.out.five
 have zS := kS.out.lt
 have zX := kX.out.lt
 rcases ilt P2 0 with g2 | g2
 case inl =>
  have hqv : q = false := by rw [← hq.out]; simp [*] <;> omega
  subst hqv
  clear hq
  go_wp2_with fail
  go_ret
  exact ⟨(by first | rfl | (simp <;> omega)), by have h := B2.out; first | exact h | rwa [hg.out] at h⟩
 go_wp2_with fail
 clear s0 s1 s2 s3 s4 s5 s6 s7 x0 x1 x2 x3 x4 zS zX
 go_at_call 156
 refine (HW.out x.to w2 B2.out).mono ?_
 rintro e w3 ⟨rfl, hb3⟩
 obtain ⟨P3, hP3⟩ : ∃ z, placeD s.days x.to = z := ⟨_, rfl⟩
 have hq3 := hq.out
 rw [hP3] at hq3 ⊢
 replace hq := hide hq3
 clear hP3 hq3
 replace kS := hide (kS.out.grow hb3)
 replace kX := hide (kX.out.grow hb3)
 have B3 := hide (bup B2.out hb3)
 clear B2 hb3
 obtain ⟨s0, s1, s2, s3, s4, s5, s6, s7⟩ := kS.out.cells8
 obtain ⟨x0, x1, x2, x3, x4⟩ := kX.out.five
 have zS := kS.out.lt
 have zX := kX.out.lt
 rcases ilt P3 0 with g3 | g3
 case inl =>
  have hqv : q = false := by rw [← hq.out]; simp [*] <;> omega
  subst hqv
  clear hq
  go_wp2_with fail
  go_ret
  exact ⟨(by first | rfl | (simp <;> omega)), by have h := B3.out; first | exact h | rwa [hg.out] at h⟩
 rcases ilt x.to (x.frm + 1) with c0 | c0
 case inl =>
  have hqv : q = false := by rw [← hq.out]; simp [*] <;> omega
  subst hqv
  clear hq
  go_wp2_with fail
  go_ret
  exact ⟨(by first | rfl | (simp <;> omega)), by have h := B3.out; first | exact h | rwa [hg.out] at h⟩
 rcases ilt x.lo (-65536) with c1 | c1
 case inl =>
  have hqv : q = false := by rw [← hq.out]; simp [*] <;> omega
  subst hqv
  clear hq
  go_wp2_with fail
  go_ret
  exact ⟨(by first | rfl | (simp <;> omega)), by have h := B3.out; first | exact h | rwa [hg.out] at h⟩
 rcases ilt x.hi x.lo with c2 | c2
 case inl =>
  have hqv : q = false := by rw [← hq.out]; simp [*] <;> omega
  subst hqv
  clear hq
  go_wp2_with fail
  go_ret
  exact ⟨(by first | rfl | (simp <;> omega)), by have h := B3.out; first | exact h | rwa [hg.out] at h⟩
 rcases ilt 65536 x.hi with c3 | c3
 case inl =>
  have hqv : q = false := by rw [← hq.out]; simp [*] <;> omega
  subst hqv
  clear hq
  go_wp2_with fail
  go_ret
  exact ⟨(by first | rfl | (simp <;> omega)), by have h := B3.out; first | exact h | rwa [hg.out] at h⟩
 have hqv : q = true := by rw [← hq.out]; simp [*] <;> omega
 subst hqv
 clear hq
 go_wp2_with fail
 go_ret
 exact ⟨(by first | rfl | (simp <;> omega)), by have h := B3.out; first | exact h | rwa [hg.out] at h⟩

def dyAt (l : List Int) (i : Nat) : Bool := inB (l.getD i 0) 0 1048576 && (i == 0 || decide (l.getD (i - 1) 0 < l.getD i 0))
theorem rising_le {l : List Int} (h : risingB l = true) : ∀ (n i : Nat), i + n < l.length → l.getD i 0 ≤ l.getD (i + n) 0
 | 0, i, _ => Int.le_refl _
 | n + 1, i, hl => by
  have h1 := rising_le h n i (by omega)
  have h2 := List.all_eq_true.1 h (i + n + 1) (List.mem_range.2 (by omega))
  simp only [risesAt, Nat.add_sub_cancel, Bool.or_eq_true, beq_iff_eq, decide_eq_true_eq] at h2
  rw [← Nat.add_assoc]
  omega
theorem daysOk_eq {l : List Int} : daysOk l = (inB l.length 1 16 && (List.range l.length).all (dyAt l)) := by
 rw [Bool.eq_iff_iff]
 unfold daysOk
 simp only [Bool.and_eq_true, decide_eq_true_eq]
 constructor
 ·rintro ⟨⟨⟨h1, h2⟩, h3⟩, h4⟩
  refine ⟨h1, List.all_eq_true.2 fun i hi => ?_⟩
  have hi := List.mem_range.1 hi
  have a1 := rising_le h2 i 0 (by omega)
  have a2 := rising_le h2 (l.length - 1 - i) i (by omega)
  rw [Nat.zero_add] at a1
  rw [show i + (l.length - 1 - i) = l.length - 1 by omega] at a2
  have h5 := List.all_eq_true.1 h2 i (List.mem_range.2 hi)
  unfold dyAt
  rw [inB_true.2 ⟨by omega, by omega⟩, Bool.true_and]
  exact h5
 ·rintro ⟨h1, h2⟩
  have hl := inB_true.1 h1
  have h3 := fun i (hi : i < l.length) => List.all_eq_true.1 h2 i (List.mem_range.2 hi)
  have b0 := h3 0 (by omega)
  have b1 := h3 (l.length - 1) (by omega)
  unfold dyAt at b0 b1
  rw [Bool.and_eq_true] at b0 b1
  refine ⟨⟨⟨h1, List.all_eq_true.2 fun i hi => ?_⟩, (inB_true.1 b0.1).1⟩, (inB_true.1 b1.1).2⟩
  have := h3 i (List.mem_range.1 hi)
  unfold dyAt at this
  rw [Bool.and_eq_true] at this
  exact this.2
theorem days_bad {l : List Int} {k : Nat} (hk : k < l.length) (h : dyAt l k = false) : daysOk l = false := by
 rw [daysOk_eq, all_of_not hk h, Bool.and_false]
theorem dyAt_out {l : List Int} {k : Nat} {d : Int} (h : l[k]? = some d) (hq : inB d 0 1048576 = false) : dyAt l k = false := by
 simp [dyAt, h, hq]
theorem dyAt_zero {l : List Int} {d : Int} (h : l[0]? = some d) (hq : inB d 0 1048576 = true) : dyAt l 0 = true := by
 simp [dyAt, h, hq]
theorem dyAt_pair {l : List Int} {k : Nat} {d e : Int} (h : l[k]? = some d) (h' : l[k + 1]? = some e) (hq : inB e 0 1048576 = true) : dyAt l (k + 1) = decide (d < e) := by
 simp [dyAt, h, h', hq]

theorem ref5_Check (s : Scene) (V : SceneV) (w : World) (hs : SceneAt w s V) : Calls Tryz.prog 56 #[s.v V] w fun e w' => e = .returned (I (sceneE s)) ∧ Below w.heap.size w w' := by
 obtain ⟨vc, vp, vd, vs, vh⟩ := V
 have h1 : Sl w 4 Cell.cells vc s.basin.cells := hs.cells
 have h2 : Sl w 2 pairC vp s.basin.pairs := hs.pairs
 have h3 : Sl w 1 intC vd s.days := hs.days
 have h4 : Sl w 5 Sight.cells vs s.sights := hs.sights
 have h5 : Sl w 5 Change.cells vh s.changes := hs.changes
 obtain ⟨Ac, nc, rfl, _⟩ := h1.open_
 obtain ⟨Ap, np, rfl, _⟩ := h2.open_
 obtain ⟨Ad, nd, rfl, _, _, hld, hAd⟩ := h3.open_
 obtain ⟨As, ns, rfl, _, _, hls, hAs⟩ := h4.open_
 obtain ⟨Ah, nh, rfl, _, _, hlh, hAh⟩ := h5.open_
 have HB := fun w' (hb : Below w.heap.size w w') => ref5_CheckBasin s.basin _ _ w' (h1.mono hb) (h2.mono hb)
 have HV := fun x w' (hb : Below w.heap.size w w') => ref5_validSight s ⟨.slice Ac s.basin.cells.length nc, .slice Ap s.basin.pairs.length np, .slice Ad s.days.length nd, .slice As s.sights.length ns, .slice Ah s.changes.length nh⟩ x w' (hs.mono hb)
 have HC := fun x w' (hb : Below w.heap.size w w') => ref5_validChange s ⟨.slice Ac s.basin.cells.length nc, .slice Ap s.basin.pairs.length np, .slice Ad s.days.length nd, .slice As s.sights.length ns, .slice Ah s.changes.length nh⟩ x w' (hs.mono hb)
 unfold Scene.v at *
 unfold Basin.v at *
 simp only at *
 clear hs h1 h2
 replace HB := hide HB
 replace HV := hide HV
 replace HC := hide HC
 replace h3 := hide h3
 replace h4 := hide h4
 replace h5 := hide h5
 replace hAd := hide hAd
 replace hAs := hide hAs
 replace hAh := hide hAh
 obtain ⟨E, hE⟩ : ∃ E, sceneE s = E := ⟨_, rfl⟩
 rw [hE]
 replace hE := hide hE
 go_enter Tryz.func56, Tryz.ntmps56
 go_wp2_with fail
 obtain ⟨w0, hw0⟩ : ∃ w0, w0 = w.alloc (.cells (s8 s Ac nc Ap np Ad nd As ns Ah nh) 42) := ⟨_, rfl⟩
 obtain ⟨kS, B0⟩ := blkw hw0
 rw [← hw0]
 clear hw0
 obtain ⟨g, hg⟩ : ∃ g, w.heap.size = g := ⟨_, rfl⟩
 rw [hg] at kS ⊢
 replace hg := hide hg
 replace kS := hide kS
 replace B0 := hide B0
 go_at_call 132
 refine (HB.out w0 B0.out).mono ?_
 rintro e w1 ⟨rfl, hb1⟩
 replace kS := hide (kS.out.grow hb1)
 have B1 := hide (bup B0.out hb1)
 clear B0 hb1
 obtain ⟨s0, s1, s2, s3, s4, s5, s6, s7⟩ := kS.out.cells8
 have zS := kS.out.lt
 cases hbo : basinOk s.basin
 case false =>
  have e1 : basinE s.basin = 50 := by simp [basinE, hbo]
  rw [e1]
  have hqv : E = 50 := by rw [← hE.out]; exact sceneE_basin hbo
  subst hqv
  clear hE
  go_wp2_with fail
  go_ret
  exact ⟨rfl, by have h := B1.out; first | exact h | rwa [hg.out] at h⟩
 rw [basinE_of hbo]
 simp only [if_true]
 rcases Nat.lt_or_ge s.days.length 1 with n1 | n1
 case inl =>
  have hqv : E = 1 := by rw [← hE.out]; exact sceneE_days hbo (by rw [daysOk_eq]; simp [inB]; omega)
  subst hqv
  clear hE
  go_wp2_with fail
  go_ret
  exact ⟨rfl, by have h := B1.out; first | exact h | rwa [hg.out] at h⟩
 rcases Nat.lt_or_ge 16 s.days.length with n2 | n2
 case inl =>
  have hqv : E = 1 := by rw [← hE.out]; exact sceneE_days hbo (by rw [daysOk_eq]; simp [inB]; omega)
  subst hqv
  clear hE
  go_wp2_with fail
  go_ret
  exact ⟨rfl, by have h := B1.out; first | exact h | rwa [hg.out] at h⟩
 go_wp2_with fail
 clear s0 s1 s2 s3 s4 s5 s6 s7 zS
 go_loopw [3] (fun i wr => ∃ k : Nat, k ≤ s.days.length ∧ i = I k ∧ Hid (AllTo (dyAt s.days) k) ∧ Hid (Below w1.heap.size w1 wr)) (fun i _ => s.days.length - (intOf i).toNat)
 case atStart => exact ⟨0, Nat.zero_le _, rfl, hide (AllTo.zero _), hide (Below.refl _ _)⟩
 case round =>
  obtain ⟨k, hkl, rfl, ha, hbw⟩ := hrel
  replace kS := hide (kS.out.grow hbw.out)
  have B2 := hide (bup B1.out hbw.out)
  obtain ⟨s0, s1, s2, s3, s4, s5, s6, s7⟩ := kS.out.cells8
  have zS := kS.out.lt
  by_cases hlt : k < s.days.length
  case pos =>
   obtain ⟨d, hd⟩ := getElem?_of_lt hlt
   obtain ⟨ga, oa, rfl, _⟩ := hAd.out k hlt
   obtain ⟨zd, e0⟩ := (h3.out.mono B2.out).int_at hd
   cases hin : inB d 0 1048576
   case false =>
    have hqv : E = 1 := by rw [← hE.out]; exact sceneE_days hbo (days_bad hlt (dyAt_out hd hin))
    subst hqv
    replace hin := hide hin
    replace hd := hide hd
    clear hE
    go_wp2_with fail
    (refine wp_grow ?_; (repeat go_big_quiet_step ((go_at_call 133; exact calls_grew_same (within5_is hin.out _)))); refine wp_grow0 ?_; intro W1 hW1)
    go_wp2_with fail
    go_ret
    exact ⟨rfl, by have h := bup B2.out hW1; first | exact h | rwa [hg.out] at h⟩
   cases k with
   | zero =>
    have ha2 := hide (ha.out.succ (dyAt_zero hd hin))
    replace hin := hide hin
    replace hd := hide hd
    simp only [Nat.add_zero] at e0
    go_wp2_with fail
    (refine wp_grow ?_; (repeat go_big_quiet_step ((go_at_call 133; exact calls_grew_same (within5_is hin.out _)))); refine wp_grow0 ?_; intro W1 hW1)
    go_wp2_with fail
    go_roundw
    case rel => exact ⟨1, by omega, by go_num, ha2, hide (bup hbw.out hW1)⟩
    case measure => simp [intOf]; omega
   | succ k =>
    obtain ⟨d0, hd0⟩ := getElem?_of_lt (xs := s.days) (k := k) (by omega)
    obtain ⟨_, e1⟩ := (h3.out.mono B2.out).int_at hd0
    have hp := dyAt_pair hd0 hd hin
    have w3_ : IntKind.i64.wrap (((k + 1 : Nat) : Int) - 1) = (k : Int) := by rw [IntWalk.i64_in _ (by omega)]; omega
    have w4_ : (0 : Int) ≤ (k : Int) := by omega
    have w5_ : (k : Int) < (s.days.length : Int) := by omega
    have w6_ : ((k + 1 : Nat) : Int) < (s.days.length : Int) := by omega
    have w7_ : decide ((0 : Int) < ((k + 1 : Nat) : Int)) = true := decide_eq_true (by omega)
    have w8_ : (0 : Int) ≤ ((k + 1 : Nat) : Int) := by omega
    rcases ilt d0 d with hc | hc
    ·rw [decide_eq_true hc] at hp
     have ha2 := hide (ha.out.succ hp)
     have hcc : decide (d ≤ d0) = false := decide_eq_false (by omega)
     replace hin := hide hin
     replace hd := hide hd
     replace hd0 := hide hd0
     clear hp
     go_wp2_with fail
     (refine wp_grow ?_; (repeat go_big_quiet_step ((go_at_call 133; exact calls_grew_same (within5_is hin.out _)))); refine wp_grow0 ?_; intro W1 hW1)
     go_wp2_with fail
     go_roundw
     case rel => exact ⟨k + 2, by omega, by go_num, ha2, hide (bup hbw.out hW1)⟩
     case measure => simp [intOf]; omega
    ·rw [decide_eq_false (by omega)] at hp
     have hqv : E = 1 := by rw [← hE.out]; exact sceneE_days hbo (days_bad hlt hp)
     subst hqv
     have hcc : decide (d ≤ d0) = true := decide_eq_true hc
     replace hin := hide hin
     replace hd := hide hd
     replace hd0 := hide hd0
     clear hE hp
     go_wp2_with fail
     (refine wp_grow ?_; (repeat go_big_quiet_step ((go_at_call 133; exact calls_grew_same (within5_is hin.out _)))); refine wp_grow0 ?_; intro W1 hW1)
     go_wp2_with fail
     go_ret
     exact ⟨rfl, by have h := bup B2.out hW1; first | exact h | rwa [hg.out] at h⟩
  case neg =>
  have he : k = s.days.length := by omega
  subst he
  have hdo : daysOk s.days = true := by rw [daysOk_eq, ha.out.all, inB_true.2 ⟨by omega, by omega⟩]; rfl
  clear ha hbw B1
  rcases Nat.lt_or_ge 256 s.sights.length with n3 | n3
  case inl =>
   have hqv : E = 2 := by rw [← hE.out]; exact sceneE_many hbo hdo (.inl n3)
   subst hqv
   clear hE
   go_wp2_with fail
   go_ret
   exact ⟨rfl, by have h := B2.out; first | exact h | rwa [hg.out] at h⟩
  rcases Nat.lt_or_ge 256 s.changes.length with n4 | n4
  case inl =>
   have hqv : E = 2 := by rw [← hE.out]; exact sceneE_many hbo hdo (.inr n4)
   subst hqv
   clear hE
   go_wp2_with fail
   go_ret
   exact ⟨rfl, by have h := B2.out; first | exact h | rwa [hg.out] at h⟩
  replace hdo := hide hdo
  replace hbo := hide hbo
  go_wp2_with fail
  clear s0 s1 s2 s3 s4 s5 s6 s7 zS
  go_loopw [4] (fun i w2 => ∃ k : Nat, k ≤ s.sights.length ∧ i = I k ∧ Hid (Upto (sightOk s) s.sights k) ∧ Hid (Below wr.heap.size wr w2)) (fun i _ => s.sights.length - (intOf i).toNat)
  case atStart => exact ⟨0, Nat.zero_le _, rfl, hide (Upto.zero _ _), hide (Below.refl _ _)⟩
  case round =>
   obtain ⟨k, hkl, rfl, ha, hbw⟩ := hrel
   replace kS := hide (kS.out.grow hbw.out)
   have B3 := hide (bup B2.out hbw.out)
   obtain ⟨s0, s1, s2, s3, s4, s5, s6, s7⟩ := kS.out.cells8
   have zS := kS.out.lt
   by_cases hlt : k < s.sights.length
   case pos =>
    obtain ⟨x, hx⟩ := getElem?_of_lt hlt
    obtain ⟨ga, oa, rfl, _⟩ := hAs.out k hlt
    obtain ⟨zd, e0, e1, e2, e3, e4⟩ := (h4.out.mono B3.out).sight_at hx
    have HX := fun w' hb => HV.out x w' hb
    cases hq : sightOk s x
    case false =>
     rw [hq] at HX
     replace HX := hide HX
     have hqv : E = 51 := by rw [← hE.out]; exact sceneE_sight hbo.out hdo.out ⟨n3, n4⟩ (all_bad hx hq)
     subst hqv
     clear hE hq
     replace hx := hide hx
     go_wp2_with fail
     (refine wp_grow ?_; (repeat go_big_quiet_step ((go_at_call 134; exact calls_grew (HX.out _ (bup B3.out (Grew.below _)))))); refine wp_grow0 ?_; intro W1 hW1)
     go_wp2_with fail
     go_ret
     exact ⟨rfl, by have h := bup B3.out hW1; first | exact h | rwa [hg.out] at h⟩
    case true =>
     rw [hq] at HX
     replace HX := hide HX
     have ha2 := hide (ha.out.succ hx hq)
     clear hq
     replace hx := hide hx
     go_wp2_with fail
     (refine wp_grow ?_; (repeat go_big_quiet_step ((go_at_call 134; exact calls_grew (HX.out _ (bup B3.out (Grew.below _)))))); refine wp_grow0 ?_; intro W1 hW1)
     go_wp2_with fail
     go_roundw
     case rel => exact ⟨k + 1, by omega, by go_num, ha2, hide (bup hbw.out hW1)⟩
     case measure => simp [intOf]; omega
   case neg =>
   have he : k = s.sights.length := by omega
   subst he
   have hso := hide ha.out.all
   clear ha hbw B2
   go_wp2_with fail
   clear s0 s1 s2 s3 s4 s5 s6 s7 zS
   skip
   obtain ⟨wq, hwq⟩ : ∃ W, W = wr := ⟨_, rfl⟩
   rw [← hwq]
   rw [← hwq] at kS B3
   clear hwq
   go_loopw [5] (fun i w3 => ∃ k : Nat, k ≤ s.changes.length ∧ i = I k ∧ Hid (Upto (changeOk s) s.changes k) ∧ Hid (Below wq.heap.size wq w3)) (fun i _ => s.changes.length - (intOf i).toNat)
   case atStart => exact ⟨0, Nat.zero_le _, rfl, hide (Upto.zero _ _), hide (Below.refl _ _)⟩
   case round =>
    obtain ⟨k, hkl, rfl, ha, hbw⟩ := hrel
    replace kS := hide (kS.out.grow hbw.out)
    have B4 := hide (bup B3.out hbw.out)
    obtain ⟨s0, s1, s2, s3, s4, s5, s6, s7⟩ := kS.out.cells8
    have zS := kS.out.lt
    by_cases hlt : k < s.changes.length
    case pos =>
     obtain ⟨x, hx⟩ := getElem?_of_lt hlt
     obtain ⟨ga, oa, rfl, _⟩ := hAh.out k hlt
     obtain ⟨zd, e0, e1, e2, e3, e4⟩ := (h5.out.mono B4.out).change_at hx
     have HX := fun w' hb => HC.out x w' hb
     cases hq : changeOk s x
     case false =>
      rw [hq] at HX
      replace HX := hide HX
      have hqv : E = 52 := by rw [← hE.out]; exact sceneE_change hbo.out hdo.out ⟨n3, n4⟩ hso.out (all_bad hx hq)
      subst hqv
      clear hE hq
      replace hx := hide hx
      go_wp2_with fail
      (refine wp_grow ?_; (repeat go_big_quiet_step ((go_at_call 135; exact calls_grew (HX.out _ (bup B4.out (Grew.below _)))))); refine wp_grow0 ?_; intro W1 hW1)
      go_wp2_with fail
      go_ret
      exact ⟨rfl, by have h := bup B4.out hW1; first | exact h | rwa [hg.out] at h⟩
     case true =>
      rw [hq] at HX
      replace HX := hide HX
      have ha2 := hide (ha.out.succ hx hq)
      clear hq
      replace hx := hide hx
      go_wp2_with fail
      (refine wp_grow ?_; (repeat go_big_quiet_step ((go_at_call 135; exact calls_grew (HX.out _ (bup B4.out (Grew.below _)))))); refine wp_grow0 ?_; intro W1 hW1)
      go_wp2_with fail
      go_roundw
      case rel => exact ⟨k + 1, by omega, by go_num, ha2, hide (bup hbw.out hW1)⟩
      case measure => simp [intOf]; omega
    case neg =>
    have he : k = s.changes.length := by omega
    subst he
    have hco := ha.out.all
    have hqv : E = 0 := by rw [← hE.out]; exact sceneE_all hbo.out hdo.out ⟨n3, n4⟩ hso.out hco
    subst hqv
    clear hE
    go_wp2_with fail
    go_ret
    exact ⟨rfl, by have h := B4.out; first | exact h | rwa [hg.out] at h⟩
end Go.Proofs.YtgbbljfmngmjeaaGreat
