/- The chapter's examples hold (law07). No condition. -/
import Derived.Test.YtgbbljfmngmjeaaGreatCrew20Pack
set_option linter.all false
set_option maxHeartbeats 16000000
set_option maxRecDepth 100000
namespace Go.Proofs.YtgbbljfmngmjeaaGreat
open Go.RowKit

theorem Sl.far {α : Type} {w : World} {k n c : Nat} {enc : α → List Value} {g : Nat} {xs : List α} (h : Sl w k enc (.slice (some ⟨g, 0, none⟩) n c) xs) {p : Addr} (hp : g ≠ p.block) (u : Value) : Sl (w.setCell p u) k enc (.slice (some ⟨g, 0, none⟩) n c) xs := by
 obtain ⟨A, c0, hv, h1, ⟨h2, h3⟩, hr⟩ := h
 cases hv
 refine ⟨_, c, rfl, h1, ⟨h2, h3⟩, fun h0 => ?_⟩
 obtain ⟨b, off, hA, hb, hc⟩ := hr h0
 cases hA
 refine ⟨_, _, rfl, by simpa using hb, fun i x hx j u' hu => ?_⟩
 exact (cell_of_block (Below.heap_setCell w p u _ hp)).trans (hc i x hx j u' hu)
theorem SceneAt.far {w : World} {s : Scene} {a b c : Nat} (h : SceneAt w s (snowSV a b c)) {p : Addr} (ha : a ≠ p.block) (hb : b ≠ p.block) (hc : c ≠ p.block) (hs : s.basin.pairs = [] ∧ s.changes = []) (u : Value) : SceneAt (w.setCell p u) s (snowSV a b c) :=
 ⟨h.cells.far ha u, by rw [hs.1]; exact Sl.nil _ _ _, h.days.far hb u, h.sights.far hc u, by rw [hs.2]; exact Sl.nil _ _ _⟩
theorem SceneAt.far8 {w : World} {s : Scene} {a b c g : Nat} (h : SceneAt w s (snowSV a b c)) (ha : a ≠ g) (hb : b ≠ g) (hc : c ≠ g) (hs : s.basin.pairs = [] ∧ s.changes = []) (b0 b1 b2 b3 b4 b5 b6 b7 : Value) : SceneAt ((((((((w.setCell ⟨g, 0, none⟩ b0).setCell ⟨g, 1, none⟩ b1).setCell ⟨g, 2, none⟩ b2).setCell ⟨g, 3, none⟩ b3).setCell ⟨g, 4, none⟩ b4).setCell ⟨g, 5, none⟩ b5).setCell ⟨g, 6, none⟩ b6).setCell ⟨g, 7, none⟩ b7) s (snowSV a b c) :=
 ((((((((h.far (p := ⟨g, 0, none⟩) ha hb hc hs b0).far (p := ⟨g, 1, none⟩) ha hb hc hs b1).far (p := ⟨g, 2, none⟩) ha hb hc hs b2).far (p := ⟨g, 3, none⟩) ha hb hc hs b3).far (p := ⟨g, 4, none⟩) ha hb hc hs b4).far (p := ⟨g, 5, none⟩) ha hb hc hs b5).far (p := ⟨g, 6, none⟩) ha hb hc hs b6).far (p := ⟨g, 7, none⟩) ha hb hc hs b7)
theorem Blk.far8 {w : World} {gr g : Nat} {t : TypeId} {cs : Array Value} (h : Blk w gr t cs) (hne : gr ≠ g) (b0 b1 b2 b3 b4 b5 b6 b7 : Value) : Blk ((((((((w.setCell ⟨g, 0, none⟩ b0).setCell ⟨g, 1, none⟩ b1).setCell ⟨g, 2, none⟩ b2).setCell ⟨g, 3, none⟩ b3).setCell ⟨g, 4, none⟩ b4).setCell ⟨g, 5, none⟩ b5).setCell ⟨g, 6, none⟩ b6).setCell ⟨g, 7, none⟩ b7) gr t cs :=
 ((((((((h.far (p := ⟨g, 0, none⟩) hne b0).far (p := ⟨g, 1, none⟩) hne b1).far (p := ⟨g, 2, none⟩) hne b2).far (p := ⟨g, 3, none⟩) hne b3).far (p := ⟨g, 4, none⟩) hne b4).far (p := ⟨g, 5, none⟩) hne b5).far (p := ⟨g, 6, none⟩) hne b6).far (p := ⟨g, 7, none⟩) hne b7)
theorem bset8 {B : Nat} {a w : World} (h : Below B a w) (g : Nat) (hg : B ≤ g) (b0 b1 b2 b3 b4 b5 b6 b7 : Value) : Below B a ((((((((w.setCell ⟨g, 0, none⟩ b0).setCell ⟨g, 1, none⟩ b1).setCell ⟨g, 2, none⟩ b2).setCell ⟨g, 3, none⟩ b3).setCell ⟨g, 4, none⟩ b4).setCell ⟨g, 5, none⟩ b5).setCell ⟨g, 6, none⟩ b6).setCell ⟨g, 7, none⟩ b7) :=
 bset (bset (bset (bset (bset (bset (bset (bset h g 0 hg b0) g 1 hg b1) g 2 hg b2) g 3 hg b3) g 4 hg b4) g 5 hg b5) g 6 hg b6) g 7 hg b7

theorem law_sane7 (w : World) : Calls Tryz.prog 16 #[] w fun e w' => e = .returned (.bool true) ∧ Below w.heap.size w w' := by
 go_enter Tryz.func16, Tryz.ntmps16
 go_wp2_with fail
 go_at_call 73
 refine (law_hills _).mono ?_
 rintro e wa ⟨a, b, rfl, hH, hba⟩
 go_wp2_with fail
 go_at_call 74
 refine (law_snow 900 1200 _).mono ?_
 rintro e wb ⟨p, q, r, rfl, hS, -, hbb⟩
 obtain ⟨w1, hw1, hb, kR, kS, kC⟩ := al3 wb #[.slice (some ⟨a, 0, none⟩) 4 4, .slice (some ⟨b, 0, none⟩) 4 4] 25 #[.slice (some ⟨p, 0, none⟩) 1 1, .slice none 0 0, I 0, I 0, I 3000, .slice (some ⟨q, 0, none⟩) 1 1, .slice (some ⟨r, 0, none⟩) 1 1, .slice none 0 0] 42 #[I 1, I 60, I 50] 44
 have hH1 := hide ((hH.mono hbb).mono hb)
 have hS1 := hide (hS.mono hb)
 have hB := hide (bup (bup hba hbb) hb)
 obtain ⟨gr, hgr⟩ : ∃ g, wb.heap.size = g := ⟨_, rfl⟩
 obtain ⟨gs, hgs⟩ : ∃ g, gr + 1 = g := ⟨_, rfl⟩
 obtain ⟨gc, hgc⟩ : ∃ g, gs + 1 = g := ⟨_, rfl⟩
 have hBb := hide hb
 have hHb := hide (hH.mono hbb)
 rw [hgr] at kR kS kC
 rw [hgs] at kS kC
 rw [hgc] at kC
 have hws : w.heap.size ≤ gs := by have := hba.size; have := hbb.size; omega
 have hwbs : wb.heap.size ≤ gs := by omega
 have hrs : gr ≠ gs := by omega
 have hcs : gc ≠ gs := by omega
 replace kR := hide kR
 replace kS := hide kS
 replace kC := hide kC
 clear hH hS hba hbb hb
 replace hgr := hide hgr
 replace hgs := hide hgs
 replace hgc := hide hgc
 replace hws := hide hws
 replace hwbs := hide hwbs
 go_upto_region 2 with fail
 rw [← hw1]
 clear hw1
 rw [hgr.out, hgs.out, hgc.out]
 obtain ⟨r0, r1⟩ := kR.out.cells2
 obtain ⟨q0, q1, q2, q3, q4, q5, q6, q7⟩ := kS.out.cells8
 obtain ⟨c0, c1, c2⟩ := kC.out.cells3
 have zr := kR.out.lt
 have zs := kS.out.lt
 have zc := kC.out.lt
 go_wp2_with (first | (go_at_call 17; refine (x_light _).mono ?_; rintro e w_ ⟨rfl, rfl⟩) | (go_at_call 21; refine (x_bears _).mono ?_; rintro e w_ ⟨rfl, rfl⟩) | (go_at_call 19; refine (x_breaks _).mono ?_; rintro e w_ ⟨rfl, rfl⟩))
 clear r0 r1 q0 q1 q2 q3 q4 q5 q6 q7 c0 c1 c2 zr zs zc
 go_at_call 47
 refine (x_open w1 hH1.out hS1.out).mono ?_
 rintro e w2 ⟨v1, rfl, hv1, hb⟩
 replace kR := hide (kR.out.grow hb)
 replace kS := hide (kS.out.grow hb)
 replace kC := hide (kC.out.grow hb)
 replace hH1 := hide (hH1.out.mono hb)
 replace hS1 := hide (hS1.out.mono hb)
 replace hB := hide (bup hB.out hb)
 replace hBb := hide (bup hBb.out hb)
 replace hv1 := hide hv1
 clear hb
 obtain ⟨r0, r1⟩ := kR.out.cells2
 obtain ⟨q0, q1, q2, q3, q4, q5, q6, q7⟩ := kS.out.cells8
 obtain ⟨c0, c1, c2⟩ := kC.out.cells3
 have zr := kR.out.lt
 have zs := kS.out.lt
 have zc := kC.out.lt
 go_wp2_with fail
 clear r0 r1 q0 q1 q2 q3 q4 q5 q6 q7 c0 c1 c2 zr zs zc
 go_at_call 31
 refine (x_way w2 hH1.out hS1.out).mono ?_
 rintro e w3 ⟨v2, rfl, hv2, hb⟩
 replace kR := hide (kR.out.grow hb)
 replace kS := hide (kS.out.grow hb)
 replace kC := hide (kC.out.grow hb)
 replace hH1 := hide (hH1.out.mono hb)
 replace hS1 := hide (hS1.out.mono hb)
 replace hv1 := hide (hv1.out.mono hb)
 replace hB := hide (bup hB.out hb)
 replace hBb := hide (bup hBb.out hb)
 replace hv2 := hide hv2
 clear hb
 go_wp2_with fail
 obtain ⟨w4, hw4, hbl, kl0⟩ := al1 w3 #[I 2, I 3, I 4] 3
 replace kR := hide (kR.out.grow hbl)
 replace kS := hide (kS.out.grow hbl)
 replace kC := hide (kC.out.grow hbl)
 replace hH1 := hide (hH1.out.mono hbl)
 replace hS1 := hide (hS1.out.mono hbl)
 replace hv1 := hide (hv1.out.mono hbl)
 replace hv2 := hide (hv2.out.mono hbl)
 replace hB := hide (bup hB.out hbl)
 replace hBb := hide (bup hBb.out hbl)
 have sl0 := sl_of (xs := [2, 3, 4]) (n := 3) intC_len kl0 rfl rfl (by omega)
 rw [← hw4]
 clear hw4 hbl kl0
 go_at_call 30
 refine (x_equal w4 hv1.out sl0).mono ?_
 rintro e w5 ⟨rfl, hb⟩
 replace kR := hide (kR.out.grow hb)
 replace kS := hide (kS.out.grow hb)
 replace kC := hide (kC.out.grow hb)
 replace hH1 := hide (hH1.out.mono hb)
 replace hS1 := hide (hS1.out.mono hb)
 replace hv1 := hide (hv1.out.mono hb)
 replace hv2 := hide (hv2.out.mono hb)
 replace hB := hide (bup hB.out hb)
 replace hBb := hide (bup hBb.out hb)
 clear hb sl0
 go_wp2_with fail
 obtain ⟨w6, hw6, hbl, kl0⟩ := al1 w5 #[I 3, I 4] 3
 replace kR := hide (kR.out.grow hbl)
 replace kS := hide (kS.out.grow hbl)
 replace kC := hide (kC.out.grow hbl)
 replace hH1 := hide (hH1.out.mono hbl)
 replace hS1 := hide (hS1.out.mono hbl)
 replace hv1 := hide (hv1.out.mono hbl)
 replace hv2 := hide (hv2.out.mono hbl)
 replace hB := hide (bup hB.out hbl)
 replace hBb := hide (bup hBb.out hbl)
 have sl0 := sl_of (xs := [3, 4]) (n := 2) intC_len kl0 rfl rfl (by omega)
 rw [← hw6]
 clear hw6 hbl kl0
 go_at_call 30
 refine (x_equal w6 hv2.out sl0).mono ?_
 rintro e w7 ⟨rfl, hb⟩
 replace kR := hide (kR.out.grow hb)
 replace kS := hide (kS.out.grow hb)
 replace kC := hide (kC.out.grow hb)
 replace hH1 := hide (hH1.out.mono hb)
 replace hS1 := hide (hS1.out.mono hb)
 replace hv1 := hide (hv1.out.mono hb)
 replace hv2 := hide (hv2.out.mono hb)
 replace hB := hide (bup hB.out hb)
 replace hBb := hide (bup hBb.out hb)
 clear hb sl0
 obtain ⟨r0, r1⟩ := kR.out.cells2
 obtain ⟨q0, q1, q2, q3, q4, q5, q6, q7⟩ := kS.out.cells8
 obtain ⟨c0, c1, c2⟩ := kC.out.cells3
 have zr := kR.out.lt
 have zs := kS.out.lt
 have zc := kC.out.lt
 go_wp2_with fail
 clear r0 r1 q0 q1 q2 q3 q4 q5 q6 q7 c0 c1 c2 zr zs zc
 obtain ⟨w8, hw8, hbl, kl0, kl1⟩ := al2 w7 #[I 3, I 4, I 2] 3 #[I 2] 3
 replace kR := hide (kR.out.grow hbl)
 replace kS := hide (kS.out.grow hbl)
 replace kC := hide (kC.out.grow hbl)
 replace hH1 := hide (hH1.out.mono hbl)
 replace hS1 := hide (hS1.out.mono hbl)
 replace hv1 := hide (hv1.out.mono hbl)
 replace hv2 := hide (hv2.out.mono hbl)
 replace hB := hide (bup hB.out hbl)
 replace hBb := hide (bup hBb.out hbl)
 have sl0 := sl_of (xs := [3, 4, 2]) (n := 3) intC_len kl0 rfl rfl (by omega)
 have sl1 := sl_of (xs := [2]) (n := 1) intC_len kl1 rfl rfl (by omega)
 rw [← hw8]
 clear hw8 hbl kl0 kl1
 go_at_call 36
 refine (x_min w8 hH1.out sl0 sl1).mono ?_
 rintro e w9 ⟨rfl, hb⟩
 replace kR := hide (kR.out.grow hb)
 replace kS := hide (kS.out.grow hb)
 replace kC := hide (kC.out.grow hb)
 replace hH1 := hide (hH1.out.mono hb)
 replace hS1 := hide (hS1.out.mono hb)
 replace hv1 := hide (hv1.out.mono hb)
 replace hv2 := hide (hv2.out.mono hb)
 replace hB := hide (bup hB.out hb)
 replace hBb := hide (bup hBb.out hb)
 clear hb sl0 sl1
 obtain ⟨r0, r1⟩ := kR.out.cells2
 obtain ⟨q0, q1, q2, q3, q4, q5, q6, q7⟩ := kS.out.cells8
 obtain ⟨c0, c1, c2⟩ := kC.out.cells3
 have zr := kR.out.lt
 have zs := kS.out.lt
 have zc := kC.out.lt
 go_wp2_with fail
 clear r0 r1 q0 q1 q2 q3 q4 q5 q6 q7 c0 c1 c2 zr zs zc
 obtain ⟨w10, hw10, hbl, kl0⟩ := al1 w9 #[I 2] 3
 replace kR := hide (kR.out.grow hbl)
 replace kS := hide (kS.out.grow hbl)
 replace kC := hide (kC.out.grow hbl)
 replace hH1 := hide (hH1.out.mono hbl)
 replace hS1 := hide (hS1.out.mono hbl)
 replace hv1 := hide (hv1.out.mono hbl)
 replace hv2 := hide (hv2.out.mono hbl)
 replace hB := hide (bup hB.out hbl)
 replace hBb := hide (bup hBb.out hbl)
 have sl0 := sl_of (xs := [2]) (n := 1) intC_len kl0 rfl rfl (by omega)
 rw [← hw10]
 clear hw10 hbl kl0
 go_at_call 40
 refine (x_trip w10 hH1.out hS1.out sl0).mono ?_
 rintro e w11 ⟨v3, rfl, hv3, hb⟩
 replace kR := hide (kR.out.grow hb)
 replace kS := hide (kS.out.grow hb)
 replace kC := hide (kC.out.grow hb)
 replace hH1 := hide (hH1.out.mono hb)
 replace hS1 := hide (hS1.out.mono hb)
 replace hv1 := hide (hv1.out.mono hb)
 replace hv2 := hide (hv2.out.mono hb)
 replace hB := hide (bup hB.out hb)
 replace hBb := hide (bup hBb.out hb)
 replace hv3 := hide hv3
 clear hb sl0
 obtain ⟨r0, r1⟩ := kR.out.cells2
 obtain ⟨q0, q1, q2, q3, q4, q5, q6, q7⟩ := kS.out.cells8
 obtain ⟨c0, c1, c2⟩ := kC.out.cells3
 have zr := kR.out.lt
 have zs := kS.out.lt
 have zc := kC.out.lt
 go_wp2_with fail
 clear r0 r1 q0 q1 q2 q3 q4 q5 q6 q7 c0 c1 c2 zr zs zc
 go_at_call 28
 refine (x_reach w11 hH1.out hS1.out).mono ?_
 rintro e w12 ⟨v4, rfl, hv4, hb⟩
 replace kR := hide (kR.out.grow hb)
 replace kS := hide (kS.out.grow hb)
 replace kC := hide (kC.out.grow hb)
 replace hH1 := hide (hH1.out.mono hb)
 replace hS1 := hide (hS1.out.mono hb)
 replace hv1 := hide (hv1.out.mono hb)
 replace hv2 := hide (hv2.out.mono hb)
 replace hv3 := hide (hv3.out.mono hb)
 replace hB := hide (bup hB.out hb)
 replace hBb := hide (bup hBb.out hb)
 replace hv4 := hide hv4
 clear hb
 go_wp2_with fail
 obtain ⟨w13, hw13, hbl, kl0⟩ := al1 w12 #[I 3, I 4, I 2] 3
 replace kR := hide (kR.out.grow hbl)
 replace kS := hide (kS.out.grow hbl)
 replace kC := hide (kC.out.grow hbl)
 replace hH1 := hide (hH1.out.mono hbl)
 replace hS1 := hide (hS1.out.mono hbl)
 replace hv1 := hide (hv1.out.mono hbl)
 replace hv2 := hide (hv2.out.mono hbl)
 replace hv3 := hide (hv3.out.mono hbl)
 replace hv4 := hide (hv4.out.mono hbl)
 replace hB := hide (bup hB.out hbl)
 replace hBb := hide (bup hBb.out hbl)
 have sl0 := sl_of (xs := [3, 4, 2]) (n := 3) intC_len kl0 rfl rfl (by omega)
 rw [← hw13]
 clear hw13 hbl kl0
 go_at_call 30
 refine (x_equal w13 hv3.out sl0).mono ?_
 rintro e w14 ⟨rfl, hb⟩
 replace kR := hide (kR.out.grow hb)
 replace kS := hide (kS.out.grow hb)
 replace kC := hide (kC.out.grow hb)
 replace hH1 := hide (hH1.out.mono hb)
 replace hS1 := hide (hS1.out.mono hb)
 replace hv1 := hide (hv1.out.mono hb)
 replace hv2 := hide (hv2.out.mono hb)
 replace hv3 := hide (hv3.out.mono hb)
 replace hv4 := hide (hv4.out.mono hb)
 replace hB := hide (bup hB.out hb)
 replace hBb := hide (bup hBb.out hb)
 clear hb sl0
 go_wp2_with fail
 obtain ⟨w15, hw15, hbl, kl0⟩ := al1 w14 #[I 1, I 2, I 3, I 4] 3
 replace kR := hide (kR.out.grow hbl)
 replace kS := hide (kS.out.grow hbl)
 replace kC := hide (kC.out.grow hbl)
 replace hH1 := hide (hH1.out.mono hbl)
 replace hS1 := hide (hS1.out.mono hbl)
 replace hv1 := hide (hv1.out.mono hbl)
 replace hv2 := hide (hv2.out.mono hbl)
 replace hv3 := hide (hv3.out.mono hbl)
 replace hv4 := hide (hv4.out.mono hbl)
 replace hB := hide (bup hB.out hbl)
 replace hBb := hide (bup hBb.out hbl)
 have sl0 := sl_of (xs := [1, 2, 3, 4]) (n := 4) intC_len kl0 rfl rfl (by omega)
 rw [← hw15]
 clear hw15 hbl kl0
 go_at_call 30
 refine (x_equal w15 hv4.out sl0).mono ?_
 rintro e w16 ⟨rfl, hb⟩
 replace kR := hide (kR.out.grow hb)
 replace kS := hide (kS.out.grow hb)
 replace kC := hide (kC.out.grow hb)
 replace hH1 := hide (hH1.out.mono hb)
 replace hS1 := hide (hS1.out.mono hb)
 replace hv1 := hide (hv1.out.mono hb)
 replace hv2 := hide (hv2.out.mono hb)
 replace hv3 := hide (hv3.out.mono hb)
 replace hv4 := hide (hv4.out.mono hb)
 replace hB := hide (bup hB.out hb)
 replace hBb := hide (bup hBb.out hb)
 clear hb sl0
 obtain ⟨r0, r1⟩ := kR.out.cells2
 obtain ⟨q0, q1, q2, q3, q4, q5, q6, q7⟩ := kS.out.cells8
 obtain ⟨c0, c1, c2⟩ := kC.out.cells3
 have zr := kR.out.lt
 have zs := kS.out.lt
 have zc := kC.out.lt
 go_wp2_with fail
 clear r0 r1 q0 q1 q2 q3 q4 q5 q6 q7 c0 c1 c2 zr zs zc
 obtain ⟨w17, hw17, hbl, kl0, kl1⟩ := al2 w16 #[I 1, I 2] 3 #[I 2] 3
 replace kR := hide (kR.out.grow hbl)
 replace kS := hide (kS.out.grow hbl)
 replace kC := hide (kC.out.grow hbl)
 replace hH1 := hide (hH1.out.mono hbl)
 replace hS1 := hide (hS1.out.mono hbl)
 replace hv1 := hide (hv1.out.mono hbl)
 replace hv2 := hide (hv2.out.mono hbl)
 replace hv3 := hide (hv3.out.mono hbl)
 replace hv4 := hide (hv4.out.mono hbl)
 replace hB := hide (bup hB.out hbl)
 replace hBb := hide (bup hBb.out hbl)
 have sl0 := sl_of (xs := [1, 2]) (n := 2) intC_len kl0 rfl rfl (by omega)
 have sl1 := sl_of (xs := [2]) (n := 1) intC_len kl1 rfl rfl (by omega)
 rw [← hw17]
 clear hw17 hbl kl0 kl1
 go_at_call 38
 refine (x_check1 w17 hH1.out hS1.out sl0 sl1).mono ?_
 rintro e w18 ⟨rfl, hb⟩
 replace kR := hide (kR.out.grow hb)
 replace kS := hide (kS.out.grow hb)
 replace kC := hide (kC.out.grow hb)
 replace hH1 := hide (hH1.out.mono hb)
 replace hS1 := hide (hS1.out.mono hb)
 replace hv1 := hide (hv1.out.mono hb)
 replace hv2 := hide (hv2.out.mono hb)
 replace hv3 := hide (hv3.out.mono hb)
 replace hv4 := hide (hv4.out.mono hb)
 replace hB := hide (bup hB.out hb)
 replace hBb := hide (bup hBb.out hb)
 clear hb sl0 sl1
 obtain ⟨r0, r1⟩ := kR.out.cells2
 obtain ⟨q0, q1, q2, q3, q4, q5, q6, q7⟩ := kS.out.cells8
 obtain ⟨c0, c1, c2⟩ := kC.out.cells3
 have zr := kR.out.lt
 have zs := kS.out.lt
 have zc := kC.out.lt
 go_wp2_with fail
 clear r0 r1 q0 q1 q2 q3 q4 q5 q6 q7 c0 c1 c2 zr zs zc
 obtain ⟨w19, hw19, hbl, kl0, kl1⟩ := al2 w18 #[I 3, I 4] 3 #[I 2] 3
 replace kR := hide (kR.out.grow hbl)
 replace kS := hide (kS.out.grow hbl)
 replace kC := hide (kC.out.grow hbl)
 replace hH1 := hide (hH1.out.mono hbl)
 replace hS1 := hide (hS1.out.mono hbl)
 replace hv1 := hide (hv1.out.mono hbl)
 replace hv2 := hide (hv2.out.mono hbl)
 replace hv3 := hide (hv3.out.mono hbl)
 replace hv4 := hide (hv4.out.mono hbl)
 replace hB := hide (bup hB.out hbl)
 replace hBb := hide (bup hBb.out hbl)
 have sl0 := sl_of (xs := [3, 4]) (n := 2) intC_len kl0 rfl rfl (by omega)
 have sl1 := sl_of (xs := [2]) (n := 1) intC_len kl1 rfl rfl (by omega)
 rw [← hw19]
 clear hw19 hbl kl0 kl1
 go_at_call 38
 refine (x_check2 w19 hH1.out hS1.out sl0 sl1).mono ?_
 rintro e w20 ⟨rfl, hb⟩
 replace kR := hide (kR.out.grow hb)
 replace kS := hide (kS.out.grow hb)
 replace kC := hide (kC.out.grow hb)
 replace hH1 := hide (hH1.out.mono hb)
 replace hS1 := hide (hS1.out.mono hb)
 replace hv1 := hide (hv1.out.mono hb)
 replace hv2 := hide (hv2.out.mono hb)
 replace hv3 := hide (hv3.out.mono hb)
 replace hv4 := hide (hv4.out.mono hb)
 replace hB := hide (bup hB.out hb)
 replace hBb := hide (bup hBb.out hb)
 clear hb sl0 sl1
 obtain ⟨r0, r1⟩ := kR.out.cells2
 obtain ⟨q0, q1, q2, q3, q4, q5, q6, q7⟩ := kS.out.cells8
 obtain ⟨c0, c1, c2⟩ := kC.out.cells3
 have zr := kR.out.lt
 have zs := kS.out.lt
 have zc := kC.out.lt
 go_wp2_with fail
 clear r0 r1 q0 q1 q2 q3 q4 q5 q6 q7 c0 c1 c2 zr zs zc
 obtain ⟨w21, hw21, hbl, kl0, kl1⟩ := al2 w20 #[I 3, I 4, I 2] 3 #[I 2] 3
 replace kR := hide (kR.out.grow hbl)
 replace kS := hide (kS.out.grow hbl)
 replace kC := hide (kC.out.grow hbl)
 replace hH1 := hide (hH1.out.mono hbl)
 replace hS1 := hide (hS1.out.mono hbl)
 replace hv1 := hide (hv1.out.mono hbl)
 replace hv2 := hide (hv2.out.mono hbl)
 replace hv3 := hide (hv3.out.mono hbl)
 replace hv4 := hide (hv4.out.mono hbl)
 replace hB := hide (bup hB.out hbl)
 replace hBb := hide (bup hBb.out hbl)
 have sl0 := sl_of (xs := [3, 4, 2]) (n := 3) intC_len kl0 rfl rfl (by omega)
 have sl1 := sl_of (xs := [2]) (n := 1) intC_len kl1 rfl rfl (by omega)
 rw [← hw21]
 clear hw21 hbl kl0 kl1
 go_at_call 38
 refine (x_check3 w21 hH1.out hS1.out sl0 sl1).mono ?_
 rintro e w22 ⟨rfl, hb⟩
 replace kR := hide (kR.out.grow hb)
 replace kS := hide (kS.out.grow hb)
 replace kC := hide (kC.out.grow hb)
 replace hH1 := hide (hH1.out.mono hb)
 replace hS1 := hide (hS1.out.mono hb)
 replace hv1 := hide (hv1.out.mono hb)
 replace hv2 := hide (hv2.out.mono hb)
 replace hv3 := hide (hv3.out.mono hb)
 replace hv4 := hide (hv4.out.mono hb)
 replace hB := hide (bup hB.out hb)
 replace hBb := hide (bup hBb.out hb)
 clear hb sl0 sl1
 go_wp2_with fail
 go_at_call 74
 refine (law_snow 100 160 _).mono ?_
 have zs0 := kS.out.lt
 rintro e w23 ⟨pp, qq, rr, rfl, hS2, ⟨hp2, hq2, hr2⟩, hb⟩
 clear hS1 hv1 hv2 hv3 hv4
 replace kR := hide (kR.out.grow hb)
 replace kS := hide (kS.out.grow hb)
 replace kC := hide (kC.out.grow hb)
 replace hH1 := hide (hH1.out.mono hb)
 replace hB := hide (bup hB.out hb)
 replace hBb := hide (bup hBb.out hb)
 clear hb
 obtain ⟨r0, r1⟩ := kR.out.cells2
 obtain ⟨q0, q1, q2, q3, q4, q5, q6, q7⟩ := kS.out.cells8
 obtain ⟨c0, c1, c2⟩ := kC.out.cells3
 have zr := kR.out.lt
 have zs := kS.out.lt
 have zc := kC.out.lt
 have f0 := kS.out.frozen 0
 have f1 := kS.out.frozen 1
 have f2 := kS.out.frozen 2
 have f3 := kS.out.frozen 3
 have f4 := kS.out.frozen 4
 have f5 := kS.out.frozen 5
 have f6 := kS.out.frozen 6
 have f7 := kS.out.frozen 7
 have kS8 := hide (set8 (b0 := .slice (some ⟨pp, 0, none⟩) 1 1) (b1 := .slice none 0 0) (b2 := I 0) (b3 := I 0) (b4 := I 3000) (b5 := .slice (some ⟨qq, 0, none⟩) 1 1) (b6 := .slice (some ⟨rr, 0, none⟩) 1 1) (b7 := .slice none 0 0) kS.out)
 have kR8 := hide (kR.out.far8 hrs (.slice (some ⟨pp, 0, none⟩) 1 1) (.slice none 0 0) (I 0) (I 0) (I 3000) (.slice (some ⟨qq, 0, none⟩) 1 1) (.slice (some ⟨rr, 0, none⟩) 1 1) (.slice none 0 0))
 have kC8 := hide (kC.out.far8 hcs (.slice (some ⟨pp, 0, none⟩) 1 1) (.slice none 0 0) (I 0) (I 0) (I 3000) (.slice (some ⟨qq, 0, none⟩) 1 1) (.slice (some ⟨rr, 0, none⟩) 1 1) (.slice none 0 0))
 have hS8 := hide (hS2.far8 (g := gs) (by omega) (by omega) (by omega) ⟨rfl, rfl⟩ (.slice (some ⟨pp, 0, none⟩) 1 1) (.slice none 0 0) (I 0) (I 0) (I 3000) (.slice (some ⟨qq, 0, none⟩) 1 1) (.slice (some ⟨rr, 0, none⟩) 1 1) (.slice none 0 0))
 have hB8 := hide (bset8 hB.out gs hws.out (.slice (some ⟨pp, 0, none⟩) 1 1) (.slice none 0 0) (I 0) (I 0) (I 3000) (.slice (some ⟨qq, 0, none⟩) 1 1) (.slice (some ⟨rr, 0, none⟩) 1 1) (.slice none 0 0))
 have hBb8 := hide (bset8 hBb.out gs hwbs.out (.slice (some ⟨pp, 0, none⟩) 1 1) (.slice none 0 0) (I 0) (I 0) (I 3000) (.slice (some ⟨qq, 0, none⟩) 1 1) (.slice (some ⟨rr, 0, none⟩) 1 1) (.slice none 0 0))
 clear hS2 hp2 hq2 hr2 zs0 hB hBb kR kS kC hH1
 go_upto_region 17 with fail
 clear r0 r1 q0 q1 q2 q3 q4 q5 q6 q7 c0 c1 c2 zr zs zc f0 f1 f2 f3 f4 f5 f6 f7
 obtain ⟨w24, hW⟩ : ∃ v, (((((((w23.setCell ⟨gs, 0, none⟩ (.slice (some ⟨pp, 0, none⟩) 1 1)).setCell ⟨gs, 1, none⟩ (.slice none 0 0)).setCell ⟨gs, 2, none⟩ (I 0)).setCell ⟨gs, 3, none⟩ (I 0)).setCell ⟨gs, 4, none⟩ (I 3000)).setCell ⟨gs, 5, none⟩ (.slice (some ⟨qq, 0, none⟩) 1 1)).setCell ⟨gs, 6, none⟩ (.slice (some ⟨rr, 0, none⟩) 1 1)).setCell ⟨gs, 7, none⟩ (.slice none 0 0) = v := ⟨_, rfl⟩
 rw [hW] at kS8 kR8 kC8 hS8 hB8 hBb8
 first | rw [hW] | (simp only [I] at hW; rw [hW])
 clear hW
 have kR := kR8
 have kS := kS8
 have kC := kC8
 have hB := hB8
 have hBb := hBb8
 have hS1 := hS8
 have hH1 := hide (hHb.out.mono hBb.out)
 clear kR8 kS8 kC8 hB8 hBb8 hS8
 obtain ⟨r0, r1⟩ := kR.out.cells2
 obtain ⟨q0, q1, q2, q3, q4, q5, q6, q7⟩ := kS.out.cells8
 obtain ⟨c0, c1, c2⟩ := kC.out.cells3
 have zr := kR.out.lt
 have zs := kS.out.lt
 have zc := kC.out.lt
 go_wp2_with fail
 clear r0 r1 q0 q1 q2 q3 q4 q5 q6 q7 c0 c1 c2 zr zs zc
 obtain ⟨w25, hw25, hbl, kl0⟩ := al1 w24 #[I 7] 3
 replace kR := hide (kR.out.grow hbl)
 replace kS := hide (kS.out.grow hbl)
 replace kC := hide (kC.out.grow hbl)
 replace hH1 := hide (hH1.out.mono hbl)
 replace hS1 := hide (hS1.out.mono hbl)
 replace hB := hide (bup hB.out hbl)
 replace hBb := hide (bup hBb.out hbl)
 have sl0 := sl_of (xs := [7]) (n := 1) intC_len kl0 rfl rfl (by omega)
 rw [← hw25]
 clear hw25 hbl kl0
 go_at_call 42
 refine (x_worst w25 hS1.out sl0).mono ?_
 rintro e w26 ⟨rfl, hb⟩
 replace kR := hide (kR.out.grow hb)
 replace kS := hide (kS.out.grow hb)
 replace kC := hide (kC.out.grow hb)
 replace hH1 := hide (hH1.out.mono hb)
 replace hS1 := hide (hS1.out.mono hb)
 replace hB := hide (bup hB.out hb)
 replace hBb := hide (bup hBb.out hb)
 clear hb sl0
 obtain ⟨r0, r1⟩ := kR.out.cells2
 obtain ⟨q0, q1, q2, q3, q4, q5, q6, q7⟩ := kS.out.cells8
 obtain ⟨c0, c1, c2⟩ := kC.out.cells3
 have zr := kR.out.lt
 have zs := kS.out.lt
 have zc := kC.out.lt
 go_wp2_with fail
 clear r0 r1 q0 q1 q2 q3 q4 q5 q6 q7 c0 c1 c2 zr zs zc
 obtain ⟨w27, hw27, hbl, kl0⟩ := al1 w26 #[I 7] 3
 replace kR := hide (kR.out.grow hbl)
 replace kS := hide (kS.out.grow hbl)
 replace kC := hide (kC.out.grow hbl)
 replace hH1 := hide (hH1.out.mono hbl)
 replace hS1 := hide (hS1.out.mono hbl)
 replace hB := hide (bup hB.out hbl)
 replace hBb := hide (bup hBb.out hbl)
 have sl0 := sl_of (xs := [7]) (n := 1) intC_len kl0 rfl rfl (by omega)
 rw [← hw27]
 clear hw27 hbl kl0
 go_at_call 44
 refine (x_told w27 hS1.out sl0).mono ?_
 rintro e w28 ⟨rfl, hb⟩
 replace kR := hide (kR.out.grow hb)
 replace kS := hide (kS.out.grow hb)
 replace kC := hide (kC.out.grow hb)
 replace hH1 := hide (hH1.out.mono hb)
 replace hS1 := hide (hS1.out.mono hb)
 replace hB := hide (bup hB.out hb)
 replace hBb := hide (bup hBb.out hb)
 clear hb sl0
 obtain ⟨w29, hw29, hbl, kX⟩ := al1 w28 #[I 100, I 120] 67
 obtain ⟨gx, hgx⟩ : ∃ g, w28.heap.size = g := ⟨_, rfl⟩
 rw [hgx] at kX
 replace kX := hide kX
 replace kR := hide (kR.out.grow hbl)
 replace kS := hide (kS.out.grow hbl)
 replace kC := hide (kC.out.grow hbl)
 replace hH1 := hide (hH1.out.mono hbl)
 replace hS1 := hide (hS1.out.mono hbl)
 replace hB := hide (bup hB.out hbl)
 replace hBb := hide (bup hBb.out hbl)
 go_upto_region 19 with fail
 rw [← hw29]
 clear hw29 hbl
 replace hgx := hide hgx
 obtain ⟨r0, r1⟩ := kR.out.cells2
 obtain ⟨q0, q1, q2, q3, q4, q5, q6, q7⟩ := kS.out.cells8
 obtain ⟨c0, c1, c2⟩ := kC.out.cells3
 have zr := kR.out.lt
 have zs := kS.out.lt
 have zc := kC.out.lt
 go_wp2_with fail
 clear r0 r1 q0 q1 q2 q3 q4 q5 q6 q7 c0 c1 c2 zr zs zc
 obtain ⟨w30, hw30, hbl, kl0⟩ := al1 w29 #[I 7] 3
 replace kR := hide (kR.out.grow hbl)
 replace kS := hide (kS.out.grow hbl)
 replace kC := hide (kC.out.grow hbl)
 replace kX := hide (kX.out.grow hbl)
 replace hH1 := hide (hH1.out.mono hbl)
 replace hS1 := hide (hS1.out.mono hbl)
 replace hB := hide (bup hB.out hbl)
 replace hBb := hide (bup hBb.out hbl)
 have sl0 := sl_of (xs := [7]) (n := 1) intC_len kl0 rfl rfl (by omega)
 rw [← hw30]
 clear hw30 hbl kl0
 go_at_call 60
 refine (x_best w30 hH1.out hS1.out sl0).mono ?_
 rintro e w31 ⟨rfl, hb⟩
 replace kR := hide (kR.out.grow hb)
 replace kS := hide (kS.out.grow hb)
 replace kC := hide (kC.out.grow hb)
 replace kX := hide (kX.out.grow hb)
 replace hH1 := hide (hH1.out.mono hb)
 replace hS1 := hide (hS1.out.mono hb)
 replace hB := hide (bup hB.out hb)
 replace hBb := hide (bup hBb.out hb)
 clear hb sl0
 obtain ⟨r0, r1⟩ := kR.out.cells2
 obtain ⟨q0, q1, q2, q3, q4, q5, q6, q7⟩ := kS.out.cells8
 obtain ⟨c0, c1, c2⟩ := kC.out.cells3
 have zr := kR.out.lt
 have zs := kS.out.lt
 have zc := kC.out.lt
 go_wp2_with fail
 clear r0 r1 q0 q1 q2 q3 q4 q5 q6 q7 c0 c1 c2 zr zs zc
 go_at_call 26
 refine (x_cut w31 hH1.out hS1.out).mono ?_
 rintro e w32 ⟨v5, rfl, hv5, hb⟩
 replace kR := hide (kR.out.grow hb)
 replace kS := hide (kS.out.grow hb)
 replace kC := hide (kC.out.grow hb)
 replace kX := hide (kX.out.grow hb)
 replace hH1 := hide (hH1.out.mono hb)
 replace hS1 := hide (hS1.out.mono hb)
 replace hB := hide (bup hB.out hb)
 replace hBb := hide (bup hBb.out hb)
 replace hv5 := hide hv5
 clear hb
 obtain ⟨A5, c5, rfl, -⟩ := hv5.out.open_
 obtain ⟨x0, x1⟩ := kX.out.cells2
 have zx := kX.out.lt
 go_wp2_with fail
 clear x0 x1 zx
 obtain ⟨w33, hw33, hbl, kl0⟩ := al1 w32 #[I 0, I 0, I 0] 80
 have sl0 := sl_of (xs := [(⟨0, 0, 0⟩ : Site)]) (n := 1) Site.cells_len kl0 rfl rfl (by omega)
 replace hB := hide (bup hB.out hbl)
 rw [← hw33]
 go_at_call 23
 refine (x_range w33 sl0).mono ?_
 rintro e wz ⟨rfl, hb⟩
 replace hB := hide (bup hB.out hb)
 clear hw33 hbl kl0 sl0 hb
 go_wp2_with fail
 go_ret
 exact ⟨rfl, hB.out⟩
end Go.Proofs.YtgbbljfmngmjeaaGreat
