/- The package spring: ParseWeather. Conditions stand in the theorems. -/
import Derived.Test.YtoojedjmlcdomaaGreatDoorOneNum
import Derived.Test.YtoojedjmlcdomaaGreatDoorRound
import Derived.Test.YtoojedjmlcdomaaGreatDoorPoolLibPack
import Derived.Test.YtoojedjmlcdomaaGreatDoorSpring2Pack
set_option linter.all false
set_option maxHeartbeats 4000000
set_option maxRecDepth 100000
namespace Go.Proofs.YtoojedjmlcdomaaGreatDoor
open Go.RowKit

def strC (s : ByteArray) : List Value := [.string s]
theorem strC_len (s : ByteArray) : (strC s).length = 1 := rfl
theorem strC_one (s : ByteArray) : ∀ u ∈ strC s, u.oneCell' = true := by intro u hu; simp [strC] at hu; subst hu; rfl
theorem flat_str (xs : List ByteArray) : xs.flatMap strC = xs.map Value.string := by
 induction xs with
 | nil => rfl
 | cons x xs ih => simp [strC, ih]
theorem Sl.str_at {w : World} {b off c : Nat} {xs : List ByteArray} (h : Sl w 1 strC (.slice (some ⟨b, off, none⟩) xs.length c) xs) {i : Nat} {x : ByteArray} (hx : xs[i]? = some x) :
  b < w.heap.size ∧ w.cell? ⟨b, off + i, none⟩ = some (.string x) := by
 obtain ⟨h1, h2⟩ := h.cells_ hx
 exact ⟨h1, by simpa using h2 0 _ rfl⟩
theorem sl_litN {α : Type} {W : World} {g : Nat} {t : TypeId} {cs : Array Value} {enc : α → List Value} {xs : List α} (hb : Blk W g t cs) (h : cs.toList = xs.flatMap enc) (k : Nat) (hlen : ∀ x, (enc x).length = k) (hn : xs.length ≤ 100000) :
  Sl W k enc (.slice (some ⟨g, 0, none⟩) xs.length xs.length) xs := by
 refine ⟨_, _, rfl, Nat.le_refl _, ⟨by unfold maxLen; omega, by omega⟩, fun _ => ⟨_, 0, rfl, hb.lt, fun i x hx j u hu => ?_⟩⟩
 have h1 := flat_at hlen xs i x hx j u hu
 have h2 := hb.cell (i * k + j)
 rw [Nat.zero_add, h2, ← h1, ← h]
 simp
theorem blk_set3 {w : World} {g : Nat} {t : TypeId} {a b c : Value} (h : Blk w g t #[a, b, c]) (x y z : Value) : Blk (((w.setCell ⟨g, 0, none⟩ x).setCell ⟨g, 1, none⟩ y).setCell ⟨g, 2, none⟩ z) g t #[x, y, z] := by
 have := ((h.set_ 0 x).set_ 1 y).set_ 2 z
 simpa using this
def MaxAt (w : World) : Prop := ∃ m, w.cell? ⟨Tryz.lays146_ren.g 1, 0, none⟩ = some (.int .i64 m)
theorem MaxAt.mono {w w' : World} (h : MaxAt w) (hb : Below w.heap.size w w') : MaxAt w' := by
 obtain ⟨m, h⟩ := h
 exact ⟨m, (hb.cell (p := ⟨Tryz.lays146_ren.g 1, 0, none⟩) (World.block_lt_of_cell? _ _ h)).trans h⟩
theorem split_of (s : ByteArray) (w : World) (hm : MaxAt w) (hs : s.size ≤ 1000) :
  Calls Tryz.prog 78 #[.string s, .string ⟨#[32]⟩] w fun e w' => ∃ ps : List ByteArray, e = .returned (.slice (some ⟨w.heap.size, 0, none⟩) ps.length ps.length) ∧ Sl w' 1 strC (.slice (some ⟨w.heap.size, 0, none⟩) ps.length ps.length) ps ∧
   (ps.map fun p => p.data.toList) = splitL s.data.toList ∧ Below w.heap.size w w' := by
 obtain ⟨m, hm⟩ := hm
 refine (Tryz.strings_Split s ⟨#[32]⟩ m w (by omega) hm (by decide)).mono ?_
 rintro e w' ⟨rfl, rfl⟩
 have hl : (Lib.splitB ⟨#[32]⟩ 0 (Lib.countB s ⟨#[32]⟩) s).length = Lib.countB s ⟨#[32]⟩ + 1 := Lib.splitB_all ⟨#[32]⟩ (by decide) 0 _ s rfl
 have hd : ((Lib.splitB ⟨#[32]⟩ 0 (Lib.countB s ⟨#[32]⟩) s).map fun p => p.data.toList) = splitL s.data.toList := Lib.splitB_data ⟨#[32]⟩ 0 (Lib.countB s ⟨#[32]⟩) s
 have hc := Lib.countB_le ⟨#[32]⟩ (by decide) _ s (Nat.le_refl _)
 refine ⟨_, by rw [hl], ?_, hd, below1 _ _⟩
 exact sl_litN (Blk.new w _ _) (by simp [flat_str]) 1 strC_len (by omega)

def Says (s : List UInt8) (x : Weather) (e : Int) : Prop := (e = 0 ∧ printOk x = true ∧ s = printL x) ∨ (e = 3 ∧ x = ⟨0, 0, 0⟩ ∧ ∀ y, printOk y = true → s ≠ printL y)
theorem printOk_bd {x : Weather} (h : printOk x = true) : (-1048576 ≤ x.day ∧ x.day ≤ 1048576) ∧ (-1048576 ≤ x.temp ∧ x.temp ≤ 1048576) ∧ -1048576 ≤ x.rain ∧ x.rain ≤ 1048576 := by
 simp only [printOk, Bool.and_eq_true, inB_true, tempB] at h
 omega
theorem wordsL_inj {x y : Weather} (hx : printOk x = true) (hy : printOk y = true) (h : wordsL x = wordsL y) : x = y := by
 have b1 := printOk_bd hx
 have b2 := printOk_bd hy
 simp only [wordsL, List.cons.injEq, and_true, true_and] at h
 obtain ⟨h1, h2, h3⟩ := h
 have e1 := (intV_itoa b1.1).symm.trans ((congrArg intV h1).trans (intV_itoa b2.1))
 have e2 := (intV_itoa b1.2.1).symm.trans ((congrArg intV h2).trans (intV_itoa b2.2.1))
 have e3 := (intV_itoa b1.2.2).symm.trans ((congrArg intV h3).trans (intV_itoa b2.2.2))
 simp only [Prod.mk.injEq, and_true] at e1 e2 e3
 cases x
 cases y
 simp_all
theorem Says.one {s : List UInt8} {x y : Weather} {e f : Int} (h : Says s x e) (g : Says s y f) : x = y ∧ e = f := by
 rcases h with ⟨h1, h2, h3⟩ | ⟨h1, h2, h3⟩ <;> rcases g with ⟨g1, g2, g3⟩ | ⟨g1, g2, g3⟩
 ·refine ⟨wordsL_inj h2 g2 ?_, by rw [h1, g1]⟩
  rw [← split_print, ← split_print, ← h3, ← g3]
 ·exact absurd h3 (g3 x h2)
 ·exact absurd g3 (h3 y g2)
 ·exact ⟨by rw [h2, g2], by rw [h1, g1]⟩
theorem str_eq (s : ByteArray) (l : List UInt8) : s = ⟨l.toArray⟩ ↔ s.data.toList = l := by
 constructor
 ·rintro rfl
  rfl
 ·intro h
  subst h
  rfl

theorem spring_ParseWeather (s : ByteArray) (w : World) (hp : Pow10 w) (hm : MaxAt w) (hs : s.size ≤ 1000) :
  Calls Tryz.prog 22 #[.string s] w fun e w' => ∃ x f, e = .returned (.tuple #[.agg #[I x.day, I x.temp, I x.rain], I f]) ∧ Says s.data.toList x f ∧ Below w.heap.size w w' := by
 have HS := hide (fun w' (hb : Below w.heap.size w w') => split_of s w' (hm.mono hb) hs)
 have HN := hide (fun p w' => spring_numeral p w')
 have HP := hide (fun x w' (hb : Below w.heap.size w w') => spring_PrintWeather x w' (hp.mono hb))
 go_enter Tryz.func22, Tryz.ntmps22
 go_wp2_with fail
 go_at_call 78
 refine (HS.out _ (below1 _ _)).mono ?_
 rintro e w1 ⟨ps, rfl, hsl, hsp, hb1⟩
 have hR := (Blk.new w 57 #[I 0, I 0, I 0]).grow hb1
 have B1 := bup (below1 w (.cells #[I 0, I 0, I 0] 57)) hb1
 clear HS hm hs
 by_cases hl : ps.length = 4
 case neg =>
  have h1 : ((ps.length : Int) == 4) = false := by simp; omega
  have hno : Says s.data.toList ⟨0, 0, 0⟩ 3 := .inr ⟨rfl, rfl, fun y hy he => hl (by
   have := congrArg List.length hsp
   rw [he, split_print] at this
   simpa [wordsL] using this)⟩
  replace hl := hide hl
  obtain ⟨r0, r1, r2⟩ := hR.cells3
  have f0 := hR.frozen 0
  have f1 := hR.frozen 1
  have f2 := hR.frozen 2
  have zR := hR.lt
  replace hno := hide hno
  replace hsl := hide hsl
  replace hsp := hide hsp
  clear hb1
  replace B1 := hide B1
  have h2 : ((ps.length : Int) != 4) = true := by have := hl.out; simp; omega
  have hE := blk_set3 hR (I 0) (I 0) (I 0)
  replace hR := hide hR
  go_wp2_with fail
  obtain ⟨x0, x1, x2⟩ := hE.cells3
  refine bodyPost_ret (v := .tuple #[.agg #[I 0, I 0, I 0], I 3]) (by simp [results, Tryz.results22, go_sem, x0, x1, x2]) rfl ⟨⟨0, 0, 0⟩, 3, rfl, hno.out, bset (bset (bset B1.out _ _ (Nat.le_refl _) _) _ _ (Nat.le_refl _) _) _ _ (Nat.le_refl _) _⟩
 case pos =>
  obtain ⟨p0, p1, p2, p3, rfl⟩ : ∃ p0 p1 p2 p3, ps = [p0, p1, p2, p3] := by
   match ps, hl with
   | [p0, p1, p2, p3], _ => exact ⟨p0, p1, p2, p3, rfl⟩
  simp only [World.size_alloc] at hsl ⊢
  obtain ⟨zb, c1⟩ := hsl.str_at (i := 1) (x := p1) rfl
  obtain ⟨_, c2⟩ := hsl.str_at (i := 2) (x := p2) rfl
  obtain ⟨_, c3⟩ := hsl.str_at (i := 3) (x := p3) rfl
  rw [Nat.zero_add] at c1 c2 c3
  obtain ⟨bs, hbs⟩ : ∃ b, w.heap.size + 1 = b := ⟨_, rfl⟩
  rw [hbs] at zb c1 c2 c3 ⊢
  obtain ⟨gr, hgr⟩ : ∃ b, w.heap.size = b := ⟨_, rfl⟩
  rw [hgr] at hR ⊢
  have hgw := hgr
  replace hgw := hide hgw
  clear hbs hl hsl hb1
  have HSw := hide (fun (W : World) (hW : Below w1.heap.size w1 W) => (show W.cell? ⟨bs, 1, none⟩ = some (.string p1) ∧ W.cell? ⟨bs, 2, none⟩ = some (.string p2) ∧ W.cell? ⟨bs, 3, none⟩ = some (.string p3) from ⟨(hW.cell (p := ⟨bs, 1, none⟩) zb).trans c1, (hW.cell (p := ⟨bs, 2, none⟩) zb).trans c2, (hW.cell (p := ⟨bs, 3, none⟩) zb).trans c3⟩))
  have hsays : (∀ y, printOk y = true → s.data.toList = printL y → numV p1 = y.day ∧ numV p2 = y.temp ∧ numV p3 = y.rain) := fun y hy he => by
   rw [he, split_print] at hsp
   simp only [wordsL, List.map_cons, List.map_nil, List.cons.injEq, and_true] at hsp
   have hb := printOk_bd hy
   exact ⟨numV_itoa hb.1 hsp.2.1, numV_itoa hb.2.1 hsp.2.2.1, numV_itoa hb.2.2 hsp.2.2.2⟩
  replace hsays := hide hsays
  have HN1 := hide (HN.out p1)
  have HN2 := hide (HN.out p2)
  have HN3 := hide (HN.out p3)
  obtain ⟨n1, hn1⟩ : ∃ n, numV p1 = n := ⟨_, rfl⟩
  obtain ⟨n2, hn2⟩ : ∃ n, numV p2 = n := ⟨_, rfl⟩
  obtain ⟨n3, hn3⟩ : ∃ n, numV p3 = n := ⟨_, rfl⟩
  rw [hn1] at HN1 hsays
  rw [hn2] at HN2 hsays
  rw [hn3] at HN3 hsays
  replace hR := hide hR
  replace B1 := hide B1
  clear HN hsp zb c1 c2 c3 hn1 hn2 hn3
  go_upto_region 4 with fail
  refine wp_zgo HSw 14 fun hHeld => ?_
  (refine zg_tk 0 ?_; refine zg_tk 1 ?_; refine zg_tk 2 ?_; refine zg_tk 4 ?_; refine zg_tk 5 ?_; refine zg_tk 6 ?_; refine zg_tk 8 ?_; refine zg_tk 9 ?_; refine zg_tk 10 ?_; (try go_frame))
  have wB : Below w1.heap.size w1 w1.drew := (Below.refl _ _).drew
  apply via
  case f =>
   intro key
   refine zg_two (i := 3) (j := 13) (by decide) (by decide) rfl rfl (by kernel_rfl) (fun K_ hK_ => ?_) (fun K_ hK_ => ?_)
   ·go_simp
    refine (HN1.out w1.drew).mono ?_
    rintro e v1 ⟨rfl, hsv1⟩
    have Bv1 := bup wB hsv1
    refine hK_.out _ _ (HSw.out _ Bv1) (fun hHeld => ?_)
    clear hK_ K_
    (try go_frame)
    refine zg_two (i := 7) (j := 13) (by decide) (by decide) rfl rfl (by kernel_rfl) (fun K_ hK_ => ?_) (fun K_ hK_ => ?_)
    ·go_simp
     refine (HN2.out v1).mono ?_
     rintro e v2 ⟨rfl, hsv2⟩
     have Bv2 := bup Bv1 hsv2
     refine hK_.out _ _ (HSw.out _ Bv2) (fun hHeld => ?_)
     clear hK_ K_
     (try go_frame)
     refine zg_two (i := 11) (j := 13) (by decide) (by decide) rfl rfl (by kernel_rfl) (fun K_ hK_ => ?_) (fun K_ hK_ => ?_)
     ·go_simp
      refine (HN3.out v2).mono ?_
      rintro e v3 ⟨rfl, hsv3⟩
      have Bv3 := bup Bv2 hsv3
      refine hK_.out _ _ (HSw.out _ Bv3) (fun hHeld => ?_)
      clear hK_ K_
      (try go_frame)
      (refine zg_tk 12 ?_; (try go_frame))
      refine zg_ready (i := 13) (by decide) rfl (by kernel_rfl) (fun K_ hK_ => ?_)
      go_simp
      obtain ⟨v4, hv4, hsv4, kv4⟩ := alv v3 #[I 0, I 0, I 0] 57
      have hg_kv4 := Bv3.size
      rw [← hv4]
      clear hv4
      have Bv4 := bup Bv3 hsv4
      refine hK_.out _ _ (HSw.out _ Bv4) (fun hHeld => ?_)
      clear hK_ K_
      (try go_frame)
      obtain ⟨q0, q1, q2⟩ := kv4.cells3
      have f0 := kv4.frozen 0
      have f1 := kv4.frozen 1
      have f2 := kv4.frozen 2
      have zg := kv4.lt
      (refine zg_ls 14 fun K_ hK_ => ?_; go_simp; skip; refine hK_.out _ _ ?_; clear hK_ K_; (try go_frame))
      have kz := blk_set3 kv4 (I n1) (I n2) (I n3)
      have hgz := hg_kv4
      have hBz := bset (bset (bset Bv4 _ 0 hgz (I n1)) _ 1 hgz (I n2)) _ 2 hgz (I n3)
      clear q0 q1 q2 f0 f1 f2 zg
      generalize (((v4.setCell ⟨v3.heap.size, 0, none⟩ (I n1)).setCell ⟨v3.heap.size, 1, none⟩ (I n2)).setCell ⟨v3.heap.size, 2, none⟩ (I n3)) = Wz at kz hBz ⊢
      generalize (v3.heap.size : Nat) = gz at kz hgz ⊢
      revert hBz
      revert hgz
      revert kz
      revert gz
      revert Wz
      exact key.out
     ·go_simp
      obtain ⟨v5, hv5, hsv5, kv5⟩ := alv v2 #[I 0, I 0, I 0] 57
      have hg_kv5 := Bv2.size
      rw [← hv5]
      clear hv5
      have Bv5 := bup Bv2 hsv5
      refine hK_.out _ _ (HSw.out _ Bv5) (fun hHeld => ?_)
      clear hK_ K_
      (try go_frame)
      refine zg_ready (i := 11) (by decide) rfl (by kernel_rfl) (fun K_ hK_ => ?_)
      go_simp
      refine (HN3.out v5).mono ?_
      rintro e v6 ⟨rfl, hsv6⟩
      replace kv5 := kv5.grow hsv6
      have Bv6 := bup Bv5 hsv6
      refine hK_.out _ _ (HSw.out _ Bv6) (fun hHeld => ?_)
      clear hK_ K_
      (try go_frame)
      (refine zg_tk 12 ?_; (try go_frame))
      obtain ⟨q0, q1, q2⟩ := kv5.cells3
      have f0 := kv5.frozen 0
      have f1 := kv5.frozen 1
      have f2 := kv5.frozen 2
      have zg := kv5.lt
      (refine zg_ls 14 fun K_ hK_ => ?_; go_simp; skip; refine hK_.out _ _ ?_; clear hK_ K_; (try go_frame))
      have kz := blk_set3 kv5 (I n1) (I n2) (I n3)
      have hgz := hg_kv5
      have hBz := bset (bset (bset Bv6 _ 0 hgz (I n1)) _ 1 hgz (I n2)) _ 2 hgz (I n3)
      exact key.out _ _ kz hgz hBz
    ·go_simp
     obtain ⟨v7, hv7, hsv7, kv7⟩ := alv v1 #[I 0, I 0, I 0] 57
     have hg_kv7 := Bv1.size
     rw [← hv7]
     clear hv7
     have Bv7 := bup Bv1 hsv7
     refine hK_.out _ _ (HSw.out _ Bv7) (fun hHeld => ?_)
     clear hK_ K_
     (try go_frame)
     refine zg_ready (i := 7) (by decide) rfl (by kernel_rfl) (fun K_ hK_ => ?_)
     go_simp
     refine (HN2.out v7).mono ?_
     rintro e v8 ⟨rfl, hsv8⟩
     replace kv7 := kv7.grow hsv8
     have Bv8 := bup Bv7 hsv8
     refine hK_.out _ _ (HSw.out _ Bv8) (fun hHeld => ?_)
     clear hK_ K_
     (try go_frame)
     refine zg_ready (i := 11) (by decide) rfl (by kernel_rfl) (fun K_ hK_ => ?_)
     go_simp
     refine (HN3.out v8).mono ?_
     rintro e v9 ⟨rfl, hsv9⟩
     replace kv7 := kv7.grow hsv9
     have Bv9 := bup Bv8 hsv9
     refine hK_.out _ _ (HSw.out _ Bv9) (fun hHeld => ?_)
     clear hK_ K_
     (try go_frame)
     (refine zg_tk 12 ?_; (try go_frame))
     obtain ⟨q0, q1, q2⟩ := kv7.cells3
     have f0 := kv7.frozen 0
     have f1 := kv7.frozen 1
     have f2 := kv7.frozen 2
     have zg := kv7.lt
     (refine zg_ls 14 fun K_ hK_ => ?_; go_simp; skip; refine hK_.out _ _ ?_; clear hK_ K_; (try go_frame))
     have kz := blk_set3 kv7 (I n1) (I n2) (I n3)
     have hgz := hg_kv7
     have hBz := bset (bset (bset Bv9 _ 0 hgz (I n1)) _ 1 hgz (I n2)) _ 2 hgz (I n3)
     exact key.out _ _ kz hgz hBz
   ·go_simp
    obtain ⟨v10, hv10, hsv10, kv10⟩ := alvd w1 #[I 0, I 0, I 0] 57
    have hg_kv10 := wB.size
    rw [← hv10]
    clear hv10
    have Bv10 := bup wB hsv10
    refine hK_.out _ _ (HSw.out _ Bv10) (fun hHeld => ?_)
    clear hK_ K_
    (try go_frame)
    refine zg_ready (i := 3) (by decide) rfl (by kernel_rfl) (fun K_ hK_ => ?_)
    go_simp
    refine (HN1.out v10).mono ?_
    rintro e v11 ⟨rfl, hsv11⟩
    replace kv10 := kv10.grow hsv11
    have Bv11 := bup Bv10 hsv11
    refine hK_.out _ _ (HSw.out _ Bv11) (fun hHeld => ?_)
    clear hK_ K_
    (try go_frame)
    refine zg_ready (i := 7) (by decide) rfl (by kernel_rfl) (fun K_ hK_ => ?_)
    go_simp
    refine (HN2.out v11).mono ?_
    rintro e v12 ⟨rfl, hsv12⟩
    replace kv10 := kv10.grow hsv12
    have Bv12 := bup Bv11 hsv12
    refine hK_.out _ _ (HSw.out _ Bv12) (fun hHeld => ?_)
    clear hK_ K_
    (try go_frame)
    refine zg_ready (i := 11) (by decide) rfl (by kernel_rfl) (fun K_ hK_ => ?_)
    go_simp
    refine (HN3.out v12).mono ?_
    rintro e v13 ⟨rfl, hsv13⟩
    replace kv10 := kv10.grow hsv13
    have Bv13 := bup Bv12 hsv13
    refine hK_.out _ _ (HSw.out _ Bv13) (fun hHeld => ?_)
    clear hK_ K_
    (try go_frame)
    (refine zg_tk 12 ?_; (try go_frame))
    obtain ⟨q0, q1, q2⟩ := kv10.cells3
    have f0 := kv10.frozen 0
    have f1 := kv10.frozen 1
    have f2 := kv10.frozen 2
    have zg := kv10.lt
    (refine zg_ls 14 fun K_ hK_ => ?_; go_simp; skip; refine hK_.out _ _ ?_; clear hK_ K_; (try go_frame))
    have kz := blk_set3 kv10 (I n1) (I n2) (I n3)
    have hgz := hg_kv10
    have hBz := bset (bset (bset Bv13 _ 0 hgz (I n1)) _ 1 hgz (I n2)) _ 2 hgz (I n3)
    exact key.out _ _ kz hgz hBz
  case g =>
  intro Wz gz kz hgz hBz
  have BZ := bup B1.out hBz
  have hR2 := hR.out.grow hBz
  have HPx := HP.out ⟨n1, n2, n3⟩ Wz BZ
  obtain ⟨q0, q1, q2⟩ := kz.cells3
  have zg := kz.lt
  replace hR2 := hide hR2
  have kz' := hide kz
  replace BZ := hide BZ
  clear HN1 HN2 HN3 HSw hHeld wB hR B1 hBz kz HP
  go_wp2_with fail
  go_at_call 20
  refine HPx.mono ?_
  rintro e w3 ⟨rfl, hb3⟩
  have kz3 := kz'.out.grow hb3
  have hR3 := hR2.out.grow hb3
  have B3 := bup BZ.out hb3
  clear kz' hR2 BZ hb3 HPx q0 q1 q2 zg
  obtain ⟨q0, q1, q2⟩ := kz3.cells3
  have zg := kz3.lt
  obtain ⟨r0, r1, r2⟩ := hR3.cells3
  have f0 := hR3.frozen 0
  have f1 := hR3.frozen 1
  have f2 := hR3.frozen 2
  have zR := hR3.lt
  have hgw' := hgw.out
  have hEnd : ∀ x y z, Below w.heap.size w (((w3.setCell ⟨gr, 0, none⟩ x).setCell ⟨gr, 1, none⟩ y).setCell ⟨gr, 2, none⟩ z) := fun x y z => bset (bset (bset B3 _ _ (by omega) _) _ _ (by omega) _) _ _ (by omega) _
  have hE0 := blk_set3 hR3 (I 0) (I 0) (I 0)
  have hE1 := blk_set3 hR3 (I n1) (I n2) (I n3)
  have hbad : (printOk ⟨n1, n2, n3⟩ = true → s.data.toList ≠ printL ⟨n1, n2, n3⟩) → Says s.data.toList ⟨0, 0, 0⟩ 3 := fun h => .inr ⟨rfl, rfl, fun y hy he => by
   obtain ⟨e1, e2, e3⟩ := hsays.out y hy he
   have : y = ⟨n1, n2, n3⟩ := by cases y; simp_all
   subst this
   exact h hy he⟩
  replace hE0 := hide hE0
  replace hE1 := hide hE1
  replace hEnd := hide hEnd
  replace hbad := hide hbad
  replace hgr := hide hgr
  clear hR3 kz3 hgw' hsays B3
  cases ho : printOk ⟨n1, n2, n3⟩ with
  | false =>
   have h1 : printE ⟨n1, n2, n3⟩ = 60 := by simp [printE, ho]
   have hno := hide (hbad.out fun h => by rw [ho] at h; cases h)
   rw [h1]
   clear hbad ho h1
   obtain ⟨pv, hpv⟩ : ∃ v, printV ⟨n1, n2, n3⟩ = v := ⟨_, rfl⟩
   rw [hpv]
   clear hpv
   go_wp2_with fail
   obtain ⟨x0, x1, x2⟩ := hE0.out.cells3
   refine bodyPost_ret (v := .tuple #[.agg #[I 0, I 0, I 0], I 3]) (by simp [results, Tryz.results22, go_sem, x0, x1, x2]) rfl ⟨⟨0, 0, 0⟩, 3, rfl, hno.out, hEnd.out _ _ _⟩
  | true =>
   have h1 : printE ⟨n1, n2, n3⟩ = 0 := by simp [printE, ho]
   have h2 : printV ⟨n1, n2, n3⟩ = printL ⟨n1, n2, n3⟩ := by simp [printV, ho]
   rw [h1, h2]
   by_cases he : s.data.toList = printL ⟨n1, n2, n3⟩
   case neg =>
    obtain ⟨pv, hpv⟩ : ∃ pv : ByteArray, ⟨(printL ⟨n1, n2, n3⟩).toArray⟩ = pv := ⟨_, rfl⟩
    have hpl : pv.data.toList = printL ⟨n1, n2, n3⟩ := by rw [← hpv]
    have h3 : (pv.toList == s.toList) = false := by
     rw [ByteArray.toList_eq, ByteArray.toList_eq, hpl]
     exact beq_eq_false_iff_ne.2 fun h => he h.symm
    rw [hpv]
    clear hpv hpl
    have hno := hide (hbad.out fun _ => he)
    clear hbad ho h1 h2
    replace he := hide he
    go_wp2_with fail
    obtain ⟨x0, x1, x2⟩ := hE0.out.cells3
    refine bodyPost_ret (v := .tuple #[.agg #[I 0, I 0, I 0], I 3]) (by simp [results, Tryz.results22, go_sem, x0, x1, x2]) rfl ⟨⟨0, 0, 0⟩, 3, rfl, hno.out, hEnd.out _ _ _⟩
   case pos =>
    have h3 := (str_eq s _).2 he
    rw [← h3]
    have hyes : Says s.data.toList ⟨n1, n2, n3⟩ 0 := .inl ⟨rfl, ho, he⟩
    have h4 : (s.toList == s.toList) = true := by simp
    replace hyes := hide hyes
    clear hbad ho h1 h2 he h3
    go_wp2_with fail
    obtain ⟨x0, x1, x2⟩ := hE1.out.cells3
    refine bodyPost_ret (v := .tuple #[.agg #[I n1, I n2, I n3], I 0]) (by simp [results, Tryz.results22, go_sem, x0, x1, x2]) rfl ⟨⟨n1, n2, n3⟩, 0, rfl, hyes.out, hEnd.out _ _ _⟩
end Go.Proofs.YtoojedjmlcdomaaGreatDoor
