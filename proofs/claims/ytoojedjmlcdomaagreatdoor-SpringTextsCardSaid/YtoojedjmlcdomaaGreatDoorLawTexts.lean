/- The law SpringTexts: PrintWeather and ParseWeather are as the reference has them, and each undoes the other. Conditions stand in the theorems. -/
import Derived.Test.YtoojedjmlcdomaaGreatDoorSpring28
import Derived.Test.YtoojedjmlcdomaaGreatDoorOneRefPPack
set_option linter.all false
set_option maxHeartbeats 8000000
set_option maxRecDepth 100000
namespace Go.Proofs.YtoojedjmlcdomaaGreatDoor
open Go.RowKit

theorem printE_ok {x : Weather} (h : printOk x = true) : printE x = 0 ∧ printV x = printL x := by simp [printE, printV, h]
theorem printE_no {x : Weather} (h : printOk x = false) : printE x = 60 ∧ printV x = [] := by simp [printE, printV, h]
theorem Says.self {x : Weather} (h : printOk x = true) : Says (printL x) x 0 := .inl ⟨rfl, h, rfl⟩
theorem printL_short {x : Weather} (h : printOk x = true) : (⟨(printL x).toArray⟩ : ByteArray).size ≤ 1000 := by
 obtain ⟨b1, b2, b3⟩ := printOk_bd h
 have n1 := Lib.itoa_length_le x.day (by omega) (by omega)
 have n2 := Lib.itoa_length_le x.temp (by omega) (by omega)
 have n3 := Lib.itoa_length_le x.rain (by omega) (by omega)
 have h1 : (⟨(printL x).toArray⟩ : ByteArray).size = (printL x).length := by simp [ByteArray.size]
 rw [h1, print_join]
 simp [wthL]
 omega

theorem law_Texts (x : Weather) (s : ByteArray) (w : World) (hp : Pow10 w) (hm : MaxAt w) :
  Calls Tryz.prog 5 #[.agg #[I x.day, I x.temp, I x.rain], .string s] w fun e w' => e = .returned (.bool true) ∧ Below w.heap.size w w' := by
 have H1 := hide (fun y w' (hb : Below w.heap.size w w') => spring_PrintWeather y w' (hp.mono hb))
 have H2 := hide (fun y w' (hb : Below w.heap.size w w') => ref_PrintWeather y w' (hp.mono hb))
 have H3 := hide (fun t w' (hb : Below w.heap.size w w') ht => spring_ParseWeather t w' (hp.mono hb) (hm.mono hb) ht)
 have H4 := hide (fun t w' (hb : Below w.heap.size w w') ht => ref_ParseWeather t w' (hp.mono hb) ht)
 replace hp := hide hp
 clear hm
 go_enter Tryz.func5, Tryz.ntmps5
 go_wp2_with fail
 obtain ⟨w1, hw1, B1, kX⟩ := al1 w #[I x.day, I x.temp, I x.rain] 57
 rw [← hw1]
 clear hw1
 obtain ⟨bX, hbX⟩ : ∃ b, w.heap.size = b := ⟨_, rfl⟩
 rw [hbX] at kX ⊢
 clear hbX
 replace kX := hide kX
 go_at_call 7
 refine (law_sane w1 (hp.out.mono B1)).mono ?_
 rintro e w2 ⟨rfl, hb⟩
 replace kX := hide (kX.out.grow hb)
 have B2 := bup B1 hb
 clear hb B1 hp
 by_cases hs : s.size ≤ 1000
 case neg =>
  have g1 : (1000 : Int) < (s.size : Int) := by omega
  go_wp2_with fail
  go_ret
  exact ⟨rfl, B2⟩
 case pos =>
  have g1 : ¬ (1000 : Int) < (s.size : Int) := by omega
  obtain ⟨pv, hpv⟩ : ∃ v : ByteArray, ⟨(printV x).toArray⟩ = v := ⟨_, rfl⟩
  have h1 := H1.out x
  have h2 := H2.out x
  rw [hpv] at h1 h2
  obtain ⟨pe, hpe⟩ : ∃ v, printE x = v := ⟨_, rfl⟩
  rw [hpe] at h1 h2
  replace h1 := hide h1
  replace h2 := hide h2
  have q1 : (pv.toList == pv.toList) = true := by simp
  obtain ⟨rkX0, rkX1, rkX2⟩ := kX.out.cells3
  have zkX := kX.out.lt
  go_wp2_with fail
  clear rkX0 rkX1 rkX2 zkX
  go_at_call 20
  refine (h1.out w2 B2).mono ?_
  rintro e w3 ⟨rfl, hb⟩
  replace kX := hide (kX.out.grow hb)
  have B3 := bup B2 hb
  clear hb B2
  obtain ⟨rkX0, rkX1, rkX2⟩ := kX.out.cells3
  have zkX := kX.out.lt
  go_wp2_with fail
  clear rkX0 rkX1 rkX2 zkX
  go_at_call 21
  refine (h2.out w3 B3).mono ?_
  rintro e w4 ⟨rfl, hb⟩
  replace kX := hide (kX.out.grow hb)
  have B4 := bup B3 hb
  clear hb B3
  clear h1 h2
  go_wp2_with fail
  go_at_call 22
  refine (H3.out s w4 B4 hs).mono ?_
  rintro e w5 ⟨y, f, rfl, hy, hb⟩
  replace kX := hide (kX.out.grow hb)
  have B5 := bup B4 hb
  clear hb B4
  go_wp2_with fail
  obtain ⟨w6, hw6, hb, kY⟩ := alv w5 #[I y.day, I y.temp, I y.rain] 57
  rw [← hw6]
  clear hw6
  obtain ⟨bkY, hbkY⟩ : ∃ b, w5.heap.size = b := ⟨_, rfl⟩
  rw [hbkY] at kY ⊢
  replace kY := hide kY
  clear hbkY
  replace kX := hide (kX.out.grow hb)
  have B6 := bup B5 hb
  clear hb B5
  go_at_call 23
  refine (H4.out s w6 B6 hs).mono ?_
  rintro e w7 ⟨y', f', rfl, hy', hb⟩
  replace kX := hide (kX.out.grow hb)
  replace kY := hide (kY.out.grow hb)
  have B7 := bup B6 hb
  clear hb B6
  obtain ⟨rfl, rfl⟩ := hy.one hy'
  clear hy'
  replace hy := hide hy
  go_upto_region 9 with fail
  obtain ⟨w8, hw8, hb, kZ⟩ := alv w7 #[I y.day, I y.temp, I y.rain] 57
  rw [← hw8]
  clear hw8
  obtain ⟨bkZ, hbkZ⟩ : ∃ b, w7.heap.size = b := ⟨_, rfl⟩
  rw [hbkZ] at kZ ⊢
  replace kZ := hide kZ
  clear hbkZ
  replace kX := hide (kX.out.grow hb)
  replace kY := hide (kY.out.grow hb)
  have B8 := bup B7 hb
  clear hb B7
  have he : (printOk x = false ∧ pe = 60 ∧ pv = ⟨#[]⟩) ∨ (printOk x = true ∧ pe = 0 ∧ pv.data.toList = printL x) := by
   cases ho : printOk x with
   | false =>
    refine .inl ⟨rfl, hpe.symm.trans (printE_no ho).1, ?_⟩
    rw [← hpv, (printE_no ho).2]
   | true =>
    refine .inr ⟨rfl, hpe.symm.trans (printE_ok ho).1, ?_⟩
    rw [← hpv, (printE_ok ho).2]
  clear hpe hpv
  rcases hy.out with ⟨rfl, hoy, hsy⟩ | ⟨rfl, rfl, _⟩
  ·
   have h1 := H1.out y
   rw [(printE_ok hoy).1, (printE_ok hoy).2, ← (str_eq s _).2 hsy] at h1
   replace h1 := hide h1
   have q2 : (s.toList == s.toList) = true := by simp
   clear hoy hsy
   rcases he with ⟨_, rfl, rfl⟩ | ⟨hox, rfl, hpl⟩
   ·
    obtain ⟨rkY0, rkY1, rkY2⟩ := kY.out.cells3
    have zkY := kY.out.lt
    obtain ⟨rkZ0, rkZ1, rkZ2⟩ := kZ.out.cells3
    have zkZ := kZ.out.lt
    go_wp2_with fail
    clear rkY0 rkY1 rkY2 zkY rkZ0 rkZ1 rkZ2 zkZ
    go_at_call 20
    refine (h1.out w8 B8).mono ?_
    rintro e w9 ⟨rfl, hb⟩
    replace kX := hide (kX.out.grow hb)
    replace kY := hide (kY.out.grow hb)
    replace kZ := hide (kZ.out.grow hb)
    have B9 := bup B8 hb
    clear hb B8
    clear h1
    go_wp2_with fail
    go_ret
    exact ⟨rfl, B9⟩
   ·
    have hself := hide (show Says pv.data.toList x 0 from hpl ▸ Says.self hox)
    have hsz : pv.size ≤ 1000 := by
     rw [(str_eq pv _).2 hpl]
     exact printL_short hox
    clear hpl hox
    obtain ⟨rkY0, rkY1, rkY2⟩ := kY.out.cells3
    have zkY := kY.out.lt
    obtain ⟨rkZ0, rkZ1, rkZ2⟩ := kZ.out.cells3
    have zkZ := kZ.out.lt
    go_wp2_with fail
    clear rkY0 rkY1 rkY2 zkY rkZ0 rkZ1 rkZ2 zkZ
    go_at_call 20
    refine (h1.out w8 B8).mono ?_
    rintro e w9 ⟨rfl, hb⟩
    replace kX := hide (kX.out.grow hb)
    replace kY := hide (kY.out.grow hb)
    replace kZ := hide (kZ.out.grow hb)
    have B9 := bup B8 hb
    clear hb B8
    clear h1
    go_wp2_with fail
    go_at_call 22
    refine (H3.out pv w9 B9 hsz).mono ?_
    rintro e w10 ⟨z, i, rfl, hz, hb⟩
    replace kX := hide (kX.out.grow hb)
    replace kY := hide (kY.out.grow hb)
    replace kZ := hide (kZ.out.grow hb)
    have B10 := bup B9 hb
    clear hb B9
    obtain ⟨rfl, rfl⟩ := hz.one hself.out
    clear hz hself
    go_upto_region 18 with fail
    obtain ⟨w11, hw11, hb, kT⟩ := alv w10 #[I z.day, I z.temp, I z.rain] 57
    rw [← hw11]
    clear hw11
    obtain ⟨bkT, hbkT⟩ : ∃ b, w10.heap.size = b := ⟨_, rfl⟩
    rw [hbkT] at kT ⊢
    replace kT := hide kT
    clear hbkT
    replace kX := hide (kX.out.grow hb)
    replace kY := hide (kY.out.grow hb)
    replace kZ := hide (kZ.out.grow hb)
    have B11 := bup B10 hb
    clear hb B10
    obtain ⟨rkT0, rkT1, rkT2⟩ := kT.out.cells3
    have zkT := kT.out.lt
    obtain ⟨rkX0, rkX1, rkX2⟩ := kX.out.cells3
    have zkX := kX.out.lt
    go_wp2_with fail
    go_ret
    exact ⟨rfl, B11⟩
  ·
   rcases he with ⟨_, rfl, rfl⟩ | ⟨hox, rfl, hpl⟩
   ·
    obtain ⟨rkY0, rkY1, rkY2⟩ := kY.out.cells3
    have zkY := kY.out.lt
    obtain ⟨rkZ0, rkZ1, rkZ2⟩ := kZ.out.cells3
    have zkZ := kZ.out.lt
    go_wp2_with fail
    go_ret
    exact ⟨rfl, B8⟩
   ·
    have hself := hide (show Says pv.data.toList x 0 from hpl ▸ Says.self hox)
    have hsz : pv.size ≤ 1000 := by
     rw [(str_eq pv _).2 hpl]
     exact printL_short hox
    clear hpl hox
    obtain ⟨rkY0, rkY1, rkY2⟩ := kY.out.cells3
    have zkY := kY.out.lt
    obtain ⟨rkZ0, rkZ1, rkZ2⟩ := kZ.out.cells3
    have zkZ := kZ.out.lt
    go_wp2_with fail
    clear rkY0 rkY1 rkY2 zkY rkZ0 rkZ1 rkZ2 zkZ
    go_at_call 22
    refine (H3.out pv w8 B8 hsz).mono ?_
    rintro e w9 ⟨z, i, rfl, hz, hb⟩
    replace kX := hide (kX.out.grow hb)
    replace kY := hide (kY.out.grow hb)
    replace kZ := hide (kZ.out.grow hb)
    have B9 := bup B8 hb
    clear hb B8
    obtain ⟨rfl, rfl⟩ := hz.one hself.out
    clear hz hself
    go_upto_region 18 with fail
    obtain ⟨w10, hw10, hb, kT⟩ := alv w9 #[I z.day, I z.temp, I z.rain] 57
    rw [← hw10]
    clear hw10
    obtain ⟨bkT, hbkT⟩ : ∃ b, w9.heap.size = b := ⟨_, rfl⟩
    rw [hbkT] at kT ⊢
    replace kT := hide kT
    clear hbkT
    replace kX := hide (kX.out.grow hb)
    replace kY := hide (kY.out.grow hb)
    replace kZ := hide (kZ.out.grow hb)
    have B10 := bup B9 hb
    clear hb B9
    obtain ⟨rkT0, rkT1, rkT2⟩ := kT.out.cells3
    have zkT := kT.out.lt
    obtain ⟨rkX0, rkX1, rkX2⟩ := kX.out.cells3
    have zkX := kX.out.lt
    go_wp2_with fail
    go_ret
    exact ⟨rfl, B10⟩
end Go.Proofs.YtoojedjmlcdomaaGreatDoor
