/- The laws' track and walked. Conditions stand in the theorems. -/
import Derived.Test.YtgbbljfmngmjeaaGreatCrewWalkPack
import Derived.Test.YtgbbljfmngmjeaaGreatRangePack
import Derived.Test.YtgbbljfmngmjeaaGreatCrew9Pack
import Derived.Test.YtgbbljfmngmjeaaGreatCrewRowsPack
import Derived.Test.YtgbbljfmngmjeaaGreatCrew20Pack
set_option linter.all false
set_option maxHeartbeats 8000000
set_option maxRecDepth 100000
namespace Go.Proofs.YtgbbljfmngmjeaaGreat
open Go.RowKit

def trackOr (ts : List Track) (no : Int) : Track := if 0 ≤ placeT ts no then trackAt ts no else ⟨0, 0, 0, 0, 0, 0⟩
theorem track7_gives (no : Int) (B : Nat) (w : World) (hc : w.cell? ⟨B, 0, none⟩ = some (I no)) (hB : B < w.heap.size) (xs : List Track) :
  Gives Tryz.prog 124 #[.pointer (some ⟨B, 0, none⟩)] (fun x => .agg #[I x.no, I x.a, I x.b, I x.minutes, I x.cell, I x.steep]) (fun s => s.no == no) w xs := by
 intro W x _ hb
 have hc' := (hb.cell (p := ⟨B, 0, none⟩) hB).trans hc
 have hB' : B < W.heap.size := Nat.lt_of_lt_of_le hB hb.size
 clear hc hb hB
 go_enter Tryz.func124, Tryz.ntmps124
 go_wp2
 go_ret
 exact ⟨rfl, below1 _ _⟩
theorem law7_track (vs vt : Value) (ts : List Track) (no : Int) (w : World) (ht : Sl w 6 Track.cells vt ts) :
  Calls Tryz.prog 49 #[.agg #[vs, vt], I no] w fun e w' => e = .returned (.tuple #[.agg #[I (trackOr ts no).no, I (trackOr ts no).a, I (trackOr ts no).b, I (trackOr ts no).minutes, I (trackOr ts no).cell, I (trackOr ts no).steep], .bool (decide (0 ≤ placeT ts no))]) ∧ Below w.heap.size w w' := by
 have JT := fun B W (hb : Below w.heap.size w W) (hc : W.cell? ⟨B, 0, none⟩ = some (I no)) (hB : B < W.heap.size) => indexFunc_Track vt ts 124 #[.pointer (some ⟨B, 0, none⟩)] (fun s => s.no == no) W (ht.mono hb) (enters_of Tryz.func124 (by kernel_rfl) rfl) (track7_gives no B W hc hB ts)
 change ∀ B W, _ → _ → _ → Calls _ _ _ _ fun e w' => e = .returned (I (placeT ts no)) ∧ _ at JT
 have hT := hide ht
 obtain ⟨A, n, rfl, _, _, _, hA⟩ := ht.open_
 obtain ⟨w1, hw1, hb1, kR, kN, kO⟩ := al3 w #[vs, .slice A ts.length n] 25 #[I no] 3 #[I 0, I 0, I 0, I 0, I 0, I 0] 74
 obtain ⟨r0, r1⟩ := kR.cells2
 have zR := kR.lt
 have n0 : w1.cell? ⟨w.heap.size + 1, 0, none⟩ = some (I no) := kN.cell 0
 have zN := kN.lt
 have JT1 := hide (JT _ w1 hb1 n0 zN)
 have hpl := fun h => trackAt_of (ts := ts) (no := no) h
 have htr : trackOr ts no = if 0 ≤ placeT ts no then trackAt ts no else ⟨0, 0, 0, 0, 0, 0⟩ := rfl
 have hlt := fun h => placeT_lt (ts := ts) (no := no) h
 obtain ⟨p, hp⟩ : ∃ q, placeT ts no = q := ⟨_, rfl⟩
 obtain ⟨X, hX⟩ : ∃ q, trackOr ts no = q := ⟨_, rfl⟩
 rw [hp] at JT1 hpl htr hlt ⊢
 rw [hX] at htr ⊢
 clear hp hX JT ht
 replace kR := hide kR
 replace kO := hide kO
 replace hb1 := hide hb1
 replace hA := hide hA
 clear kN n0 zN
 by_cases h : 0 ≤ p
 ·rw [if_pos h] at htr
  obtain ⟨x, hx, hxa, -⟩ := hpl h
  rw [hxa] at htr
  subst htr
  obtain ⟨k, rfl⟩ : ∃ k : Nat, p = k := ⟨p.toNat, by omega⟩
  have hk := hlt h
  simp only [Int.toNat_natCast] at hx
  obtain ⟨b, off, rfl, hbw⟩ := hA.out k (by omega)
  replace hbw := hide hbw
  clear hpl hlt hxa
  replace hx := hide hx
  rw [decide_eq_true h]
  have hkn : decide ((k : Int) < 0) = false := by simp
  go_enter Tryz.func49, Tryz.ntmps49
  go_wp2_with fail
  rw [← hw1]
  clear hw1
  go_wp2_with fail
  go_at_call 123
  refine JT1.out.mono ?_
  clear r0 r1 zR
  rintro e w2 ⟨rfl, hb⟩
  obtain ⟨r0, r1⟩ := (kR.out.grow hb).cells2
  have zR := (kR.out.grow hb).lt
  have kO3 := kO.out.grow hb
  obtain ⟨x0, x1, x2, x3, x4, x5⟩ := cells6 kO3
  have f0 := kO3.frozen 0
  have f1 := kO3.frozen 1
  have f2 := kO3.frozen 2
  have f3 := kO3.frozen 3
  have f4 := kO3.frozen 4
  have f5 := kO3.frozen 5
  have zO := kO3.lt
  obtain ⟨zt, t0, t1, t2, t3, t4, t5⟩ := ((hT.out.mono hb1.out).mono hb).track_at hx.out
  have kO4 := hide (set6 (b0 := I X.no) (b1 := I X.a) (b2 := I X.b) (b3 := I X.minutes) (b4 := I X.cell) (b5 := I X.steep) kO3)
  have hb4 := hide (below6s (bup hb1.out hb) (g := w.heap.size + 1 + 1) (by omega) (I X.no) (I X.a) (I X.b) (I X.minutes) (I X.cell) (I X.steep))
  clear kO3 hb kR kO hT
  go_wp2_with fail
  (try simp only [Exit.inBlock, Exit.then])
  exact bodyPost_ret (results_row2 (P := Tryz.prog) rfl _ _ (w.heap.size + 1 + 1) 74 _ _ rfl kO4.out Tryz.underlying74 rfl (by kernel_rfl)) rfl ⟨rfl, hb4.out⟩
 ·rw [if_neg h] at htr
  subst htr
  rw [decide_eq_false h]
  clear hpl hlt
  have hn : decide (p < 0) = true := decide_eq_true (by omega)
  replace h := hide h
  go_enter Tryz.func49, Tryz.ntmps49
  go_wp2_with fail
  rw [← hw1]
  clear hw1
  go_wp2_with fail
  go_at_call 123
  refine JT1.out.mono ?_
  clear r0 r1 zR
  rintro e w2 ⟨rfl, hb⟩
  have kO3 := kO.out.grow hb
  obtain ⟨x0, x1, x2, x3, x4, x5⟩ := cells6 kO3
  have f0 := kO3.frozen 0
  have f1 := kO3.frozen 1
  have f2 := kO3.frozen 2
  have f3 := kO3.frozen 3
  have f4 := kO3.frozen 4
  have f5 := kO3.frozen 5
  have zO := kO3.lt
  have kO4 := hide (set6 (b0 := I 0) (b1 := I 0) (b2 := I 0) (b3 := I 0) (b4 := I 0) (b5 := I 0) kO3)
  have hb4 := hide (below6s (bup hb1.out hb) (g := w.heap.size + 1 + 1) (by omega) (I 0) (I 0) (I 0) (I 0) (I 0) (I 0))
  clear kO3 hb kR kO hT
  go_wp2_with fail
  (try simp only [Exit.inBlock, Exit.then])
  exact bodyPost_ret (results_row2 (P := Tryz.prog) rfl _ _ (w.heap.size + 1 + 1) 74 _ _ rfl kO4.out Tryz.underlying74 rfl (by kernel_rfl)) rfl ⟨rfl, hb4.out⟩
def strollA : Option (Int × Int) → Int
 | none => 0
 | some p => p.1
def strollM : Option (Int × Int) → Int
 | none => 0
 | some p => p.2
theorem law7_walked (vs vt vo vl : Value) (ss : List Site) (ts : List Track) (op : List Int) (frm : Int) (l : List Int) (w : World) (ht : Sl w 6 Track.cells vt ts) (ho : Sl w 1 intC vo op) (hl : Sl w 1 intC vl l) (hr : RangeOk ss ts) :
  Calls Tryz.prog 50 #[.agg #[vs, vt], vo, I frm, vl] w fun e w' => e = .returned (.tuple #[I (strollA (strollF ts op frm l)), I (strollM (strollF ts op frm l)), .bool (strollF ts op frm l).isSome]) ∧ Below w.heap.size w w' := by
 have JT := fun no w' (hb : Below w.heap.size w w') => law7_track vs vt ts no w' (ht.mono hb)
 have JC := fun no w' (hb : Below w.heap.size w w') => contains_int vo op no w' (ho.mono hb)
 have hL := hide hl
 have hst := hide (fun (k : Nat) no (h : l[k]? = some no) => stroll_snoc (ts := ts) (op := op) (frm := frm) h)
 have hsp := hide (fun (k : Nat) h => stroll_stop (ts := ts) (op := op) (frm := frm) (l := l) (k := k) h)
 have htb : ∀ no, 0 ≤ placeT ts no → (0 ≤ (trackAt ts no).a ∧ (trackAt ts no).a ≤ 4095) ∧ (0 ≤ (trackAt ts no).b ∧ (trackAt ts no).b ≤ 4095) ∧ 1 ≤ (trackAt ts no).minutes ∧ (trackAt ts no).minutes ≤ 1440 := fun no h => by
  obtain ⟨x, hx, hxa, -⟩ := trackAt_of (ts := ts) (no := no) h
  rw [hxa]
  have h1 := hr.tr (List.mem_of_getElem? hx)
  have h2 := h1.ok
  simp only [trackOk, Bool.and_eq_true, inB_true] at h2
  exact ⟨by omega, by omega, h1.minutes⟩
 obtain ⟨A, n, rfl, -⟩ := ht.open_
 obtain ⟨D, m, rfl, _, _, hlen, hD⟩ := hl.open_
 obtain ⟨F, mf, rfl, -⟩ := ho.open_
 replace hD := hide hD
 replace JT := hide JT
 replace JC := hide JC
 replace htb := hide htb
 obtain ⟨w1, hw1, hb1, kR⟩ := al1 w #[vs, .slice A ts.length n] 25
 replace kR := hide kR
 clear ht ho hl hr
 obtain ⟨R, hR⟩ : ∃ r, strollF ts op frm l = r := ⟨_, rfl⟩
 rw [hR] at hsp ⊢
 replace hR := hide hR
 go_enter Tryz.func50, Tryz.ntmps50
 go_wp2_with fail
 rw [← hw1]
 clear hw1
 go_wp2_with fail
 go_loopw [8, 9, 18] (fun u v i wr => ∃ (k : Nat) (a c : Int), k ≤ l.length ∧ i = I k ∧ u = I a ∧ v = I c ∧ Hid (strollF ts op frm (l.take k) = some (a, c)) ∧ (0 ≤ c ∧ c ≤ 1440 * (k : Int)) ∧ Hid (Below w1.heap.size w1 wr)) (fun _ _ i _ => l.length - (intOf i).toNat)
 case atStart => exact ⟨0, frm, 0, Nat.zero_le _, rfl, rfl, rfl, hide rfl, by omega, hide (Below.refl _ _)⟩
 case round =>
  obtain ⟨k, a, c, hk, rfl, rfl, rfl, hf, hc, hb⟩ := hrel
  have hbw := hide (bup hb1 hb.out)
  by_cases hlt : k < l.length
  case neg =>
   obtain rfl : k = l.length := by omega
   have hf2 := hf.out
   rw [List.take_of_length_le (Nat.le_refl _)] at hf2
   have hRn := hide (show R = some (a, c) from hR.out.symm.trans hf2)
   replace hf2 := hide hf2
   go_wp2_with fail
   exact bodyPost_ret (results_tmp3 (fn := Tryz.f50) rfl _ _ _) rfl ⟨by rw [hRn.out]; rfl, hbw.out⟩
  obtain ⟨b, off, rfl, hbx⟩ := hD.out k hlt
  obtain ⟨no, hno⟩ := getElem?_of_lt hlt
  have hLr := hL.out.mono hbw.out
  obtain ⟨zL, l0⟩ := hLr.int_at hno
  have k0 : (0 : Int) ≤ (k : Int) := by omega
  have k1 : (k : Int) < (l.length : Int) := by omega
  have hs1 := hst.out k no hno
  rw [hf.out] at hs1
  have hs2 := hsp.out (k + 1)
  unfold strollS at hs1
  rw [Option.bind_some] at hs1
  obtain ⟨r0, r1⟩ := (kR.out.grow hb.out).cells2
  have zR := (kR.out.grow hb.out).lt
  have hto : trackOr ts no = if 0 ≤ placeT ts no then trackAt ts no else ⟨0, 0, 0, 0, 0, 0⟩ := rfl
  have htb2 := htb.out no
  have JT2 := JT.out no
  have JC2 := JC.out no
  obtain ⟨p, hp⟩ : ∃ q, decide (0 ≤ placeT ts no) = q := ⟨_, rfl⟩
  obtain ⟨X, hX⟩ : ∃ q, trackOr ts no = q := ⟨_, rfl⟩
  obtain ⟨Y, hY⟩ : ∃ q, trackAt ts no = q := ⟨_, rfl⟩
  obtain ⟨Q, hQ⟩ : ∃ q, (op.any fun n => n == no) = q := ⟨_, rfl⟩
  simp only [hX, hp] at JT2
  rw [hX, hY] at hto
  rw [hY] at htb2
  simp only [hQ] at JC2
  rw [hQ, hY] at hs1
  clear hX hY hQ
  replace hno := hide hno
  replace hs2 := hide hs2
  clear hLr
  go_wp2_with fail
  go_at_call 49
  refine (JT2 _ hbw.out).mono ?_
  clear r0 r1 zR zL l0
  rintro e w3 ⟨rfl, hb3⟩
  obtain ⟨w4, hw4, hb4, kX⟩ := al1 w3 #[I X.no, I X.a, I X.b, I X.minutes, I X.cell, I X.steep] 74
  have hbw4 := hide (bup (bup hbw.out hb3) hb4)
  have hb5 := hide (bup (bup hb.out hb3) hb4)
  obtain ⟨x0, x1, x2, x3, x4, x5⟩ := cells6 kX
  have zX := kX.lt
  clear JT2 hb3 hb4 kX hb
  have JC3 := hide (JC2 _ hbw4.out)
  clear JC2
  cases p with
  | false =>
   have h0 : ¬ 0 ≤ placeT ts no := of_decide_eq_false hp
   rw [if_neg fun h => h0 h.1] at hs1
   have hRn := hide (hs2.out hs1)
   clear hto htb2 hs2
   replace hs1 := hide hs1
   replace h0 := hide h0
   replace hp := hide hp
   go_upto_region 6 with fail
   rw [← hw4]
   clear hw4
   go_wp2_with fail
   exact bodyPost_ret (results_tmp3 (fn := Tryz.f50) rfl _ _ _) rfl ⟨by rw [hRn.out]; rfl, hbw4.out⟩
  | true =>
   have h0 : 0 ≤ placeT ts no := of_decide_eq_true hp
   rw [if_pos h0] at hto
   obtain ⟨ha, hb', hm⟩ := htb2 h0
   subst hto
   cases Q with
   | false =>
    rw [if_neg fun h => by cases h.2.1] at hs1
    have hRn := hide (hs2.out hs1)
    clear hs2 htb2
    replace hs1 := hide hs1
    replace h0 := hide h0
    replace hp := hide hp
    go_upto_region 6 with fail
    rw [← hw4]
    clear hw4
    go_wp2_with (go_at_call 48; refine JC3.out.mono ?_; rintro e w5 ⟨rfl, rfl⟩)
    exact bodyPost_ret (results_tmp3 (fn := Tryz.f50) rfl _ _ _) rfl ⟨by rw [hRn.out]; rfl, hbw4.out⟩
   | true =>
    by_cases hab : a = X.a ∨ a = X.b
    case neg =>
     rw [if_neg fun h => hab h.2.2] at hs1
     have hRn := hide (hs2.out hs1)
     have e1 : (a != X.a) = true := by simp; exact fun h => hab (.inl h)
     have e2 : (a != X.b) = true := by simp; exact fun h => hab (.inr h)
     clear hs2 htb2
     replace hs1 := hide hs1
     replace h0 := hide h0
     replace hp := hide hp
     replace hab := hide hab
     go_upto_region 6 with fail
     rw [← hw4]
     clear hw4
     go_wp2_with (go_at_call 48; refine JC3.out.mono ?_; rintro e w5 ⟨rfl, rfl⟩)
     exact bodyPost_ret (results_tmp3 (fn := Tryz.f50) rfl _ _ _) rfl ⟨by rw [hRn.out]; rfl, hbw4.out⟩
    rw [if_pos ⟨h0, rfl, hab⟩] at hs1
    have hrel : 0 ≤ c + X.minutes ∧ c + X.minutes ≤ 1440 * ((k + 1 : Nat) : Int) := by push_cast; omega
    have hs3 := hide hs1
    have hcs : (c + X.minutes : Int) ≤ 1000000000000000000 := by omega
    clear hs1 hs2 htb2
    replace h0 := hide h0
    replace hp := hide hp
    go_upto_region 6 with fail
    rw [← hw4]
    clear hw4
    by_cases hA1 : a = X.a
    ·have e1 : (a != X.a) = false := by simpa using hA1
     replace hab := hide hab
     replace hA1 := hide hA1
     have hsum : 0 ≤ X.a + X.b - a ∧ X.a + X.b - a ≤ 4095 := by have := hA1.out; omega
     go_wp2_with (go_at_call 48; refine JC3.out.mono ?_; rintro e w5 ⟨rfl, rfl⟩)
     go_roundw
     case rel => exact ⟨k + 1, X.a + X.b - a, c + X.minutes, by omega, by go_num, rfl, rfl, hs3, hrel, hb5⟩
     case measure => simp [intOf]; omega
    ·have e1 : (a != X.a) = true := by simpa using hA1
     have e2 : (a != X.b) = false := by simpa using hab.resolve_left hA1
     have hsum : 0 ≤ X.a + X.b - a ∧ X.a + X.b - a ≤ 4095 := by rcases hab with h | h <;> omega
     replace hab := hide hab
     replace hA1 := hide hA1
     go_wp2_with (go_at_call 48; refine JC3.out.mono ?_; rintro e w5 ⟨rfl, rfl⟩)
     go_roundw
     case rel => exact ⟨k + 1, X.a + X.b - a, c + X.minutes, by omega, by go_num, rfl, rfl, hs3, hrel, hb5⟩
     case measure => simp [intOf]; omega
end Go.Proofs.YtgbbljfmngmjeaaGreat
