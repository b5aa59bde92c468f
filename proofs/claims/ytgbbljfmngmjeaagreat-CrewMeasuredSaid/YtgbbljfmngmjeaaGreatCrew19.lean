/- The package crew: (*hills).trip. Conditions stand in the theorem. -/
import Derived.Test.YtgbbljfmngmjeaaGreatCrew17Pack
import Derived.Test.YtgbbljfmngmjeaaGreatCrew4
import Derived.Test.YtgbbljfmngmjeaaGreatCrew5
import Derived.Test.YtgbbljfmngmjeaaGreatIndexFuncPack
import Derived.Test.YtgbbljfmngmjeaaGreatLeafPack
import Derived.Test.YtgbbljfmngmjeaaGreatCrew9Pack
import Derived.Test.YtgbbljfmngmjeaaGreatCrew6Pack
set_option linter.all false
set_option maxHeartbeats 40000000
set_option maxRecDepth 100000
namespace Go.Proofs.YtgbbljfmngmjeaaGreat
open Go.RowKit

theorem shl64 {k : Nat} (h : k ≤ 60) : wrap64 (2 ^ k) = ((2 ^ k : Nat) : Int) := by
 have h1 : 2 ^ k ≤ 1152921504606846976 := Nat.le_trans (Nat.pow_le_pow_right (by omega) h) (by decide)
 have h2 : (2 : Int) ^ k = ((2 ^ k : Nat) : Int) := by rw [Int.natCast_pow]; rfl
 rw [h2]
 obtain ⟨x, hx⟩ : ∃ x, 2 ^ k = x := ⟨_, rfl⟩
 rw [hx] at h1 ⊢
 unfold wrap64
 omega
theorem stp_sl {w : World} {g : Nat} {l : List Stp} {n : Nat} (h : Blk w g 130 (stArr l)) (hn : l.length = n) (hb : n ≤ 1048576) : Sl w 3 Stp.cells (.slice (some ⟨g, 0, none⟩) n n) l := by
 refine Own.sl (base := 0) (e := 130) ?_ Stp.cells_len (by omega)
 subst hn
 have hl := flat_len Stp.cells_len l
 refine ⟨hl, .inr ⟨g, l.length, stArr l, rfl, Nat.zero_le _, h, Nat.le_refl _, by unfold maxLen; omega, by simpa [stArr] using hl, ?_⟩⟩
 rw [← hl, stArr, List.take_length]

theorem Own.len_ {α : Type} {w : World} {base e k n c : Nat} {enc : α → List Value} {ad : Addr} {xs : List α} (h : Own w base e k enc (.slice (some ad) n c) xs) : xs.length = n := by
 rcases h.2 with ⟨h1, _⟩ | ⟨g, cap, cur, h1, _⟩
 ·cases h1
 ·injection h1 with _ h2
  exact h2.symm
theorem goT_no {n : Nat} {bit : Nat → Nat} {row l : List Stp} {i x y : Nat} {t : Track} (h : ¬ x = i % n) : goT n bit row i l x y t = l := by
 unfold goT
 rw [if_neg (fun hh => h hh.1)]
theorem goT_ge {n : Nat} {bit : Nat → Nat} {row l : List Stp} {i x y J : Nat} {t : Track} {s sy : Stp} (hJ : goJ n bit i y = J) (hs : (row.getD i default).minutes = s.minutes) (hy : l.getD J default = sy) (hm : sy.minutes ≤ s.minutes + t.minutes) : goT n bit row i l x y t = l := by
 unfold goT
 rw [if_neg]
 rintro ⟨-, hh⟩
 rw [hJ, hs, hy] at hh
 omega
theorem goT_lt {n : Nat} {bit : Nat → Nat} {row l : List Stp} {i x y J : Nat} {t : Track} {s sy : Stp} (h : x = i % n) (hJ : goJ n bit i y = J) (hs : (row.getD i default).minutes = s.minutes) (hy : l.getD J default = sy) (hm : s.minutes + t.minutes < sy.minutes) : goT n bit row i l x y t = l.set J ⟨s.minutes + t.minutes, ((i : Nat) : Int), t.no⟩ := by
 unfold goT
 rw [if_pos ⟨h, by rw [hJ, hs, hy]; exact hm⟩, hJ, hs]

theorem crew_trip0 (h base : Nat) (vs vt vk : Value) (ss : List Site) (ts : List Track) (m : Int → Option Int) (c : Crew) (day : Int) (cs : List Int) (w : World) (H : HillAt w base h vs vt m) (hs : Sl w 3 Site.cells vs ss) (ht : Sl w 6 Track.cells vt ts) (hk : Sl w 1 intC vk cs) (hr : RangeOk ss ts)
  (hhut : 0 ≤ placeS ss c.hut) (hcs : cs.length ≤ 8) (hday : 0 ≤ day ∧ day ≤ 1048576) (hwk : 0 ≤ c.work ∧ c.work ≤ 1440) (hld : 0 ≤ c.load ∧ c.load ≤ 200) (R : Nat → List Stp) (hR : R = rowT ss (openF m ts) (bitF ss cs) (ss.length * 2 ^ cs.length) (placeS ss c.hut).toNat) :
  Calls Tryz.prog 113 #[.pointer (some ⟨h, 0, none⟩), .agg #[I c.hut, I c.work, I c.load], I day, vk] w fun e w' => ∃ v, e = .returned (.tuple #[v, .bool (tripP ss R c day cs).isSome]) ∧ Own w' w.heap.size 3 1 intC v (tripL R (tripP ss R c day cs)) ∧ Below w.heap.size w w' := by
 obtain ⟨A, n', rfl, -, -, -, hA⟩ := hs.open_
 obtain ⟨A', n'', rfl, -⟩ := ht.open_
 obtain ⟨Ak, nk, rfl, -⟩ := hk.open_
 have JO := hide (fun w' (hb : Below w.heap.size w w') => crew_open h base _ _ m ts w' (H.below hb) (ht.mono hb) (fun t ht => (hr.tr ht).steep.2) hr.n2)
 have JE := hide (fun t w' (hb : Below w.heap.size w w') => crew_ends h base _ _ ss m t w' (H.below hb) (hs.mono hb))
 have JP := hide (fun w' (hb : Below w.heap.size w w') => crew_site _ (.slice A' ts.length n'') ss c.hut w' (hs.mono hb))
 have JI := hide (fun no w' (hb : Below w.heap.size w w') => index_int _ cs no w' (hk.mono hb))
 have JK := hide (fun g n w (kc : Blk w g 44 #[I c.hut, I c.work, I c.load]) (h1 : 0 ≤ n) (h2 : n ≤ 4398046511104) => crew_clock g c n cs.length w kc ⟨h1, h2⟩ (by omega) hld hwk)
 have JC := hide (fun (w : World) => crew_clockOf c w)
 have JL := hide (fun W => crew_light day W hday.1 hday.2)
 have HSs := hide (fun w' (hb : Below w.heap.size w w') => hs.mono hb)
 have kHs := hide (fun w' (hb : Below w.heap.size w w') => (show (w'.cell? ⟨h, 0, none⟩ = some (.slice A ss.length n') ∧ w'.cell? ⟨h, 1, none⟩ = some (.slice A' ts.length n'')) ∧ h < w'.heap.size by obtain ⟨_, g, L, _, kH, _⟩ := H.below hb; exact ⟨⟨kH.cell 0, kH.cell 1⟩, kH.lt⟩))
 have n16 := hr.n1
 have hpl := placeS_lt hhut
 obtain ⟨p, hp⟩ : ∃ p : Nat, placeS ss c.hut = p := ⟨(placeS ss c.hut).toNat, by omega⟩
 rw [hp] at hpl JP hR
 simp only [Int.toNat_natCast] at hR
 have hop : ∀ t ∈ openF m ts, 0 ≤ t.minutes ∧ t.minutes ≤ 1440 ∧ pA ss t < ss.length ∧ pB ss t < ss.length ∧ placeS ss t.a = (pA ss t : Nat) ∧ placeS ss t.b = (pB ss t : Nat) := fun t ht2 => by
  have h1 := hr.tr (List.mem_filter.1 ht2).1
  have h2 := placeS_lt h1.a
  have h3 := placeS_lt h1.b
  have h4 := h1.a
  have h5 := h1.b
  have h6 := h1.minutes
  unfold pA pB
  exact ⟨by omega, h6.2, by omega, by omega, by omega, by omega⟩
 have hol : (openF m ts).length ≤ 48 := Nat.le_trans (openF_len m ts) hr.n2
 obtain ⟨O, hO⟩ : ∃ O, openF m ts = O := ⟨_, rfl⟩
 rw [hO] at hop hol hR
 have JO2 := hide (fun w' hb => hO ▸ JO.out w' hb)
 clear JO
 replace JO2 := JO2
 obtain ⟨bA, oA, rfl, hbA⟩ := hA 0 (by omega)
 have hF0 : 2 ^ cs.length ≤ 256 := Nat.le_trans (Nat.pow_le_pow_right (by omega) hcs) (by omega)
 have hF1 : 1 ≤ 2 ^ cs.length := Nat.one_le_two_pow
 have hNN : ss.length * 2 ^ cs.length ≤ 16 * 256 := Nat.mul_le_mul n16 hF0
 have hN1 : ss.length ≤ ss.length * 2 ^ cs.length := Nat.le_mul_of_pos_right _ hF1
 have hbit : ∀ i, bitF ss cs i < 2 ^ cs.length := fun i => bitF_lt
 have hbitD : ∀ (i : Nat) (x : Site), ss[i]? = some x → bitF ss cs i = if 0 ≤ idxBy (fun y => y == x.no) cs ∧ x.kind = 2 then 2 ^ (idxBy (fun y => y == x.no) cs).toNat else 0 := fun i x hx => by simp only [bitF, List.getD_eq_getElem?_getD, hx, Option.getD_some]
 have hidx : ∀ no, 0 ≤ idxBy (fun y => y == no) cs → idxBy (fun y => y == no) cs < cs.length := fun no h => idxBy_lt h
 have horF : ∀ a b, a < 2 ^ cs.length → b < 2 ^ cs.length → a ||| b < 2 ^ cs.length := fun a b h1 h2 => Nat.or_lt_two_pow h1 h2
 have hshF := hide (shl64 (k := cs.length) (by omega))
 have hmk := fun w' => run_make1 el_int rfl ss.length (by omega) (by omega) w'
 have hTP : tripP ss R c day cs = match pickN ss R (2 ^ cs.length - 1) 65 with
  | none => none
  | some (a, j) => if lightF day < clockF c ((R a).getD j default).minutes cs.length then none else some (a, j) := rfl
 obtain ⟨TP, hTPe⟩ : ∃ TP, tripP ss R c day cs = TP := ⟨_, rfl⟩
 rw [hTPe] at hTP ⊢
 clear hTPe
 obtain ⟨bit, hbt⟩ : ∃ b, bitF ss cs = b := ⟨_, rfl⟩
 obtain ⟨F, hF⟩ : ∃ F, 2 ^ cs.length = F := ⟨_, rfl⟩
 obtain ⟨NN, hNNe⟩ : ∃ NN, ss.length * F = NN := ⟨_, rfl⟩
 obtain ⟨N, hN⟩ : ∃ N, ss.length = N := ⟨_, rfl⟩
 rw [hF] at hF0 hF1 hNN hN1 hbit hTP hR hshF horF
 rw [hNNe] at hNN hN1 hR
 rw [hbt] at hbit hbitD hR
 rw [hN] at n16 hpl hop hNNe hN1 hmk kHs JP
 obtain ⟨M, hM⟩ : ∃ M, cs.length = M := ⟨_, rfl⟩
 rw [hM] at hcs hTP JK JI hidx hshF ⊢
 replace hTP := hide hTP
 replace hop := hide hop
 replace horF := hide horF
 replace hol := hide hol
 replace hbit := hide hbit
 replace hbitD := hide hbitD
 replace hidx := hide hidx
 replace hR := hide hR
 replace hN := hide hN
 replace hF := hide hF
 replace hday := hide hday
 replace hhut := hide hhut
 replace hM := hide hM
 clear H hs ht hk hr hA hbA hbt hO
 obtain ⟨⟨r0, r1⟩, z0⟩ := kHs.out w (Below.refl _ _)
 obtain ⟨w1, hw1, hb1, kC, kM⟩ := al2 w #[I c.hut, I c.work, I c.load] 44 (rowN N (I 0)) 3
 rw [markL_zero bit N] at kM
 go_enter Tryz.func113, Tryz.ntmps113
 go_wp2_with fail
 clear hmk r0 r1 z0
 rw [← hw1]
 clear hw1
 obtain ⟨gc, hgc⟩ : ∃ g, w.heap.size = g := ⟨_, rfl⟩
 obtain ⟨gm, hgm⟩ : ∃ g, gc + 1 = g := ⟨_, rfl⟩
 rw [hgc] at kC kM ⊢
 rw [hgm] at kM ⊢
 have hgcw : w.heap.size ≤ gc := by omega
 have hgmw : w.heap.size ≤ gm := by omega
 have hcm : gc ≠ gm := by omega
 replace hgc := hide hgc
 replace hgm := hide hgm
 go_loopw [54] (fun i wr => ∃ k : Nat, k ≤ N ∧ i = I k ∧ Hid (Blk wr gm 3 (ints (markL bit N k))) ∧ Hid (Blk wr gc 44 #[I c.hut, I c.work, I c.load]) ∧ Hid (Below w.heap.size w wr)) (fun i _ => N - (intOf i).toNat)
 case atStart => exact ⟨0, Nat.zero_le _, rfl, hide kM, hide kC, hide hb1⟩
 clear hb1 kC kM
 case round =>
  obtain ⟨k, hk, rfl, ho, hC, hb⟩ := hrel
  by_cases hlt : k < N
  ·as_aux_lemma =>
    obtain ⟨x, hx⟩ := getElem?_of_lt (xs := ss) (k := k) (by have := hN.out; omega)
    have hSl := HSs.out _ hb.out
    obtain ⟨zA, f0, f1, f2⟩ := hSl.site_at hx
    have hbd := hbitD.out k x hx
    have hq1 := hidx.out x.no
    have JIx := JI.out x.no
    obtain ⟨q, hq⟩ : ∃ q, idxBy (fun y => y == x.no) cs = q := ⟨_, rfl⟩
    rw [hq] at hbd hq1 JIx
    have k2 : (0 : Int) ≤ (k : Int) := by omega
    have k3 : (k : Int) < (N : Int) := by omega
    obtain ⟨w5, hw5, hb5, kX⟩ := al1 wr #[I x.no, I x.kind, I x.cell] 80
    have ho5 := hide (ho.out.grow hb5)
    have hC5 := hide (hC.out.grow hb5)
    have hb6 := hide (bup hb.out hb5)
    obtain ⟨x0, x1, x2⟩ := kX.cells3
    have zX := kX.lt
    replace hx := hide hx
    replace hbd := hide hbd
    replace hq := hide hq
    replace hq1 := hide hq1
    replace JIx := hide JIx
    clear ho hC hb hSl hb5
    replace kX := hide kX
    go_wp2_with fail
    clear f0 f1 f2 zA
    rw [← hw5]
    clear hw5
    go_at_call 122
    refine (JIx.out _ hb6.out).mono ?_
    rintro e w6 ⟨rfl, rfl⟩
    rcases ilt q 0 with hq0 | hq0
    ·have hd : decide (0 ≤ q) = false := by simp; omega
     have hb0 : bit k = 0 := by rw [hbd.out, if_neg (by omega)]
     have ho6 := ho5
     rw [markL_skip hlt hb0] at ho6
     replace hb0 := hide hb0
     replace hq0 := hide hq0
     go_wp2_with fail
     go_roundw
     case rel => exact ⟨k + 1, by omega, by go_num, ho6, hC5, hb6⟩
     case measure => simp [intOf]; omega
    ·have hqM := hq1.out hq0
     by_cases hk2 : x.kind = 2
     ·obtain ⟨K, rfl⟩ : ∃ K : Nat, q = K := ⟨q.toNat, by omega⟩
      have hb0 : bit k = 2 ^ K := by rw [hbd.out, if_pos ⟨hq0, hk2⟩]; rfl
      have hsh := shl64 (k := K) (by omega)
      have hKs : ((2 ^ K : Nat) : Int) = ((bit k : Nat) : Int) := by rw [hb0]
      rw [hKs] at hsh
      have f3 := ho5.out.frozen k
      have z3 := ho5.out.lt
      have c3 : w5.cell? ⟨gm, k, none⟩ = some (I 0) := (ho5.out.cell _).trans (ints_get (markL_old bit hlt))
      have ho6 := hide (ho5.out.set_ k (I ((bit k : Nat) : Int)))
      rw [ints_set, markL_set bit hlt] at ho6
      have hC6 := hide (hC5.out.far (p := ⟨gm, k, none⟩) hcm (I ((bit k : Nat) : Int)))
      have hb7 := hide (bset hb6.out gm k hgmw (I ((bit k : Nat) : Int)))
      replace hb0 := hide hb0
      replace hKs := hide hKs
      go_wp2_with fail
      go_roundw
      case rel => exact ⟨k + 1, by omega, by go_num, ho6, hC6, hb7⟩
      case measure => simp [intOf]; omega
     ·have hb0 : bit k = 0 := by rw [hbd.out, if_neg (fun hh => hk2 hh.2)]
      have hd : (x.kind == 2) = false := by simpa using hk2
      have ho6 := ho5
      rw [markL_skip hlt hb0] at ho6
      replace hb0 := hide hb0
      replace hk2 := hide hk2
      go_wp2_with fail
      go_roundw
      case rel => exact ⟨k + 1, by omega, by go_num, ho6, hC5, hb6⟩
      case measure => simp [intOf]; omega
  ·obtain rfl : N = k := by omega
   have hF2 : (1 : Int) ≤ (F : Int) := by omega
   have hF3 : (F : Int) ≤ 256 := by omega
   have hmu : (N : Int) * (F : Int) = (NN : Int) := by rw [← hNNe, Int.natCast_mul]
   have hNN3 : (NN : Int) ≤ 4096 := by omega
   have hmk := fun w' => run_make3 el_step NN (by omega) (by omega) w'
   replace hNNe := hide hNNe
   replace hNN := hide hNN
   obtain ⟨T2, hT2⟩ : ∃ T2, wrap64 (2 ^ M) = T2 := ⟨_, rfl⟩
   have hT3 : T2 = (F : Int) := hT2.symm.trans hshF.out
   have hT4 : 1 ≤ T2 := by rw [hT3]; exact hF2
   have hT5 : T2 ≤ 256 := by rw [hT3]; exact hF3
   replace hT3 := hide hT3
   replace hmu := hide hmu
   replace hmk := hide hmk
   replace hNN3 := hide hNN3
   go_upto_region 11 with fail
   obtain rfl := hT3.out
   clear hT2 hT4 hT5
   replace hmu := hmu.out
   replace hmk := hmk.out
   replace hNN3 := hNN3.out
   go_wp2_with fail
   clear hmk
   obtain ⟨w3, hw3, hb3, kB⟩ := al1 wr (stArr (List.replicate NN (⟨0, 0, 0⟩ : Stp))) 130
   rw [← hw3]
   clear hw3
   obtain ⟨gb, hgb⟩ : ∃ g, wr.heap.size = g := ⟨_, rfl⟩
   rw [hgb] at kB ⊢
   have hgmb : gm ≠ gb := by have := ho.out.lt; omega
   have hgcb : gc ≠ gb := by have := hC.out.lt; omega
   have hgbw : w.heap.size ≤ gb := by have := hb.out.size; omega
   have ho3 := hide (ho.out.grow hb3)
   have hC3 := hide (hC.out.grow hb3)
   have hbw3 := hide (bup hb.out hb3)
   have kB3 := hide kB
   replace hgb := hide hgb
   clear ho hC hb hb3 kB hk hlt
   go_loopw [87] (fun i wr => ∃ k : Nat, k ≤ NN ∧ i = I k ∧ Hid (Blk wr gb 130 (stArr (List.replicate k (⟨farN, -1, -1⟩ : Stp) ++ List.replicate (NN - k) ⟨0, 0, 0⟩))) ∧ Hid (Blk wr gm 3 (ints (markL bit N N))) ∧ Hid (Blk wr gc 44 #[I c.hut, I c.work, I c.load]) ∧ Hid (Below w.heap.size w wr)) (fun i _ => NN - (intOf i).toNat)
   case atStart => exact ⟨0, Nat.zero_le _, rfl, kB3, ho3, hC3, hbw3⟩
   clear kB3 ho3 hC3 hbw3 hgb
   case round =>
    obtain ⟨k, hk, rfl, hB, ho, hC, hb⟩ := hrel
    by_cases hlt : k < NN
    ·as_aux_lemma =>
      obtain ⟨s, hsk⟩ := getElem?_of_lt (xs := List.replicate k (⟨farN, -1, -1⟩ : Stp) ++ List.replicate (NN - k) ⟨0, 0, 0⟩) (k := k) (by simp; omega)
      obtain ⟨e0, e1, e2⟩ := stArr_get hsk
      have c0 : wr.cell? ⟨gb, k * 3, none⟩ = some (I s.minutes) := (hB.out.cell _).trans e0
      have c1 : wr.cell? ⟨gb, k * 3 + 1, none⟩ = some (I s.before) := (hB.out.cell _).trans e1
      have c2 : wr.cell? ⟨gb, k * 3 + 2, none⟩ = some (I s.track) := (hB.out.cell _).trans e2
      have f0 := hB.out.frozen (k * 3)
      have f1 := hB.out.frozen (k * 3 + 1)
      have f2 := hB.out.frozen (k * 3 + 2)
      have zg := hB.out.lt
      have k0 : (0 : Int) ≤ (k : Int) := by omega
      have hB2 := hide (hB.out.set_stp k farN (-1) (-1))
      rw [fill_set _ _ _ _ hlt] at hB2
      have ho2 := hide (ho.out.far3 hgmb (k * 3) (I farN) (I (-1)) (I (-1)))
      have hC2 := hide (hC.out.far3 hgcb (k * 3) (I farN) (I (-1)) (I (-1)))
      have hb2 := hide (bset3 hb.out gb (k * 3) hgbw (I farN) (I (-1)) (I (-1)))
      replace hsk := hide hsk
      clear e0 e1 e2 hB ho hC hb
      go_wp2_with fail
      go_roundw
      case rel => exact ⟨k + 1, by omega, by go_num, hB2, ho2, hC2, hb2⟩
      case measure => simp [intOf]; omega
    ·obtain rfl : NN = k := by omega
     have hB1 := hB.out
     rw [Nat.sub_self, List.replicate_zero, List.append_nil] at hB1
     replace hB1 := hide hB1
     have hNN0 : 0 < NN := by omega
     have hNN5 : NN ≤ 4096 := by have := hNN.out; omega
     clear hB hk hlt
     go_wp2_with fail
     go_at_call 161
     refine (clone_step _ (List.replicate NN ⟨farN, -1, -1⟩) _ (stp_sl hB1.out (by simp) (by omega)) (by simp; omega)).mono ?_
     rintro e w4 ⟨v0, rfl, hv0, -, hb4⟩
     obtain ⟨g0, n0, hv0e, hg0, hg0l⟩ := hv0.full (by simpa using hNN0)
     rw [List.length_replicate] at hv0e
     subst hv0e
     obtain ⟨w5, hw5, hb5, kR⟩ := al1 w4 #[.slice (some ⟨g0, 0, none⟩) NN n0] 127
     obtain ⟨gr, hgr⟩ : ∃ g, w4.heap.size = g := ⟨_, rfl⟩
     rw [hgr] at kR
     have hgr0 : g0 ≠ gr := by omega
     have hb45 := bup hb4 hb5
     have hB5 := hide (hB1.out.grow hb45)
     have ho5 := hide (ho.out.grow hb45)
     have hC5 := hide (hC.out.grow hb45)
     have hbw5 := hide (bup hb.out hb45)
     have hv5 := hide (hv0.below hb5)
     have hgrw : w.heap.size ≤ gr := by have := hb.out.size; have := hb4.size; omega
     have hg0w : w.heap.size ≤ g0 := by have := hb.out.size; omega
     have hg0b : gb ≠ g0 := by have := hB1.out.lt; omega
     have hg0m : gm ≠ g0 := by have := ho.out.lt; omega
     have hg0c : gc ≠ g0 := by have := hC.out.lt; omega
     have hwr : w.heap.size ≤ wr.heap.size := hb.out.size
     have hwr5 : wr.heap.size ≤ w5.heap.size := hb45.size
     replace hv0 := hide hv0
     clear hb4 hb45 hB1 ho hC hb
     go_upto_region 18 with fail
     rw [← hw5]
     clear hw5
     have HSw := hide (fun (W : World) (hW : Below w5.heap.size w5 W) => (show W.cell? ⟨gr, 0, none⟩ = some (.slice (some ⟨g0, 0, none⟩) NN n0) ∧ W.cell? ⟨h, 0, none⟩ = some (.slice (some ⟨bA, oA, none⟩) N n') ∧ W.cell? ⟨h, 1, none⟩ = some (.slice A' ts.length n'') ∧ W.cell? ⟨gc, 0, none⟩ = some (I c.hut) from by
      have h1 := kHs.out W (bup hbw5.out hW)
      exact ⟨(kR.grow hW).cell 0, h1.1.1, h1.1.2, (hC5.out.grow hW).cell 0⟩))
     have zR : gr < w5.heap.size := kR.lt
     have zH : h < w5.heap.size := (kHs.out w5 hbw5.out).2
     have zC : gc < w5.heap.size := hC5.out.lt
     replace kR := hide kR
     replace hgr := hide hgr
     replace hb5 := hide hb5
     refine wp_zgo HSw 12 fun hHeld => ?_
     (refine zg_tk 0 ?_; refine zg_tk 1 ?_; refine zg_tk 2 ?_; refine zg_tk 3 ?_; refine zg_tk 4 ?_; refine zg_tk 5 ?_; refine zg_tk 6 ?_; refine zg_tk 7 ?_; refine zg_tk 8 ?_; (try go_frame))
     have wB : Below w5.heap.size w5 w5.drew := (Below.refl _ _).drew
     refine zg_ready (i := 9) (by decide) rfl (by kernel_rfl) (fun K_ hK_ => ?_)
     go_simp
     refine (JP.out _ (bup hbw5.out wB)).mono ?_
     rintro e v2 ⟨rfl, hs2⟩
     have Bv2 := bup wB hs2
     refine hK_.out _ _ (HSw.out _ Bv2) (fun hHeld => ?_)
     clear hK_ K_
     (try go_frame)
     have hpn0 : p < NN := by omega
     have hp3 : (0 : Int) ≤ (p : Int) := by omega
     have hp4 : (p : Int) < (NN : Int) := by omega
     have hv6 := hv5.out.below Bv2
     obtain ⟨s0, hs0⟩ := getElem?_of_lt (xs := List.replicate NN (⟨farN, -1, -1⟩ : Stp)) (k := p) (by simpa using hpn0)
     obtain ⟨⟨d0, -, -⟩, dF, -, dz⟩ := hv6.stp_at (by simp) hs0
     have dF0 := dF (p * 3)
     replace hs0 := hide hs0
     clear dF
     replace hv6 := hide hv6
     (refine zg_tk 10 ?_; refine zg_tk 11 ?_; (try go_frame))
     (refine zg_ls 12 fun K_ hK_ => ?_; go_simp; skip; refine hK_.out _ _ ?_; clear hK_ K_; (try go_frame))
     have hv7 := hv6.out.set_stp0 (by simp) p 0
     rw [start_mod] at hv7
     have hR0 : R 0 = startF NN p := by rw [hR.out]; rfl
     have kR7 := (kR.out.grow Bv2).far (p := ⟨g0, p * 3, none⟩) hgr0.symm (I 0)
     have hQr : StRows (v2.setCell ⟨g0, p * 3, none⟩ (I 0)) w.heap.size (.slice (some ⟨gr, 0, none⟩) 1 1) ((List.range 1).map R) := by
      have h1 := StRows.one kR7 hgrw (hv7.mono hwr)
      rw [← hR0] at h1
      exact h1
     have hB7 := hide ((hB5.out.grow Bv2).far (p := ⟨g0, p * 3, none⟩) hg0b (I 0))
     have ho7 := hide ((ho5.out.grow Bv2).far (p := ⟨g0, p * 3, none⟩) hg0m (I 0))
     have hC7 := hide ((hC5.out.grow Bv2).far (p := ⟨g0, p * 3, none⟩) hg0c (I 0))
     have hb7 := hide (bset (bup hbw5.out Bv2) g0 (p * 3) hg0w (I 0))
     obtain ⟨w7, hw7⟩ : ∃ w7, v2.setCell ⟨g0, p * 3, none⟩ (I 0) = w7 := ⟨_, rfl⟩
     have hw7' : v2.setCell { block := g0, off := p * 3 } (Value.int IntKind.i64 0) = w7 := hw7
     rw [hw7] at hQr hB7 ho7 hC7 hb7
     rw [hw7']
     replace hQr := hide hQr
     replace hw7 := hide hw7
     clear hw7' kR7 hv7 hHeld hv6 hs0 dF0 d0 dz Bv2 hs2 wB HSw hv5 hC5 ho5 hB5 hbw5 zR zH zC kR hb5 hR0 hgr0 hg0b hg0m hg0c
     go_wp2_with fail
     go_at_call 121
     refine (JO2.out _ hb7.out).mono ?_
     rintro e w8 ⟨vO, rfl, hO8, hb8⟩
     have hQ8 : TrQ w gc gm gb #[I c.hut, I c.work, I c.load] (ints (markL bit N N)) (stArr (List.replicate NN ⟨farN, -1, -1⟩)) vO O (.slice (some ⟨gr, 0, none⟩) 1 1) ((List.range (0 + 1)).map R) w8 :=
      ⟨bup hb7.out hb8, hC7.out.grow hb8, ho7.out.grow hb8, hB7.out.grow hb8, hO8.mono hb7.out.size, hQr.out.below hb8⟩
     obtain ⟨AO, cO, rfl, -, -, -, hAO⟩ := (hO8.sl Track.cells_len (by have := hol.out; omega)).open_
     replace hQ8 := hide hQ8
     replace hAO := hide hAO
     clear hQr hB7 ho7 hC7 hb7 hO8 hb8
     have hrT := fun k (hk : k ≤ 64) b (hb : b < NN) => rowT_at (ss := ss) (ts := O) (bit := bit) (N := NN) (hut := p) (fun t ht => (show 0 ≤ t.minutes ∧ t.minutes ≤ 1440 from ⟨(hop.out t ht).1, (hop.out t ht).2.1⟩)) (k := k) (b := b) hk hb
     have hrB := fun k b (hb : b < NN) (hf : ((rowT ss O bit NN p (k + 1)).getD b default).minutes ≠ farN) => rowT_step (ss := ss) (ts := O) (bit := bit) (N := NN) (hut := p) (fun t ht => (show 0 ≤ t.minutes ∧ t.minutes ≤ 1440 from ⟨(hop.out t ht).1, (hop.out t ht).2.1⟩)) hb hf
     have hrL := fun k => (rowT_ok (ss := ss) (ts := O) (bit := bit) (N := NN) (hut := p) (fun t ht => (show 0 ≤ t.minutes ∧ t.minutes ≤ 1440 from ⟨(hop.out t ht).1, (hop.out t ht).2.1⟩)) k).1
     have hrS : ∀ k, rowT ss O bit NN p (k + 1) = goR ss O bit (rowT ss O bit NN p k) (rowT ss O bit NN p k).length := fun k => rfl
     rw [← hR.out] at hrT hrB hrL hrS
     simp only [hrL] at hrS
     replace hrT := hide hrT
     replace hrB := hide hrB
     replace hrL := hide hrL
     replace hrS := hide hrS
     go_wp2_with fail
     clear hgr hgcw hgmw hgbw hgrw hg0w
     go_loopw [18, 112] (fun v i wr => ∃ k : Nat, k ≤ 64 ∧ i = I k ∧ Hid (TrQ w gc gm gb #[I c.hut, I c.work, I c.load] (ints (markL bit N N)) (stArr (List.replicate NN ⟨farN, -1, -1⟩)) (.slice AO O.length cO) O v ((List.range (k + 1)).map R) wr)) (fun _ i _ => 64 - (intOf i).toNat)
     case atStart => exact ⟨0, Nat.zero_le _, rfl, hQ8⟩
     clear hQ8
     case round =>
      obtain ⟨k, hk, rfl, hQ⟩ := hrel
      rename World => W3
      have hQb := hide hQ.out.below
      by_cases hlt : k < 64
      ·have hBk := hide hQ.out.kB
       have k2 : (0 : Int) ≤ (k : Int) := by omega
       have k3 : (k : Int) < ((k + 1 : Nat) : Int) := by omega
       obtain ⟨gv, cv, gk, ck, rfl, hgvw, hgvl, hcv, hgkw, hgkl, hok⟩ := hQ.out.rows.at_ (i := k) (l := R k) (by simp [List.getElem?_range]) (by rw [hrL.out]; exact hNN0)
       rw [hrL.out, List.length_map, List.length_range] at *
       replace hcv := hide hcv
       replace hok := hide hok
       go_wp2_with fail
       go_at_call 161
       refine (clone_step _ (List.replicate NN ⟨farN, -1, -1⟩) _ (stp_sl hBk.out (by simp) (by omega)) (by simp; omega)).mono ?_
       rintro e w9 ⟨v0, rfl, hv0, -, hb9⟩
       obtain ⟨gn, nn, hv0e, hgn, hgnl⟩ := hv0.full (by simpa using hNN0)
       rw [List.length_replicate] at hv0e
       subst hv0e
       have hv9 := hide hv0
       have cv9 : w9.cell? ⟨gv, k, none⟩ = some (.slice (some ⟨gk, 0, none⟩) NN ck) := (hb9.cell (p := ⟨gv, k, none⟩) hgvl).trans hcv.out
       have zv9 : gv < w9.heap.size := Nat.lt_of_lt_of_le hgvl hb9.size
       replace hb9 := hide hb9
       clear hv0 hBk
       go_wp2_with fail
       clear cv9 zv9
       go_loopw [122] (fun i w' => ∃ j : Nat, j ≤ NN ∧ i = I j ∧ Hid (Below W3.heap.size W3 w') ∧ Hid (Own w' W3.heap.size 130 3 Stp.cells (.slice (some ⟨gn, 0, none⟩) NN nn) (goR ss O bit (R k) j))) (fun i _ => NN - (intOf i).toNat)
       case atStart => exact ⟨0, Nat.zero_le _, rfl, hb9, hide (by rw [goR, hrL.out]; exact hv9.out)⟩
       clear hv9 hb9
       case round =>
        obtain ⟨j, hj, rfl, hb, hl⟩ := hrel
        by_cases hjl : j < NN
        ·obtain ⟨s, hsj, hsg, hs0, hs1, hs2⟩ := hrT.out k (by omega) j hjl
         obtain ⟨⟨c0, c1, c2⟩, -, -, zk⟩ := (hok.out.below hb.out).stp_at (hrL.out k) hsj
         have j2 : (0 : Int) ≤ (j : Int) := by omega
         have j3 : (j : Int) < (NN : Int) := by omega
         obtain ⟨w5, hw5, hb5, kX⟩ := al1 wr #[I s.minutes, I s.before, I s.track] 130
         obtain ⟨gx, hgxe⟩ : ∃ g, wr.heap.size = g := ⟨_, rfl⟩
         have hgxn : gx ≠ gn := by have := (ownBlock_lt hl.out gn rfl).2; omega
         have kX' := kX
         rw [hgxe] at kX'
         obtain ⟨x0, x1, x2⟩ := kX'.cells3
         have zX := kX'.lt
         replace kX := hide kX'
         have hl5 := hide (hl.out.below hb5)
         have hb6 := hide (bup hb.out hb5)
         obtain ⟨L, hL⟩ : ∃ L, goR ss O bit (R k) j = L := ⟨_, rfl⟩
         have hnx : goR ss O bit (R k) (j + 1) = goS ss O bit (R k) L j := by rw [← hL]; rfl
         rw [hL] at hl5
         replace hL := hide hL
         replace hsj := hide hsj
         clear hb hl hb5 kX'
         by_cases hfar : s.minutes = 1099511627776
         ·have hd : (s.minutes == 1099511627776) = true := by simpa using hfar
          have hnx2 : goS ss O bit (R k) L j = L := by rw [goS, if_pos (by rw [hsg, hfar]; rfl)]
          rw [hnx2] at hnx
          replace hnx2 := hide hnx2
          replace hnx := hide hnx
          replace hfar := hide hfar
          replace hsg := hide hsg
          go_wp2_with fail
          simp only [hgxe] at *
          rw [← hw5]
          clear hw5
          go_wp2_with fail
          go_roundw
          case rel => exact ⟨j + 1, by omega, by go_num, hb6, hide (by rw [hnx.out]; exact hl5.out)⟩
          case measure => simp [intOf]; omega
         ·have hd : (s.minutes == 1099511627776) = false := by simpa using hfar
          have hnx2 : goS ss O bit (R k) L j = O.foldl (fun l t => goK ss bit (R k) j l t 2) L := by rw [goS, if_neg (by rw [hsg]; exact hfar)]
          rw [hnx2] at hnx
          have hs3 := hs2 hfar
          have hRj : ((R k).getD j default).minutes = s.minutes := by rw [hsg]
          replace hRj := hide hRj
          replace hnx2 := hide hnx2
          replace hnx := hide hnx
          replace hfar := hide hfar
          replace hsg := hide hsg
          go_upto_region 27 with fail
          rw [← hw5]
          clear hw5 c0 c1 c2 zk
          go_wp2_with fail
          replace hgxe := hide hgxe
          clear x0 x1 x2 zX
          go_loopw [132] (fun i w' => ∃ q : Nat, q ≤ O.length ∧ i = I q ∧ Hid (Below W3.heap.size W3 w') ∧ Hid (Blk w' gx 130 #[I s.minutes, I s.before, I s.track]) ∧ Hid (Own w' W3.heap.size 130 3 Stp.cells (.slice (some ⟨gn, 0, none⟩) NN nn) ((O.take q).foldl (fun l t => goK ss bit (R k) j l t 2) L))) (fun i _ => O.length - (intOf i).toNat)
          case atStart => exact ⟨0, Nat.zero_le _, rfl, hb6, kX, hl5⟩
          clear hb6 kX hl5
          case round =>
           obtain ⟨q, hq, rfl, hb, hgx, hl⟩ := hrel
           by_cases hql : q < O.length
           ·obtain ⟨bO, oO, rfl, -⟩ := hAO.out q hql
            obtain ⟨t, htq⟩ := getElem?_of_lt hql
            have hbW := hide (bup hQb.out hb.out)
            obtain ⟨zO, v0, v1, v2, v3, v4, v5⟩ := ((hQ.out.grow hb.out).tr.sl Track.cells_len (by have := hol.out; omega)).track_at htq
            obtain ⟨hm1, hm2, ha, hb', hpa0, hpb0⟩ := hop.out t (List.mem_of_getElem? htq)
            obtain ⟨LL, hLL⟩ : ∃ l, (O.take q).foldl (fun l t => goK ss bit (R k) j l t 2) L = l := ⟨_, rfl⟩
            have hsn : (O.take (q + 1)).foldl (fun l t => goK ss bit (R k) j l t 2) L = goK ss bit (R k) j LL t 2 := by
             rw [List.take_succ_eq_append_getElem hql, List.foldl_append, (List.getElem?_eq_some_iff.1 htq).2, hLL]; rfl
            rw [hLL] at hl
            have JX := JE.out t
            rw [hpa0, hpb0] at JX
            obtain ⟨a, hpa⟩ : ∃ a, pA ss t = a := ⟨_, rfl⟩
            obtain ⟨b, hpb⟩ : ∃ b, pB ss t = b := ⟨_, rfl⟩
            rw [hpa] at JX ha
            rw [hpb] at JX hb'
            have a0 : (0 : Int) ≤ (a : Int) := by omega
            have b0 : (0 : Int) ≤ (b : Int) := by omega
            have a1 : (a : Int) < (N : Int) := by omega
            have b1 : (b : Int) < (N : Int) := by omega
            obtain ⟨w5, hw5, hb5, kT⟩ := al1 wr #[I t.no, I t.a, I t.b, I t.minutes, I t.cell, I t.steep] 74
            obtain ⟨gt, hgte⟩ : ∃ g, wr.heap.size = g := ⟨_, rfl⟩
            have hgtn : gt ≠ gn := by have := (ownBlock_lt hl.out gn rfl).2; omega
            have hgtx : gt ≠ gx := by have := hgx.out.lt; omega
            have kT' := kT
            rw [hgte] at kT'
            have rT0 : w5.cell? ⟨gt, 0, none⟩ = some (I t.no) := kT'.cell 0
            have rT1 : w5.cell? ⟨gt, 1, none⟩ = some (I t.a) := kT'.cell 1
            have rT2 : w5.cell? ⟨gt, 2, none⟩ = some (I t.b) := kT'.cell 2
            have rT3 : w5.cell? ⟨gt, 3, none⟩ = some (I t.minutes) := kT'.cell 3
            have rT4 : w5.cell? ⟨gt, 4, none⟩ = some (I t.cell) := kT'.cell 4
            have rT5 : w5.cell? ⟨gt, 5, none⟩ = some (I t.steep) := kT'.cell 5
            have zT := kT'.lt
            have hbW5 := bup hbW.out hb5
            have hl5 := hide (hl.out.below hb5)
            have hgx5 := hide (hgx.out.grow hb5)
            have hb6 := hide (bup hb.out hb5)
            replace kT := hide kT'
            replace JX := hide JX
            replace hsn := hide hsn
            replace hLL := hide hLL
            replace htq := hide htq
            clear hb hl hgx hb5 kT' hbW hpa0 hpb0
            go_upto_region 31 with fail
            rw [← hw5]
            clear hw5 v0 v1 v2 v3 v4 v5 zO
            go_wp2_with (go_at_call 154; refine (JX.out _ hbW5).mono ?_; rintro e w7 ⟨rfl, hb7⟩)
            have kT7 := hide (kT.out.grow hb7)
            have hl7 := hide (hl5.out.below hb7)
            have hgx7 := hide (hgx5.out.grow hb7)
            have hb8 := hide (bup hb6.out hb7)
            replace hgte := hide hgte
            clear rT0 rT1 rT2 rT3 rT4 rT5 zT kT hl5 hgx5 hb6 hb7 hbW5 JX
            go_loopw [149] (fun i w' => ∃ d : Nat, d ≤ 2 ∧ i = I d ∧ Hid (Below W3.heap.size W3 w') ∧ Hid (Blk w' gx 130 #[I s.minutes, I s.before, I s.track]) ∧ Hid (Blk w' gt 74 #[I t.no, I t.a, I t.b, I t.minutes, I t.cell, I t.steep]) ∧ Hid (Own w' W3.heap.size 130 3 Stp.cells (.slice (some ⟨gn, 0, none⟩) NN nn) (goK ss bit (R k) j LL t d))) (fun i _ => 2 - (intOf i).toNat)
            case atStart => exact ⟨0, by omega, rfl, hb8, hgx7, kT7, hl7⟩
            clear hb8 hgx7 kT7 hl7
            case round =>
             obtain ⟨d, hd3, rfl, hb, hgx, kT, hl⟩ := hrel
             obtain ⟨L, hL⟩ : ∃ L, goK ss bit (R k) j LL t d = L := ⟨_, rfl⟩
             rw [hL] at hl
             rcases d with _ | _ | _ | d
             ·as_aux_lemma =>
               have zk : (0 : Int) < 2 := by omega
               obtain ⟨w6, hw6, hb6, kX⟩ := al1 wr #[I a, I b] 203
               have hix := fun w => pairs_ix0 (a : Int) (b : Int) w
               have hbX := bup hb.out hb6
               have hgx6 := hide (hgx.out.grow hb6)
               have kT6 := hide (kT.out.grow hb6)
               have hl6 := hide (hl.out.below hb6)
               obtain ⟨q0, q1⟩ := kX.cells2
               have zX := kX.lt
               have hnx : goK ss bit (R k) j LL t 1 = goT N bit (R k) j L a b t := by rw [← hL]; simp only [goK, hpa, hpb, hN.out]
               replace hL := hide hL
               replace kX := hide kX
               replace hbX := hide hbX
               clear hb hgx kT hl
               go_wp2_with fail
               rw [← hw6]
               clear hw6
               have hrem : Int.tmod (j : Int) (N : Int) = ((j % N : Nat) : Int) := by rw [Int.ofNat_tmod]
               obtain ⟨r, hr⟩ : ∃ r, j % N = r := ⟨_, rfl⟩
               rw [hr] at hrem
               by_cases hxr : a = r
               case neg =>
                have hxr2 : (((a : Nat) : Int) == ((r : Nat) : Int)) = false := by simp; omega
                rw [goT_no (by rw [hr]; exact hxr)] at hnx
                replace hnx := hide hnx
                replace hxr := hide hxr
                replace hr := hide hr
                (refine wp_grow ?_; (repeat go_big_quiet_step (fail)); refine wp_grow0 ?_; intro W1 hW1)
                go_wp2_with fail
                go_roundw
                case rel => exact ⟨1, by omega, rfl, hide (bup hbX.out hW1), hide (hgx6.out.grow hW1), hide (kT6.out.grow hW1), hide (by rw [hnx.out]; exact hl6.out.below hW1)⟩
                case measure => simp [intOf]
               have hdiv : Int.tdiv (j : Int) (N : Int) = ((j / N : Nat) : Int) := by rw [Int.ofNat_tdiv]
               have hoF : j / N < F := Nat.div_lt_of_lt_mul (by rw [hNNe.out]; exact hjl)
               have hT0 := horF.out _ _ hoF (hbit.out b)
               have hor := or_small (j / N) (bit b) (by omega) (by have := hbit.out b; omega)
               have hJe : goJ N bit j b = b + N * (j / N ||| bit b) := rfl
               obtain ⟨o, ho⟩ : ∃ o, j / N = o := ⟨_, rfl⟩
               rw [ho] at hdiv hor hT0 hJe hoF
               have o0 : (0 : Int) ≤ (o : Int) := by omega
               have o1 : (o : Int) ≤ 256 := by omega
               obtain ⟨T, hT⟩ : ∃ T, o ||| bit b = T := ⟨_, rfl⟩
               rw [hT] at hor hT0 hJe
               have hNT : N * T + N ≤ NN := by
                have h1 := Nat.mul_le_mul_left N (show T + 1 ≤ F from hT0)
                rw [Nat.mul_add, Nat.mul_one, hNNe.out] at h1
                exact h1
               have hNTc : ((N * T : Nat) : Int) = (N : Int) * (T : Int) := Int.natCast_mul N T
               obtain ⟨J, hJ⟩ : ∃ J, b + N * T = J := ⟨_, rfl⟩
               rw [hJ] at hJe
               have hJl : J < NN := by omega
               have t1 : 0 ≤ (N : Int) * (T : Int) := by omega
               have t2 : (N : Int) * (T : Int) ≤ 4096 := by omega
               have hJc : (((b : Nat) : Int) + (N : Int) * (T : Int)) = ((J : Nat) : Int) := by omega
               have cM6 : w6.cell? ⟨gm, b, none⟩ = some (I ((bit b : Nat) : Int)) := ((hQ.out.grow hbX.out).kM.cell b).trans (ints_get (markL_at bit (by omega)))
               have zM6 : gm < w6.heap.size := (hQ.out.grow hbX.out).kM.lt
               have hLl := hl6.out.len_
               obtain ⟨sy, hsy⟩ := getElem?_of_lt (xs := L) (k := J) (by omega)
               have hsyg : L.getD J default = sy := by simp [hsy]
               have hJ0 : (0 : Int) ≤ (J : Int) := by omega
               have hJ1 : (J : Int) < (NN : Int) := by omega
               replace hNTc := hide hNTc
               replace hJ := hide hJ
               replace hT := hide hT
               replace ho := hide ho
               replace hr := hide hr
               replace hsyg := hide hsyg
               replace hJe := hide hJe
               replace hLl := hide hLl
               replace hsy := hide hsy
               subst hxr
               (refine wp_grow ?_; (repeat go_big_quiet_step (fail)); refine wp_grow0 ?_; intro W1 hW1)
               clear hrem
               replace hor := hor
               have W2e := hW1
               rename World => W2
               have hW1_ := hW1
               clear hW1
               replace q0 : W2.cell? ⟨wr.heap.size, 0, none⟩ = some (I (a : Nat)) := (kX.out.grow W2e).cell 0
               replace q1 : W2.cell? ⟨wr.heap.size, 1, none⟩ = some (I (b : Nat)) := (kX.out.grow W2e).cell 1
               replace zX := (kX.out.grow W2e).lt
               replace cM6 := (W2e.cell (p := ⟨gm, b, none⟩) zM6).trans cM6
               replace zM6 : gm < W2.heap.size := Nat.lt_of_lt_of_le zM6 W2e.size
               go_wp2_with fail
               (refine wp_grow ?_; (repeat go_big_quiet_step (fail)); refine wp_grow0 ?_; intro W1 hW1)
               clear q0 q1 zX cM6 zM6 hdiv t1 t2 hor hJc hW1_
               have W1e := bup W2e hW1
               have hgx8 := hgx6.out.grow W1e
               have kT8 := kT6.out.grow W1e
               have hl8 := hl6.out.below W1e
               have hb8 := bup hbX.out W1e
               obtain ⟨⟨c0, c1, c2⟩, cF, -, zn⟩ := hl8.stp_at hLl.out hsy.out
               have g0_ := hgx8.cell 0
               have g0 : W1.cell? ⟨gx, 0, none⟩ = some (I s.minutes) := g0_
               have t3 : W1.cell? ⟨gt, 3, none⟩ = some (I t.minutes) := kT8.cell 3
               have t0 : W1.cell? ⟨gt, 0, none⟩ = some (I t.no) := kT8.cell 0
               have zx8 := hgx8.lt
               have zt8 := kT8.lt
               have f0 := cF (J * 3)
               have f1 := cF (J * 3 + 1)
               have f2 := cF (J * 3 + 2)
               clear cF g0_ hgx6 kT6 hl6 hbX W2e hW1 W1e kX
               rcases ilt (s.minutes + t.minutes) sy.minutes with hlt9 | hge9
               ·rw [goT_lt hr.out.symm hJe.out hRj.out hsyg.out hlt9] at hnx
                have hoN := hide (hl8.set_stp hLl.out J (s.minutes + t.minutes) ((j : Nat) : Int) t.no)
                have hbN := hide (bset3 hb8 gn (J * 3) hgn (I (s.minutes + t.minutes)) (I ((j : Nat) : Int)) (I t.no))
                have hgN := hide (hgx8.far3 hgxn (J * 3) (I (s.minutes + t.minutes)) (I ((j : Nat) : Int)) (I t.no))
                have kTN := hide (kT8.far3 hgtn (J * 3) (I (s.minutes + t.minutes)) (I ((j : Nat) : Int)) (I t.no))
                replace hnx := hide hnx
                clear hl8 hb8 hgx8 kT8
                go_wp2_with fail
                go_roundw
                case rel => exact ⟨1, by omega, rfl, hbN, hgN, kTN, hide (by rw [hnx.out]; exact hoN.out)⟩
                case measure => simp [intOf]
               ·rw [goT_ge hJe.out hRj.out hsyg.out hge9] at hnx
                have hd9 : decide (s.minutes + t.minutes < sy.minutes) = false := by simp; omega
                replace hge9 := hide hge9
                replace hl8 := hide hl8
                replace hb8 := hide hb8
                replace hgx8 := hide hgx8
                replace kT8 := hide kT8
                replace hnx := hide hnx
                go_wp2_with fail
                go_roundw
                case rel => exact ⟨1, by omega, rfl, hb8, hgx8, kT8, hide (by rw [hnx.out]; exact hl8.out)⟩
                case measure => simp [intOf]
             ·as_aux_lemma =>
               have zk : (1 : Int) < 2 := by omega
               obtain ⟨w6, hw6, hb6, kX⟩ := al1 wr #[I b, I a] 203
               have hix := fun w => pairs_ix1 (a : Int) (b : Int) w
               have hbX := bup hb.out hb6
               have hgx6 := hide (hgx.out.grow hb6)
               have kT6 := hide (kT.out.grow hb6)
               have hl6 := hide (hl.out.below hb6)
               obtain ⟨q0, q1⟩ := kX.cells2
               have zX := kX.lt
               have hnx : goK ss bit (R k) j LL t 2 = goT N bit (R k) j L b a t := by rw [← hL]; simp only [goK, hpa, hpb, hN.out]
               replace hL := hide hL
               replace kX := hide kX
               replace hbX := hide hbX
               clear hb hgx kT hl
               go_wp2_with fail
               rw [← hw6]
               clear hw6
               have hrem : Int.tmod (j : Int) (N : Int) = ((j % N : Nat) : Int) := by rw [Int.ofNat_tmod]
               obtain ⟨r, hr⟩ : ∃ r, j % N = r := ⟨_, rfl⟩
               rw [hr] at hrem
               by_cases hxr : b = r
               case neg =>
                have hxr2 : (((b : Nat) : Int) == ((r : Nat) : Int)) = false := by simp; omega
                rw [goT_no (by rw [hr]; exact hxr)] at hnx
                replace hnx := hide hnx
                replace hxr := hide hxr
                replace hr := hide hr
                (refine wp_grow ?_; (repeat go_big_quiet_step (fail)); refine wp_grow0 ?_; intro W1 hW1)
                go_wp2_with fail
                go_roundw
                case rel => exact ⟨2, by omega, rfl, hide (bup hbX.out hW1), hide (hgx6.out.grow hW1), hide (kT6.out.grow hW1), hide (by rw [hnx.out]; exact hl6.out.below hW1)⟩
                case measure => simp [intOf]
               have hdiv : Int.tdiv (j : Int) (N : Int) = ((j / N : Nat) : Int) := by rw [Int.ofNat_tdiv]
               have hoF : j / N < F := Nat.div_lt_of_lt_mul (by rw [hNNe.out]; exact hjl)
               have hT0 := horF.out _ _ hoF (hbit.out a)
               have hor := or_small (j / N) (bit a) (by omega) (by have := hbit.out a; omega)
               have hJe : goJ N bit j a = a + N * (j / N ||| bit a) := rfl
               obtain ⟨o, ho⟩ : ∃ o, j / N = o := ⟨_, rfl⟩
               rw [ho] at hdiv hor hT0 hJe hoF
               have o0 : (0 : Int) ≤ (o : Int) := by omega
               have o1 : (o : Int) ≤ 256 := by omega
               obtain ⟨T, hT⟩ : ∃ T, o ||| bit a = T := ⟨_, rfl⟩
               rw [hT] at hor hT0 hJe
               have hNT : N * T + N ≤ NN := by
                have h1 := Nat.mul_le_mul_left N (show T + 1 ≤ F from hT0)
                rw [Nat.mul_add, Nat.mul_one, hNNe.out] at h1
                exact h1
               have hNTc : ((N * T : Nat) : Int) = (N : Int) * (T : Int) := Int.natCast_mul N T
               obtain ⟨J, hJ⟩ : ∃ J, a + N * T = J := ⟨_, rfl⟩
               rw [hJ] at hJe
               have hJl : J < NN := by omega
               have t1 : 0 ≤ (N : Int) * (T : Int) := by omega
               have t2 : (N : Int) * (T : Int) ≤ 4096 := by omega
               have hJc : (((a : Nat) : Int) + (N : Int) * (T : Int)) = ((J : Nat) : Int) := by omega
               have cM6 : w6.cell? ⟨gm, a, none⟩ = some (I ((bit a : Nat) : Int)) := ((hQ.out.grow hbX.out).kM.cell a).trans (ints_get (markL_at bit (by omega)))
               have zM6 : gm < w6.heap.size := (hQ.out.grow hbX.out).kM.lt
               have hLl := hl6.out.len_
               obtain ⟨sy, hsy⟩ := getElem?_of_lt (xs := L) (k := J) (by omega)
               have hsyg : L.getD J default = sy := by simp [hsy]
               have hJ0 : (0 : Int) ≤ (J : Int) := by omega
               have hJ1 : (J : Int) < (NN : Int) := by omega
               replace hNTc := hide hNTc
               replace hJ := hide hJ
               replace hT := hide hT
               replace ho := hide ho
               replace hr := hide hr
               replace hsyg := hide hsyg
               replace hJe := hide hJe
               replace hLl := hide hLl
               replace hsy := hide hsy
               subst hxr
               (refine wp_grow ?_; (repeat go_big_quiet_step (fail)); refine wp_grow0 ?_; intro W1 hW1)
               clear hrem
               replace hor := hor
               have W2e := hW1
               rename World => W2
               have hW1_ := hW1
               clear hW1
               replace q0 : W2.cell? ⟨wr.heap.size, 0, none⟩ = some (I (b : Nat)) := (kX.out.grow W2e).cell 0
               replace q1 : W2.cell? ⟨wr.heap.size, 1, none⟩ = some (I (a : Nat)) := (kX.out.grow W2e).cell 1
               replace zX := (kX.out.grow W2e).lt
               replace cM6 := (W2e.cell (p := ⟨gm, a, none⟩) zM6).trans cM6
               replace zM6 : gm < W2.heap.size := Nat.lt_of_lt_of_le zM6 W2e.size
               go_wp2_with fail
               (refine wp_grow ?_; (repeat go_big_quiet_step (fail)); refine wp_grow0 ?_; intro W1 hW1)
               clear q0 q1 zX cM6 zM6 hdiv t1 t2 hor hJc hW1_
               have W1e := bup W2e hW1
               have hgx8 := hgx6.out.grow W1e
               have kT8 := kT6.out.grow W1e
               have hl8 := hl6.out.below W1e
               have hb8 := bup hbX.out W1e
               obtain ⟨⟨c0, c1, c2⟩, cF, -, zn⟩ := hl8.stp_at hLl.out hsy.out
               have g0_ := hgx8.cell 0
               have g0 : W1.cell? ⟨gx, 0, none⟩ = some (I s.minutes) := g0_
               have t3 : W1.cell? ⟨gt, 3, none⟩ = some (I t.minutes) := kT8.cell 3
               have t0 : W1.cell? ⟨gt, 0, none⟩ = some (I t.no) := kT8.cell 0
               have zx8 := hgx8.lt
               have zt8 := kT8.lt
               have f0 := cF (J * 3)
               have f1 := cF (J * 3 + 1)
               have f2 := cF (J * 3 + 2)
               clear cF g0_ hgx6 kT6 hl6 hbX W2e hW1 W1e kX
               rcases ilt (s.minutes + t.minutes) sy.minutes with hlt9 | hge9
               ·rw [goT_lt hr.out.symm hJe.out hRj.out hsyg.out hlt9] at hnx
                have hoN := hide (hl8.set_stp hLl.out J (s.minutes + t.minutes) ((j : Nat) : Int) t.no)
                have hbN := hide (bset3 hb8 gn (J * 3) hgn (I (s.minutes + t.minutes)) (I ((j : Nat) : Int)) (I t.no))
                have hgN := hide (hgx8.far3 hgxn (J * 3) (I (s.minutes + t.minutes)) (I ((j : Nat) : Int)) (I t.no))
                have kTN := hide (kT8.far3 hgtn (J * 3) (I (s.minutes + t.minutes)) (I ((j : Nat) : Int)) (I t.no))
                replace hnx := hide hnx
                clear hl8 hb8 hgx8 kT8
                go_wp2_with fail
                go_roundw
                case rel => exact ⟨2, by omega, rfl, hbN, hgN, kTN, hide (by rw [hnx.out]; exact hoN.out)⟩
                case measure => simp [intOf]
               ·rw [goT_ge hJe.out hRj.out hsyg.out hge9] at hnx
                have hd9 : decide (s.minutes + t.minutes < sy.minutes) = false := by simp; omega
                replace hge9 := hide hge9
                replace hl8 := hide hl8
                replace hb8 := hide hb8
                replace hgx8 := hide hgx8
                replace kT8 := hide kT8
                replace hnx := hide hnx
                go_wp2_with fail
                go_roundw
                case rel => exact ⟨2, by omega, rfl, hb8, hgx8, kT8, hide (by rw [hnx.out]; exact hl8.out)⟩
                case measure => simp [intOf]
             ·have hfin : goK ss bit (R k) j LL t 2 = L := hL
              replace hL := hide hL
              replace hfin := hide hfin
              have hol2 := hol.out
              go_wp2_with fail
              go_roundw
              case rel => exact ⟨q + 1, by omega, by go_num, hb, hgx, hide (by rw [hsn.out, hfin.out]; exact hl.out)⟩
              case measure => simp [intOf]; omega
             ·omega
           ·obtain rfl : q = O.length := by omega
            rw [List.take_length, ← hnx.out] at hl
            go_wp2_with fail
            go_roundw
            case rel => exact ⟨j + 1, by omega, by go_num, hb, hl⟩
            case measure => simp [intOf]; omega
        ·as_aux_lemma =>
          obtain rfl : NN = j := by omega
          rw [← hrS.out] at hl
          have hQr := hQ.out.grow hb.out
          obtain ⟨vs, g1, g2, g3⟩ := hQr.rows
          have hvl : vs.length ≤ 65 := by rw [g1]; simp; omega
          have hu := hl.out.mono hQb.out.size
          have hszW : w.heap.size ≤ wr.heap.size := hQr.below.size
          replace hQr := hide hQr
          replace g1 := hide g1
          replace g2 := hide g2
          replace g3 := hide g3
          replace hu := hide hu
          clear hl
          go_wp2_with (at_builtin; refine wp_push_by el_Steps stC_len stC_one rfl (.tmp 195) (.tmp 197) rfl w.heap.size rfl (g2.out.alloc _) ⟨some ⟨gn, 0, none⟩, NN, nn⟩ rfl ?c1 ?c2 ?c3 ?c4 ?_)
          case c1 => exact new_cells rfl _ (stC ⟨some ⟨gn, 0, none⟩, NN, nn⟩)
          case c2 => omega
          case c3 => omega
          case c4 => simp; omega
          intro v' w2 hown hgr
          have hQn := hide ((hQr.out.grow (below1 _ (.cells #[.slice (some ⟨gn, 0, none⟩) NN nn] 127))).push g1.out (g2.out.alloc _) (fun i l hl => by obtain ⟨u, a, b⟩ := g3.out i l hl; exact ⟨u, a, b.alloc _⟩) (hu.out.alloc _) hgr hown)
          have hXs : (List.range (k + 1 + 1)).map R = (List.range (k + 1)).map R ++ [R (k + 1)] := by rw [List.range_succ, List.map_append]; rfl
          rw [← hXs] at hQn
          clear hgr hown hb hXs
          go_wp2_with fail
          go_roundw
          case rel => exact ⟨k + 1, by omega, by go_num, hQn⟩
          case measure => simp [intOf]; omega
      ·obtain rfl : k = 64 := by omega
       obtain ⟨gv, cv, _, _, rfl, -, -, -, -, -, -⟩ := hQ.out.rows.at_ (i := 0) (l := R 0) rfl (by rw [hrL.out]; exact hNN0)
       rw [List.length_map, List.length_range] at *
       have hrows : ∀ a, a < 65 → ∃ ga ca, ∀ W, Below W3.heap.size W3 W → W.cell? ⟨gv, a, none⟩ = some (.slice (some ⟨ga, 0, none⟩) NN ca) ∧ gv < W.heap.size ∧ Own W w.heap.size 130 3 Stp.cells (.slice (some ⟨ga, 0, none⟩) NN ca) (R a) := fun a ha => by
        obtain ⟨ga, ca, h1, h2, h3⟩ := hQ.out.rows.get (i := a) (l := R a) (by simp [List.getElem?_range ha]) (by rw [hrL.out]; exact hNN0)
        rw [hrL.out] at h1 h2
        exact ⟨ga, ca, fun W hW => ⟨(hW.cell (p := ⟨gv, a, none⟩) h3).trans h1, Nat.lt_of_lt_of_le h3 hW.size, h2.below hW⟩⟩
       replace hrows := hide hrows
       obtain ⟨G, hG⟩ : ∃ G : Nat, F - 1 = G := ⟨_, rfl⟩
       have hGF : (F : Int) - 1 = (G : Int) := by omega
       have hGN : N * G + N = NN := by
        have h1 : N * F = N * (G + 1) := by rw [show F = G + 1 by omega]
        rw [hNNe.out, Nat.mul_add, Nat.mul_one] at h1
        exact h1.symm
       have hNGc : ((N * G : Nat) : Int) = (N : Int) * (G : Int) := Int.natCast_mul N G
       have u1 : 0 ≤ (N : Int) * (G : Int) := by omega
       have u2 : (N : Int) * (G : Int) ≤ 4096 := by omega
       have hpkN := fun k => PickOk.pickN (ss := ss) (R := R) (N := NN) (full := G) (by rw [hN.out]; omega) k
       have hpkK := fun K k b (h : PickOk R NN K b) (hk : k < K) i (hi : i ≤ N) => PickOk.pickK (ss := ss) (full := G) h hk (by rw [hN.out]; omega) i (by rw [hN.out]; exact hi)
       have hTP2 := hTP.out
       rw [hG] at hTP2
       have hpS : ∀ k, pickN ss R G (k + 1) = pickK ss R G k (pickN ss R G k) N := fun k => by rw [← hN.out]; rfl
       replace hpkN := hide hpkN
       replace hpkK := hide hpkK
       replace hTP2 := hide hTP2
       replace hpS := hide hpS
       replace hNGc := hide hNGc
       have hC6 := hide hQ.out.kC
       rw [hGF]
       clear hQ
       go_wp2_with fail
       go_loopw [32, 33, 202] (fun r1 r2 i wr => ∃ k : Nat, k ≤ 65 ∧ i = I k ∧ r1 = I (pv1 (pickN ss R G k)) ∧ r2 = I (pv2 (pickN ss R G k)) ∧ Hid (Below W3.heap.size W3 wr)) (fun _ _ i _ => 65 - (intOf i).toNat)
       case atStart => exact ⟨0, Nat.zero_le _, rfl, rfl, rfl, hide (Below.refl _ _)⟩
       case round =>
        obtain ⟨k, hk, rfl, rfl, rfl, hb⟩ := hrel
        by_cases hlt : k < 65
        ·have hpk0 := hpkN.out k
         have hpSk := hpS.out k
         obtain ⟨b, hbe⟩ : ∃ b, pickN ss R G k = b := ⟨_, rfl⟩
         rw [hbe] at hpk0 hpSk ⊢
         obtain ⟨gk, ck, hgk⟩ := hrows.out k hlt
         obtain ⟨cv0, zv0, -⟩ := hgk wr hb.out
         have k2 : (0 : Int) ≤ (k : Int) := by omega
         replace hbe := hide hbe
         replace hpk0 := hide hpk0
         replace hpSk := hide hpSk
         replace hgk := hide hgk
         go_wp2_with fail
         clear cv0 zv0
         go_loopw [32, 33, 208] (fun r1 r2 i wr => ∃ j : Nat, j ≤ N ∧ i = I j ∧ r1 = I (pv1 (pickK ss R G k b j)) ∧ r2 = I (pv2 (pickK ss R G k b j)) ∧ Hid (Below W3.heap.size W3 wr)) (fun _ _ i _ => N - (intOf i).toNat)
         case atStart => exact ⟨0, Nat.zero_le _, rfl, rfl, rfl, hb⟩
         clear hb
         case round =>
          obtain ⟨j, hj, rfl, rfl, rfl, hb⟩ := hrel
          by_cases hjl : j < N
          ·have hpk := hpkK.out (k + 1) k b (hpk0.out.mono (by omega)) (by omega) j hj
           have hsuc : pickK ss R G k b (j + 1) = pickS ss R G k (pickK ss R G k b j) j := rfl
           obtain ⟨B, hB⟩ : ∃ b2, pickK ss R G k b j = b2 := ⟨_, rfl⟩
           rw [hB] at hpk hsuc ⊢
           obtain ⟨x, hx⟩ := getElem?_of_lt (xs := ss) (k := j) (by have := hN.out; omega)
           have hxg : ss.getD j default = x := by simp [hx]
           have hbW := bup hQb.out hb.out
           obtain ⟨zA, f0, f1, f2⟩ := (HSs.out _ hbW).site_at hx
           obtain ⟨⟨r0, r1⟩, z0⟩ := kHs.out _ hbW
           have hJe : j + ss.length * G = j + N * G := by rw [hN.out]
           obtain ⟨J, hJ⟩ : ∃ J, j + N * G = J := ⟨_, rfl⟩
           rw [hJ] at hJe
           have hJl : J < NN := by omega
           have hJc : ((j : Int) + (N : Int) * (G : Int)) = (J : Int) := by have := hNGc.out; omega
           have J0 : (0 : Int) ≤ (J : Int) := by omega
           have J1 : (J : Int) < (NN : Int) := by omega
           have j2 : (0 : Int) ≤ (j : Int) := by omega
           have j3 : (j : Int) < (N : Int) := by omega
           obtain ⟨s1, hs1, hs1g, hs10, -, -⟩ := hrT.out k (by omega) J hJl
           obtain ⟨cv0, zv0, ok⟩ := hgk.out wr hb.out
           obtain ⟨⟨c0, -, -⟩, -, -, zk⟩ := ok.stp_at (hrL.out k) hs1
           replace hpk := hide hpk
           replace hsuc := hide hsuc
           replace hB := hide hB
           replace hx := hide hx
           replace hxg := hide hxg
           replace hJe := hide hJe
           replace hJ := hide hJ
           replace hs1 := hide hs1
           replace hs1g := hide hs1g
           clear ok hbW
           go_upto_region 53 with fail
           clear hJc
           by_cases hkd : x.kind = 1
           case neg =>
            have hd : (x.kind == 1) = false := by simpa using hkd
            have hn := hsuc.out.trans (pickS_1 hxg.out hkd)
            replace hkd := hide hkd
            replace hn := hide hn
            clear c0
            as_aux_lemma =>
             go_quiet (fail)
             go_wp2_with fail
             go_roundw
             case rel => exact ⟨j + 1, by omega, by go_num, by rw [hn.out]; try rfl, by rw [hn.out]; try rfl, hide (below_drewN hb.out _)⟩
             case measure => simp [intOf]; omega
           by_cases hfr : s1.minutes < 1099511627776
           case neg =>
            have hd : (x.kind == 1) = true := by simpa using hkd
            have hd2 : decide (s1.minutes < 1099511627776) = false := by simpa using hfr
            have hn := hsuc.out.trans (pickS_2 (by rw [hJe.out]; exact hs1g.out) hfr)
            replace hfr := hide hfr
            replace hkd := hide hkd
            replace hn := hide hn
            as_aux_lemma =>
             go_quiet (fail)
             go_wp2_with fail
             go_roundw
             case rel => exact ⟨j + 1, by omega, by go_num, by rw [hn.out]; try rfl, by rw [hn.out]; try rfl, hide (below_drewN hb.out _)⟩
             case measure => simp [intOf]; omega
           have hd : (x.kind == 1) = true := by simpa using hkd
           have hd2 : decide (s1.minutes < 1099511627776) = true := by simpa using hfr
           rcases B with _ | ⟨a, jj⟩
           ·have hn := hsuc.out.trans (pickS_3 hxg.out (by rw [hJe.out]; exact hs1g.out) hkd hfr)
            rw [hJe.out] at hn
            replace hfr := hide hfr
            replace hkd := hide hkd
            replace hn := hide hn
            simp only [pv1, pv2]
            as_aux_lemma =>
             go_quiet (fail)
             go_wp2_with fail
             go_roundw
             case rel => exact ⟨j + 1, by omega, by go_num, by rw [hn.out]; try rfl, by rw [hn.out]; try rfl, hide (below_drewN hb.out _)⟩
             case measure => simp [intOf]; omega
           ·obtain ⟨ha, hjj, -⟩ := hpk.out a jj rfl
            obtain ⟨sb, hsb, hsbg, hsb0, -, -⟩ := hrT.out a (by omega) jj hjj
            obtain ⟨ga, ca, hga⟩ := hrows.out a (by omega)
            obtain ⟨cva, -, oa⟩ := hga wr hb.out
            obtain ⟨⟨d0, -, -⟩, -, -, zga⟩ := oa.stp_at (hrL.out a) hsb
            have a2 : (0 : Int) ≤ (a : Int) := by omega
            have a3 : (a : Int) < 65 := by omega
            have jj2 : (0 : Int) ≤ (jj : Int) := by omega
            have jj3 : (jj : Int) < (NN : Int) := by omega
            have hdn : decide ((a : Int) < 0) = false := by simp
            replace hsb := hide hsb
            replace hga := hide hga
            clear oa
            simp only [pv1, pv2]
            rcases ilt s1.minutes sb.minutes with hl9 | hl9
            ·have hn := hsuc.out.trans (pickS_5 hxg.out (by rw [hJe.out]; exact hs1g.out) hsbg hkd hfr hl9)
             rw [hJe.out] at hn
             replace hsbg := hide hsbg
             replace hfr := hide hfr
             replace hkd := hide hkd
             replace hn := hide hn
             as_aux_lemma =>
              go_quiet (fail)
              go_wp2_with fail
              go_roundw
              case rel => exact ⟨j + 1, by omega, by go_num, by rw [hn.out]; try rfl, by rw [hn.out]; try rfl, hide (below_drewN hb.out _)⟩
              case measure => simp [intOf]; omega
            ·have hn := hsuc.out.trans (pickS_4 (s := s1) (by rw [hJe.out]; exact hs1g.out) hsbg (by omega))
             have hd3 : decide (s1.minutes < sb.minutes) = false := by simp; omega
             replace hl9 := hide hl9
             replace hsbg := hide hsbg
             replace hfr := hide hfr
             replace hkd := hide hkd
             replace hn := hide hn
             as_aux_lemma =>
              go_quiet (fail)
              go_wp2_with fail
              go_roundw
              case rel => exact ⟨j + 1, by omega, by go_num, by rw [hn.out]; try rfl, by rw [hn.out]; try rfl, hide (below_drewN hb.out _)⟩
              case measure => simp [intOf]; omega
          ·obtain rfl : N = j := by omega
           rw [← hpSk.out]
           go_wp2_with fail
           go_roundw
           case rel => exact ⟨k + 1, by omega, by go_num, rfl, rfl, hb⟩
           case measure => simp [intOf]; omega
        ·obtain rfl : k = 65 := by omega
         have hpk := hpkN.out 65
         have hTP3 := hTP2.out
         obtain ⟨B, hB⟩ : ∃ b2, pickN ss R G 65 = b2 := ⟨_, rfl⟩
         rw [hB] at hpk hTP3 ⊢
         replace hB := hide hB
         have hbW := hide (bup hQb.out hb.out)
         rcases B with _ | ⟨a, jj⟩
         ·simp only [pv1, pv2]
          replace hTP3 : TP = none := hTP3
          subst hTP3
          replace hpk := hide hpk
          go_upto_region 57 with fail
          go_quiet (fail)
          go_wp2_with fail
          go_ret2
          exact ⟨_, rfl, Own.nil_ _ _ _ _ _, below_drewN hbW.out _⟩
         ·obtain ⟨ha, hjj, hfr⟩ := hpk a jj rfl
          obtain ⟨sb, hsb, hsbg, hsb0, -, hsb1⟩ := hrT.out a (by omega) jj hjj
          rw [hsbg] at hfr
          have hnf : ((R a).getD jj default).minutes ≠ farN := by rw [hsbg]; omega
          obtain ⟨ga, ca, hga⟩ := hrows.out a ha
          have HSw := hide (fun (W : World) (hW : Below wr.heap.size wr W) => (show W.cell? ⟨gv, a, none⟩ = some (.slice (some ⟨ga, 0, none⟩) NN ca) ∧ W.cell? ⟨ga, jj * 3, none⟩ = some (I sb.minutes) ∧ W.cell? ⟨gc, 0, none⟩ = some (I c.hut) ∧ W.cell? ⟨gc, 1, none⟩ = some (I c.work) ∧ W.cell? ⟨gc, 2, none⟩ = some (I c.load) from by
           have h0 := bup hb.out hW
           obtain ⟨h1, h2, h3⟩ := hga W h0
           exact ⟨h1, (h3.stp_at (hrL.out a) hsb).1.1, (hC6.out.grow h0).cells3⟩))
          obtain ⟨cC, hcC⟩ : ∃ x, clockF c sb.minutes M = x := ⟨_, rfl⟩
          replace hTP3 : TP = if lightF day < clockF c ((R a).getD jj default).minutes M then none else some (a, jj) := hTP3
          rw [hsbg, hcC] at hTP3
          have JK2 := fun g w kc => JK.out g sb.minutes w kc hsb0 (by have := hsb1 (by unfold farN at *; omega); omega)
          rw [hcC] at JK2
          replace JK2 := hide JK2
          have a2 : (0 : Int) ≤ (a : Int) := by omega
          have a3 : (a : Int) < 65 := by omega
          have jj2 : (0 : Int) ≤ (jj : Int) := by omega
          have jj3 : (jj : Int) < (NN : Int) := by omega
          have eg := eg_clock
          have hfc := field_clock
          replace hcC := hide hcC
          replace hga := hide hga
          replace hpk := hide hpk
          replace hsb := hide hsb
          replace hsbg := hide hsbg
          replace hfr := hide hfr
          replace hsb1 := hide hsb1
          simp only [pv1, pv2]
          go_upto_region 57 with fail
          have wB : Below wr.heap.size wr wr.drew := (Below.refl _ _).drew
          refine wp_zgo HSw 20 fun hHeld => ?_
          (refine zg_tk 0 ?_; refine zg_tk 1 ?_; refine zg_tk 2 ?_; (try go_frame))
          (refine zg_tk 3 ?_ (hw := by kernel_rfl); refine zg_tk 6 ?_ (hw := by kernel_rfl); refine zg_tk 7 ?_ (hw := by kernel_rfl); refine zg_tk 8 ?_ (hw := by kernel_rfl); refine zg_tk 9 ?_ (hw := by kernel_rfl); refine zg_tk 10 ?_ (hw := by kernel_rfl); refine zg_tk 11 ?_ (hw := by kernel_rfl); refine zg_tk 12 ?_ (hw := by kernel_rfl); refine zg_tk 13 ?_ (hw := by kernel_rfl); refine zg_tk 14 ?_ (hw := by kernel_rfl); refine zg_tk 15 ?_ (hw := by kernel_rfl); refine zg_tk 17 ?_ (hw := by kernel_rfl); (try go_frame))
          refine zg_ready (i := 4) (by decide) rfl (by kernel_rfl) (fun K_ hK_ => ?_)
          rw [if_pos (by kernel_rfl)]
          go_simp
          refine (JC.out wr.drew).mono ?_
          rintro e v1 ⟨rfl, kK, hsv1⟩
          have Bv1 := bup wB hsv1
          refine hK_.out _ _ (HSw.out _ Bv1) (fun hHeld => ?_)
          clear hK_ K_
          (try go_frame)
          (refine zg_tk 5 ?_ (hw := by kernel_rfl); (try go_frame))
          refine zg_ready (i := 16) (by decide) rfl (by kernel_rfl) (fun K_ hK_ => ?_)
          rw [if_pos (by kernel_rfl)]
          go_simp
          refine (JK2.out _ v1 kK).mono ?_
          rintro e v3 ⟨rfl, rfl⟩
          refine hK_.out _ _ (HSw.out _ Bv1) (fun hHeld => ?_)
          clear hK_ K_
          (try go_frame)
          refine zg_ready (i := 18) (by decide) rfl (by kernel_rfl) (fun K_ hK_ => ?_)
          rw [if_pos (by kernel_rfl)]
          go_simp
          refine (JL.out v1).mono ?_
          rintro e v4 ⟨rfl, rfl⟩
          refine hK_.out _ _ (HSw.out _ Bv1) (fun hHeld => ?_)
          clear hK_ K_
          (try go_frame)
          (refine zg_tk 19 ?_ (hw := by kernel_rfl); (try go_frame))
          (refine zg_ls 20 fun K_ hK_ => ?_; go_simp; skip; refine hK_.out _ _ ?_; clear hK_ K_; (try go_frame))
          have hbv := hide (bup hbW.out Bv1)
          have hb3 := hide (bup hb.out Bv1)
          clear hHeld HSw hsv1 kK Bv1 wB
          by_cases hcl : lightF day < cC
          ·rw [if_pos hcl] at hTP3
           subst hTP3
           have ha0 : ¬ ((a : Int) < 0) := by omega
           go_wp2_with fail
           go_ret2
           exact ⟨_, rfl, Own.nil_ _ _ _ _ _, hbv.out⟩
          ·rw [if_neg hcl] at hTP3
           subst hTP3
           have hcl2 : cC ≤ lightF day := by omega
           have ha0 : ¬ ((a : Int) < 0) := by omega
           go_wp2_with fail
           go_loopw [32, 33, 38] (fun r1 r2 o wr => ∃ d b : Nat, ∃ acc : List Int, d ≤ 64 ∧ b < NN ∧ r1 = I d ∧ r2 = I b ∧ Hid (((R d).getD b default).minutes ≠ farN) ∧ Hid (Own wr v1.heap.size 3 1 intC o acc) ∧ Hid (Below v1.heap.size v1 wr) ∧ Hid (acc ++ backF R d ((b : Nat) : Int) = backF R a ((jj : Nat) : Int))) (fun r1 _ _ _ => (intOf r1).toNat)
           case atStart => exact ⟨a, jj, [], by omega, hjj, rfl, rfl, hide hnf, hide (Own.nil_ _ _ _ _ _), hide (Below.refl _ _), hide (List.nil_append _)⟩
           case round =>
            obtain ⟨d, b, acc, hd, hbN, rfl, rfl, hf, ho, hb9, hac⟩ := hrel
            have hlen : acc.length + d = a := by
             have h1 := congrArg List.length hac.out
             rwa [List.length_append, backF_len, backF_len] at h1
            obtain ⟨A1, n1, c1, rfl⟩ := ho.out.shape
            by_cases hd0 : d = 0
            ·as_aux_lemma =>
              subst hd0
              have hac0 : acc = backF R a ((jj : Nat) : Int) := by
               have h1 := hac.out
               rwa [backF, List.append_nil] at h1
              have hs9 := hb9.out.size
              go_wp2_with fail
              go_at_call 99
              refine (reverse_any v1.heap.size _ acc _ (by omega) ho.out hs9).mono ?_
              rintro e w9 ⟨rfl, ho9, hb10⟩
              have hres := hide (ho9.mono hbv.out.size)
              have hbel := hide (bup hbv.out (hb9.out.trans hb10))
              have hac1 := hide (show acc.reverse = tripL R (some (a, jj)) by rw [hac0]; rfl)
              clear ho9 hb10 ho hb9 hac0
              replace hac := hide hac
              go_wp2_with fail
              go_ret2
              exact ⟨_, rfl, hac1.out ▸ hres.out, hbel.out⟩
            ·as_aux_lemma =>
              obtain ⟨d', hd'⟩ : ∃ d', d = d' + 1 := ⟨d - 1, by omega⟩
              obtain ⟨cb, hcb, hcbl, hcf⟩ := hrB.out d' b hbN (by rw [← hd']; exact hf.out)
              rw [← hd'] at hcb
              obtain ⟨sx, hsx, hsxg, -, -, -⟩ := hrT.out d hd b hbN
              rw [hsxg] at hcb
              obtain ⟨gd, cd, hgd⟩ := hrows.out d (by omega)
              obtain ⟨cvd, zvd, od⟩ := hgd wr (hb3.out.trans (hb9.out.mono hb3.out.size))
              obtain ⟨⟨e0, e1, e2⟩, -, -, zd⟩ := od.stp_at (hrL.out d) hsx
              have hbk : backF R d ((b : Nat) : Int) = sx.track :: backF R d' ((cb : Nat) : Int) := by
               rw [hd', backF, Int.toNat_natCast, ← hd', hsxg, hcb]
              have hac2 : (acc ++ [sx.track]) ++ backF R d' ((cb : Nat) : Int) = backF R a ((jj : Nat) : Int) := by
               rw [← hac.out, hbk, List.append_assoc]
               rfl
              have d2 : (0 : Int) < (d : Int) := by omega
              have d3 : (d : Int) < 65 := by omega
              have b2 : (0 : Int) ≤ (b : Int) := by omega
              have b3 : (b : Int) < (NN : Int) := by omega
              have hdd : (d : Int) - 1 = ((d' : Nat) : Int) := by omega
              obtain ⟨w5, hw5, hb5, kX⟩ := al1 wr #[I sx.minutes, I ((cb : Nat) : Int), I sx.track] 130
              obtain ⟨gx, hgx⟩ : ∃ g, wr.heap.size = g := ⟨_, rfl⟩
              have kX' := kX
              rw [hgx] at kX'
              obtain ⟨x0, x1, x2⟩ := kX'.cells3
              have zX := kX'.lt
              rw [hcb] at e1
              have ho5 := hide (ho.out.below hb5)
              have hb6 := hide (hb9.out.trans (hb5.mono hb9.out.size))
              have s6 := hb6.out.size
              replace kX := hide kX'
              replace hsx := hide hsx
              replace hsxg := hide hsxg
              replace hcb := hide hcb
              replace hd' := hide hd'
              replace hdd := hide hdd
              replace hbk := hide hbk
              replace hac2 := hide hac2
              replace hcf := hide hcf
              replace hgd := hide hgd
              replace hlen := hide hlen
              have hal := hlen.out
              clear od ho hb9 hac hf kX' hb5
              go_upto_region 63 with fail
              rw [← hw5]
              clear hw5 e0 e1 e2 cvd zvd zd
              replace hgx := hide hgx
              go_wp2_with (at_builtin; refine wp_push_by el_int intC_len intC_one rfl (.tmp 290) (.tmp 293) rfl v1.heap.size rfl (ho5.out.alloc _) sx.track rfl ?c1 ?c2 ?c3 ?c4 ?_)
              case c1 => exact new_cells rfl _ (intC sx.track)
              case c2 => omega
              case c3 => omega
              case c4 => simp; omega
              intro v' w2 hown hgr
              have kX2 : Blk w2 gx 130 #[I sx.minutes, I ((cb : Nat) : Int), I sx.track] := by
               have q1 := hgr.block gx (Nat.lt_of_lt_of_le zX (by simp)) (own_ne (ho5.out.alloc (.cells #[I sx.track] 3)) (kX.out.alloc (.cells #[I sx.track] 3)) (by decide))
               exact q1.trans (kX.out.alloc _)
              have hbn := hide ((hb6.out.alloc s6 (.cells #[I sx.track] 3)).grown hgr (Nat.le_trans s6 (by simp)) (fun g e => (ownBlock_lt ho5.out g e).1))
              obtain ⟨y0, y1, y2⟩ := kX2.cells3
              have zY := kX2.lt
              replace hown := hide hown
              clear hgr kX2 x0 x1 x2 zX kX
              go_wp2_with fail
              go_roundw
              case rel => exact ⟨d', cb, acc ++ [sx.track], by have := hd'.out; omega, hcbl, congrArg I hdd.out, rfl, hcf, hown, hbn, hac2⟩
              case measure => have := hdd.out; simp [intOf]; omega
end Go.Proofs.YtgbbljfmngmjeaaGreat
