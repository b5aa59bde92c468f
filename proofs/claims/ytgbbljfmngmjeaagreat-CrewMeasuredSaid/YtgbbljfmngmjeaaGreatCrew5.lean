/- The package crew: quickest. Conditions stand in the theorem. -/
import Derived.Test.YtgbbljfmngmjeaaGreatCrew2Pack
import Derived.Test.YtgbbljfmngmjeaaGreatLeafPack
import Derived.Laws.EntriesVeiled
set_option linter.all false
set_option maxHeartbeats 8000000
set_option maxRecDepth 100000
namespace Go.Proofs.YtgbbljfmngmjeaaGreat
open Go.RowKit

theorem fill_set (F Z : Stp) (n k : Nat) (h : k < n) : (List.replicate k F ++ List.replicate (n - k) Z).set k F = List.replicate (k + 1) F ++ List.replicate (n - (k + 1)) Z := by
 refine List.ext_getElem? fun i => ?_
 rw [List.getElem?_set]
 simp only [List.getElem?_append, List.getElem?_replicate, List.length_replicate, List.length_append]
 repeat' split
 all_goals first
  | rfl
  | (exfalso; omega)
theorem start_mod (n start : Nat) : (List.replicate n (⟨farN, -1, -1⟩ : Stp)).modify start (fun s => ⟨0, s.before, s.track⟩) = startF n start := by
 unfold startF
 refine List.ext_getElem? fun i => ?_
 rw [List.getElem?_modify, List.getElem?_set]
 simp only [List.getElem?_replicate, List.length_replicate]
 by_cases h : start = i
 ·subst h
  by_cases h2 : start < n <;> simp [h2]
 ·simp [h]
theorem Own.set_at {α : Type} {w : World} {base e k : Nat} {enc : α → List Value} {v : Value} {xs : List α} (h : Own w base e k enc v xs) {g i : Nat} (hp : g < base) (u : Value) : Own (w.setCell ⟨g, i, none⟩ u) base e k enc v xs := Own.set_below h (p := ⟨g, i, none⟩) hp u

theorem crew_quickest (h base : Nat) (vs vt : Value) (ss : List Site) (ts : List Track) (m : Int → Option Int) (start : Nat) (w : World) (H : HillAt w base h vs vt m) (hs : Sl w 3 Site.cells vs ss) (ht : Sl w 6 Track.cells vt ts) (hr : RangeOk ss ts) (hst : start < ss.length) :
  Calls Tryz.prog 88 #[.pointer (some ⟨h, 0, none⟩), I start] w fun e w' => ∃ g, e = .returned (.slice (some ⟨g, 0, none⟩) ss.length ss.length) ∧ w.heap.size ≤ g ∧ Blk w' g 130 (stArr (quickF ss (openF m ts) start)) ∧ Below w.heap.size w w' := by
 obtain ⟨A, n', rfl, _⟩ := hs.open_
 obtain ⟨A', n'', rfl, _⟩ := ht.open_
 have JO := hide (fun w' (hb : Below w.heap.size w w') => crew_open h base _ _ m ts w' (H.below hb) (ht.mono hb) (fun t ht => (hr.tr ht).steep.2) hr.n2)
 have JE := hide (fun t w' (hb : Below w.heap.size w w') => crew_ends h base _ _ ss m t w' (H.below hb) (hs.mono hb))
 have hmk := fun w' => run_make3 el_step ss.length (by have := hr.n1; omega) (by have := hr.n1; omega) w'
 have n16 := hr.n1
 have hop : ∀ t ∈ openF m ts, 1 ≤ t.minutes ∧ t.minutes ≤ 1440 ∧ pA ss t < ss.length ∧ pB ss t < ss.length ∧ placeS ss t.a = (pA ss t : Nat) ∧ placeS ss t.b = (pB ss t : Nat) := fun t ht2 => by
  have h1 := hr.tr (List.mem_filter.1 ht2).1
  have h2 := placeS_lt h1.a
  have h3 := placeS_lt h1.b
  have h4 := h1.a
  have h5 := h1.b
  unfold pA pB
  exact ⟨h1.minutes.1, h1.minutes.2, by omega, by omega, by omega, by omega⟩
 have hol : (openF m ts).length ≤ 48 := Nat.le_trans (openF_len m ts) hr.n2
 have kHs := hide (fun w' (hb : Below w.heap.size w w') => (show w'.cell? ⟨h, 0, none⟩ = some (.slice A ss.length n') ∧ h < w'.heap.size by obtain ⟨_, g, L, _, kH, _⟩ := H.below hb; exact ⟨kH.cell 0, kH.lt⟩))
 obtain ⟨O, hO⟩ : ∃ O, openF m ts = O := ⟨_, rfl⟩
 rw [hO] at hop hol ⊢
 have JO2 := hide (fun w' hb => hO ▸ JO.out w' hb)
 clear JO
 obtain ⟨N, hN⟩ : ∃ N, ss.length = N := ⟨_, rfl⟩
 have hq : quickF ss O start = relaxN ss O (startF N start) N := by rw [← hN]; rfl
 rw [hq, hN]
 rw [hN] at hmk n16 hst hop kHs
 replace hop := hide hop
 replace hol := hide hol
 replace hO := hide hO
 obtain ⟨r0, z0⟩ := kHs.out w (Below.refl _ _)
 have hst1 : (0 : Int) ≤ (start : Int) := by omega
 have hst2 : (start : Int) < (N : Int) := by omega
 clear H hs ht hr hq hN
 go_enter Tryz.func88, Tryz.ntmps88
 go_wp2_with fail
 clear hmk r0 z0
 obtain ⟨w1, hw1, hb1, kO⟩ := al1 w (stArr (List.replicate N (⟨0, 0, 0⟩ : Stp))) 130
 rw [← hw1]
 clear hw1
 obtain ⟨g, hg⟩ : ∃ g, w.heap.size = g := ⟨_, rfl⟩
 rw [hg] at kO ⊢
 have hgw : w.heap.size ≤ g := by omega
 go_loopw [24] (fun i wr => ∃ k : Nat, k ≤ N ∧ i = I k ∧ Hid (Blk wr g 130 (stArr (List.replicate k (⟨farN, -1, -1⟩ : Stp) ++ List.replicate (N - k) ⟨0, 0, 0⟩))) ∧ Hid (Below w.heap.size w wr)) (fun i _ => N - (intOf i).toNat)
 case atStart => exact ⟨0, Nat.zero_le _, rfl, hide kO, hide hb1⟩
 case round =>
  obtain ⟨k, hk, rfl, ho, hb⟩ := hrel
  by_cases hlt : k < N
  ·obtain ⟨s, hsk⟩ := getElem?_of_lt (xs := List.replicate k (⟨farN, -1, -1⟩ : Stp) ++ List.replicate (N - k) ⟨0, 0, 0⟩) (k := k) (by simp; omega)
   obtain ⟨e0, e1, e2⟩ := stArr_get hsk
   have c0 : wr.cell? ⟨g, k * 3, none⟩ = some (I s.minutes) := (ho.out.cell _).trans e0
   have c1 : wr.cell? ⟨g, k * 3 + 1, none⟩ = some (I s.before) := (ho.out.cell _).trans e1
   have c2 : wr.cell? ⟨g, k * 3 + 2, none⟩ = some (I s.track) := (ho.out.cell _).trans e2
   have f0 := ho.out.frozen (k * 3)
   have f1 := ho.out.frozen (k * 3 + 1)
   have f2 := ho.out.frozen (k * 3 + 2)
   have zg := ho.out.lt
   have k0 : (0 : Int) ≤ (k : Int) := by omega
   have ho2 := hide ((ho.out.set_stp k farN (-1) (-1)))
   rw [fill_set _ _ _ _ hlt] at ho2
   have hb2 := hide (bset (bset (bset hb.out g (k * 3) hgw (I farN)) g (k * 3 + 1) hgw (I (-1))) g (k * 3 + 2) hgw (I (-1)))
   replace hsk := hide hsk
   clear e0 e1 e2 ho hb
   go_wp2_with fail
   go_roundw
   case rel => exact ⟨k + 1, by omega, by go_num, ho2, hb2⟩
   case measure => simp [intOf]; omega
  ·have he : N = k := by omega
   subst he
   have ho1 := ho.out
   rw [Nat.sub_self, List.replicate_zero, List.append_nil] at ho1
   obtain ⟨s0, hs0⟩ := getElem?_of_lt (xs := List.replicate N (⟨farN, -1, -1⟩ : Stp)) (k := start) (by simpa using hst)
   obtain ⟨e0, _, _⟩ := stArr_get hs0
   have c0 : wr.cell? ⟨g, start * 3, none⟩ = some (I s0.minutes) := (ho1.cell _).trans e0
   have f0 := ho1.frozen (start * 3)
   have zg := ho1.lt
   have ho3 := ho1.set_stp0 start 0
   rw [start_mod] at ho3
   have hb3 := bset hb.out g (start * 3) hgw (I 0)
   replace ho3 := hide ho3
   replace hb3 := hide hb3
   replace hs0 := hide hs0
   clear e0 ho1 ho hb
   go_wp2_with fail
   clear c0 f0 zg
   obtain ⟨w3, hw3⟩ : ∃ w3, wr.setCell ⟨g, start * 3, none⟩ (I 0) = w3 := ⟨_, rfl⟩
   rw [hw3] at ho3 hb3 ⊢
   clear hw3
   go_at_call 121
   refine (JO2.out _ hb3.out).mono ?_
   rintro e w4 ⟨vO, rfl, hO4, hb4⟩
   have ho4 := hide (ho3.out.grow hb4)
   have hb5 := bup hb3.out hb4
   obtain ⟨r0, z0⟩ := kHs.out w4 hb5
   have hgt : g < w3.heap.size := ho3.out.lt
   obtain ⟨AO, cO, hvO, _, _, _, hAO⟩ := (hO4.sl Track.cells_len (by have := hol.out; omega)).open_
   subst hvO
   obtain ⟨BO, hBO⟩ : ∃ B, w3.heap.size = B := ⟨_, rfl⟩
   rw [hBO] at hO4 hgt
   replace hO4 := hide hO4
   replace hb5 := hide hb5
   replace hAO := hide hAO
   have hs4 := hb4.size
   clear ho3 hb3 hb4 JO2
   go_wp2_with fail
   clear r0 z0
   go_loopw [44] (fun i wr => ∃ k : Nat, k ≤ N ∧ i = I k ∧ Hid (Blk wr g 130 (stArr (relaxN ss O (startF N start) k))) ∧ Hid (Below w.heap.size w wr) ∧ Hid (Own wr BO 74 6 Track.cells (.slice AO O.length cO) O)) (fun i _ => N - (intOf i).toNat)
   case atStart => exact ⟨0, Nat.zero_le _, rfl, ho4, hb5, hO4⟩
   clear ho4 hb5 hO4 hs4
   case round =>
    obtain ⟨k, hk, rfl, ho, hb, hOw⟩ := hrel
    by_cases hlt : k < N
    ·have hstk := hide (StOk.relaxN (ss := ss) (StOk.start N start) (fun t ht => (show 0 ≤ t.minutes ∧ pA ss t < N ∧ pB ss t < N by have := hop.out t ht; omega)) k)
     obtain ⟨L2, hL2⟩ : ∃ L, relaxN ss O (startF N start) k = L := ⟨_, rfl⟩
     have hsucc : relaxN ss O (startF N start) (k + 1) = O.foldl (relaxT ss) L2 := by rw [← hL2]; rfl
     rw [hL2] at ho hstk
     replace hsucc := hide hsucc
     clear hL2
     go_wp2_with fail
     go_loopw [48] (fun i wr => ∃ k : Nat, k ≤ O.length ∧ i = I k ∧ Hid (Blk wr g 130 (stArr ((O.take k).foldl (relaxT ss) L2))) ∧ Hid (Below w.heap.size w wr) ∧ Hid (Own wr BO 74 6 Track.cells (.slice AO O.length cO) O)) (fun i _ => O.length - (intOf i).toNat)
     case atStart => exact ⟨0, Nat.zero_le _, rfl, ho, hb, hOw⟩
     clear ho hb hOw
     case round =>
      obtain ⟨j, hj, rfl, ho, hb, hOw⟩ := hrel
      by_cases hjl : j < O.length
      ·obtain ⟨bO, oO, rfl, _⟩ := hAO.out j hjl
       obtain ⟨t, htj⟩ := getElem?_of_lt hjl
       obtain ⟨zO, v0, v1, v2, v3, v4, v5⟩ := (hOw.out.sl Track.cells_len (by have := hol.out; omega)).track_at htj
       obtain ⟨hm1, hm2, ha, hb', hpa0, hpb0⟩ := hop.out t (List.mem_of_getElem? htj)
       have hstj := hide (StOk.foldl (ss := ss) (ts := O.take j) hstk.out fun t ht => (show 0 ≤ t.minutes ∧ pA ss t < N ∧ pB ss t < N by have := hop.out t (List.mem_of_mem_take ht); omega))
       have hsn : (O.take (j + 1)).foldl (relaxT ss) L2 = relaxT ss ((O.take j).foldl (relaxT ss) L2) t := by
        rw [List.take_succ_eq_append_getElem hjl, List.foldl_append, (List.getElem?_eq_some_iff.1 htj).2]; rfl
       have JX := JE.out t
       rw [hpa0, hpb0] at JX
       obtain ⟨a, hpa⟩ : ∃ a, pA ss t = a := ⟨_, rfl⟩
       obtain ⟨b, hpb⟩ : ∃ b, pB ss t = b := ⟨_, rfl⟩
       rw [hpa] at JX ha
       rw [hpb] at JX hb'
       have ha0 : (0 : Int) ≤ (a : Int) := by omega
       have hb0 : (0 : Int) ≤ (b : Int) := by omega
       have ha1 : (a : Int) < (N : Int) := by omega
       have hb1' : (b : Int) < (N : Int) := by omega
       obtain ⟨LL, hLL⟩ : ∃ L, (O.take j).foldl (relaxT ss) L2 = L := ⟨_, rfl⟩
       rw [hLL] at ho hsn hstj
       obtain ⟨w5, hw5, hb5, kT⟩ := al1 wr #[I t.no, I t.a, I t.b, I t.minutes, I t.cell, I t.steep] 74
       have zgr := ho.out.lt
       have rT0 : w5.cell? ⟨wr.heap.size, 0, none⟩ = some (I t.no) := kT.cell 0
       have rT1 : w5.cell? ⟨wr.heap.size, 1, none⟩ = some (I t.a) := kT.cell 1
       have rT2 : w5.cell? ⟨wr.heap.size, 2, none⟩ = some (I t.b) := kT.cell 2
       have rT3 : w5.cell? ⟨wr.heap.size, 3, none⟩ = some (I t.minutes) := kT.cell 3
       have rT4 : w5.cell? ⟨wr.heap.size, 4, none⟩ = some (I t.cell) := kT.cell 4
       have rT5 : w5.cell? ⟨wr.heap.size, 5, none⟩ = some (I t.steep) := kT.cell 5
       have zT := kT.lt
       have hbw5 := bup hb.out hb5
       have ho5 := hide (ho.out.grow hb5)
       have hOw5 := hide (hOw.out.below hb5)
       have hgt5 : wr.heap.size ≠ g := by omega
       replace JX := hide JX
       replace hsn := hide hsn
       replace hLL := hide hLL
       replace htj := hide htj
       replace kT := hide kT
       clear hb hpa0 hpb0 hop ho hOw JE
       go_wp2_with fail
       rw [← hw5]
       clear hw5
       go_wp2_with (go_at_call 154; refine (JX.out _ hbw5).mono ?_; rintro e w7 ⟨rfl, hb7⟩)
       have kT7 := hide (kT.out.grow hb7)
       have ho7 := hide (ho5.out.grow hb7)
       have hOw7 := hide (hOw5.out.below hb7)
       have hb8 := hide (bup hbw5 hb7)
       obtain ⟨gt, hgtq⟩ : ∃ gt, wr.heap.size = gt := ⟨_, rfl⟩
       rw [hgtq] at kT7 hgt5 zgr ⊢
       replace hgtq := hide hgtq
       clear v0 v1 v2 v3 v4 v5 rT0 rT1 rT2 rT3 rT4 rT5 zT kT hbw5 ho5 hOw5 hb5 hb7 zO
       replace hgt := hide hgt
       go_loopw [65] (fun i wr => ∃ k : Nat, k ≤ 2 ∧ i = I k ∧ Hid (Blk wr g 130 (stArr (relaxK ss t LL k))) ∧ Hid (Below w.heap.size w wr) ∧ Hid (Blk wr gt 74 #[I t.no, I t.a, I t.b, I t.minutes, I t.cell, I t.steep]) ∧ Hid (Own wr BO 74 6 Track.cells (.slice (some ⟨bO, oO, none⟩) O.length cO) O)) (fun i _ => 2 - (intOf i).toNat)
       case atStart => exact ⟨0, by omega, rfl, ho7, hb8, kT7, hOw7⟩
       clear ho7 hb8 kT7 hOw7
       case round =>
        obtain ⟨k3, hk3, rfl, ho, hb, kT, hOw⟩ := hrel
        have hst4 := hstj.out.relaxK (ss := ss) (t := t) (by omega) (by rw [hpa]; exact ha) (by rw [hpb]; exact hb') k3
        obtain ⟨L, hL⟩ : ∃ L, relaxK ss t LL k3 = L := ⟨_, rfl⟩
        rw [hL] at ho hst4
        have zg := ho.out.lt
        have hha := ha
        have hhb := hb'
        rcases k3 with _ | _ | _ | k3
        ·have zk : (0 : Int) < 2 := by omega
         obtain ⟨sx, hsx, hgx, hx0, hx1⟩ := hst4.at_ hha
         obtain ⟨sy, hsy, hgy, hy0, hy1⟩ := hst4.at_ hhb
         obtain ⟨ex, _, _⟩ := stArr_get hsx
         obtain ⟨e0, e1, e2⟩ := stArr_get hsy
         have cx : wr.cell? ⟨g, a * 3, none⟩ = some (I sx.minutes) := (ho.out.cell _).trans ex
         have c0 : wr.cell? ⟨g, b * 3, none⟩ = some (I sy.minutes) := (ho.out.cell _).trans e0
         have c1 : wr.cell? ⟨g, b * 3 + 1, none⟩ = some (I sy.before) := (ho.out.cell _).trans e1
         have c2 : wr.cell? ⟨g, b * 3 + 2, none⟩ = some (I sy.track) := (ho.out.cell _).trans e2
         have hrx : relax1 L a b t.minutes t.no = if sx.minutes + t.minutes < sy.minutes then L.set b ⟨sx.minutes + t.minutes, (a : Nat), t.no⟩ else L := by rw [relax1, hgx, hgy]
         have hnx : relaxK ss t LL 1 = relax1 L a b t.minutes t.no := by rw [← hL]; simp only [relaxK, hpa, hpb]
         clear e0 e1 e2 ex hgx hgy
         replace hsx := hide hsx
         replace hsy := hide hsy
         replace hL := hide hL
         have hix := fun w => pairs_ix0 (a : Int) (b : Int) w
         obtain ⟨w6, hw6, hb6, kX⟩ := al1 wr #[I a, I b] 203
         have ho6 := hide (ho.out.grow hb6)
         have kT6 := hide (kT.out.grow hb6)
         have hb7 := hide (bup hb.out hb6)
         have hOw6 := hide (hOw.out.below hb6)
         obtain ⟨q0, q1⟩ := kX.cells2
         have zX := kX.lt
         have zg6 := ho6.out.lt
         have cx6 : w6.cell? ⟨g, a * 3, none⟩ = some (I sx.minutes) := (hb6.cell (p := ⟨g, a * 3, none⟩) zg).trans cx
         have t3 : w6.cell? ⟨gt, 3, none⟩ = some (I t.minutes) := kT6.out.cell 3
         have zT6 := kT6.out.lt
         have c06 : w6.cell? ⟨g, b * 3, none⟩ = some (I sy.minutes) := (hb6.cell (p := ⟨g, b * 3, none⟩) zg).trans c0
         have c16 : w6.cell? ⟨g, b * 3 + 1, none⟩ = some (I sy.before) := (hb6.cell (p := ⟨g, b * 3 + 1, none⟩) zg).trans c1
         have c26 : w6.cell? ⟨g, b * 3 + 2, none⟩ = some (I sy.track) := (hb6.cell (p := ⟨g, b * 3 + 2, none⟩) zg).trans c2
         replace kX := hide kX
         clear cx c0 c1 c2 hst4 ho hb kT hOw
         go_wp2_with fail
         rw [← hw6]
         clear hw6 hb6
         (refine wp_grow ?_; (repeat go_big_quiet_step (fail)); refine wp_grow0 ?_; intro W1 hW1)
         clear q0 q1 zX t3 zT6 cx6
         have ho8 := ho6.out.grow hW1
         have kT8 := kT6.out.grow hW1
         have hb8 := bup hb7.out hW1
         have hOw8 := hOw6.out.below hW1
         obtain ⟨q0, q1⟩ := (kX.out.grow hW1).cells2
         have zX := (kX.out.grow hW1).lt
         have zg8 := ho8.lt
         have c08 : W1.cell? ⟨g, b * 3, none⟩ = some (I sy.minutes) := (hW1.cell (p := ⟨g, b * 3, none⟩) zg6).trans c06
         clear c06
         rcases ilt (sx.minutes + t.minutes) sy.minutes with hlt9 | hge9
         ·rw [if_pos hlt9] at hrx
          rw [hrx] at hnx
          have c18 : W1.cell? ⟨g, b * 3 + 1, none⟩ = some (I sy.before) := (hW1.cell (p := ⟨g, b * 3 + 1, none⟩) zg6).trans c16
          have c28 : W1.cell? ⟨g, b * 3 + 2, none⟩ = some (I sy.track) := (hW1.cell (p := ⟨g, b * 3 + 2, none⟩) zg6).trans c26
          have f0 := ho8.frozen (b * 3)
          have f1 := ho8.frozen (b * 3 + 1)
          have f2 := ho8.frozen (b * 3 + 2)
          have t0 : W1.cell? ⟨gt, 0, none⟩ = some (I t.no) := kT8.cell 0
          have zT8 := kT8.lt
          have hoN := hide (ho8.set_stp b (sx.minutes + t.minutes) (a : Nat) t.no)
          have hbN := hide (bset (bset (bset hb8 g (b * 3) hgw (I (sx.minutes + t.minutes))) g (b * 3 + 1) hgw (I (a : Nat))) g (b * 3 + 2) hgw (I t.no))
          have kTN := hide (((kT8.far (p := ⟨g, b * 3, none⟩) hgt5 (I (sx.minutes + t.minutes))).far (p := ⟨g, b * 3 + 1, none⟩) hgt5 (I (a : Nat))).far (p := ⟨g, b * 3 + 2, none⟩) hgt5 (I t.no))
          have hOwN := hide (((hOw8.set_at (i := b * 3) hgt.out (I (sx.minutes + t.minutes))).set_at (i := b * 3 + 1) hgt.out (I (a : Nat))).set_at (i := b * 3 + 2) hgt.out (I t.no))
          replace hW1 := hide hW1
          clear ho8 kT8 hb8 hOw8 ho6 kT6 hb7 hOw6 c16 c26
          go_wp2_with fail
          go_roundw
          case rel => exact ⟨1, by omega, rfl, by rw [hnx]; exact ⟨hoN, hbN, kTN, hOwN⟩⟩
          case measure => simp [intOf]
         ·rw [if_neg (by omega)] at hrx
          rw [hrx] at hnx
          have hge9' : decide (sx.minutes + t.minutes < sy.minutes) = false := by simp; omega
          replace hge9 := hide hge9
          replace ho8 := hide ho8
          replace kT8 := hide kT8
          replace hb8 := hide hb8
          replace hOw8 := hide hOw8
          replace hW1 := hide hW1
          clear ho6 kT6 hb7 hOw6 c16 c26
          go_wp2_with fail
          go_roundw
          case rel => exact ⟨1, by omega, rfl, by rw [hnx]; exact ⟨ho8, hb8, kT8, hOw8⟩⟩
          case measure => simp [intOf]
        ·have zk : (1 : Int) < 2 := by omega
         obtain ⟨sx, hsx, hgx, hx0, hx1⟩ := hst4.at_ hhb
         obtain ⟨sy, hsy, hgy, hy0, hy1⟩ := hst4.at_ hha
         obtain ⟨ex, _, _⟩ := stArr_get hsx
         obtain ⟨e0, e1, e2⟩ := stArr_get hsy
         have cx : wr.cell? ⟨g, b * 3, none⟩ = some (I sx.minutes) := (ho.out.cell _).trans ex
         have c0 : wr.cell? ⟨g, a * 3, none⟩ = some (I sy.minutes) := (ho.out.cell _).trans e0
         have c1 : wr.cell? ⟨g, a * 3 + 1, none⟩ = some (I sy.before) := (ho.out.cell _).trans e1
         have c2 : wr.cell? ⟨g, a * 3 + 2, none⟩ = some (I sy.track) := (ho.out.cell _).trans e2
         have hrx : relax1 L b a t.minutes t.no = if sx.minutes + t.minutes < sy.minutes then L.set a ⟨sx.minutes + t.minutes, (b : Nat), t.no⟩ else L := by rw [relax1, hgx, hgy]
         have hnx : relaxK ss t LL 2 = relax1 L b a t.minutes t.no := by rw [← hL]; simp only [relaxK, hpa, hpb]
         clear e0 e1 e2 ex hgx hgy
         replace hsx := hide hsx
         replace hsy := hide hsy
         replace hL := hide hL
         have hix := fun w => pairs_ix1 (a : Int) (b : Int) w
         obtain ⟨w6, hw6, hb6, kX⟩ := al1 wr #[I b, I a] 203
         have ho6 := hide (ho.out.grow hb6)
         have kT6 := hide (kT.out.grow hb6)
         have hb7 := hide (bup hb.out hb6)
         have hOw6 := hide (hOw.out.below hb6)
         obtain ⟨q0, q1⟩ := kX.cells2
         have zX := kX.lt
         have zg6 := ho6.out.lt
         have cx6 : w6.cell? ⟨g, b * 3, none⟩ = some (I sx.minutes) := (hb6.cell (p := ⟨g, b * 3, none⟩) zg).trans cx
         have t3 : w6.cell? ⟨gt, 3, none⟩ = some (I t.minutes) := kT6.out.cell 3
         have zT6 := kT6.out.lt
         have c06 : w6.cell? ⟨g, a * 3, none⟩ = some (I sy.minutes) := (hb6.cell (p := ⟨g, a * 3, none⟩) zg).trans c0
         have c16 : w6.cell? ⟨g, a * 3 + 1, none⟩ = some (I sy.before) := (hb6.cell (p := ⟨g, a * 3 + 1, none⟩) zg).trans c1
         have c26 : w6.cell? ⟨g, a * 3 + 2, none⟩ = some (I sy.track) := (hb6.cell (p := ⟨g, a * 3 + 2, none⟩) zg).trans c2
         replace kX := hide kX
         clear cx c0 c1 c2 hst4 ho hb kT hOw
         go_wp2_with fail
         rw [← hw6]
         clear hw6 hb6
         (refine wp_grow ?_; (repeat go_big_quiet_step (fail)); refine wp_grow0 ?_; intro W1 hW1)
         clear q0 q1 zX t3 zT6 cx6
         have ho8 := ho6.out.grow hW1
         have kT8 := kT6.out.grow hW1
         have hb8 := bup hb7.out hW1
         have hOw8 := hOw6.out.below hW1
         obtain ⟨q0, q1⟩ := (kX.out.grow hW1).cells2
         have zX := (kX.out.grow hW1).lt
         have zg8 := ho8.lt
         have c08 : W1.cell? ⟨g, a * 3, none⟩ = some (I sy.minutes) := (hW1.cell (p := ⟨g, a * 3, none⟩) zg6).trans c06
         clear c06
         rcases ilt (sx.minutes + t.minutes) sy.minutes with hlt9 | hge9
         ·rw [if_pos hlt9] at hrx
          rw [hrx] at hnx
          have c18 : W1.cell? ⟨g, a * 3 + 1, none⟩ = some (I sy.before) := (hW1.cell (p := ⟨g, a * 3 + 1, none⟩) zg6).trans c16
          have c28 : W1.cell? ⟨g, a * 3 + 2, none⟩ = some (I sy.track) := (hW1.cell (p := ⟨g, a * 3 + 2, none⟩) zg6).trans c26
          have f0 := ho8.frozen (a * 3)
          have f1 := ho8.frozen (a * 3 + 1)
          have f2 := ho8.frozen (a * 3 + 2)
          have t0 : W1.cell? ⟨gt, 0, none⟩ = some (I t.no) := kT8.cell 0
          have zT8 := kT8.lt
          have hoN := hide (ho8.set_stp a (sx.minutes + t.minutes) (b : Nat) t.no)
          have hbN := hide (bset (bset (bset hb8 g (a * 3) hgw (I (sx.minutes + t.minutes))) g (a * 3 + 1) hgw (I (b : Nat))) g (a * 3 + 2) hgw (I t.no))
          have kTN := hide (((kT8.far (p := ⟨g, a * 3, none⟩) hgt5 (I (sx.minutes + t.minutes))).far (p := ⟨g, a * 3 + 1, none⟩) hgt5 (I (b : Nat))).far (p := ⟨g, a * 3 + 2, none⟩) hgt5 (I t.no))
          have hOwN := hide (((hOw8.set_at (i := a * 3) hgt.out (I (sx.minutes + t.minutes))).set_at (i := a * 3 + 1) hgt.out (I (b : Nat))).set_at (i := a * 3 + 2) hgt.out (I t.no))
          replace hW1 := hide hW1
          clear ho8 kT8 hb8 hOw8 ho6 kT6 hb7 hOw6 c16 c26
          go_wp2_with fail
          go_roundw
          case rel => exact ⟨2, by omega, rfl, by rw [hnx]; exact ⟨hoN, hbN, kTN, hOwN⟩⟩
          case measure => simp [intOf]
         ·rw [if_neg (by omega)] at hrx
          rw [hrx] at hnx
          have hge9' : decide (sx.minutes + t.minutes < sy.minutes) = false := by simp; omega
          replace hge9 := hide hge9
          replace ho8 := hide ho8
          replace kT8 := hide kT8
          replace hb8 := hide hb8
          replace hOw8 := hide hOw8
          replace hW1 := hide hW1
          clear ho6 kT6 hb7 hOw6 c16 c26
          go_wp2_with fail
          go_roundw
          case rel => exact ⟨2, by omega, rfl, by rw [hnx]; exact ⟨ho8, hb8, kT8, hOw8⟩⟩
          case measure => simp [intOf]
        ·have hfin : relaxT ss LL t = L := hL
         replace hL := hide hL
         replace hfin := hide hfin
         go_wp2_with fail
         go_roundw
         case rel => exact ⟨j + 1, by omega, by go_num, by rw [hsn.out, hfin.out]; exact ho, hb, hOw⟩
         case measure => simp [intOf]; omega
        ·omega
      ·have he : j = O.length := by omega
       subst he
       rw [List.take_length] at ho
       rw [← hsucc.out] at ho
       go_wp2_with fail
       go_roundw
       case rel => exact ⟨k + 1, by omega, by go_num, ho, hb, hOw⟩
       case measure => simp [intOf]; omega
    ·have he : k = N := by omega
     subst he
     go_wp2_with fail
     go_ret
     exact ⟨g, rfl, hgw, ho.out, hb.out⟩
end Go.Proofs.YtgbbljfmngmjeaaGreat
