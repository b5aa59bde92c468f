/- Lists of springs: all of them, and whether they are valid. Conditions stand in the theorems. -/
import Derived.Test.YtifeniiefhpadaaGreatDoorRowKit5
import Derived.Test.YtifeniiefhpadaaGreatDoorSpring9Pack
import Derived.Test.YtifeniiefhpadaaGreatDoorBasePack
import Derived.Test.YtifeniiefhpadaaGreatDoorRepeatPack
set_option linter.all false
set_option maxHeartbeats 4000000
set_option maxRecDepth 100000
namespace Go.Proofs.YtifeniiefhpadaaGreatDoor
open Go.RowKit

theorem SprL.cells_len (x : SprL) : x.cells.length = 2 := rfl
theorem Sl.sprl_at {w : World} {b off c : Nat} {xs : List SprL} (h : Sl w 2 SprL.cells (.slice (some ⟨b, off, none⟩) xs.length c) xs) {i : Nat} {x : SprL} (hx : xs[i]? = some x) :
  b < w.heap.size ∧ w.cell? ⟨b, off + i * 2, none⟩ = some (I x.no) ∧ w.cell? ⟨b, off + i * 2 + 1, none⟩ = some x.dv := by
 obtain ⟨h1, h2⟩ := h.cells_ hx
 exact ⟨h1, by simpa using h2 0 _ rfl, h2 1 _ rfl⟩
theorem indexFunc_SprL (v : Value) (xs : List SprL) (g : Nat) (cap : Array Value) (p : SprL → Bool) (w : World) (hv : Sl w 2 SprL.cells v xs) (eg : ∀ args w, (callFunc g args).run Tryz.prog w = .ok (.enter g args) w)
  (hp : Gives Tryz.prog g cap (fun x => .agg #[I x.no, x.dv]) p w xs) : Calls Tryz.prog 116 #[v, .func (.func g) #[] cap] w fun e w' => e = .returned (I (idxBy p xs)) ∧ Below w.heap.size w w' := by
 obtain ⟨A, c, rfl, _, _, hlen, hA⟩ := hv.open_
 replace hv := hide hv
 replace hp := hide hp
 replace hA := hide hA
 go_enter Tryz.func116, Tryz.ntmps116
 go_wp2_with fail
 go_loopw [5, 8] (fun v i wr => ∃ k : Nat, k ≤ xs.length ∧ i = I k ∧ Hid (NoneTo p xs k) ∧ Below w.heap.size w wr) (fun _ i _ => xs.length - (intOf i).toNat)
 case atStart => exact ⟨0, Nat.zero_le _, rfl, hide (NoneTo.zero _ _), Below.refl _ _⟩
 case round =>
  obtain ⟨k, hk, rfl, hn, hb⟩ := hrel
  by_cases hlt : k < xs.length
  ·obtain ⟨b, off, rfl, hbw⟩ := hA.out k hlt
   obtain ⟨x, hx⟩ := getElem?_of_lt hlt
   obtain ⟨_, h0, h1⟩ := ((unhide hv).mono hb).sprl_at hx
   have hcall := (unhide hp) wr x (List.mem_of_getElem? hx) hb
   replace hx := hide hx
   clear hA hv hp
   cases hq : p x with
   | true =>
    rw [hq] at hcall
    have H := hide hcall
    replace hq := hide hq
    clear hcall
    go_wp2_with (go_at_fn g; refine (unhide H).mono ?_; rintro e w' ⟨rfl, hb1⟩)
    go_ret
    exact ⟨ret_int (((unhide hn).found hx.out hq.out).symm), hb.trans (hb1.mono hb.size)⟩
   | false =>
    rw [hq] at hcall
    have H := hide hcall
    replace hq := hide hq
    clear hcall
    go_wp2_with (go_at_fn g; refine (unhide H).mono ?_; rintro e w' ⟨rfl, hb1⟩)
    go_roundw
    case rel => exact ⟨k + 1, by omega, by go_num, hide ((unhide hn).succ hx.out hq.out), hb.trans (hb1.mono hb.size)⟩
    case measure => simp [intOf]; omega
  ·have he : k = xs.length := by omega
   subst he
   clear hA
   go_wp2_with fail
   go_ret
   exact ⟨ret_int ((unhide hn).missed.symm), hb⟩
theorem containsFunc_SprL (v : Value) (xs : List SprL) (g : Nat) (cap : Array Value) (p : SprL → Bool) (w : World) (hv : Sl w 2 SprL.cells v xs) (eg : ∀ args w, (callFunc g args).run Tryz.prog w = .ok (.enter g args) w)
  (hp : Gives Tryz.prog g cap (fun x => .agg #[I x.no, x.dv]) p w xs) : Calls Tryz.prog 102 #[v, .func (.func g) #[] cap] w fun e w' => e = .returned (.bool (xs.any p)) ∧ Below w.heap.size w w' := by
 have hc := hide (indexFunc_SprL v xs g cap p w hv eg hp)
 have hf := hide (idxBy_nonneg p xs)
 clear hv hp eg
 go_enter Tryz.func102, Tryz.ntmps102
 go_wp2_with (go_at_call 116; refine (unhide hc).mono ?_; generalize idxBy p xs = r at hf ⊢; rintro e w' ⟨rfl, hb⟩)
 go_ret
 exact ⟨ret_bool (by rw [← hf.out]), hb⟩
theorem all1_SprL (g : Nat) (cap : Array Value) (p : SprL → Bool) (w : World) (xs : List SprL) (B : Nat) (eg : ∀ args w, (callFunc g args).run Tryz.prog w = .ok (.enter g args) w)
  (hB : w.cell? ⟨B, 0, none⟩ = some (.func (.func g) #[] cap)) (hBw : B < w.heap.size) (hp : Gives Tryz.prog g cap (fun x : SprL => .agg #[I x.no, x.dv]) p w xs) :
  Gives Tryz.prog 103 #[.pointer (some ⟨B, 0, none⟩)] (fun x : SprL => .agg #[I x.no, x.dv]) (fun x => !p x) w xs := by
 intro W x hx hb
 have H := fun (o : Obj) => hp (W.alloc o) x hx (bup hb (below1 _ _))
 have hc' := (hb.cell (p := ⟨B, 0, none⟩) hBw).trans hB
 have hB' : B < W.heap.size := Nat.lt_of_lt_of_le hBw hb.size
 obtain ⟨q, hq⟩ : ∃ q, p x = q := ⟨_, rfl⟩
 simp only [hq] at H ⊢
 replace H := hide H
 clear hp hB hBw hq
 go_enter Tryz.func103, Tryz.ntmps103
 go_wp2_with (go_at_fn g; refine (H.out _).mono ?_; rintro e w' ⟨rfl, hb1⟩)
 go_ret
 exact ⟨rfl, bup (below1 _ _) hb1⟩
theorem all_SprL (v : Value) (xs : List SprL) (g : Nat) (cap : Array Value) (p : SprL → Bool) (w : World) (hv : Sl w 2 SprL.cells v xs) (eg : ∀ args w, (callFunc g args).run Tryz.prog w = .ok (.enter g args) w)
  (hp : Gives Tryz.prog g cap (fun x : SprL => .agg #[I x.no, x.dv]) p w xs) :
  Calls Tryz.prog 78 #[v, .func (.func g) #[] cap] w fun e w' => e = .returned (.bool (xs.all p)) ∧ Below w.heap.size w w' := by
 have hfin := hide (all_any_not p xs)
 replace hv := hide hv
 replace hp := hide hp
 go_enter Tryz.func78, Tryz.ntmps78
 go_wp2_with fail
 go_at_call 102
 refine (containsFunc_SprL _ xs _ _ (fun x => !p x) _ (hv.out.mono (below1 _ _)) (enters_of Tryz.func103 (by kernel_rfl) rfl) (all1_SprL g cap p _ xs _ eg (by simp [go_sem]) (by simp) (hp.out.mono (below1 _ _)))).mono ?_
 generalize xs.any (fun x => !p x) = q at hfin ⊢
 rintro e w' ⟨rfl, hb⟩
 go_wp2
 go_ret
 exact ⟨ret_bool hfin.out, bup (below1 _ _) hb⟩


def sprsE (c : Climate) (xs : List SprL) : Int := if xs.all (fun x => decide (springE c x.spring = 0)) = false then 62 else if 16 < xs.length then 2 else 0
theorem springy1 (c : Climate) (xs : List SprL) (bC : Nat) (w : World) (hs : ∀ x ∈ xs, Sl w 3 Weather.cells x.dv x.days) (kC : Blk w bC 25 (c8 c)) :
  Gives Tryz.prog 79 #[.pointer (some ⟨bC, 0, none⟩)] (fun x : SprL => .agg #[I x.no, x.dv]) (fun x => decide (springE c x.spring = 0)) w xs := by
 intro W x hx hb
 have J := fun W' hv => spring_CheckSpring c x.no x.dv x.days W' hv
 have hv := (hs x hx).mono hb
 have kC2 := kC.grow hb
 show Calls Tryz.prog 79 #[.agg #[I x.no, x.dv], .pointer (some ⟨bC, 0, none⟩)] W fun e w' => e = .returned (.bool (decide (springE c ⟨x.no, x.days⟩ = 0))) ∧ Below W.heap.size W w'
 obtain ⟨A, n, hdv, _⟩ := hv.open_
 rw [hdv] at J hv ⊢
 obtain ⟨E, hE⟩ : ∃ e, springE c ⟨x.no, x.days⟩ = e := ⟨_, rfl⟩
 rw [hE] at J ⊢
 clear hE hdv hs kC
 obtain ⟨r0, r1, r2, r3, r4, r5, r6, r7⟩ := kC2.cells8
 have z := kC2.lt
 (try unfold Climate.v at *)
 replace J := hide J
 replace hv := hide hv
 by_cases h0 : E = 0
 ·subst h0
  go_enter Tryz.func79, Tryz.ntmps79
  go_wp2_with (go_at_call 29; refine (J.out _ (hv.out.mono (below1 _ _))).mono ?_; rintro e w1 ⟨rfl, hb1⟩)
  go_ret
  exact ⟨rfl, bup (below1 _ _) hb1⟩
 ·have h1 : (E == 0) = false := by simpa using h0
  have h2 : decide (E = 0) = false := by simpa using h0
  rw [h2]
  go_enter Tryz.func79, Tryz.ntmps79
  go_wp2_with (go_at_call 29; refine (J.out _ (hv.out.mono (below1 _ _))).mono ?_; rintro e w1 ⟨rfl, hb1⟩)
  go_ret
  exact ⟨rfl, bup (below1 _ _) hb1⟩
theorem spring_springy (c : Climate) (v : Value) (xs : List SprL) (w : World) (hv : SprsAt w v xs) :
  Calls Tryz.prog 40 #[c.v, v] w fun e w' => e = .returned (I (sprsE c xs)) ∧ Below w.heap.size w w' := by
 obtain ⟨A, n, rfl, _, _, hlen, _⟩ := hv.1.open_
 have HA := fun (p : SprL → Bool) g cap w hv eg hp => all_SprL (.slice A xs.length n) xs g cap p w hv eg hp
 have HG := fun bC w hs kC => springy1 c xs bC w hs kC
 have hE : sprsE c xs = if xs.all (fun x => decide (springE c x.spring = 0)) = false then 62 else if 16 < xs.length then 2 else 0 := rfl
 obtain ⟨p, hpp⟩ : ∃ p : SprL → Bool, (fun x : SprL => decide (springE c x.spring = 0)) = p := ⟨_, rfl⟩
 rw [hpp] at HG hE
 obtain ⟨R, hR⟩ : ∃ R, sprsE c xs = R := ⟨_, rfl⟩
 rw [hR] at hE ⊢
 clear hR hpp
 obtain ⟨q, hq⟩ : ∃ q, xs.all p = q := ⟨_, rfl⟩
 replace HA := hide (HA p)
 rw [hq] at HA hE
 clear hq
 replace hE := hide hE
 replace HG := hide HG
 replace hv := hide hv
 unfold Climate.v
 go_enter Tryz.func40, Tryz.ntmps40
 go_wp2_with fail
 go_at_call 78
 refine (HA.out _ _ _ (hv.out.1.mono (below1 _ _)) (enters_of Tryz.func79 (by kernel_rfl) rfl) (HG.out _ _ (fun x hx => (hv.out.2 x hx).mono (below1 _ _)) (Blk.new _ _ _))).mono ?_
 clear HA HG
 rintro e w1 ⟨rfl, hb1⟩
 cases q with
 | false =>
  go_wp2_with fail
  go_ret
  exact ⟨ret_int hE.out.symm, bup (below1 _ _) hb1⟩
 | true =>
  rcases Nat.lt_or_ge 16 xs.length with h | h
  ·have h2 : (16 : Int) < (xs.length : Int) := by omega
   have h3 : R = 2 := by rw [hE.out, if_neg (by simp), if_pos h]
   replace h3 := hide h3
   go_wp2_with fail
   go_ret
   exact ⟨ret_int h3.out.symm, bup (below1 _ _) hb1⟩
  ·have h2 : (xs.length : Int) ≤ 16 := by omega
   have h3 : R = 0 := by rw [hE.out, if_neg (by simp), if_neg (by omega)]
   replace h3 := hide h3
   go_wp2_with fail
   go_ret
   exact ⟨ret_int h3.out.symm, bup (below1 _ _) hb1⟩

theorem left_pair {xs : List SprL} {k : Nat} {x y : SprL} (hx : xs[k]? = some x) (hy : xs[k + 1]? = some y) : risesAt (xs.map SprL.no) (k + 1) = decide (x.no < y.no) := by
 unfold risesAt
 rw [List.getD_eq_getElem?_getD, List.getD_eq_getElem?_getD]
 simp [hx, hy]
theorem left_one (xs : List SprL) : ∀ j, j < 1 → risesAt (xs.map SprL.no) j = true := fun j hj => by
 obtain rfl : j = 0 := by omega
 rfl
def leftE (c : Climate) (l : List Weather) (xs : List SprL) : Int := if logE c l ≠ 0 then logE c l else if sprsE c xs ≠ 0 then sprsE c xs else if risingB (xs.map SprL.no) = false then 1 else 0
def leftF (c : Climate) (l : List Weather) (xs : List SprL) : List Int := (xs.filter fun x => agreesB c l x.days).map SprL.no
def leftV (c : Climate) (l : List Weather) (xs : List SprL) : List Int := if leftE c l xs = 0 then leftF c l xs else []
theorem leftF_snoc {c : Climate} {l : List Weather} {xs : List SprL} {k : Nat} {x : SprL} (hx : xs[k]? = some x) : leftF c l (xs.take (k + 1)) = leftF c l (xs.take k) ++ (if agreesB c l x.days = true then [x.no] else []) := by
 unfold leftF
 rw [take_succ_of hx, List.filter_append, List.map_append]
 congr 1
 simp only [List.filter_cons, List.filter_nil]
 split <;> simp
theorem leftF_len (c : Climate) (l : List Weather) (xs : List SprL) : (leftF c l xs).length ≤ xs.length := by
 unfold leftF
 rw [List.length_map]
 exact List.length_filter_le ..
theorem sprsE_zero {c : Climate} {xs : List SprL} (h : sprsE c xs = 0) : (∀ x ∈ xs, SprOk c ⟨x.no, x.days⟩) ∧ xs.length ≤ 16 := by
 unfold sprsE at h
 split at h
 ·cases h
 rename_i h1
 split at h
 ·cases h
 rename_i h2
 refine ⟨fun x hx => ?_, by omega⟩
 have h3 : xs.all (fun x => decide (springE c x.spring = 0)) = true := by simpa using h1
 have := List.all_eq_true.1 h3 x hx
 exact SprOk.of (of_decide_eq_true this)
theorem spring_Left (c : Climate) (v vs : Value) (l : List Weather) (xs : List SprL) (w : World) (hv : Sl w 3 Weather.cells v l) (hs : SprsAt w vs xs) :
  Calls Tryz.prog 13 #[c.v, v, vs] w fun e w' => ∃ vr, e = .returned (.tuple #[vr, I (leftE c l xs)]) ∧ Own w' w.heap.size 3 1 intC vr (leftV c l xs) ∧ Below w.heap.size w w' := by
 have H1 := fun w hv => spring_CheckLog c v l w hv
 obtain ⟨A, n, rfl, _, _, hlen, hA⟩ := hs.1.open_
 have H2 := fun w hs => spring_springy c (.slice A xs.length n) xs w hs
 by_cases hE : logE c l = 0
 ·by_cases hS : sprsE c xs = 0
  ·have hlo := LogOk.of hE
   obtain ⟨hso, hx16⟩ := sprsE_zero hS
   replace hso := hide hso
   rw [hE] at H1
   rw [hS] at H2
   have hL1 : risingB (xs.map SprL.no) = false → leftE c l xs = 1 ∧ leftV c l xs = [] := fun h => by
    have : leftE c l xs = 1 := by simp [leftE, hE, hS, h]
    exact ⟨this, by simp [leftV, this]⟩
   have hL0 : risingB (xs.map SprL.no) = true → leftE c l xs = 0 ∧ leftV c l xs = leftF c l xs := fun h => by
    have : leftE c l xs = 0 := by simp [leftE, hE, hS, h]
    exact ⟨this, by simp [leftV, this]⟩
   have HA := hide (fun (x : SprL) (hx : x ∈ xs) w hv hd => spring_agrees c v x.dv l x.days w hlo.clim hlo.mem (hso.out x hx).n1 (hso.out x hx).n2 hv hd)
   obtain ⟨le, hle⟩ : ∃ e, leftE c l xs = e := ⟨_, rfl⟩
   obtain ⟨lv, hlv⟩ : ∃ e, leftV c l xs = e := ⟨_, rfl⟩
   rw [hle, hlv] at hL1 hL0 ⊢
   clear hle hlv hE hS
   (try unfold Climate.v at *)
   replace hL1 := hide hL1
   replace hL0 := hide hL0
   replace hv := hide hv
   replace hs := hide hs
   replace hA := hide hA
   replace H1 := hide H1
   replace H2 := hide H2
   replace hlo := hide hlo
   go_enter Tryz.func13, Tryz.ntmps13
   go_wp2_with (first | (go_at_call 9; refine (H1.out _ (hv.out.mono (below1 _ _))).mono ?_; clear H1; rintro e w1 ⟨rfl, hb1⟩; obtain ⟨_, q0, q1, q2, q3, q4, q5, q6, q7⟩ := ((Blk.new w 25 (c8 c)).grow hb1).clim) | (go_at_call 40; refine (H2.out _ (hs.out.mono (bup (below1 _ _) hb1))).mono ?_; clear H2; rintro e w2 ⟨rfl, hb2⟩))
   have kC := hide (((Blk.new w 25 (c8 c)).grow hb1).grow hb2)
   have kB := hide (bup (bup (below1 _ _) hb1) hb2)
   have hzz : w.heap.size + 1 ≤ w2.heap.size := by have := hb1.size; have := hb2.size; simp at *; omega
   clear hb1 hb2 q0 q1 q2 q3 q4 q5 q6 q7
   go_loopw [10] (fun i wr => ∃ k : Nat, (k ≤ xs.length ∨ k = 1) ∧ 1 ≤ k ∧ i = I k ∧ Hid (∀ j, j < k → risesAt (xs.map SprL.no) j = true) ∧ Hid (Below w2.heap.size w2 wr)) (fun i _ => xs.length - (intOf i).toNat)
   case atStart => exact ⟨1, .inr rfl, Nat.le_refl _, rfl, hide (left_one xs), hide (Below.refl _ _)⟩
   case round =>
    obtain ⟨k, hk0, hk1, rfl, hall, hbw⟩ := hrel
    by_cases hlt : k < xs.length
    ·obtain ⟨m, hm⟩ : ∃ m, k = m + 1 := ⟨k - 1, by omega⟩
     obtain ⟨b, off, rfl, hbb⟩ := hA.out m (by omega)
     obtain ⟨x, hx⟩ := getElem?_of_lt (xs := xs) (k := m) (by omega)
     obtain ⟨y, hy⟩ := getElem?_of_lt hlt
     have hsw := hs.out.1.mono (bup kB.out hbw.out)
     obtain ⟨z1, e0, e1⟩ := hsw.sprl_at hx
     obtain ⟨_, f0, f1⟩ := hsw.sprl_at hy
     clear hsw
     have k1 : IntKind.i64.wrap ((k : Int) - 1) = (m : Int) := by rw [IntWalk.i64_in _ (by omega)]; omega
     have k2 : (0 : Int) ≤ (m : Int) := by omega
     have k3 : (m : Int) < (xs.length : Int) := by omega
     have k4 : (k : Int) < (xs.length : Int) := by omega
     have k5 : (0 : Int) < (k : Int) := by omega
     have hp := left_pair hx (by rw [← hm]; exact hy)
     rw [← hm] at hp
     replace hm := hide hm
     replace hx := hide hx
     replace hy := hide hy
     rcases ilt x.no y.no with g | g
     ·rw [decide_eq_true g] at hp
      replace hp := hide hp
      go_wp2_with fail
      (refine wp_grow ?_; (repeat go_big_quiet_step (fail)); refine wp_grow0 ?_; intro W1 hW1)
      go_wp2_with fail
      go_roundw
      case rel => exact ⟨k + 1, .inl (by omega), by omega, by go_num, hide (fun j hj => by
       rcases Nat.lt_or_ge j k with hj2 | hj2
       ·exact hall.out j hj2
       ·obtain rfl : j = k := by omega
        exact hp.out), hide (bup hbw.out hW1)⟩
      case measure => simp [intOf]; omega
     ·rw [decide_eq_false (by omega)] at hp
      have hbad : risingB (xs.map SprL.no) = false := by
       unfold risingB
       rw [List.all_eq_false]
       exact ⟨k, List.mem_range.2 (by rw [List.length_map]; omega), by rw [hp]; simp⟩
      obtain ⟨r1, r2⟩ := hL1.out hbad
      subst r1 r2
      clear hp hbad
      go_wp2_with fail
      (refine wp_grow ?_; (repeat go_big_quiet_step (fail)); refine wp_grow0 ?_; intro W1 hW1)
      go_wp2_with fail
      go_ret2
      exact ⟨_, rfl, Own.nil_ _ _ _ _ _, bup kB.out (bup hbw.out hW1)⟩
    ·have hup : risingB (xs.map SprL.no) = true := by
      refine List.all_eq_true.2 fun j hj => hall.out j ?_
      have := List.mem_range.1 hj
      rw [List.length_map] at this
      omega
     obtain ⟨r1, r2⟩ := hL0.out hup
     subst r1 r2
     clear hup hall hL1 hL0
     have hge : (xs.length : Int) ≤ (k : Int) := by omega
     have kC1 := hide (kC.out.grow hbw.out)
     have kB1 := hide (bup kB.out hbw.out)
     have hBz : w.heap.size + 1 ≤ wr.heap.size := Nat.le_trans hzz hbw.out.size
     clear hbw kC kB hzz
     obtain ⟨Q0, hQ0⟩ : ∃ z, wr = z := ⟨_, rfl⟩
     rw [hQ0] at hBz kC1 kB1 ⊢
     clear hQ0
     obtain ⟨B, hB⟩ : ∃ B, Q0.heap.size = B := ⟨_, rfl⟩
     have hBw : w.heap.size < B := by omega
     have hBz2 := hide (show B ≤ Q0.heap.size by omega)
     replace hB := hide hB
     go_wp2_with fail
     go_loopw [11, 13, 46] (fun vo _ i wr => ∃ k : Nat, k ≤ xs.length ∧ i = I k ∧ Hid (Own wr B 3 1 intC vo (leftF c l (xs.take k))) ∧ Hid (Below B Q0 wr) ∧ B ≤ wr.heap.size) (fun _ _ i _ => xs.length - (intOf i).toNat)
     case atStart => exact ⟨0, Nat.zero_le _, rfl, hide (Own.nil_ _ _ _ _ _), hide (Below.refl _ _), hBz2.out⟩
     case round =>
      obtain ⟨k, hk, rfl, ho, hbr, hBs⟩ := hrel
      by_cases hlt : k < xs.length
      ·obtain ⟨b, off, rfl, hbb⟩ := hA.out k hlt
       obtain ⟨x, hx⟩ := getElem?_of_lt hlt
       have hxm := List.mem_of_getElem? hx
       have kBr := bup kB1.out (hbr.out.mono (Nat.le_of_eq hB.out))
       have hsw := hs.out.mono kBr
       obtain ⟨z1, e0, e1⟩ := hsw.1.sprl_at hx
       have hdv := hsw.2 x hxm
       obtain ⟨Ax, nx, hdvx, _⟩ := hdv.open_
       have HX := HA.out x hxm
       have hsn := leftF_snoc (c := c) (l := l) hx
       have hll := leftF_len c l (xs.take k)
       rw [List.length_take] at hll
       have hl16 : (leftF c l (xs.take k)).length ≤ 16 := by omega
       rw [hdvx] at e1 hdv HX
       obtain ⟨G, hG⟩ : ∃ g, agreesB c l x.days = g := ⟨_, rfl⟩
       rw [hG] at HX hsn
       have kC2 := kC1.out.below hbr.out (by omega)
       obtain ⟨_, q0, q1, q2, q3, q4, q5, q6, q7⟩ := kC2.clim
       (try unfold Climate.v at HX)
       replace HX := hide HX
       replace hsn := hide hsn
       replace hl16 := hide hl16
       replace hx := hide hx
       replace hdv := hide hdv
       clear hsw hG hdvx hll hxm HA
       cases G with
       | false =>
        rw [if_neg (by simp), List.append_nil] at hsn
        have hsz := hbr.out.size
        go_wp2_with (go_at_call 41; refine (HX.out _ (hv.out.mono (bup kBr (below1 _ _))) (hdv.out.mono (below1 _ _))).mono ?_; clear HX; rintro e w3 ⟨rfl, hb3⟩)
        have hb4 := bup (below1 wr (.cells #[I x.no, .slice Ax x.days.length nx] 58)) hb3
        go_roundw
        case rel => exact ⟨k + 1, by omega, by go_num, hide (by rw [hsn.out]; exact ho.out.below hb4), hide (hbr.out.trans (hb4.mono hBs)), Nat.le_trans hBs hb4.size⟩
        case measure => simp [intOf]; omega
       | true =>
        rw [if_pos rfl] at hsn
        go_wp2_with (first | (go_at_call 41; refine (HX.out _ (hv.out.mono (bup kBr (below1 _ _))) (hdv.out.mono (below1 _ _))).mono ?_; clear HX; rintro e w3 ⟨rfl, hb3⟩; have hb4 := bup (below1 wr (.cells #[I x.no, .slice Ax x.days.length nx] 58)) hb3; have kQ := ((Blk.new wr 58 #[I x.no, .slice Ax x.days.length nx]).grow hb3); obtain ⟨zq, y0, y1, _, _⟩ := blk_box kQ) | (at_builtin; refine wp_push el_int intC_len intC_one rfl (.tmp 55) (.tmp 58) rfl B rfl ((ho.out.below hb4).alloc _) x.no rfl ?c1 ?c2 ?c3 ?c4 ?_))
        case c1 => exact new_cells rfl _ (intC x.no)
        case c2 => have := hl16.out; omega
        case c3 => have := hl16.out; omega
        case c4 => have := hb4.size; simp; omega
        intro v' w5 hown hbel _
        rw [← hsn.out] at hown
        obtain ⟨A1, n1, c1, rfl⟩ := hown.shape
        replace hown := hide hown
        have hbF := hide (((hbr.out.trans (hb4.mono hBs)).alloc (by have := hb4.size; omega) (.cells #[I x.no] 3)).trans hbel)
        have hzF : B ≤ w5.heap.size := Nat.le_trans (Nat.le_trans (Nat.le_trans hBs hb4.size) (by simp)) hbel.size
        clear hbel y0 y1
        go_wp2_with fail
        go_roundw
        case rel => exact ⟨k + 1, by omega, by go_num, hown, hbF, hzF⟩
        case measure => simp [intOf]; omega
      ·have he : k = xs.length := by omega
       subst he
       have ho2 := ho.out
       rw [List.take_length] at ho2
       obtain ⟨A1, n1, c1, rfl⟩ := ho2.shape
       replace ho2 := hide ho2
       go_wp2_with fail
       go_ret2
       exact ⟨_, rfl, ho2.out.mono (by omega), bup kB1.out (hbr.out.mono (Nat.le_of_eq hB.out))⟩
  ·have hEE : leftE c l xs = sprsE c xs := by simp [leftE, hE, hS]
   have hV : leftV c l xs = [] := by rw [leftV, if_neg (by rw [hEE]; exact hS)]
   rw [hE] at H1
   rw [hEE, hV]
   obtain ⟨s0, hs0⟩ : ∃ e, sprsE c xs = e := ⟨_, rfl⟩
   rw [hs0] at hS H2 ⊢
   have hne : (s0 != 0) = true := by simpa using hS
   clear hEE hV hS hs0 hE hA
   (try unfold Climate.v at *)
   replace hv := hide hv
   replace hs := hide hs
   replace H1 := hide H1
   replace H2 := hide H2
   go_enter Tryz.func13, Tryz.ntmps13
   go_wp2_with (first | (go_at_call 9; refine (H1.out _ (hv.out.mono (below1 _ _))).mono ?_; clear H1; rintro e w1 ⟨rfl, hb1⟩; obtain ⟨_, q0, q1, q2, q3, q4, q5, q6, q7⟩ := ((Blk.new w 25 (c8 c)).grow hb1).clim) | (go_at_call 40; refine (H2.out _ (hs.out.mono (bup (below1 _ _) hb1))).mono ?_; clear H2; rintro e w2 ⟨rfl, hb2⟩))
   go_ret2
   exact ⟨_, rfl, Own.nil_ _ _ _ _ _, bup (bup (below1 _ _) hb1) hb2⟩
 ·have hEE : leftE c l xs = logE c l := by simp [leftE, hE]
  have hV : leftV c l xs = [] := by rw [leftV, if_neg (by rw [hEE]; exact hE)]
  rw [hEE, hV]
  obtain ⟨e0, he0⟩ : ∃ e, logE c l = e := ⟨_, rfl⟩
  rw [he0] at hE H1 ⊢
  have hne : (e0 != 0) = true := by simpa using hE
  clear hEE hV hE he0 H2 hA
  (try unfold Climate.v at *)
  replace hv := hide hv
  replace H1 := hide H1
  go_enter Tryz.func13, Tryz.ntmps13
  go_wp2_with (first | (go_at_call 9; refine (H1.out _ (hv.out.mono (below1 _ _))).mono ?_; clear H1; rintro e w1 ⟨rfl, hb1⟩; obtain ⟨_, q0, q1, q2, q3, q4, q5, q6, q7⟩ := ((Blk.new w 25 (c8 c)).grow hb1).clim))
  go_ret2
  exact ⟨_, rfl, Own.nil_ _ _ _ _ _, bup (below1 _ _) hb1⟩

end Go.Proofs.YtifeniiefhpadaaGreatDoor
