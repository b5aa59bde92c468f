/- Lists of springs: all of them, and whether they are valid. Conditions stand in the theorems. -/
import Derived.Test.YtoojedjmlcdomaaGreatDoorRowKit5
import Derived.Test.YtoojedjmlcdomaaGreatDoorSpring9Pack
set_option linter.all false
set_option maxHeartbeats 2000000
set_option maxRecDepth 20000
namespace Go.Proofs.YtoojedjmlcdomaaGreatDoor
open Go.RowKit

theorem SprL.cells_len (x : SprL) : x.cells.length = 2 := rfl
theorem Sl.sprl_at {w : World} {b off c : Nat} {xs : List SprL} (h : Sl w 2 SprL.cells (.slice (some ⟨b, off, none⟩) xs.length c) xs) {i : Nat} {x : SprL} (hx : xs[i]? = some x) :
  b < w.heap.size ∧ w.cell? ⟨b, off + i * 2, none⟩ = some (I x.no) ∧ w.cell? ⟨b, off + i * 2 + 1, none⟩ = some x.dv := by
 obtain ⟨h1, h2⟩ := h.cells_ hx
 exact ⟨h1, by simpa using h2 0 _ rfl, h2 1 _ rfl⟩
theorem indexFunc_SprL (v : Value) (xs : List SprL) (g : Nat) (cap : Array Value) (p : SprL → Bool) (w : World) (hv : Sl w 2 SprL.cells v xs) (eg : ∀ args w, (callFunc g args).run Tryz.prog w = .ok (.enter g args) w)
  (hp : Gives Tryz.prog g cap (fun x => .agg #[I x.no, x.dv]) p w xs) : Calls Tryz.prog 105 #[v, .func (.func g) #[] cap] w fun e w' => e = .returned (I (idxBy p xs)) ∧ Below w.heap.size w w' := by
 obtain ⟨A, c, rfl, _, _, hlen, hA⟩ := hv.open_
 replace hv := hide hv
 replace hp := hide hp
 replace hA := hide hA
 go_enter Tryz.func105, Tryz.ntmps105
 go_wp2_with fail
 go_loopw [5, 8] (fun v i wr => ∃ k : Nat, k ≤ xs.length ∧ i = I k ∧ Hid (NoneTo p xs k) ∧ Below w.heap.size w wr) (fun _ i _ => xs.length - (intOf i).toNat)
 case atStart => exact ⟨0, Nat.zero_le _, rfl, hide (NoneTo.zero _ _), Below.refl _ _⟩
 case round =>
  obtain ⟨k, hk, rfl, hn, hb⟩ := hrel
  by_cases hlt : k < xs.length
  ·obtain ⟨b, off, rfl, hbw⟩ := hA.out k hlt
   obtain ⟨x, hx⟩ := getElem?_of_lt hlt
   obtain ⟨_, h0, h1⟩ := ((unhide hv).mono hb).sprl_at hx
   have hcall := (unhide hp) wr x (List.mem_of_getElem? hx) hb
   replace hx := hide hx
   clear hA hv hp
   cases hq : p x with
   | true =>
    rw [hq] at hcall
    have H := hide hcall
    replace hq := hide hq
    clear hcall
    go_wp2_with (go_at_fn g; refine (unhide H).mono ?_; rintro e w' ⟨rfl, hb1⟩)
    go_ret
    exact ⟨ret_int (((unhide hn).found hx.out hq.out).symm), hb.trans (hb1.mono hb.size)⟩
   | false =>
    rw [hq] at hcall
    have H := hide hcall
    replace hq := hide hq
    clear hcall
    go_wp2_with (go_at_fn g; refine (unhide H).mono ?_; rintro e w' ⟨rfl, hb1⟩)
    go_roundw
    case rel => exact ⟨k + 1, by omega, by go_num, hide ((unhide hn).succ hx.out hq.out), hb.trans (hb1.mono hb.size)⟩
    case measure => simp [intOf]; omega
  ·have he : k = xs.length := by omega
   subst he
   clear hA
   go_wp2_with fail
   go_ret
   exact ⟨ret_int ((unhide hn).missed.symm), hb⟩
theorem containsFunc_SprL (v : Value) (xs : List SprL) (g : Nat) (cap : Array Value) (p : SprL → Bool) (w : World) (hv : Sl w 2 SprL.cells v xs) (eg : ∀ args w, (callFunc g args).run Tryz.prog w = .ok (.enter g args) w)
  (hp : Gives Tryz.prog g cap (fun x => .agg #[I x.no, x.dv]) p w xs) : Calls Tryz.prog 48 #[v, .func (.func g) #[] cap] w fun e w' => e = .returned (.bool (xs.any p)) ∧ Below w.heap.size w w' := by
 have hc := hide (indexFunc_SprL v xs g cap p w hv eg hp)
 have hf := hide (idxBy_nonneg p xs)
 clear hv hp eg
 go_enter Tryz.func48, Tryz.ntmps48
 go_wp2_with (go_at_call 105; refine (unhide hc).mono ?_; generalize idxBy p xs = r at hf ⊢; rintro e w' ⟨rfl, hb⟩)
 go_ret
 exact ⟨ret_bool (by rw [← hf.out]), hb⟩
theorem all1_SprL (g : Nat) (cap : Array Value) (p : SprL → Bool) (w : World) (xs : List SprL) (B : Nat) (eg : ∀ args w, (callFunc g args).run Tryz.prog w = .ok (.enter g args) w)
  (hB : w.cell? ⟨B, 0, none⟩ = some (.func (.func g) #[] cap)) (hBw : B < w.heap.size) (hp : Gives Tryz.prog g cap (fun x : SprL => .agg #[I x.no, x.dv]) p w xs) :
  Gives Tryz.prog 128 #[.pointer (some ⟨B, 0, none⟩)] (fun x : SprL => .agg #[I x.no, x.dv]) (fun x => !p x) w xs := by
 intro W x hx hb
 have H := fun (o : Obj) => hp (W.alloc o) x hx (bup hb (below1 _ _))
 have hc' := (hb.cell (p := ⟨B, 0, none⟩) hBw).trans hB
 have hB' : B < W.heap.size := Nat.lt_of_lt_of_le hBw hb.size
 obtain ⟨q, hq⟩ : ∃ q, p x = q := ⟨_, rfl⟩
 simp only [hq] at H ⊢
 replace H := hide H
 clear hp hB hBw hq
 go_enter Tryz.func128, Tryz.ntmps128
 go_wp2_with (go_at_fn g; refine (H.out _).mono ?_; rintro e w' ⟨rfl, hb1⟩)
 go_ret
 exact ⟨rfl, bup (below1 _ _) hb1⟩
theorem all_SprL (v : Value) (xs : List SprL) (g : Nat) (cap : Array Value) (p : SprL → Bool) (w : World) (hv : Sl w 2 SprL.cells v xs) (eg : ∀ args w, (callFunc g args).run Tryz.prog w = .ok (.enter g args) w)
  (hp : Gives Tryz.prog g cap (fun x : SprL => .agg #[I x.no, x.dv]) p w xs) :
  Calls Tryz.prog 63 #[v, .func (.func g) #[] cap] w fun e w' => e = .returned (.bool (xs.all p)) ∧ Below w.heap.size w w' := by
 have hfin := hide (all_any_not p xs)
 replace hv := hide hv
 replace hp := hide hp
 go_enter Tryz.func63, Tryz.ntmps63
 go_wp2_with fail
 go_at_call 48
 refine (containsFunc_SprL _ xs _ _ (fun x => !p x) _ (hv.out.mono (below1 _ _)) (enters_of Tryz.func128 (by kernel_rfl) rfl) (all1_SprL g cap p _ xs _ eg (by simp [go_sem]) (by simp) (hp.out.mono (below1 _ _)))).mono ?_
 generalize xs.any (fun x => !p x) = q at hfin ⊢
 rintro e w' ⟨rfl, hb⟩
 go_wp2
 go_ret
 exact ⟨ret_bool hfin.out, bup (below1 _ _) hb⟩


def sprsE (c : Climate) (xs : List SprL) : Int := if xs.all (fun x => decide (springE c x.spring = 0)) = false then 62 else if 16 < xs.length then 2 else 0
theorem springy1 (c : Climate) (xs : List SprL) (bC : Nat) (w : World) (hs : ∀ x ∈ xs, Sl w 3 Weather.cells x.dv x.days) (kC : Blk w bC 25 (c8 c)) :
  Gives Tryz.prog 127 #[.pointer (some ⟨bC, 0, none⟩)] (fun x : SprL => .agg #[I x.no, x.dv]) (fun x => decide (springE c x.spring = 0)) w xs := by
 intro W x hx hb
 have J := fun W' hv => spring_CheckSpring c x.no x.dv x.days W' hv
 have hv := (hs x hx).mono hb
 have kC2 := kC.grow hb
 show Calls Tryz.prog 127 #[.agg #[I x.no, x.dv], .pointer (some ⟨bC, 0, none⟩)] W fun e w' => e = .returned (.bool (decide (springE c ⟨x.no, x.days⟩ = 0))) ∧ Below W.heap.size W w'
 obtain ⟨A, n, hdv, _⟩ := hv.open_
 rw [hdv] at J hv ⊢
 obtain ⟨E, hE⟩ : ∃ e, springE c ⟨x.no, x.days⟩ = e := ⟨_, rfl⟩
 rw [hE] at J ⊢
 clear hE hdv hs kC
 obtain ⟨r0, r1, r2, r3, r4, r5, r6, r7⟩ := kC2.cells8
 have z := kC2.lt
 (try unfold Climate.v at *)
 replace J := hide J
 replace hv := hide hv
 by_cases h0 : E = 0
 ·subst h0
  go_enter Tryz.func127, Tryz.ntmps127
  go_wp2_with (go_at_call 46; refine (J.out _ (hv.out.mono (below1 _ _))).mono ?_; rintro e w1 ⟨rfl, hb1⟩)
  go_ret
  exact ⟨rfl, bup (below1 _ _) hb1⟩
 ·have h1 : (E == 0) = false := by simpa using h0
  have h2 : decide (E = 0) = false := by simpa using h0
  rw [h2]
  go_enter Tryz.func127, Tryz.ntmps127
  go_wp2_with (go_at_call 46; refine (J.out _ (hv.out.mono (below1 _ _))).mono ?_; rintro e w1 ⟨rfl, hb1⟩)
  go_ret
  exact ⟨rfl, bup (below1 _ _) hb1⟩
theorem spring_springy (c : Climate) (v : Value) (xs : List SprL) (w : World) (hv : SprsAt w v xs) :
  Calls Tryz.prog 62 #[c.v, v] w fun e w' => e = .returned (I (sprsE c xs)) ∧ Below w.heap.size w w' := by
 obtain ⟨A, n, rfl, _, _, hlen, _⟩ := hv.1.open_
 have HA := fun (p : SprL → Bool) g cap w hv eg hp => all_SprL (.slice A xs.length n) xs g cap p w hv eg hp
 have HG := fun bC w hs kC => springy1 c xs bC w hs kC
 have hE : sprsE c xs = if xs.all (fun x => decide (springE c x.spring = 0)) = false then 62 else if 16 < xs.length then 2 else 0 := rfl
 obtain ⟨p, hpp⟩ : ∃ p : SprL → Bool, (fun x : SprL => decide (springE c x.spring = 0)) = p := ⟨_, rfl⟩
 rw [hpp] at HG hE
 obtain ⟨R, hR⟩ : ∃ R, sprsE c xs = R := ⟨_, rfl⟩
 rw [hR] at hE ⊢
 clear hR hpp
 obtain ⟨q, hq⟩ : ∃ q, xs.all p = q := ⟨_, rfl⟩
 replace HA := hide (HA p)
 rw [hq] at HA hE
 clear hq
 replace hE := hide hE
 replace HG := hide HG
 replace hv := hide hv
 unfold Climate.v
 go_enter Tryz.func62, Tryz.ntmps62
 go_wp2_with fail
 go_at_call 63
 refine (HA.out _ _ _ (hv.out.1.mono (below1 _ _)) (enters_of Tryz.func127 (by kernel_rfl) rfl) (HG.out _ _ (fun x hx => (hv.out.2 x hx).mono (below1 _ _)) (Blk.new _ _ _))).mono ?_
 clear HA HG
 rintro e w1 ⟨rfl, hb1⟩
 cases q with
 | false =>
  go_wp2_with fail
  go_ret
  exact ⟨ret_int hE.out.symm, bup (below1 _ _) hb1⟩
 | true =>
  rcases Nat.lt_or_ge 16 xs.length with h | h
  ·have h2 : (16 : Int) < (xs.length : Int) := by omega
   have h3 : R = 2 := by rw [hE.out, if_neg (by simp), if_pos h]
   replace h3 := hide h3
   go_wp2_with fail
   go_ret
   exact ⟨ret_int h3.out.symm, bup (below1 _ _) hb1⟩
  ·have h2 : (xs.length : Int) ≤ 16 := by omega
   have h3 : R = 0 := by rw [hE.out, if_neg (by simp), if_neg (by omega)]
   replace h3 := hide h3
   go_wp2_with fail
   go_ret
   exact ⟨ret_int h3.out.symm, bup (below1 _ _) hb1⟩
end Go.Proofs.YtoojedjmlcdomaaGreatDoor
