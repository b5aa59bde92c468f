/- The package spring: the factors of a climate, one by one. Conditions stand in the theorems. -/
import Derived.Test.YtifeniiefhpadaaGreatDoorSpring11Pack
set_option linter.all false
set_option maxHeartbeats 4000000
set_option maxRecDepth 100000
namespace Go.Proofs.YtifeniiefhpadaaGreatDoor
open Go.RowKit Go.Shelf
attribute [local go_sem] Oper.semAt_some

theorem spring_factors (c : Climate) (w : World) : Calls Tryz.prog 93 #[c.v] w fun e w' =>
  e = .returned (.func (.func 111) #[] #[.pointer (some ⟨w.heap.size, 0, none⟩)]) ∧ ClimAt c w.heap.size w' ∧ w'.heap.size = w.heap.size + 1 ∧ Below w.heap.size w w' := by
 unfold Climate.v
 go_enter Tryz.func93, Tryz.ntmps93
 go_wp2
 go_ret
 exact ⟨rfl, ClimAt.new c w _, by simp, below1 _ _⟩

abbrev FacC (c : Climate) : Type := { f : Int // c.flo ≤ f ∧ f ≤ c.fhi }
def nFac (c : Climate) : Nat := (c.fhi - c.flo + 1).toNat
def facA (c : Climate) (hc : ClimOk c) (k : Nat) : List (FacC c) := (List.range k).map fun (i : Nat) => ⟨min (c.flo + (i : Int)) c.fhi, by have := hc.fl; omega⟩
theorem facA_succ {c : Climate} {hc : ClimOk c} (k : Nat) : facA c hc (k + 1) = facA c hc k ++ [⟨min (c.flo + (k : Int)) c.fhi, by have := hc.fl; omega⟩] := by
 simp [facA, List.range_succ]
theorem facA_len {c : Climate} {hc : ClimOk c} (k : Nat) : (facA c hc k).length = k := by simp [facA]

theorem factors1_stops (c : Climate) (bC n₀ : Nat) (X : Nat → Prop) (w : World) (hc : ClimOk c) (hn₀ : n₀ ≤ w.heap.size) (hread : ∀ W, Keep n₀ X w W → ClimAt c bC W) :
  SeqStopsK Fence.wide 3 Tryz.prog 111 #[.pointer (some ⟨bC, 0, none⟩)]
   (fun x : FacC c => #[I x.1]) (Keep n₀ X) (fun ys => ys = facA c hc (nFac c)) (fun _ => True) (nFac c) w := by
 intro lr J Jx W0 hW0 hJ hJx hY h0
 obtain ⟨_, q0, q1, q2, q3, q4, q5, q6, q7⟩ := hread W0 (Keep.of_below hW0 hn₀)
 obtain ⟨n, hn⟩ : ∃ n, nFac c = n := ⟨_, rfl⟩
 have hfl := hc.flo2
 have hfh := hc.fhi2
 have hnn : c.flo + (n : Int) = c.fhi + 1 := by have := hc.fl; rw [← hn]; unfold nFac; omega
 rw [hn] at hY ⊢
 clear hn
 refine callsIn_of_wp Tryz.func111 rfl trivial ?_ rfl
 simp only [Tryz.ntmps111, List.size_toArray, List.length_cons, List.length_nil, Nat.reduceAdd, Nat.reduceSub, Array.replicate_succ, Array.replicate_zero, List.push_toArray, List.append_toArray, List.nil_append, List.cons_append]
 refine wpIn_wide.2 ?_
 go_wp2_with fail
 go_loopw [3] (fun fv wr => ∃ k : Nat, k ≤ n ∧ fv = I (c.flo + k) ∧ Keep n₀ X w wr ∧ Hid (J (facA c hc k) wr) ∧ W0.heap.size ≤ wr.heap.size) (fun fv _ => n - (intOf fv - c.flo).toNat)
 case atStart => exact ⟨0, Nat.zero_le _, by simp, Keep.of_below hW0 hn₀, hide h0, Nat.le_refl _⟩
 case round =>
  obtain ⟨k, hk, rfl, hkp, hj, hsz⟩ := hrel
  clear q0 q1 q2 q3 q4 q5 q6 q7
  obtain ⟨_, q0, q1, q2, q3, q4, q5, q6, q7⟩ := hread wr hkp
  by_cases hlt : k < n
  ·have hle : c.flo + (k : Int) ≤ c.fhi := by omega
   have hx : min (c.flo + (k : Int)) c.fhi = c.flo + k := by omega
   have k1 : IntKind.i64.wrap (c.flo + (k : Int) + 1) = c.flo + (k : Int) + 1 := IntWalk.i64_in _ (by omega)
   go_upto_region 3 with fail
   obtain ⟨fn, tmps, assign, body, hy, hR⟩ := hY (facA c hc k) ⟨min (c.flo + (k : Int)) c.fhi, by have := hc.fl; omega⟩ wr hj.out (by rw [facA_len]; exact hlt)
   rw [← facA_succ] at hR
   simp only [hx] at hy
   replace hj := hide hj
   replace hx := hide hx
   refine (wpIn_wide (n := 3)).1 ?_
   gi_wp2
   refine hR.mono ?_
   rintro e W3 (⟨rfl, hJ3, hk3⟩ | ⟨rfl, hJx3⟩)
   ·replace hJ3 := hide hJ3
    gi_wp2
    go_wp2_with fail
    go_roundw
    case rel => exact ⟨k + 1, by omega, by go_num, hkp.trans hk3, hJ3, Nat.le_trans hsz hk3.size⟩
    case measure => simp [intOf]; omega
   ·gi_wp2
    go_wp2_with fail
    refine bodyPost_ret (results_none rfl _ _ _) rfl ?_
    exact ⟨⟨_, rfl⟩, .inr ⟨_, trivial, hJx3⟩⟩
  ·have he : k = n := by omega
   subst he
   have hle : ¬ (c.flo + (k : Int) ≤ c.fhi) := by omega
   replace hj := hj.out
   go_wp2_with fail
   go_end0
   exact ⟨⟨_, rfl⟩, .inl hj⟩
end Go.Proofs.YtifeniiefhpadaaGreatDoor
