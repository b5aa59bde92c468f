/- A region that draws its order, in a round of a range over a function: what holds of it as plain code holds of it there. Conditions stand in the theorems. -/
import Derived.Test.YtgbbljfmngmjeaaGreatGrow
import Derived.RangeFuncNested
import Derived.RangeFuncBound
import Derived.RangeFuncCalls
import Derived.RangeFuncLeaves
import Derived.RangeFuncBox
import Derived.Shelf.Abstract
import Derived.Shelf.RegionOpen
import Derived.OwnWalkIn
import Derived.TacticsInMore
import Derived.LoopNIn
import Derived.LoopIn
import Derived.OrdersHeld
import Derived.StillTail
import Derived.Deep.RegionHeld3
set_option linter.all false
namespace Go.Proofs.YtgbbljfmngmjeaaGreat
open Go.RowKit

theorem oper_inRound {P : Program} {o : Oper} {a : Act} {w : World} {K : Act → World → Prop} {Q : Exit → Act → World → Prop} (l n : Nat) (hd : ∀ c, o.op ≠ .defer c) (h : o.wp P a w K Q) : o.wpIn (Fence.wide.inRound l) n P a w K Q := by
 refine ⟨fun _ _ => trivial, ?_⟩
 rw [show (Fence.wide.inRound l).round = some l from rfl, Oper.semAt_some l _ _ hd]
 unfold Oper.wp at h
 generalize (execOp a.eval o).run P w = r at h ⊢
 cases r with
 | ok x w' =>
  cases x <;> simp only [Oper.upon, Oper.uponIn] at h ⊢ <;>
   first
    | exact h
    | exact ⟨fun h => (by cases h), CallsIn.inRound l (callsIn_wide.2 h)⟩
    | exact ⟨fun h => (by cases h), fun c cs _ => let ⟨v, w', r, s⟩ := h c cs; ⟨v, w', r, stepsIn_wide.2 s⟩⟩
    | exact h.elim
 | halt x w' => cases x <;> simp only [Oper.upon, Oper.uponIn] at h ⊢ <;> exact h
theorem any_inRound {P : Program} {md : Region.Mode} {ops : Array Oper} {Q : Exit → Act → World → Prop} (l n : Nat) (hd : ops.all (fun o => match o.op with | .defer _ => false | _ => true) = true) (hQ : ¬ LetsOut Q) :
  ∀ (f : Nat) (listed : Array Bool) (a : Act) (w : World), wpAny P md ops Q f listed a w → wpAnyIn (Fence.wide.inRound l) n P md ops Q f listed a w
 | 0, _, _, _, h => h
 | f + 1, listed, a, w, h => by
  refine ⟨h.1, fun i hi => ?_⟩
  have h2 := h.2 i hi
  unfold wpOp at h2
  unfold wpOpIn
  cases ho : ops[i]? with
  | none => simp only [ho] at h2 ⊢; exact any_inRound l n hd hQ f _ _ _ h2
  | some o =>
   simp only [ho] at h2 ⊢
   have hdo : ∀ c, o.op ≠ .defer c := by
    intro c hc
    have := Array.all_eq_true'.1 hd o (Array.mem_of_getElem? ho)
    rw [hc] at this; cases this
   split
   ·rename_i hw
    rw [if_pos hw] at h2
    rcases h2 with h2 | ⟨_, h2⟩
    ·exact Oper.wpIn_mono (fun a w h => any_inRound l n hd hQ f _ _ _ h) (oper_inRound l n hdo h2)
    ·exact absurd h2 hQ
   ·rename_i hw
    rw [if_neg hw] at h2
    exact ⟨fun _ _ => trivial, any_inRound l n hd hQ f _ _ _ h2⟩
theorem wpIn_round_held {P : Program} {ops : Array Oper} {Q : Exit → Act → World → Prop} {S : World → Prop} {id l n : Nat} {a : Act} {w : World} (hm : P.follows .mixedOrders = true) (hd : ops.all (fun o => match o.op with | .defer _ => false | _ => true) = true) (hQ : ¬ LetsOut Q)
  (h : wpAnyH P .any ops Q S ops.size (Array.replicate ops.size false) a w.drew) : (Code.region id ops true).wpIn (Fence.wide.inRound l) n P Q a w :=
 wpIn_region_any hm (any_inRound l n hd hQ _ _ _ _ (wpAny_of_held _ _ _ _ h))

section
variable {P : Program} {ops : Array Oper} {Q : Exit → Act → World → Prop} {md : Region.Mode} {S : World → Prop} {n : Nat}
def wpAnyZ (P : Program) (md : Region.Mode) (ops : Array Oper) (Q : Exit → Act → World → Prop) (S : World → Prop) (n : Nat) : Nat → Array Bool → Act → World → Prop
 | 0, listed, a, w => Region.ready md ops listed = [] ∧ Q .normal a w
 | fuel + 1, listed, a, w =>
  (Region.ready md ops listed = [] → Q .normal a w) ∧
  ∀ i ∈ Region.ready md ops listed, wpOp P ops Q i (fun a' w' => (i < n → S w') ∧ wpAnyZ P md ops Q S n fuel (listed.setIfInBounds i true) a' w') a w
theorem wpAny_of_Z : ∀ (fuel : Nat) (listed : Array Bool) (a : Act) (w : World), wpAnyZ P md ops Q S n fuel listed a w → wpAny P md ops Q fuel listed a w
 | 0, _, _, _, h => h
 | fuel + 1, _, _, _, h => ⟨h.1, fun i hi => wpOp_mono (fun a' w' h' => wpAny_of_Z fuel _ a' w' h'.2) (h.2 i hi)⟩
theorem wpAnyZ_first (hsk : Region.sinkB md ops n = true) (hch : Region.chainB md ops n = true) (hn : n < ops.size) {i : Nat} (hin : i < n) {oi : Oper} {v : Value} (hi : ops[i]? = some oi) (hsel : ∀ (j : Nat) (o : Oper) cs b, ops[j]? = some o → o.op ≠ .select cs b)
  (hQ : ∀ c a w, Q (.panic c) (a.put oi.dst v) w → Q (.panic c) a w) :
  ∀ (fuel : Nat) (listed : Array Bool) (a : Act) (w : World), HeadInv md ops n listed →
   (∀ j oj, ops[j]? = some oj → j ≠ i → listed.getD j true = false → (∀ e ∈ oj.after, Region.binds md e = true → e.on ≠ i) → oi.apart ops oj = true) →
   i ∈ Region.ready md ops listed → YieldsIf P ops S oi v a → S w →
   wpAnyZ P md ops Q S n fuel (listed.setIfInBounds i true) (a.put oi.dst v) w → wpAnyZ P md ops Q S n (fuel + 1) listed a w := by
 intro fuel
 induction fuel with
 | zero =>
  intro listed a w _ _ hr hy hS H
  refine ⟨fun h => (by rw [h] at hr; cases hr), fun j hj => ?_⟩
  by_cases hji : j = i
  ·subst hji; exact hy.wpOp hi hS ⟨fun _ => hS, H⟩
  ·have := ready_mono hj hji
   rw [H.1] at this
   cases this
 | succ fuel ih =>
  intro listed a w inv hfree hr hy hS H
  refine ⟨fun h => (by rw [h] at hr; cases hr), fun j hj => ?_⟩
  by_cases hji : j = i
  ·subst hji; exact hy.wpOp hi hS ⟨fun _ => hS, H⟩
  ·have hjn : j < n := by
    rcases Nat.lt_or_ge j n with h | h
    ·exact h
    ·exact absurd hj (tail_waits hsk hch hn inv (n - i) i rfl hin (mem_ready.1 hr).1 j h)
   have h1 := H.2 j (ready_mono hj hji)
   obtain ⟨hjun, oj, hoj, hall⟩ := mem_ready.1 hj
   have hnot : ∀ e ∈ oj.after, Region.binds md e = true → e.on ≠ i := fun e he hb heq => by
    have h1 := hall e he hb
    have h0 := (mem_ready.1 hr).1
    rw [heq] at h1
    rcases Nat.lt_or_ge i listed.size with h' | h'
    ·simp [h'] at h0 h1; rw [h0] at h1; cases h1
    ·simp [Array.getElem?_eq_none h'] at h1
   have h2 := wpOp_putIf hoj (hfree j oj hoj hji hjun hnot) (fun cs b => hsel i oi cs b hi) (fun cs b => hsel j oj cs b hoj) hQ hy h1
   have hfree' : ∀ k ok, ops[k]? = some ok → k ≠ i → (listed.setIfInBounds j true).getD k true = false →
     (∀ e ∈ ok.after, Region.binds md e = true → e.on ≠ i) → oi.apart ops ok = true := fun k ok hk hki hun hno => by
    refine hfree k ok hk hki ?_ hno
    by_cases hjk : j = k
    ·subst hjk; exact hjun
    ·rw [getD_set_ne true hjk] at hun; exact hun
   refine wpOp_mono (fun a' w' h3 => ⟨fun _ => h3.2.1 hjn, ih (listed.setIfInBounds j true) a' w' (inv.set hj hjn) hfree' (ready_mono hr (Ne.symm hji)) h3.1 (h3.2.1 hjn) ?_⟩) h2
   rw [Array.setIfInBounds_comm _ _ hji]
   exact h3.2.2
def ZG (P : Program) (md : Region.Mode) (ops : Array Oper) (Q : Exit → Act → World → Prop) (S : World → Prop) (n fuel : Nat) (listed : Array Bool) (a : Act) (w : World) : Prop :=
 Region.sinkB md ops n = true → Region.chainB md ops n = true → n < ops.size → HeadInv md ops n listed → wpAnyZ P md ops Q S n fuel listed a w
theorem zg_take {i : Nat} {oi : Oper} {v : Value} {fuel : Nat} {listed : Array Bool} {a : Act} {w : World} (hin : i < n) (hi : ops[i]? = some oi)
  (hs : Region.noSelect ops = true) (hf : Region.free md ops listed i = true) (hr : (Region.ready md ops listed).contains i = true)
  (hQ : ∀ c a w, Q (.panic c) (a.put oi.dst v) w → Q (.panic c) a w) (hy : YieldsIf P ops S oi v a) (hS : S w)
  (h : ZG P md ops Q S n fuel (listed.setIfInBounds i true) (a.put oi.dst v) w) : ZG P md ops Q S n (fuel + 1) listed a w := fun h1 h2 h3 inv =>
 wpAnyZ_first h1 h2 h3 hin hi (Region.noSelect_spec hs) hQ fuel listed a w inv (Region.free_spec hi hf) (by simpa using hr) hy hS (h h1 h2 h3 (inv.set (by simpa using hr) hin))
theorem zg_ready {i : Nat} {o : Oper} {fuel : Nat} {listed : Array Bool} {a : Act} {w : World} (hin : i < n) (hi : ops[i]? = some o) (hr : Region.ready md ops listed = [i])
  (h : ∀ K' : Act → World → Prop, Shut (∀ a w, S w → (S w → ZG P md ops Q S n fuel (listed.setIfInBounds i true) a w) → K' a w) → if Region.wanted o (yielded ops a.tmps) = true then Oper.wp P o a w K' Q else K' (a.put o.dst undef) w) :
  ZG P md ops Q S n (fuel + 1) listed a w := fun h1 h2 h3 inv =>
 ⟨fun h0 => (by rw [h0] at hr; cases hr), fun j hj => by
  have hij : i ∈ Region.ready md ops listed := by rw [hr]; exact List.mem_singleton.2 rfl
  rw [hr, List.mem_singleton] at hj
  subst hj
  exact wpOp_step hi fun K' hK => h K' fun a w hS hW => hK a w ⟨fun _ => hS, hW hS h1 h2 h3 (inv.set hij hin)⟩⟩
theorem zg_last {i : Nat} {o : Oper} {listed : Array Bool} {a : Act} {w : World} (hin : ¬ i < n) (hi : ops[i]? = some o) (hr : Region.ready md ops listed = [i]) (hd : Region.ready md ops (listed.setIfInBounds i true) = [])
  (h : ∀ K' : Act → World → Prop, Shut (∀ a w, Q .normal a w → K' a w) → if Region.wanted o (yielded ops a.tmps) = true then Oper.wp P o a w K' Q else K' (a.put o.dst undef) w) :
  ZG P md ops Q S n 1 listed a w := fun _ _ _ _ =>
 ⟨fun h0 => (by rw [h0] at hr; cases hr), fun j hj => by
  rw [hr, List.mem_singleton] at hj
  subst hj
  exact wpOp_step hi fun K' hK => h K' fun a w hQ => hK a w ⟨fun h => absurd h hin, hd, hQ⟩⟩
theorem zg_rd (i : Nat) {o : Oper} {fuel : Nat} {listed : Array Bool} {a : Act} {w : World}
  (h : ∀ K' : Act → World → Prop, Shut (∀ a w, S w → (S w → ZG P md ops Q S n fuel (listed.setIfInBounds i true) a w) → K' a w) → if Region.wanted o (yielded ops a.tmps) = true then Oper.wp P o a w K' Q else K' (a.put o.dst undef) w)
  (hi : ops[i]? = some o := by rfl) (hin : i < n := by decide) (hr : Region.ready md ops listed = [i] := by kernel_rfl) : ZG P md ops Q S n (fuel + 1) listed a w := zg_ready hin hi hr h
theorem zg_ls (i : Nat) {o : Oper} {listed : Array Bool} {a : Act} {w : World}
  (h : ∀ K' : Act → World → Prop, Shut (∀ a w, Q .normal a w → K' a w) → if Region.wanted o (yielded ops a.tmps) = true then Oper.wp P o a w K' Q else K' (a.put o.dst undef) w)
  (hi : ops[i]? = some o := by rfl) (hin : ¬ i < n := by decide) (hr : Region.ready md ops listed = [i] := by kernel_rfl) (hd : Region.ready md ops (listed.setIfInBounds i true) = [] := by kernel_rfl) : ZG P md ops Q S n 1 listed a w := zg_last hin hi hr hd h
theorem zg_tk (i : Nat) {oi : Oper} {v : Value} {fuel : Nat} {listed : Array Bool} {a : Act} {w : World} (h : ZG P md ops Q S n fuel (listed.setIfInBounds i true) (a.put oi.dst v) w)
  (hi : ops[i]? = some oi := by rfl) (hin : i < n := by decide)
  (hs : Region.noSelect ops = true := by kernel_rfl) (hf : Region.free md ops listed i = true := by kernel_rfl) (hr : (Region.ready md ops listed).contains i = true := by kernel_rfl)
  (hQ : ∀ c a w, Q (.panic c) (a.put oi.dst v) w → Q (.panic c) a w := by exact fun _ _ _ h => h)
  (hw : Region.wanted oi (yielded ops a.tmps) = true := by rfl) (hy : ∀ w, S w → (execOp a.eval oi).run P w = .ok (.value v) w := by intro w_ hSw_; (try dsimp only at hSw_); go_simp; all_goals with_reducible rfl) (hS : S w := by assumption) : ZG P md ops Q S n (fuel + 1) listed a w :=
 zg_take hin hi hs hf hr hQ (Or.inl ⟨hw, hy⟩) hS h
theorem headInv0 (md : Region.Mode) (ops : Array Oper) (n : Nat) : HeadInv md ops n (Array.replicate ops.size false) :=
 ⟨by simp, fun j oj _ hl => (by rw [getD_replicate_false] at hl; cases hl), fun t _ ht => getD_in (by simpa using ht) (getD_replicate_false _ _)⟩
theorem wp_region_zg {id : Nat} {a : Act} {w : World} (n : Nat) (hm : P.follows .mixedOrders = true) (hB : (Region.sinkB .any ops n && Region.chainB .any ops n && decide (n < ops.size)) = true)
  (h : ZG P .any ops Q S n ops.size (Array.replicate ops.size false) a w.drew) : (Code.region id ops true).wp P Q a w := by
 simp only [Bool.and_eq_true, decide_eq_true_eq] at hB
 exact wp_region_any hm (wpAny_of_Z _ _ _ _ (h hB.1.1 hB.1.2 hB.2 (headInv0 _ _ _)))
theorem wpIn_round_zg {id l m : Nat} {a : Act} {w : World} (n : Nat) (hm : P.follows .mixedOrders = true) (hd : ops.all (fun o => match o.op with | .defer _ => false | _ => true) = true) (hQ : ¬ LetsOut Q) (hB : (Region.sinkB .any ops n && Region.chainB .any ops n && decide (n < ops.size)) = true)
  (h : ZG P .any ops Q S n ops.size (Array.replicate ops.size false) a w.drew) : (Code.region id ops true).wpIn (Fence.wide.inRound l) m P Q a w := by
 simp only [Bool.and_eq_true, decide_eq_true_eq] at hB
 exact wpIn_region_any hm (any_inRound l m hd hQ _ _ _ _ (wpAny_of_Z _ _ _ _ (h hB.1.1 hB.1.2 hB.2 (headInv0 _ _ _))))
end
theorem wp_zgo {P : Program} {ops : Array Oper} {Q : Exit → Act → World → Prop} {id : Nat} {a : Act} {w : World} {S : World → Prop} (HS : Hid (∀ W, Below w.heap.size w W → S W)) (n : Nat)
  (h : S w.drew → ZG P .any ops Q S n ops.size (Array.replicate ops.size false) a w.drew) (hm : P.follows .mixedOrders = true := by kernel_rfl) (hB : (Region.sinkB .any ops n && Region.chainB .any ops n && decide (n < ops.size)) = true := by kernel_rfl) : (Code.region id ops true).wp P Q a w :=
 wp_region_zg n hm hB (h (HS.out _ (Below.refl _ _).drew))
theorem wp_zgs {P : Program} {ops : Array Oper} {Q : Exit → Act → World → Prop} {id : Nat} {a : Act} {w : World} {S : World → Prop} (n : Nat) (hS : S w.drew)
  (h : S w.drew → ZG P .any ops Q S n ops.size (Array.replicate ops.size false) a w.drew) (hm : P.follows .mixedOrders = true := by kernel_rfl) (hB : (Region.sinkB .any ops n && Region.chainB .any ops n && decide (n < ops.size)) = true := by kernel_rfl) : (Code.region id ops true).wp P Q a w :=
 wp_region_zg n hm hB (h hS)
end Go.Proofs.YtgbbljfmngmjeaaGreat
