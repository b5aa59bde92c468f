/- An append of one element to a row of the call's own, as a step of a region that draws its order. Conditions stand in the theorems. -/
import Derived.Test.YtifeniiefhpadaaGreatDoorBasePack
set_option linter.all false
namespace Go.Proofs.YtifeniiefhpadaaGreatDoor
open Go.RowKit

theorem step_push {P : Program} {α : Type} {t e k bytes : Nat} {z : Value} (E : ElemOk P t e k bytes z) {enc : α → List Value} (hlen : ∀ x, (enc x).length = k) (hone : ∀ x, ∀ u ∈ enc x, u.oneCell' = true)
  {w : World} {ops : Array Oper} {o : Oper} {a : Act} {K : Act → World → Prop} {Q : Exit → Act → World → Prop} {F : Prop} (hgd : o.guard = none) (s x : Operand)
  (ho : o.op = .call { callee := .builtin .append, args := #[s, x], argTypes := #[t, t] })
  (base : Nat) {v : Value} {xs : List α} (hs : a.eval s = v) (hown : Own w base e k enc v xs) (y : α) {g c : Nat} (hx : a.eval x = .slice (some ⟨g, 0, none⟩) 1 c)
  (hy : ∀ j u, (enc y)[j]? = some u → w.cell? ⟨g, j, none⟩ = some u) (hlb : (xs.length + 1) * bytes ≤ 140737488355328) (hl : xs.length ≤ 140737488355328) (hbase : base ≤ w.heap.size)
  (h : ∀ v' w', Own w' base e k enc v' (xs ++ [y]) → Below base w w' → v' ≠ .slice none 0 0 → K (a.put o.dst v') w') : if Region.wanted o (yielded ops a.tmps) = true then Oper.wp P o a w K Q else F := by
 obtain ⟨i0, hi, hz0, hz1, hz2⟩ := info_parts E.hi
 have hc : ∀ j u, (enc y)[j]? = some u → w.cell? ((⟨g, 0, none⟩ : Addr).add j) = some u := by
  intro j u hu
  have := hy j u hu
  unfold Addr.add
  split
  ·rename_i h0; subst h0; exact this
  ·simpa using this
 obtain ⟨v', w', hrun, r1, r2, r3⟩ := run_append_own (P := P) w base t o.type e i0 z k bytes E.ht hi hz0 hz1 hz2 E.hzs E.hk v xs.length (xs.flatMap enc) hown ⟨g, 0, none⟩ 1 c (enc y) (by rw [hlen, Nat.one_mul]) hc (hone y) (by unfold maxLen; omega) hlb hbase
 rw [if_pos (by simp [Region.wanted, hgd])]
 unfold Oper.wp
 simp [execOp, ho, resolve, invoke, builtin, hs, hx, hrun, Result.andThen]
 refine h v' w' ?_ ((Below.refl _ _).grown r2 hbase fun g' hg' => (ownBlock_lt hown g' hg').1) ?_
 ·unfold Own
  simpa using r1
 ·intro hv; have := (r3.1 hv).2; omega
end Go.Proofs.YtifeniiefhpadaaGreatDoor
