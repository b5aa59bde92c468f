/- The package spring: Fill. Conditions stand in the theorems. -/
import Derived.Test.YtgbbljfmngmjeaaGreatSpring11Pack
import Derived.Test.YtgbbljfmngmjeaaGreatPlugPack
import Derived.Deep.RegionLawGrows
set_option linter.all false
namespace Go.Proofs.YtgbbljfmngmjeaaGreat
open Go.RowKit Go.Shelf
attribute [local go_sem] Oper.semAt_some

theorem Own.form {α : Type} {w : World} {base e k : Nat} {enc : α → List Value} {v : Value} {xs : List α} (h : Own w base e k enc v xs) :
  ∃ A cap, v = .slice A xs.length cap ∧ xs.length ≤ cap ∧ (A = none → xs.length = 0) ∧ cap ≤ maxLen ∧ (∀ b, A = some b → b.block < w.heap.size ∧ ∀ j u, (xs.flatMap enc)[j]? = some u → w.cell? (b.add j) = some u) := by
 have h0 := h
 rcases h.2 with ⟨rfl, hn⟩ | ⟨g, cap, cur, rfl, hg, hh, hnc, hcap, hsz, ht⟩
 ·exact ⟨none, 0, by rw [hn], by omega, fun _ => hn, by unfold maxLen; omega, fun b hb => by cases hb⟩
 ·refine ⟨some ⟨g, 0, none⟩, cap, rfl, hnc, (fun hA => by cases hA), hcap, fun b hb => ?_⟩
  cases hb
  refine ⟨(Array.getElem?_eq_some_iff.1 hh).1, fun j u hj => ?_⟩
  have hjl := (List.getElem?_eq_some_iff.1 hj).1
  rw [h.1] at hjl
  have := h0.cellAt j hjl
  rw [hj] at this
  rw [Addr.add_lit, Nat.zero_add]
  exact this
theorem own_stays {β α : Type} {m base e k : Nat} {enc : α → List Value} {xs : β → List α} {B : Nat} {t : TypeId} :
  OwnFrom m (fun (s : β) W => ∃ v, Blk W B t #[v] ∧ Own W base e k enc v (xs s)) := fun s A Y row hs h hr => by
 obtain ⟨v, h1, h2⟩ := hs
 refine ⟨v, blk_stays (cs := fun _ : Unit => #[v]) () A Y row h1 h hr, World.ownsRow.kept h2 h ?_⟩
 rcases h2.2 with ⟨rfl, _⟩ | ⟨g, cap, cur, rfl, _, hgb, _⟩
 ·exact .inl rfl
 ·refine .inr fun e' => ?_
  obtain ⟨_, o, ho, hc⟩ := hr g (by simpa [Value.ownBlock] using e'.symm)
  rw [hgb] at ho; cases ho; cases hc

theorem add_block (b : Addr) (j : Nat) : (b.add j).block = b.block := by unfold Addr.add; split <;> rfl
theorem below_of_grown {A B : World} (h : A.grownBy B none) : Below A.heap.size A B := ⟨h.os, h.tape, h.output, h.size, fun k hk => h.block k hk (by simp)⟩
def fillE (c : Climate) (l : List Weather) (a b : Int) : Int := if loggedE c l [] = 0 then stretchE a b else loggedE c l []
def fillV (c : Climate) (l : List Weather) (a b : Int) (t : Bool) : List Weather := if fillE c l a b = 0 then fillF c l a (b - a).toNat t else []
end Go.Proofs.YtgbbljfmngmjeaaGreat
