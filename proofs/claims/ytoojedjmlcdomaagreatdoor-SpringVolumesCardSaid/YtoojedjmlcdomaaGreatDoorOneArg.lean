/- A field as an argument. Conditions stand in the theorems. -/
import Derived.Test.YtoojedjmlcdomaaGreatDoorRowKit5
import Derived.Test.YtoojedjmlcdomaaGreatDoorOneField2Pack
set_option linter.all false
namespace Go.Proofs.YtoojedjmlcdomaaGreatDoor
open Go.RowKit

theorem reads_RowL : Reads Tryz.prog 34 fun w cs => ∃ x : RowL, cs = x.cells ∧ Sl w 1 intC x.v x.l := fun H e w base sp held fuel cs d p h hf => by
 obtain ⟨v, xs, h1, h2⟩ := reads_ints H e w base sp held fuel cs d p h hf
 exact ⟨⟨v, xs⟩, h1, h2⟩
theorem Arg.field {W : World} {v : Value} (h : Arg Tryz.prog W 47 v) : ∃ f, FieldAt W v f :=
 h.slW Tryz.underlying47 (by kernel_rfl) (by decide) (of_decide_eq_true (by kernel_rfl)) reads_RowL
end Go.Proofs.YtoojedjmlcdomaaGreatDoor
