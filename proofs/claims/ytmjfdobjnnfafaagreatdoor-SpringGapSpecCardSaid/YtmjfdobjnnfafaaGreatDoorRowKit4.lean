/- More openers of arguments. Conditions stand in the theorems. -/
import Derived.Test.YtmjfdobjnnfafaaGreatDoorRowKit3
set_option linter.all false
namespace Go.Proofs.YtmjfdobjnnfafaaGreatDoor
open Go.ChangeShapes Go.WideShapes Go.RowKit

theorem Arg.bool {P : Program} {W : World} {t : TypeId} {v : Value} (h : Arg P W t v) (ht : P.underlying t = some .bool) : ∃ b, v = .bool b := by
  obtain ⟨⟨b, h1⟩, _⟩ := h
  exact okWide_bool ht h1
end Go.Proofs.YtmjfdobjnnfafaaGreatDoor
