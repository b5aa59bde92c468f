/-
  DERIVED. GIVEN WITH THE SEED: THE CARDS: each row of YtifeniiefhpadaaGreatDoorRows.lean that lists a variable, with what it lists TIED to the program's text (the seventh form; the later family's looks); each row that meets fmt, with fmt's text TOLD by the authors' own Lean function (tested against real Go, not proved from fmt's source: count such statements apart). THE CARD IS WHAT COUNTS. Prove the row's statement (the work); the ties are given (YtifeniiefhpadaaGreatDoorTie.lean); close each card by the builder's one call (the guide's Derived/Test/ToyasCard.lean, 'card_holds'). Laid BY PROGRAM, IN A SANDBOX (cutbox-door.mjs). By AI agents, Wed Nov 11 2026. No macro, syntax, notation, axiom, sorry.
-/
import Derived.Test.YtifeniiefhpadaaGreatDoorRows
import GoSem.ClaimSeven
namespace Go.Proofs.YtifeniiefhpadaaGreatDoor
namespace Rows

/-- THE TIED CARD OF 'snowlinelaw06.SpringNarrower'. -/
def springNarrowerCard : Claim7 := { stood := { row := springNarrowerRow, standIns := [], harness := (true, "a0378df57d0864d4d14efa998146bebab26facbf30135244eeb9b9a8dcf51c03"), looks := false }, kinds := [], alts := [], laidByText := true, laidKinds := [.data, .data, .data], laidTests := true, laidLooks := .later }
def SpringNarrowerCardSaid : Prop := Claim7.holds Tryz.pinned (.plain (OpenSpec.ofChange springNarrowerSpec)) springNarrowerCard

/-- THE SECOND FORM's CARD OF 'snowlinelaw06.SpringNarrower'. -/
def springNarrowerUptoCard : Claim7 := { stood := { row := springNarrowerUptoRow, standIns := [], harness := (true, "a0378df57d0864d4d14efa998146bebab26facbf30135244eeb9b9a8dcf51c03"), looks := false }, kinds := [], alts := [], laidByText := true, laidKinds := [.data, .data, .data], laidTests := true, laidLooks := .later }
def SpringNarrowerUptoCardSaid : Prop := Claim7.holds Tryz.pinned (.plain (OpenSpec.upto springNarrowerSpec)) springNarrowerUptoCard
end Rows
end Go.Proofs.YtifeniiefhpadaaGreatDoor
