/-
  DERIVED. GIVEN WITH THE SEED: THE CARDS: each row of YtoojedjmlcdomaaGreatDoorRows.lean that lists a variable, with what it lists TIED to the program's text (the seventh form; the later family's looks); each row that meets fmt, with fmt's text TOLD by the authors' own Lean function (tested against real Go, not proved from fmt's source: count such statements apart). THE CARD IS WHAT COUNTS. Prove the row's statement (the work); the ties are given (YtoojedjmlcdomaaGreatDoorTie.lean); close each card by the builder's one call (the guide's Derived/Test/ToyasCard.lean, 'card_holds'). Laid BY PROGRAM, IN A SANDBOX (cutbox-door.mjs). By AI agents, Wed Nov 11 2026. No macro, syntax, notation, axiom, sorry.
-/
import Derived.Test.YtoojedjmlcdomaaGreatDoorRows
import GoSem.ClaimSeven
namespace Go.Proofs.YtoojedjmlcdomaaGreatDoor
namespace Rows

/-- THE TIED CARD OF 'snowlinelaw06.SpringVolumeSpec'. -/
def springVolumeSpecCard : Claim7 := { stood := { row := springVolumeSpecRow, standIns := [], harness := (true, "3e135ccada2d687900207481f92b3908ea17ac63b34e15c9d7f93d7ad0344087"), looks := false }, kinds := [], alts := [], laidByText := true, laidKinds := [.data, .data, .data], laidTests := true, laidLooks := .later }
def SpringVolumeSpecCardSaid : Prop := Claim7.holds Tryz.pinned (.plain (OpenSpec.ofChange springVolumeSpecSpec)) springVolumeSpecCard

/-- THE TIED CARD OF 'snowlinelaw06.SpringVolumes'. -/
def springVolumesCard : Claim7 := { stood := { row := springVolumesRow, standIns := [], harness := (true, "3e135ccada2d687900207481f92b3908ea17ac63b34e15c9d7f93d7ad0344087"), looks := false }, kinds := [], alts := [], laidByText := true, laidKinds := [.data, .data, .data], laidTests := true, laidLooks := .later }
def SpringVolumesCardSaid : Prop := Claim7.holds Tryz.pinned (.plain (OpenSpec.ofChange springVolumesSpec)) springVolumesCard

/-- THE TIED CARD OF 'snowlinelaw06.SpringTexts'. -/
def springTextsCard : Claim7 := { stood := { row := springTextsRow, standIns := [], harness := (true, "3e135ccada2d687900207481f92b3908ea17ac63b34e15c9d7f93d7ad0344087"), looks := false }, kinds := [], alts := [], laidByText := true, laidKinds := [.data, .data, .data, .data, .pinned], laidTests := true, laidLooks := .later }
def SpringTextsCardSaid : Prop := Claim7.holds Tryz.pinned (.plain (OpenSpec.ofChange springTextsSpec)) springTextsCard

/-- THE TIED CARD OF 'snowlinelaw06.SpringNarrower'. -/
def springNarrowerCard : Claim7 := { stood := { row := springNarrowerRow, standIns := [], harness := (true, "3e135ccada2d687900207481f92b3908ea17ac63b34e15c9d7f93d7ad0344087"), looks := false }, kinds := [], alts := [], laidByText := true, laidKinds := [.data, .data, .data], laidTests := true, laidLooks := .later }
def SpringNarrowerCardSaid : Prop := Claim7.holds Tryz.pinned (.plain (OpenSpec.ofChange springNarrowerSpec)) springNarrowerCard

/-- THE SECOND FORM's CARD OF 'snowlinelaw06.SpringVolumeSpec'. -/
def springVolumeSpecUptoCard : Claim7 := { stood := { row := springVolumeSpecUptoRow, standIns := [], harness := (true, "3e135ccada2d687900207481f92b3908ea17ac63b34e15c9d7f93d7ad0344087"), looks := false }, kinds := [], alts := [], laidByText := true, laidKinds := [.data, .data, .data], laidTests := true, laidLooks := .later }
def SpringVolumeSpecUptoCardSaid : Prop := Claim7.holds Tryz.pinned (.plain (OpenSpec.upto springVolumeSpecSpec)) springVolumeSpecUptoCard

/-- THE SECOND FORM's CARD OF 'snowlinelaw06.SpringVolumes'. -/
def springVolumesUptoCard : Claim7 := { stood := { row := springVolumesUptoRow, standIns := [], harness := (true, "3e135ccada2d687900207481f92b3908ea17ac63b34e15c9d7f93d7ad0344087"), looks := false }, kinds := [], alts := [], laidByText := true, laidKinds := [.data, .data, .data], laidTests := true, laidLooks := .later }
def SpringVolumesUptoCardSaid : Prop := Claim7.holds Tryz.pinned (.plain (OpenSpec.upto springVolumesSpec)) springVolumesUptoCard

/-- THE SECOND FORM's CARD OF 'snowlinelaw06.SpringTexts'. -/
def springTextsUptoCard : Claim7 := { stood := { row := springTextsUptoRow, standIns := [], harness := (true, "3e135ccada2d687900207481f92b3908ea17ac63b34e15c9d7f93d7ad0344087"), looks := false }, kinds := [], alts := [], laidByText := true, laidKinds := [.data, .data, .data, .data, .pinned], laidTests := true, laidLooks := .later }
def SpringTextsUptoCardSaid : Prop := Claim7.holds Tryz.pinned (.plain (OpenSpec.upto springTextsSpec)) springTextsUptoCard

/-- THE SECOND FORM's CARD OF 'snowlinelaw06.SpringNarrower'. -/
def springNarrowerUptoCard : Claim7 := { stood := { row := springNarrowerUptoRow, standIns := [], harness := (true, "3e135ccada2d687900207481f92b3908ea17ac63b34e15c9d7f93d7ad0344087"), looks := false }, kinds := [], alts := [], laidByText := true, laidKinds := [.data, .data, .data], laidTests := true, laidLooks := .later }
def SpringNarrowerUptoCardSaid : Prop := Claim7.holds Tryz.pinned (.plain (OpenSpec.upto springNarrowerSpec)) springNarrowerUptoCard
end Rows
end Go.Proofs.YtoojedjmlcdomaaGreatDoor
