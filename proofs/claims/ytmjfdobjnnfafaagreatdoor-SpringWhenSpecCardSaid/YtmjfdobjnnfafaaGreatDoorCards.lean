/-
  DERIVED. GIVEN WITH THE SEED: THE CARDS: each row of YtmjfdobjnnfafaaGreatDoorRows.lean that lists a variable, with what it lists TIED to the program's text (the seventh form; the later family's looks); each row that meets fmt, with fmt's text TOLD by the authors' own Lean function (tested against real Go, not proved from fmt's source: count such statements apart). THE CARD IS WHAT COUNTS. Prove the row's statement (the work); the ties are given (YtmjfdobjnnfafaaGreatDoorTie.lean); close each card by the builder's one call (the guide's Derived/Test/ToyasCard.lean, 'card_holds'). Laid BY PROGRAM, IN A SANDBOX (cutbox-door.mjs). By AI agents, Wed Nov 11 2026. No macro, syntax, notation, axiom, sorry.
-/
import Derived.Test.YtmjfdobjnnfafaaGreatDoorRows
import GoSem.ClaimSeven
namespace Go.Proofs.YtmjfdobjnnfafaaGreatDoor
namespace Rows

/-- THE TIED CARD OF 'snowlinelaw06.SpringCheckSpec'. -/
def springCheckSpecCard : Claim7 := { stood := { row := springCheckSpecRow, standIns := [], harness := (true, "35d444981c2af7b56da1b39a94e96b2be7085ba3a092eaffe21a8eb966b9ba23"), looks := false }, kinds := [], alts := [], laidByText := true, laidKinds := [.data, .data, .data], laidTests := true, laidLooks := .later }
def SpringCheckSpecCardSaid : Prop := Claim7.holds Tryz.pinned (.plain (OpenSpec.ofChange springCheckSpecSpec)) springCheckSpecCard

/-- THE TIED CARD OF 'snowlinelaw06.SpringHeightSpec'. -/
def springHeightSpecCard : Claim7 := { stood := { row := springHeightSpecRow, standIns := [], harness := (true, "35d444981c2af7b56da1b39a94e96b2be7085ba3a092eaffe21a8eb966b9ba23"), looks := false }, kinds := [], alts := [], laidByText := true, laidKinds := [.data, .data, .data], laidTests := true, laidLooks := .later }
def SpringHeightSpecCardSaid : Prop := Claim7.holds Tryz.pinned (.plain (OpenSpec.ofChange springHeightSpecSpec)) springHeightSpecCard

/-- THE TIED CARD OF 'snowlinelaw06.SpringGapSpec'. -/
def springGapSpecCard : Claim7 := { stood := { row := springGapSpecRow, standIns := [], harness := (true, "35d444981c2af7b56da1b39a94e96b2be7085ba3a092eaffe21a8eb966b9ba23"), looks := false }, kinds := [], alts := [], laidByText := true, laidKinds := [.data, .data, .data], laidTests := true, laidLooks := .later }
def SpringGapSpecCardSaid : Prop := Claim7.holds Tryz.pinned (.plain (OpenSpec.ofChange springGapSpecSpec)) springGapSpecCard

/-- THE TIED CARD OF 'snowlinelaw06.SpringReleaseSpec'. -/
def springReleaseSpecCard : Claim7 := { stood := { row := springReleaseSpecRow, standIns := [], harness := (true, "35d444981c2af7b56da1b39a94e96b2be7085ba3a092eaffe21a8eb966b9ba23"), looks := false }, kinds := [], alts := [], laidByText := true, laidKinds := [.data, .data, .data], laidTests := true, laidLooks := .later }
def SpringReleaseSpecCardSaid : Prop := Claim7.holds Tryz.pinned (.plain (OpenSpec.ofChange springReleaseSpecSpec)) springReleaseSpecCard

/-- THE TIED CARD OF 'snowlinelaw06.SpringWhenSpec'. -/
def springWhenSpecCard : Claim7 := { stood := { row := springWhenSpecRow, standIns := [], harness := (true, "35d444981c2af7b56da1b39a94e96b2be7085ba3a092eaffe21a8eb966b9ba23"), looks := false }, kinds := [], alts := [], laidByText := true, laidKinds := [.data, .data, .data], laidTests := true, laidLooks := .later }
def SpringWhenSpecCardSaid : Prop := Claim7.holds Tryz.pinned (.plain (OpenSpec.ofChange springWhenSpecSpec)) springWhenSpecCard

/-- THE TIED CARD OF 'snowlinelaw06.SpringGaps'. -/
def springGapsCard : Claim7 := { stood := { row := springGapsRow, standIns := [], harness := (true, "35d444981c2af7b56da1b39a94e96b2be7085ba3a092eaffe21a8eb966b9ba23"), looks := false }, kinds := [], alts := [], laidByText := true, laidKinds := [.data, .data, .data], laidTests := true, laidLooks := .later }
def SpringGapsCardSaid : Prop := Claim7.holds Tryz.pinned (.plain (OpenSpec.ofChange springGapsSpec)) springGapsCard

/-- THE TIED CARD OF 'snowlinelaw06.SpringBounded'. -/
def springBoundedCard : Claim7 := { stood := { row := springBoundedRow, standIns := [], harness := (true, "35d444981c2af7b56da1b39a94e96b2be7085ba3a092eaffe21a8eb966b9ba23"), looks := false }, kinds := [], alts := [], laidByText := true, laidKinds := [.data, .data, .data], laidTests := true, laidLooks := .later }
def SpringBoundedCardSaid : Prop := Claim7.holds Tryz.pinned (.plain (OpenSpec.ofChange springBoundedSpec)) springBoundedCard

/-- THE TIED CARD OF 'snowlinelaw06.SpringBalance'. -/
def springBalanceCard : Claim7 := { stood := { row := springBalanceRow, standIns := [], harness := (true, "35d444981c2af7b56da1b39a94e96b2be7085ba3a092eaffe21a8eb966b9ba23"), looks := false }, kinds := [], alts := [], laidByText := true, laidKinds := [.data, .data, .data], laidTests := true, laidLooks := .later }
def SpringBalanceCardSaid : Prop := Claim7.holds Tryz.pinned (.plain (OpenSpec.ofChange springBalanceSpec)) springBalanceCard

/-- THE TIED CARD OF 'snowlinelaw06.SpringMore'. -/
def springMoreCard : Claim7 := { stood := { row := springMoreRow, standIns := [], harness := (true, "35d444981c2af7b56da1b39a94e96b2be7085ba3a092eaffe21a8eb966b9ba23"), looks := false }, kinds := [], alts := [], laidByText := true, laidKinds := [.data, .data, .data], laidTests := true, laidLooks := .later }
def SpringMoreCardSaid : Prop := Claim7.holds Tryz.pinned (.plain (OpenSpec.ofChange springMoreSpec)) springMoreCard

/-- THE TIED CARD OF 'snowlinelaw06.SpringParts'. -/
def springPartsCard : Claim7 := { stood := { row := springPartsRow, standIns := [], harness := (true, "35d444981c2af7b56da1b39a94e96b2be7085ba3a092eaffe21a8eb966b9ba23"), looks := false }, kinds := [], alts := [], laidByText := true, laidKinds := [.data, .data, .data], laidTests := true, laidLooks := .later }
def SpringPartsCardSaid : Prop := Claim7.holds Tryz.pinned (.plain (OpenSpec.ofChange springPartsSpec)) springPartsCard

/-- THE TIED CARD OF 'snowlinelaw06.SpringHeights'. -/
def springHeightsCard : Claim7 := { stood := { row := springHeightsRow, standIns := [], harness := (true, "35d444981c2af7b56da1b39a94e96b2be7085ba3a092eaffe21a8eb966b9ba23"), looks := false }, kinds := [], alts := [], laidByText := true, laidKinds := [.data, .data, .data], laidTests := true, laidLooks := .later }
def SpringHeightsCardSaid : Prop := Claim7.holds Tryz.pinned (.plain (OpenSpec.ofChange springHeightsSpec)) springHeightsCard

/-- THE TIED CARD OF 'snowlinelaw06.SpringWhen'. -/
def springWhenCard : Claim7 := { stood := { row := springWhenRow, standIns := [], harness := (true, "35d444981c2af7b56da1b39a94e96b2be7085ba3a092eaffe21a8eb966b9ba23"), looks := false }, kinds := [], alts := [], laidByText := true, laidKinds := [.data, .data, .data], laidTests := true, laidLooks := .later }
def SpringWhenCardSaid : Prop := Claim7.holds Tryz.pinned (.plain (OpenSpec.ofChange springWhenSpec)) springWhenCard

/-- THE TIED CARD OF 'snowlinelaw06.SpringChangeSpec'. -/
def springChangeSpecCard : Claim7 := { stood := { row := springChangeSpecRow, standIns := [], harness := (true, "35d444981c2af7b56da1b39a94e96b2be7085ba3a092eaffe21a8eb966b9ba23"), looks := false }, kinds := [], alts := [], laidByText := true, laidKinds := [.data, .data, .data], laidTests := true, laidLooks := .later }
def SpringChangeSpecCardSaid : Prop := Claim7.holds Tryz.pinned (.plain (OpenSpec.ofChange springChangeSpecSpec)) springChangeSpecCard

/-- THE TIED CARD OF 'snowlinelaw06.SpringCarried'. -/
def springCarriedCard : Claim7 := { stood := { row := springCarriedRow, standIns := [], harness := (true, "35d444981c2af7b56da1b39a94e96b2be7085ba3a092eaffe21a8eb966b9ba23"), looks := false }, kinds := [], alts := [], laidByText := true, laidKinds := [.data, .data, .data], laidTests := true, laidLooks := .later }
def SpringCarriedCardSaid : Prop := Claim7.holds Tryz.pinned (.plain (OpenSpec.ofChange springCarriedSpec)) springCarriedCard

/-- THE TIED CARD OF 'snowlinelaw06.SpringVolumeSpec'. -/
def springVolumeSpecCard : Claim7 := { stood := { row := springVolumeSpecRow, standIns := [], harness := (true, "35d444981c2af7b56da1b39a94e96b2be7085ba3a092eaffe21a8eb966b9ba23"), looks := false }, kinds := [], alts := [], laidByText := true, laidKinds := [.data, .data, .data], laidTests := true, laidLooks := .later }
def SpringVolumeSpecCardSaid : Prop := Claim7.holds Tryz.pinned (.plain (OpenSpec.ofChange springVolumeSpecSpec)) springVolumeSpecCard

/-- THE TIED CARD OF 'snowlinelaw06.SpringLeftSpec'. -/
def springLeftSpecCard : Claim7 := { stood := { row := springLeftSpecRow, standIns := [], harness := (true, "35d444981c2af7b56da1b39a94e96b2be7085ba3a092eaffe21a8eb966b9ba23"), looks := false }, kinds := [], alts := [], laidByText := true, laidKinds := [.data, .data, .data], laidTests := true, laidLooks := .later }
def SpringLeftSpecCardSaid : Prop := Claim7.holds Tryz.pinned (.plain (OpenSpec.ofChange springLeftSpecSpec)) springLeftSpecCard

/-- THE TIED CARD OF 'snowlinelaw06.SpringVolumes'. -/
def springVolumesCard : Claim7 := { stood := { row := springVolumesRow, standIns := [], harness := (true, "35d444981c2af7b56da1b39a94e96b2be7085ba3a092eaffe21a8eb966b9ba23"), looks := false }, kinds := [], alts := [], laidByText := true, laidKinds := [.data, .data, .data], laidTests := true, laidLooks := .later }
def SpringVolumesCardSaid : Prop := Claim7.holds Tryz.pinned (.plain (OpenSpec.ofChange springVolumesSpec)) springVolumesCard

/-- THE TIED CARD OF 'snowlinelaw06.SpringTexts'. -/
def springTextsCard : Claim7 := { stood := { row := springTextsRow, standIns := [], harness := (true, "35d444981c2af7b56da1b39a94e96b2be7085ba3a092eaffe21a8eb966b9ba23"), looks := false }, kinds := [], alts := [], laidByText := true, laidKinds := [.data, .data, .data, .data, .pinned], laidTests := true, laidLooks := .later }
def SpringTextsCardSaid : Prop := Claim7.holds Tryz.pinned (.plain (OpenSpec.ofChange springTextsSpec)) springTextsCard

/-- THE TIED CARD OF 'snowlinelaw06.SpringNarrower'. -/
def springNarrowerCard : Claim7 := { stood := { row := springNarrowerRow, standIns := [], harness := (true, "35d444981c2af7b56da1b39a94e96b2be7085ba3a092eaffe21a8eb966b9ba23"), looks := false }, kinds := [], alts := [], laidByText := true, laidKinds := [.data, .data, .data], laidTests := true, laidLooks := .later }
def SpringNarrowerCardSaid : Prop := Claim7.holds Tryz.pinned (.plain (OpenSpec.ofChange springNarrowerSpec)) springNarrowerCard

/-- THE SECOND FORM's CARD OF 'snowlinelaw06.SpringCheckSpec'. -/
def springCheckSpecUptoCard : Claim7 := { stood := { row := springCheckSpecUptoRow, standIns := [], harness := (true, "35d444981c2af7b56da1b39a94e96b2be7085ba3a092eaffe21a8eb966b9ba23"), looks := false }, kinds := [], alts := [], laidByText := true, laidKinds := [.data, .data, .data], laidTests := true, laidLooks := .later }
def SpringCheckSpecUptoCardSaid : Prop := Claim7.holds Tryz.pinned (.plain (OpenSpec.upto springCheckSpecSpec)) springCheckSpecUptoCard

/-- THE SECOND FORM's CARD OF 'snowlinelaw06.SpringHeightSpec'. -/
def springHeightSpecUptoCard : Claim7 := { stood := { row := springHeightSpecUptoRow, standIns := [], harness := (true, "35d444981c2af7b56da1b39a94e96b2be7085ba3a092eaffe21a8eb966b9ba23"), looks := false }, kinds := [], alts := [], laidByText := true, laidKinds := [.data, .data, .data], laidTests := true, laidLooks := .later }
def SpringHeightSpecUptoCardSaid : Prop := Claim7.holds Tryz.pinned (.plain (OpenSpec.upto springHeightSpecSpec)) springHeightSpecUptoCard

/-- THE SECOND FORM's CARD OF 'snowlinelaw06.SpringGapSpec'. -/
def springGapSpecUptoCard : Claim7 := { stood := { row := springGapSpecUptoRow, standIns := [], harness := (true, "35d444981c2af7b56da1b39a94e96b2be7085ba3a092eaffe21a8eb966b9ba23"), looks := false }, kinds := [], alts := [], laidByText := true, laidKinds := [.data, .data, .data], laidTests := true, laidLooks := .later }
def SpringGapSpecUptoCardSaid : Prop := Claim7.holds Tryz.pinned (.plain (OpenSpec.upto springGapSpecSpec)) springGapSpecUptoCard

/-- THE SECOND FORM's CARD OF 'snowlinelaw06.SpringReleaseSpec'. -/
def springReleaseSpecUptoCard : Claim7 := { stood := { row := springReleaseSpecUptoRow, standIns := [], harness := (true, "35d444981c2af7b56da1b39a94e96b2be7085ba3a092eaffe21a8eb966b9ba23"), looks := false }, kinds := [], alts := [], laidByText := true, laidKinds := [.data, .data, .data], laidTests := true, laidLooks := .later }
def SpringReleaseSpecUptoCardSaid : Prop := Claim7.holds Tryz.pinned (.plain (OpenSpec.upto springReleaseSpecSpec)) springReleaseSpecUptoCard

/-- THE SECOND FORM's CARD OF 'snowlinelaw06.SpringWhenSpec'. -/
def springWhenSpecUptoCard : Claim7 := { stood := { row := springWhenSpecUptoRow, standIns := [], harness := (true, "35d444981c2af7b56da1b39a94e96b2be7085ba3a092eaffe21a8eb966b9ba23"), looks := false }, kinds := [], alts := [], laidByText := true, laidKinds := [.data, .data, .data], laidTests := true, laidLooks := .later }
def SpringWhenSpecUptoCardSaid : Prop := Claim7.holds Tryz.pinned (.plain (OpenSpec.upto springWhenSpecSpec)) springWhenSpecUptoCard

/-- THE SECOND FORM's CARD OF 'snowlinelaw06.SpringGaps'. -/
def springGapsUptoCard : Claim7 := { stood := { row := springGapsUptoRow, standIns := [], harness := (true, "35d444981c2af7b56da1b39a94e96b2be7085ba3a092eaffe21a8eb966b9ba23"), looks := false }, kinds := [], alts := [], laidByText := true, laidKinds := [.data, .data, .data], laidTests := true, laidLooks := .later }
def SpringGapsUptoCardSaid : Prop := Claim7.holds Tryz.pinned (.plain (OpenSpec.upto springGapsSpec)) springGapsUptoCard

/-- THE SECOND FORM's CARD OF 'snowlinelaw06.SpringBounded'. -/
def springBoundedUptoCard : Claim7 := { stood := { row := springBoundedUptoRow, standIns := [], harness := (true, "35d444981c2af7b56da1b39a94e96b2be7085ba3a092eaffe21a8eb966b9ba23"), looks := false }, kinds := [], alts := [], laidByText := true, laidKinds := [.data, .data, .data], laidTests := true, laidLooks := .later }
def SpringBoundedUptoCardSaid : Prop := Claim7.holds Tryz.pinned (.plain (OpenSpec.upto springBoundedSpec)) springBoundedUptoCard

/-- THE SECOND FORM's CARD OF 'snowlinelaw06.SpringBalance'. -/
def springBalanceUptoCard : Claim7 := { stood := { row := springBalanceUptoRow, standIns := [], harness := (true, "35d444981c2af7b56da1b39a94e96b2be7085ba3a092eaffe21a8eb966b9ba23"), looks := false }, kinds := [], alts := [], laidByText := true, laidKinds := [.data, .data, .data], laidTests := true, laidLooks := .later }
def SpringBalanceUptoCardSaid : Prop := Claim7.holds Tryz.pinned (.plain (OpenSpec.upto springBalanceSpec)) springBalanceUptoCard

/-- THE SECOND FORM's CARD OF 'snowlinelaw06.SpringMore'. -/
def springMoreUptoCard : Claim7 := { stood := { row := springMoreUptoRow, standIns := [], harness := (true, "35d444981c2af7b56da1b39a94e96b2be7085ba3a092eaffe21a8eb966b9ba23"), looks := false }, kinds := [], alts := [], laidByText := true, laidKinds := [.data, .data, .data], laidTests := true, laidLooks := .later }
def SpringMoreUptoCardSaid : Prop := Claim7.holds Tryz.pinned (.plain (OpenSpec.upto springMoreSpec)) springMoreUptoCard

/-- THE SECOND FORM's CARD OF 'snowlinelaw06.SpringParts'. -/
def springPartsUptoCard : Claim7 := { stood := { row := springPartsUptoRow, standIns := [], harness := (true, "35d444981c2af7b56da1b39a94e96b2be7085ba3a092eaffe21a8eb966b9ba23"), looks := false }, kinds := [], alts := [], laidByText := true, laidKinds := [.data, .data, .data], laidTests := true, laidLooks := .later }
def SpringPartsUptoCardSaid : Prop := Claim7.holds Tryz.pinned (.plain (OpenSpec.upto springPartsSpec)) springPartsUptoCard

/-- THE SECOND FORM's CARD OF 'snowlinelaw06.SpringHeights'. -/
def springHeightsUptoCard : Claim7 := { stood := { row := springHeightsUptoRow, standIns := [], harness := (true, "35d444981c2af7b56da1b39a94e96b2be7085ba3a092eaffe21a8eb966b9ba23"), looks := false }, kinds := [], alts := [], laidByText := true, laidKinds := [.data, .data, .data], laidTests := true, laidLooks := .later }
def SpringHeightsUptoCardSaid : Prop := Claim7.holds Tryz.pinned (.plain (OpenSpec.upto springHeightsSpec)) springHeightsUptoCard

/-- THE SECOND FORM's CARD OF 'snowlinelaw06.SpringWhen'. -/
def springWhenUptoCard : Claim7 := { stood := { row := springWhenUptoRow, standIns := [], harness := (true, "35d444981c2af7b56da1b39a94e96b2be7085ba3a092eaffe21a8eb966b9ba23"), looks := false }, kinds := [], alts := [], laidByText := true, laidKinds := [.data, .data, .data], laidTests := true, laidLooks := .later }
def SpringWhenUptoCardSaid : Prop := Claim7.holds Tryz.pinned (.plain (OpenSpec.upto springWhenSpec)) springWhenUptoCard

/-- THE SECOND FORM's CARD OF 'snowlinelaw06.SpringChangeSpec'. -/
def springChangeSpecUptoCard : Claim7 := { stood := { row := springChangeSpecUptoRow, standIns := [], harness := (true, "35d444981c2af7b56da1b39a94e96b2be7085ba3a092eaffe21a8eb966b9ba23"), looks := false }, kinds := [], alts := [], laidByText := true, laidKinds := [.data, .data, .data], laidTests := true, laidLooks := .later }
def SpringChangeSpecUptoCardSaid : Prop := Claim7.holds Tryz.pinned (.plain (OpenSpec.upto springChangeSpecSpec)) springChangeSpecUptoCard

/-- THE SECOND FORM's CARD OF 'snowlinelaw06.SpringCarried'. -/
def springCarriedUptoCard : Claim7 := { stood := { row := springCarriedUptoRow, standIns := [], harness := (true, "35d444981c2af7b56da1b39a94e96b2be7085ba3a092eaffe21a8eb966b9ba23"), looks := false }, kinds := [], alts := [], laidByText := true, laidKinds := [.data, .data, .data], laidTests := true, laidLooks := .later }
def SpringCarriedUptoCardSaid : Prop := Claim7.holds Tryz.pinned (.plain (OpenSpec.upto springCarriedSpec)) springCarriedUptoCard

/-- THE SECOND FORM's CARD OF 'snowlinelaw06.SpringVolumeSpec'. -/
def springVolumeSpecUptoCard : Claim7 := { stood := { row := springVolumeSpecUptoRow, standIns := [], harness := (true, "35d444981c2af7b56da1b39a94e96b2be7085ba3a092eaffe21a8eb966b9ba23"), looks := false }, kinds := [], alts := [], laidByText := true, laidKinds := [.data, .data, .data], laidTests := true, laidLooks := .later }
def SpringVolumeSpecUptoCardSaid : Prop := Claim7.holds Tryz.pinned (.plain (OpenSpec.upto springVolumeSpecSpec)) springVolumeSpecUptoCard

/-- THE SECOND FORM's CARD OF 'snowlinelaw06.SpringLeftSpec'. -/
def springLeftSpecUptoCard : Claim7 := { stood := { row := springLeftSpecUptoRow, standIns := [], harness := (true, "35d444981c2af7b56da1b39a94e96b2be7085ba3a092eaffe21a8eb966b9ba23"), looks := false }, kinds := [], alts := [], laidByText := true, laidKinds := [.data, .data, .data], laidTests := true, laidLooks := .later }
def SpringLeftSpecUptoCardSaid : Prop := Claim7.holds Tryz.pinned (.plain (OpenSpec.upto springLeftSpecSpec)) springLeftSpecUptoCard

/-- THE SECOND FORM's CARD OF 'snowlinelaw06.SpringVolumes'. -/
def springVolumesUptoCard : Claim7 := { stood := { row := springVolumesUptoRow, standIns := [], harness := (true, "35d444981c2af7b56da1b39a94e96b2be7085ba3a092eaffe21a8eb966b9ba23"), looks := false }, kinds := [], alts := [], laidByText := true, laidKinds := [.data, .data, .data], laidTests := true, laidLooks := .later }
def SpringVolumesUptoCardSaid : Prop := Claim7.holds Tryz.pinned (.plain (OpenSpec.upto springVolumesSpec)) springVolumesUptoCard

/-- THE SECOND FORM's CARD OF 'snowlinelaw06.SpringTexts'. -/
def springTextsUptoCard : Claim7 := { stood := { row := springTextsUptoRow, standIns := [], harness := (true, "35d444981c2af7b56da1b39a94e96b2be7085ba3a092eaffe21a8eb966b9ba23"), looks := false }, kinds := [], alts := [], laidByText := true, laidKinds := [.data, .data, .data, .data, .pinned], laidTests := true, laidLooks := .later }
def SpringTextsUptoCardSaid : Prop := Claim7.holds Tryz.pinned (.plain (OpenSpec.upto springTextsSpec)) springTextsUptoCard

/-- THE SECOND FORM's CARD OF 'snowlinelaw06.SpringNarrower'. -/
def springNarrowerUptoCard : Claim7 := { stood := { row := springNarrowerUptoRow, standIns := [], harness := (true, "35d444981c2af7b56da1b39a94e96b2be7085ba3a092eaffe21a8eb966b9ba23"), looks := false }, kinds := [], alts := [], laidByText := true, laidKinds := [.data, .data, .data], laidTests := true, laidLooks := .later }
def SpringNarrowerUptoCardSaid : Prop := Claim7.holds Tryz.pinned (.plain (OpenSpec.upto springNarrowerSpec)) springNarrowerUptoCard
end Rows
end Go.Proofs.YtmjfdobjnnfafaaGreatDoor
