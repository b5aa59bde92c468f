/-
  No cell of these rows narrows 'for every input' (looked for: loops, veiled, ifaces, maps, wideKeys, modest, calm, conditions, laid).
  DERIVED. THE GIVEN ROWS OF THIS SEAT. 13 by the template 'for every input the law returns true; each argument reads behind the call as it read before'; 0 by the template 'total and deterministic' (their statements: YtgbbljfmngmjeaaGreatTotals.lean).
  GIVEN WITH THE SEED: the statements are not yours to turn. If you find one false, say at which input.
  Laid BY PROGRAM, IN A SANDBOX (cutbox-rows.mjs): the forced cells as the released guide's own fill.sh prints them over the translation 30bc0051141f45cb… (all of the seat's roots in one cut). By AI agents, Wed Nov 11 2026. No macro, syntax, notation, axiom, sorry.
-/
import Derived.Test.YtgbbljfmngmjeaaGreatChecked
import GoSem.Claim
import GoSem.ClaimJoined
import GoSem.ClaimMapViews
import Derived.JoinedTies
import Derived.KernelRfl
namespace Go.Proofs.YtgbbljfmngmjeaaGreat
/- THE CELL 'sum', in the pinned program and in every row, IS THE sha256 OF THE DUMP (.gsa) THAT YtgbbljfmngmjeaaGreatProg.lean LOADS. Nothing in Lean hashes anything: it is a label: what it is worth is what the hold of that sum in a sandbox is worth. -/
noncomputable def Tryz.pinned : Pinned := { name := "ytgbbljfmngmjeaagreat", sum := "30bc0051141f45cb771ea93b4b69c52f703a98048bd2548b741c20916db840f5", checked := Tryz.checked }
namespace Rows
def none {H : Type} : Left H := { results := [], args := [] }

/-- 'snowlinelaw07.CrewCheckSpec': WHATEVER THE INPUT: true; the input reads as it did. -/
def crewCheckSpecSpec : ChangeSpec := { name := "crewCheckSpec", fn := fun _ => fun
  | [d1, d2, d3, d4] => { results := [.lit (.bool true)], args := [d1, d2, d3, d4] }
  | _ => none }
def crewCheckSpecRow : OpenClaim := { program := "ytgbbljfmngmjeaagreat", sum := "30bc0051141f45cb771ea93b4b69c52f703a98048bd2548b741c20916db840f5", func := "snowline/snowlinelaw07.CrewCheckSpec", spec := "crewCheckSpec", unfollowed := true, recurses := true, plainKeys := false, apart := false }
def CrewCheckSpecSaid : Prop := crewCheckSpecRow.holds Tryz.pinned (OpenSpec.ofChange crewCheckSpecSpec)

/-- ITS FALSE NEIGHBOUR: 'it returns false'. Refute it at one input. -/
def crewCheckSpecWrong : ChangeSpec := { name := "crewCheckSpec", fn := fun _ => fun
  | [d1, d2, d3, d4] => { results := [.lit (.bool false)], args := [d1, d2, d3, d4] }
  | _ => none }
def CrewCheckSpecWrongFalsely : Prop := crewCheckSpecRow.holds Tryz.pinned (OpenSpec.ofChange crewCheckSpecWrong)

/-- 'snowlinelaw07.CrewWaySpec': WHATEVER THE INPUT: true; the input reads as it did. -/
def crewWaySpecSpec : ChangeSpec := { name := "crewWaySpec", fn := fun _ => fun
  | [d1, d2, d3, d4, d5, d6] => { results := [.lit (.bool true)], args := [d1, d2, d3, d4, d5, d6] }
  | _ => none }
def crewWaySpecRow : OpenClaim := { program := "ytgbbljfmngmjeaagreat", sum := "30bc0051141f45cb771ea93b4b69c52f703a98048bd2548b741c20916db840f5", func := "snowline/snowlinelaw07.CrewWaySpec", spec := "crewWaySpec", unfollowed := true, recurses := true, plainKeys := false, apart := false }
def CrewWaySpecSaid : Prop := crewWaySpecRow.holds Tryz.pinned (OpenSpec.ofChange crewWaySpecSpec)

/-- ITS FALSE NEIGHBOUR: 'it returns false'. Refute it at one input. -/
def crewWaySpecWrong : ChangeSpec := { name := "crewWaySpec", fn := fun _ => fun
  | [d1, d2, d3, d4, d5, d6] => { results := [.lit (.bool false)], args := [d1, d2, d3, d4, d5, d6] }
  | _ => none }
def CrewWaySpecWrongFalsely : Prop := crewWaySpecRow.holds Tryz.pinned (OpenSpec.ofChange crewWaySpecWrong)

/-- 'snowlinelaw07.CrewTripSpec': WHATEVER THE INPUT: true; the input reads as it did. -/
def crewTripSpecSpec : ChangeSpec := { name := "crewTripSpec", fn := fun _ => fun
  | [d1, d2, d3, d4, d5, d6] => { results := [.lit (.bool true)], args := [d1, d2, d3, d4, d5, d6] }
  | _ => none }
def crewTripSpecRow : OpenClaim := { program := "ytgbbljfmngmjeaagreat", sum := "30bc0051141f45cb771ea93b4b69c52f703a98048bd2548b741c20916db840f5", func := "snowline/snowlinelaw07.CrewTripSpec", spec := "crewTripSpec", unfollowed := true, recurses := true, plainKeys := false, apart := false }
def CrewTripSpecSaid : Prop := crewTripSpecRow.holds Tryz.pinned (OpenSpec.ofChange crewTripSpecSpec)

/-- ITS FALSE NEIGHBOUR: 'it returns false'. Refute it at one input. -/
def crewTripSpecWrong : ChangeSpec := { name := "crewTripSpec", fn := fun _ => fun
  | [d1, d2, d3, d4, d5, d6] => { results := [.lit (.bool false)], args := [d1, d2, d3, d4, d5, d6] }
  | _ => none }
def CrewTripSpecWrongFalsely : Prop := crewTripSpecRow.holds Tryz.pinned (OpenSpec.ofChange crewTripSpecWrong)

/-- 'snowlinelaw07.CrewWorstSpec': WHATEVER THE INPUT: true; the input reads as it did. -/
def crewWorstSpecSpec : ChangeSpec := { name := "crewWorstSpec", fn := fun _ => fun
  | [d1, d2, d3, d4, d5] => { results := [.lit (.bool true)], args := [d1, d2, d3, d4, d5] }
  | _ => none }
def crewWorstSpecRow : OpenClaim := { program := "ytgbbljfmngmjeaagreat", sum := "30bc0051141f45cb771ea93b4b69c52f703a98048bd2548b741c20916db840f5", func := "snowline/snowlinelaw07.CrewWorstSpec", spec := "crewWorstSpec", unfollowed := true, recurses := true, plainKeys := false, apart := false }
def CrewWorstSpecSaid : Prop := crewWorstSpecRow.holds Tryz.pinned (OpenSpec.ofChange crewWorstSpecSpec)

/-- ITS FALSE NEIGHBOUR: 'it returns false'. Refute it at one input. -/
def crewWorstSpecWrong : ChangeSpec := { name := "crewWorstSpec", fn := fun _ => fun
  | [d1, d2, d3, d4, d5] => { results := [.lit (.bool false)], args := [d1, d2, d3, d4, d5] }
  | _ => none }
def CrewWorstSpecWrongFalsely : Prop := crewWorstSpecRow.holds Tryz.pinned (OpenSpec.ofChange crewWorstSpecWrong)

/-- 'snowlinelaw07.CrewWays': WHATEVER THE INPUT: true; the input reads as it did. -/
def crewWaysSpec : ChangeSpec := { name := "crewWays", fn := fun _ => fun
  | [d1, d2, d3, d4, d5, d6] => { results := [.lit (.bool true)], args := [d1, d2, d3, d4, d5, d6] }
  | _ => none }
def crewWaysRow : OpenClaim := { program := "ytgbbljfmngmjeaagreat", sum := "30bc0051141f45cb771ea93b4b69c52f703a98048bd2548b741c20916db840f5", func := "snowline/snowlinelaw07.CrewWays", spec := "crewWays", unfollowed := true, recurses := true, plainKeys := false, apart := false }
def CrewWaysSaid : Prop := crewWaysRow.holds Tryz.pinned (OpenSpec.ofChange crewWaysSpec)

/-- ITS FALSE NEIGHBOUR: 'it returns false'. Refute it at one input. -/
def crewWaysWrong : ChangeSpec := { name := "crewWays", fn := fun _ => fun
  | [d1, d2, d3, d4, d5, d6] => { results := [.lit (.bool false)], args := [d1, d2, d3, d4, d5, d6] }
  | _ => none }
def CrewWaysWrongFalsely : Prop := crewWaysRow.holds Tryz.pinned (OpenSpec.ofChange crewWaysWrong)

/-- 'snowlinelaw07.CrewReached': WHATEVER THE INPUT: true; the input reads as it did. -/
def crewReachedSpec : ChangeSpec := { name := "crewReached", fn := fun _ => fun
  | [d1, d2, d3, d4] => { results := [.lit (.bool true)], args := [d1, d2, d3, d4] }
  | _ => none }
def crewReachedRow : OpenClaim := { program := "ytgbbljfmngmjeaagreat", sum := "30bc0051141f45cb771ea93b4b69c52f703a98048bd2548b741c20916db840f5", func := "snowline/snowlinelaw07.CrewReached", spec := "crewReached", unfollowed := true, recurses := true, plainKeys := false, apart := false }
def CrewReachedSaid : Prop := crewReachedRow.holds Tryz.pinned (OpenSpec.ofChange crewReachedSpec)

/-- ITS FALSE NEIGHBOUR: 'it returns false'. Refute it at one input. -/
def crewReachedWrong : ChangeSpec := { name := "crewReached", fn := fun _ => fun
  | [d1, d2, d3, d4] => { results := [.lit (.bool false)], args := [d1, d2, d3, d4] }
  | _ => none }
def CrewReachedWrongFalsely : Prop := crewReachedRow.holds Tryz.pinned (OpenSpec.ofChange crewReachedWrong)

/-- 'snowlinelaw07.CrewNarrower': WHATEVER THE INPUT: true; the input reads as it did. -/
def crewNarrowerSpec : ChangeSpec := { name := "crewNarrower", fn := fun _ => fun
  | [d1, d2, d3, d4] => { results := [.lit (.bool true)], args := [d1, d2, d3, d4] }
  | _ => none }
def crewNarrowerRow : OpenClaim := { program := "ytgbbljfmngmjeaagreat", sum := "30bc0051141f45cb771ea93b4b69c52f703a98048bd2548b741c20916db840f5", func := "snowline/snowlinelaw07.CrewNarrower", spec := "crewNarrower", unfollowed := true, recurses := true, plainKeys := false, apart := false }
def CrewNarrowerSaid : Prop := crewNarrowerRow.holds Tryz.pinned (OpenSpec.ofChange crewNarrowerSpec)

/-- ITS FALSE NEIGHBOUR: 'it returns false'. Refute it at one input. -/
def crewNarrowerWrong : ChangeSpec := { name := "crewNarrower", fn := fun _ => fun
  | [d1, d2, d3, d4] => { results := [.lit (.bool false)], args := [d1, d2, d3, d4] }
  | _ => none }
def CrewNarrowerWrongFalsely : Prop := crewNarrowerRow.holds Tryz.pinned (OpenSpec.ofChange crewNarrowerWrong)

/-- 'snowlinelaw07.CrewMeasured': WHATEVER THE INPUT: true; the input reads as it did. -/
def crewMeasuredSpec : ChangeSpec := { name := "crewMeasured", fn := fun _ => fun
  | [d1, d2, d3, d4, d5, d6, d7] => { results := [.lit (.bool true)], args := [d1, d2, d3, d4, d5, d6, d7] }
  | _ => none }
def crewMeasuredRow : OpenClaim := { program := "ytgbbljfmngmjeaagreat", sum := "30bc0051141f45cb771ea93b4b69c52f703a98048bd2548b741c20916db840f5", func := "snowline/snowlinelaw07.CrewMeasured", spec := "crewMeasured", unfollowed := true, recurses := true, plainKeys := false, apart := false }
def CrewMeasuredSaid : Prop := crewMeasuredRow.holds Tryz.pinned (OpenSpec.ofChange crewMeasuredSpec)

/-- ITS FALSE NEIGHBOUR: 'it returns false'. Refute it at one input. -/
def crewMeasuredWrong : ChangeSpec := { name := "crewMeasured", fn := fun _ => fun
  | [d1, d2, d3, d4, d5, d6, d7] => { results := [.lit (.bool false)], args := [d1, d2, d3, d4, d5, d6, d7] }
  | _ => none }
def CrewMeasuredWrongFalsely : Prop := crewMeasuredRow.holds Tryz.pinned (OpenSpec.ofChange crewMeasuredWrong)

/-- 'snowlinelaw07.CrewBestSpec': WHATEVER THE INPUT: true; the input reads as it did. -/
def crewBestSpecSpec : ChangeSpec := { name := "crewBestSpec", fn := fun _ => fun
  | [d1, d2, d3, d4, d5, d6] => { results := [.lit (.bool true)], args := [d1, d2, d3, d4, d5, d6] }
  | _ => none }
def crewBestSpecRow : OpenClaim := { program := "ytgbbljfmngmjeaagreat", sum := "30bc0051141f45cb771ea93b4b69c52f703a98048bd2548b741c20916db840f5", func := "snowline/snowlinelaw07.CrewBestSpec", spec := "crewBestSpec", unfollowed := true, recurses := true, plainKeys := false, apart := false }
def CrewBestSpecSaid : Prop := crewBestSpecRow.holds Tryz.pinned (OpenSpec.ofChange crewBestSpecSpec)

/-- ITS FALSE NEIGHBOUR: 'it returns false'. Refute it at one input. -/
def crewBestSpecWrong : ChangeSpec := { name := "crewBestSpec", fn := fun _ => fun
  | [d1, d2, d3, d4, d5, d6] => { results := [.lit (.bool false)], args := [d1, d2, d3, d4, d5, d6] }
  | _ => none }
def CrewBestSpecWrongFalsely : Prop := crewBestSpecRow.holds Tryz.pinned (OpenSpec.ofChange crewBestSpecWrong)

/-- 'snowlinelaw07.CrewNext': WHATEVER THE INPUT: true; the input reads as it did. -/
def crewNextSpec : ChangeSpec := { name := "crewNext", fn := fun _ => fun
  | [d1, d2, d3, d4, d5, d6] => { results := [.lit (.bool true)], args := [d1, d2, d3, d4, d5, d6] }
  | _ => none }
def crewNextRow : OpenClaim := { program := "ytgbbljfmngmjeaagreat", sum := "30bc0051141f45cb771ea93b4b69c52f703a98048bd2548b741c20916db840f5", func := "snowline/snowlinelaw07.CrewNext", spec := "crewNext", unfollowed := true, recurses := true, plainKeys := false, apart := false }
def CrewNextSaid : Prop := crewNextRow.holds Tryz.pinned (OpenSpec.ofChange crewNextSpec)

/-- ITS FALSE NEIGHBOUR: 'it returns false'. Refute it at one input. -/
def crewNextWrong : ChangeSpec := { name := "crewNext", fn := fun _ => fun
  | [d1, d2, d3, d4, d5, d6] => { results := [.lit (.bool false)], args := [d1, d2, d3, d4, d5, d6] }
  | _ => none }
def CrewNextWrongFalsely : Prop := crewNextRow.holds Tryz.pinned (OpenSpec.ofChange crewNextWrong)

/-- 'snowlinelaw07.CrewSafeSpec': WHATEVER THE INPUT: true; the input reads as it did. -/
def crewSafeSpecSpec : ChangeSpec := { name := "crewSafeSpec", fn := fun _ => fun
  | [d1, d2, d3, d4] => { results := [.lit (.bool true)], args := [d1, d2, d3, d4] }
  | _ => none }
def crewSafeSpecRow : OpenClaim := { program := "ytgbbljfmngmjeaagreat", sum := "30bc0051141f45cb771ea93b4b69c52f703a98048bd2548b741c20916db840f5", func := "snowline/snowlinelaw07.CrewSafeSpec", spec := "crewSafeSpec", unfollowed := true, recurses := true, plainKeys := false, apart := false }
def CrewSafeSpecSaid : Prop := crewSafeSpecRow.holds Tryz.pinned (OpenSpec.ofChange crewSafeSpecSpec)

/-- ITS FALSE NEIGHBOUR: 'it returns false'. Refute it at one input. -/
def crewSafeSpecWrong : ChangeSpec := { name := "crewSafeSpec", fn := fun _ => fun
  | [d1, d2, d3, d4] => { results := [.lit (.bool false)], args := [d1, d2, d3, d4] }
  | _ => none }
def CrewSafeSpecWrongFalsely : Prop := crewSafeSpecRow.holds Tryz.pinned (OpenSpec.ofChange crewSafeSpecWrong)

/-- 'snowlinelaw07.CrewTrips': WHATEVER THE INPUT: true; the input reads as it did. -/
def crewTripsSpec : ChangeSpec := { name := "crewTrips", fn := fun _ => fun
  | [d1, d2, d3, d4, d5, d6, d7] => { results := [.lit (.bool true)], args := [d1, d2, d3, d4, d5, d6, d7] }
  | _ => none }
def crewTripsRow : OpenClaim := { program := "ytgbbljfmngmjeaagreat", sum := "30bc0051141f45cb771ea93b4b69c52f703a98048bd2548b741c20916db840f5", func := "snowline/snowlinelaw07.CrewTrips", spec := "crewTrips", unfollowed := true, recurses := true, plainKeys := false, apart := false }
def CrewTripsSaid : Prop := crewTripsRow.holds Tryz.pinned (OpenSpec.ofChange crewTripsSpec)

/-- ITS FALSE NEIGHBOUR: 'it returns false'. Refute it at one input. -/
def crewTripsWrong : ChangeSpec := { name := "crewTrips", fn := fun _ => fun
  | [d1, d2, d3, d4, d5, d6, d7] => { results := [.lit (.bool false)], args := [d1, d2, d3, d4, d5, d6, d7] }
  | _ => none }
def CrewTripsWrongFalsely : Prop := crewTripsRow.holds Tryz.pinned (OpenSpec.ofChange crewTripsWrong)

/-- 'snowlinelaw07.CrewNobody': WHATEVER THE INPUT: true; the input reads as it did. -/
def crewNobodySpec : ChangeSpec := { name := "crewNobody", fn := fun _ => fun
  | [d1, d2, d3, d4, d5, d6, d7] => { results := [.lit (.bool true)], args := [d1, d2, d3, d4, d5, d6, d7] }
  | _ => none }
def crewNobodyRow : OpenClaim := { program := "ytgbbljfmngmjeaagreat", sum := "30bc0051141f45cb771ea93b4b69c52f703a98048bd2548b741c20916db840f5", func := "snowline/snowlinelaw07.CrewNobody", spec := "crewNobody", unfollowed := true, recurses := true, plainKeys := false, apart := false }
def CrewNobodySaid : Prop := crewNobodyRow.holds Tryz.pinned (OpenSpec.ofChange crewNobodySpec)

/-- ITS FALSE NEIGHBOUR: 'it returns false'. Refute it at one input. -/
def crewNobodyWrong : ChangeSpec := { name := "crewNobody", fn := fun _ => fun
  | [d1, d2, d3, d4, d5, d6, d7] => { results := [.lit (.bool false)], args := [d1, d2, d3, d4, d5, d6, d7] }
  | _ => none }
def CrewNobodyWrongFalsely : Prop := crewNobodyRow.holds Tryz.pinned (OpenSpec.ofChange crewNobodyWrong)

/- THE SECOND FORM. 'bulk': how many values and letters a reading holds, each counted each time it is reached (what is shared counts as often as it is met; a slice's spare places count too). A statement '..UptoSaid' is the law's where the arguments, and the package variables that the reading takes, are together of bulk at most 1048576: NARROWER than '..Said'. Prove '..Said' where nothing that the law and all that it calls make is longer than what came in: it says more and counts as full. Else prove '..UptoSaid'. A law counts once. -/
mutual
def uptoBulk {H : Type} : DataW H → Nat
  | .lit (.string bytes) => bytes.length + 1
  | .lit _ => 1
  | .nil => 1
  | .ptr d => uptoBulk d + 1
  | .slice elems spare => uptoBulkAll elems + uptoBulkAll spare + 1
  | .agg parts => uptoBulkAll parts + 1
  | .iface _ d => uptoBulk d + 1
  | .map entries => uptoBulkEntries entries + 1
  | .held _ => 1
def uptoBulkAll {H : Type} : List (DataW H) → Nat
  | [] => 0
  | d :: r => uptoBulk d + uptoBulkAll r
def uptoBulkEntries {H : Type} : List (Lit × DataW H) → Nat
  | [] => 0
  | x :: r => uptoBulkEntry x + uptoBulkEntries r
def uptoBulkEntry {H : Type} : Lit × DataW H → Nat
  | (.string bytes, d) => bytes.length + uptoBulk d + 1
  | (_, d) => uptoBulk d + 1
 end
def uptoSmall : (H : Type) → List (DataW H) → Bool := fun _ ds => decide (uptoBulkAll ds ≤ 1048576)
def OpenSpec.upto (s : _root_.Go.ChangeSpec) : _root_.Go.OpenSpec := { _root_.Go.OpenSpec.ofChange s with cond := some uptoSmall }

/-- 'snowlinelaw07.CrewCheckSpec', WHERE WHAT IT READS IS OF BULK AT MOST 1048576: true; the input reads as it did. -/
def crewCheckSpecUptoRow : OpenClaim := { program := "ytgbbljfmngmjeaagreat", sum := "30bc0051141f45cb771ea93b4b69c52f703a98048bd2548b741c20916db840f5", func := "snowline/snowlinelaw07.CrewCheckSpec", spec := "crewCheckSpec", unfollowed := true, recurses := true, plainKeys := false, apart := false, narrowed := true }
def CrewCheckSpecUptoSaid : Prop := crewCheckSpecUptoRow.holds Tryz.pinned (OpenSpec.upto crewCheckSpecSpec)

/-- 'snowlinelaw07.CrewWaySpec', WHERE WHAT IT READS IS OF BULK AT MOST 1048576: true; the input reads as it did. -/
def crewWaySpecUptoRow : OpenClaim := { program := "ytgbbljfmngmjeaagreat", sum := "30bc0051141f45cb771ea93b4b69c52f703a98048bd2548b741c20916db840f5", func := "snowline/snowlinelaw07.CrewWaySpec", spec := "crewWaySpec", unfollowed := true, recurses := true, plainKeys := false, apart := false, narrowed := true }
def CrewWaySpecUptoSaid : Prop := crewWaySpecUptoRow.holds Tryz.pinned (OpenSpec.upto crewWaySpecSpec)

/-- 'snowlinelaw07.CrewTripSpec', WHERE WHAT IT READS IS OF BULK AT MOST 1048576: true; the input reads as it did. -/
def crewTripSpecUptoRow : OpenClaim := { program := "ytgbbljfmngmjeaagreat", sum := "30bc0051141f45cb771ea93b4b69c52f703a98048bd2548b741c20916db840f5", func := "snowline/snowlinelaw07.CrewTripSpec", spec := "crewTripSpec", unfollowed := true, recurses := true, plainKeys := false, apart := false, narrowed := true }
def CrewTripSpecUptoSaid : Prop := crewTripSpecUptoRow.holds Tryz.pinned (OpenSpec.upto crewTripSpecSpec)

/-- 'snowlinelaw07.CrewWorstSpec', WHERE WHAT IT READS IS OF BULK AT MOST 1048576: true; the input reads as it did. -/
def crewWorstSpecUptoRow : OpenClaim := { program := "ytgbbljfmngmjeaagreat", sum := "30bc0051141f45cb771ea93b4b69c52f703a98048bd2548b741c20916db840f5", func := "snowline/snowlinelaw07.CrewWorstSpec", spec := "crewWorstSpec", unfollowed := true, recurses := true, plainKeys := false, apart := false, narrowed := true }
def CrewWorstSpecUptoSaid : Prop := crewWorstSpecUptoRow.holds Tryz.pinned (OpenSpec.upto crewWorstSpecSpec)

/-- 'snowlinelaw07.CrewWays', WHERE WHAT IT READS IS OF BULK AT MOST 1048576: true; the input reads as it did. -/
def crewWaysUptoRow : OpenClaim := { program := "ytgbbljfmngmjeaagreat", sum := "30bc0051141f45cb771ea93b4b69c52f703a98048bd2548b741c20916db840f5", func := "snowline/snowlinelaw07.CrewWays", spec := "crewWays", unfollowed := true, recurses := true, plainKeys := false, apart := false, narrowed := true }
def CrewWaysUptoSaid : Prop := crewWaysUptoRow.holds Tryz.pinned (OpenSpec.upto crewWaysSpec)

/-- 'snowlinelaw07.CrewReached', WHERE WHAT IT READS IS OF BULK AT MOST 1048576: true; the input reads as it did. -/
def crewReachedUptoRow : OpenClaim := { program := "ytgbbljfmngmjeaagreat", sum := "30bc0051141f45cb771ea93b4b69c52f703a98048bd2548b741c20916db840f5", func := "snowline/snowlinelaw07.CrewReached", spec := "crewReached", unfollowed := true, recurses := true, plainKeys := false, apart := false, narrowed := true }
def CrewReachedUptoSaid : Prop := crewReachedUptoRow.holds Tryz.pinned (OpenSpec.upto crewReachedSpec)

/-- 'snowlinelaw07.CrewNarrower', WHERE WHAT IT READS IS OF BULK AT MOST 1048576: true; the input reads as it did. -/
def crewNarrowerUptoRow : OpenClaim := { program := "ytgbbljfmngmjeaagreat", sum := "30bc0051141f45cb771ea93b4b69c52f703a98048bd2548b741c20916db840f5", func := "snowline/snowlinelaw07.CrewNarrower", spec := "crewNarrower", unfollowed := true, recurses := true, plainKeys := false, apart := false, narrowed := true }
def CrewNarrowerUptoSaid : Prop := crewNarrowerUptoRow.holds Tryz.pinned (OpenSpec.upto crewNarrowerSpec)

/-- 'snowlinelaw07.CrewMeasured', WHERE WHAT IT READS IS OF BULK AT MOST 1048576: true; the input reads as it did. -/
def crewMeasuredUptoRow : OpenClaim := { program := "ytgbbljfmngmjeaagreat", sum := "30bc0051141f45cb771ea93b4b69c52f703a98048bd2548b741c20916db840f5", func := "snowline/snowlinelaw07.CrewMeasured", spec := "crewMeasured", unfollowed := true, recurses := true, plainKeys := false, apart := false, narrowed := true }
def CrewMeasuredUptoSaid : Prop := crewMeasuredUptoRow.holds Tryz.pinned (OpenSpec.upto crewMeasuredSpec)

/-- 'snowlinelaw07.CrewBestSpec', WHERE WHAT IT READS IS OF BULK AT MOST 1048576: true; the input reads as it did. -/
def crewBestSpecUptoRow : OpenClaim := { program := "ytgbbljfmngmjeaagreat", sum := "30bc0051141f45cb771ea93b4b69c52f703a98048bd2548b741c20916db840f5", func := "snowline/snowlinelaw07.CrewBestSpec", spec := "crewBestSpec", unfollowed := true, recurses := true, plainKeys := false, apart := false, narrowed := true }
def CrewBestSpecUptoSaid : Prop := crewBestSpecUptoRow.holds Tryz.pinned (OpenSpec.upto crewBestSpecSpec)

/-- 'snowlinelaw07.CrewNext', WHERE WHAT IT READS IS OF BULK AT MOST 1048576: true; the input reads as it did. -/
def crewNextUptoRow : OpenClaim := { program := "ytgbbljfmngmjeaagreat", sum := "30bc0051141f45cb771ea93b4b69c52f703a98048bd2548b741c20916db840f5", func := "snowline/snowlinelaw07.CrewNext", spec := "crewNext", unfollowed := true, recurses := true, plainKeys := false, apart := false, narrowed := true }
def CrewNextUptoSaid : Prop := crewNextUptoRow.holds Tryz.pinned (OpenSpec.upto crewNextSpec)

/-- 'snowlinelaw07.CrewSafeSpec', WHERE WHAT IT READS IS OF BULK AT MOST 1048576: true; the input reads as it did. -/
def crewSafeSpecUptoRow : OpenClaim := { program := "ytgbbljfmngmjeaagreat", sum := "30bc0051141f45cb771ea93b4b69c52f703a98048bd2548b741c20916db840f5", func := "snowline/snowlinelaw07.CrewSafeSpec", spec := "crewSafeSpec", unfollowed := true, recurses := true, plainKeys := false, apart := false, narrowed := true }
def CrewSafeSpecUptoSaid : Prop := crewSafeSpecUptoRow.holds Tryz.pinned (OpenSpec.upto crewSafeSpecSpec)

/-- 'snowlinelaw07.CrewTrips', WHERE WHAT IT READS IS OF BULK AT MOST 1048576: true; the input reads as it did. -/
def crewTripsUptoRow : OpenClaim := { program := "ytgbbljfmngmjeaagreat", sum := "30bc0051141f45cb771ea93b4b69c52f703a98048bd2548b741c20916db840f5", func := "snowline/snowlinelaw07.CrewTrips", spec := "crewTrips", unfollowed := true, recurses := true, plainKeys := false, apart := false, narrowed := true }
def CrewTripsUptoSaid : Prop := crewTripsUptoRow.holds Tryz.pinned (OpenSpec.upto crewTripsSpec)

/-- 'snowlinelaw07.CrewNobody', WHERE WHAT IT READS IS OF BULK AT MOST 1048576: true; the input reads as it did. -/
def crewNobodyUptoRow : OpenClaim := { program := "ytgbbljfmngmjeaagreat", sum := "30bc0051141f45cb771ea93b4b69c52f703a98048bd2548b741c20916db840f5", func := "snowline/snowlinelaw07.CrewNobody", spec := "crewNobody", unfollowed := true, recurses := true, plainKeys := false, apart := false, narrowed := true }
def CrewNobodyUptoSaid : Prop := crewNobodyUptoRow.holds Tryz.pinned (OpenSpec.upto crewNobodySpec)

end Rows
end Go.Proofs.YtgbbljfmngmjeaaGreat
