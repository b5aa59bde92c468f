/-
  No cell of these rows narrows 'for every input' (looked for: loops, veiled, ifaces, maps, wideKeys, modest, calm, conditions, laid).
  DERIVED. THE GIVEN ROWS OF THIS SEAT. 3 by the template 'for every input the law returns true; each argument reads behind the call as it read before'; 0 by the template 'total and deterministic' (their statements: YtddaaljhkiahnaaGreatTotals.lean).
  GIVEN WITH THE SEED: the statements are not yours to turn. If you find one false, say at which input.
  Laid BY PROGRAM, IN A SANDBOX (cutbox-rows.mjs): the forced cells as the released guide's own fill.sh prints them over the translation 58934a2953d5a9f9… (all of the seat's roots in one cut). By AI agents, Wed Nov 11 2026. No macro, syntax, notation, axiom, sorry.
-/
import Derived.Test.YtddaaljhkiahnaaGreatChecked
import GoSem.Claim
import GoSem.ClaimJoined
import GoSem.ClaimMapViews
import Derived.JoinedTies
import Derived.KernelRfl
namespace Go.Proofs.YtddaaljhkiahnaaGreat
/- THE CELL 'sum', in the pinned program and in every row, IS THE sha256 OF THE DUMP (.gsa) THAT YtddaaljhkiahnaaGreatProg.lean LOADS. Nothing in Lean hashes anything: it is a label: what it is worth is what the hold of that sum in a sandbox is worth. -/
noncomputable def Tryz.pinned : Pinned := { name := "ytddaaljhkiahnaagreat", sum := "58934a2953d5a9f91ce8be43c5143199cabde21a92c8fe90079e42572eb4597e", checked := Tryz.checked }
namespace Rows
def none {H : Type} : Left H := { results := [], args := [] }

/-- 'snowlinelaw07.CrewCheckSpec': WHATEVER THE INPUT: true; the input reads as it did. -/
def crewCheckSpecSpec : ChangeSpec := { name := "crewCheckSpec", fn := fun _ => fun
  | [d1, d2, d3, d4] => { results := [.lit (.bool true)], args := [d1, d2, d3, d4] }
  | _ => none }
def crewCheckSpecRow : OpenClaim := { program := "ytddaaljhkiahnaagreat", sum := "58934a2953d5a9f91ce8be43c5143199cabde21a92c8fe90079e42572eb4597e", func := "snowline/snowlinelaw07.CrewCheckSpec", spec := "crewCheckSpec", unfollowed := true, recurses := true, plainKeys := false, apart := false }
def CrewCheckSpecSaid : Prop := crewCheckSpecRow.holds Tryz.pinned (OpenSpec.ofChange crewCheckSpecSpec)

/-- ITS FALSE NEIGHBOUR: 'it returns false'. Refute it at one input. -/
def crewCheckSpecWrong : ChangeSpec := { name := "crewCheckSpec", fn := fun _ => fun
  | [d1, d2, d3, d4] => { results := [.lit (.bool false)], args := [d1, d2, d3, d4] }
  | _ => none }
def CrewCheckSpecWrongFalsely : Prop := crewCheckSpecRow.holds Tryz.pinned (OpenSpec.ofChange crewCheckSpecWrong)

/-- 'snowlinelaw07.CrewBears': WHATEVER THE INPUT: true; the input reads as it did. -/
def crewBearsSpec : ChangeSpec := { name := "crewBears", fn := fun _ => fun
  | [d1, d2] => { results := [.lit (.bool true)], args := [d1, d2] }
  | _ => none }
def crewBearsRow : OpenClaim := { program := "ytddaaljhkiahnaagreat", sum := "58934a2953d5a9f91ce8be43c5143199cabde21a92c8fe90079e42572eb4597e", func := "snowline/snowlinelaw07.CrewBears", spec := "crewBears", unfollowed := true, recurses := true, plainKeys := false, apart := false }
def CrewBearsSaid : Prop := crewBearsRow.holds Tryz.pinned (OpenSpec.ofChange crewBearsSpec)

/-- ITS FALSE NEIGHBOUR: 'it returns false'. Refute it at one input. -/
def crewBearsWrong : ChangeSpec := { name := "crewBears", fn := fun _ => fun
  | [d1, d2] => { results := [.lit (.bool false)], args := [d1, d2] }
  | _ => none }
def CrewBearsWrongFalsely : Prop := crewBearsRow.holds Tryz.pinned (OpenSpec.ofChange crewBearsWrong)

/-- 'snowlinelaw07.CrewLight': WHATEVER THE INPUT: true; the input reads as it did. -/
def crewLightSpec : ChangeSpec := { name := "crewLight", fn := fun _ => fun
  | [d] => { results := [.lit (.bool true)], args := [d] }
  | _ => none }
def crewLightRow : OpenClaim := { program := "ytddaaljhkiahnaagreat", sum := "58934a2953d5a9f91ce8be43c5143199cabde21a92c8fe90079e42572eb4597e", func := "snowline/snowlinelaw07.CrewLight", spec := "crewLight", unfollowed := true, recurses := true, plainKeys := false, apart := false }
def CrewLightSaid : Prop := crewLightRow.holds Tryz.pinned (OpenSpec.ofChange crewLightSpec)

/-- ITS FALSE NEIGHBOUR: 'it returns false'. Refute it at one input. -/
def crewLightWrong : ChangeSpec := { name := "crewLight", fn := fun _ => fun
  | [d] => { results := [.lit (.bool false)], args := [d] }
  | _ => none }
def CrewLightWrongFalsely : Prop := crewLightRow.holds Tryz.pinned (OpenSpec.ofChange crewLightWrong)

/- THE SECOND FORM. 'bulk': how many values and letters a reading holds, each counted each time it is reached (what is shared counts as often as it is met; a slice's spare places count too). A statement '..UptoSaid' is the law's where the arguments, and the package variables that the reading takes, are together of bulk at most 1048576: NARROWER than '..Said'. Prove '..Said' where nothing that the law and all that it calls make is longer than what came in: it says more and counts as full. Else prove '..UptoSaid'. A law counts once. -/
mutual
def uptoBulk {H : Type} : DataW H → Nat
  | .lit (.string bytes) => bytes.length + 1
  | .lit _ => 1
  | .nil => 1
  | .ptr d => uptoBulk d + 1
  | .slice elems spare => uptoBulkAll elems + uptoBulkAll spare + 1
  | .agg parts => uptoBulkAll parts + 1
  | .iface _ d => uptoBulk d + 1
  | .map entries => uptoBulkEntries entries + 1
  | .held _ => 1
def uptoBulkAll {H : Type} : List (DataW H) → Nat
  | [] => 0
  | d :: r => uptoBulk d + uptoBulkAll r
def uptoBulkEntries {H : Type} : List (Lit × DataW H) → Nat
  | [] => 0
  | x :: r => uptoBulkEntry x + uptoBulkEntries r
def uptoBulkEntry {H : Type} : Lit × DataW H → Nat
  | (.string bytes, d) => bytes.length + uptoBulk d + 1
  | (_, d) => uptoBulk d + 1
 end
def uptoSmall : (H : Type) → List (DataW H) → Bool := fun _ ds => decide (uptoBulkAll ds ≤ 1048576)
def OpenSpec.upto (s : _root_.Go.ChangeSpec) : _root_.Go.OpenSpec := { _root_.Go.OpenSpec.ofChange s with cond := some uptoSmall }

/-- 'snowlinelaw07.CrewCheckSpec', WHERE WHAT IT READS IS OF BULK AT MOST 1048576: true; the input reads as it did. -/
def crewCheckSpecUptoRow : OpenClaim := { program := "ytddaaljhkiahnaagreat", sum := "58934a2953d5a9f91ce8be43c5143199cabde21a92c8fe90079e42572eb4597e", func := "snowline/snowlinelaw07.CrewCheckSpec", spec := "crewCheckSpec", unfollowed := true, recurses := true, plainKeys := false, apart := false, narrowed := true }
def CrewCheckSpecUptoSaid : Prop := crewCheckSpecUptoRow.holds Tryz.pinned (OpenSpec.upto crewCheckSpecSpec)

/-- 'snowlinelaw07.CrewBears', WHERE WHAT IT READS IS OF BULK AT MOST 1048576: true; the input reads as it did. -/
def crewBearsUptoRow : OpenClaim := { program := "ytddaaljhkiahnaagreat", sum := "58934a2953d5a9f91ce8be43c5143199cabde21a92c8fe90079e42572eb4597e", func := "snowline/snowlinelaw07.CrewBears", spec := "crewBears", unfollowed := true, recurses := true, plainKeys := false, apart := false, narrowed := true }
def CrewBearsUptoSaid : Prop := crewBearsUptoRow.holds Tryz.pinned (OpenSpec.upto crewBearsSpec)

/-- 'snowlinelaw07.CrewLight', WHERE WHAT IT READS IS OF BULK AT MOST 1048576: true; the input reads as it did. -/
def crewLightUptoRow : OpenClaim := { program := "ytddaaljhkiahnaagreat", sum := "58934a2953d5a9f91ce8be43c5143199cabde21a92c8fe90079e42572eb4597e", func := "snowline/snowlinelaw07.CrewLight", spec := "crewLight", unfollowed := true, recurses := true, plainKeys := false, apart := false, narrowed := true }
def CrewLightUptoSaid : Prop := crewLightUptoRow.holds Tryz.pinned (OpenSpec.upto crewLightSpec)

end Rows
end Go.Proofs.YtddaaljhkiahnaaGreat
