/- The law CrewCheckSpec holds, whatever the input. No condition. -/
import Derived.Test.YtgbbljfmngmjeaaGreatRows
import Derived.Test.YtgbbljfmngmjeaaGreatRowKit1Pack
import Derived.Test.YtgbbljfmngmjeaaGreatLawCrewCheck
set_option linter.all false
set_option maxRecDepth 100000
namespace Go.Proofs.YtgbbljfmngmjeaaGreat
open Go.ChangeShapes Go.WideShapes Go.RowKit

theorem crewCheckSpec_law (W : World) (args : Array Value) (hs : args.size = Tryz.f3.params.size) (hA : ∀ (j : Nat) t v, Tryz.f3.params[j]? = some t → args[j]? = some v → Arg Tryz.prog W t v) :
  Calls Tryz.prog 3 args W fun e w' => e = .returned (.bool true) ∧ Below W.heap.size W w' := by
 rw [Tryz.params3] at hs hA
 match args, hs with
 | ⟨[v0, v1, v2, v3]⟩, _ =>
  obtain ⟨vs0, vt0, ss0, ts0, rfl, s0, t0⟩ := Arg.range (hA 0 _ v0 rfl rfl)
  obtain ⟨n1, rfl⟩ := Arg.int (hA 1 _ v1 rfl rfl) Tryz.underlying3
  obtain ⟨n2, rfl⟩ := Arg.int (hA 2 _ v2 rfl rfl) Tryz.underlying3
  obtain ⟨n3, rfl⟩ := Arg.int (hA 3 _ v3 rfl rfl) Tryz.underlying3
  exact law_CrewCheckSpec vs0 vt0 ss0 ts0 n1 n2 n3 W s0 t0
theorem crewCheckSpec_lifted (os : Os) (started : os.Started) (H : Type) (enc : TypeId × Value → H) :
  ReturnsInHanded {} Tryz.checked os 3 .any (Rows.crewCheckSpecSpec.pre6 enc Tryz.prog Tryz.f3 Rows.crewCheckSpecRow.domain false) (Rows.crewCheckSpecSpec.post enc Tryz.prog Tryz.f3 false true false false) :=
 law_liftedP (C := Tryz.checked) (tb := 4) rows_own started (by kernel_rfl) Tryz.func3 rows_laidOut
  (fun t ht => List.all_eq_true.1 (show (Tryz.f3.params.toList.all fun t => Tryz.prog.readableRec t) = true by kernel_rfl) t ht)
  (fun t ht => of_decide_eq_true (List.all_eq_true.1 (show (Tryz.f3.params.toList.all fun t => decide (t < Tryz.prog.types.size)) = true by kernel_rfl) t ht))
  (by kernel_rfl) Tryz.underlying4 rfl
  (fun ds hd => by
   rw [Tryz.params3] at hd
   match ds, hd with
   | [d0, d1, d2, d3], _ => rfl)
  (ChangeSpec.witness6 (enc := enc) (C := Tryz.checked) false ⟨#[], #[.agg #[.slice none 0 0, .slice none 0 0], .int .i64 0, .int .i64 0, .int .i64 0], []⟩ 8 (by kernel_rfl) (by kernel_rfl) (by kernel_rfl) (by kernel_rfl))
  crewCheckSpec_law
theorem crewCheckSpec_inPlace : (Rows.crewCheckSpecRow.inPlace == Tryz.prog.inPlace 3) = true := by kernel_rfl
theorem crewCheckSpec_unfollowed : (Rows.crewCheckSpecRow.unfollowed == Tryz.prog.unfollowed 3) = true := by kernel_rfl
theorem crewCheckSpec_recurses : (Rows.crewCheckSpecRow.recurses == Tryz.prog.recurses 3) = true := by kernel_rfl
theorem crewCheckSpec_named : (Rows.crewCheckSpecRow.named == Tryz.prog.varsNamed 3) = true := by kernel_rfl
theorem crewCheckSpec_facts : joinedFacts Tryz.prog 3 Tryz.f3 Rows.crewCheckSpecSpec Rows.crewCheckSpecRow = true := by
 unfold joinedFacts
 repeat' (with_reducible refine and_true_of ?_ ?_)
 ·kernel_rfl
 ·exact rows_laidOut
 ·exact rows_mapsRowed
 ·kernel_rfl
 ·kernel_rfl
 ·kernel_rfl
 ·exact rows_stops
 ·kernel_rfl
 ·exact rows_stopKnobs
 ·exact crewCheckSpec_inPlace
 ·exact crewCheckSpec_unfollowed
 ·exact crewCheckSpec_recurses
 ·exact crewCheckSpec_named
 ·kernel_rfl
 ·kernel_rfl
 ·kernel_rfl
 ·kernel_rfl
 ·kernel_rfl
 ·kernel_rfl
 ·kernel_rfl
 ·kernel_rfl
 ·kernel_rfl
 ·rw [rows_plainKeys]; kernel_rfl
 ·kernel_rfl
 ·exact rows_stopsHeard
 ·exact rows_mayEnter
 ·rw [rows_lifts]; kernel_rfl
 ·rw [rows_make]; kernel_rfl
 all_goals kernel_rfl
theorem crewCheckSpec_func : Tryz.prog.funcNamed Rows.crewCheckSpecRow.func = some 3 := by kernel_rfl
theorem crewCheckSpec_inst : Tryz.f3.isInstance Tryz.prog Rows.crewCheckSpecRow.origin Rows.crewCheckSpecRow.targs := of_decide_eq_true (by kernel_rfl)
theorem crewCheckSpec_wrap : Tryz.f3.isWrapper Tryz.prog Rows.crewCheckSpecRow.wrapper Rows.crewCheckSpecRow.mainSum := by unfold Func.isWrapper; rw [if_neg (of_decide_eq_false (by kernel_rfl))]; exact ⟨rfl, rfl⟩
theorem crewCheckSpec_holds : Rows.CrewCheckSpecSaid :=
 OpenClaim.holds_of_wide 3 Tryz.f3 rfl rfl rfl rfl rfl rfl rfl ⟨rfl, rfl, rfl, rfl, rfl⟩ rfl rfl rfl rfl rfl crewCheckSpec_func Tryz.func3 crewCheckSpec_facts crewCheckSpec_inst crewCheckSpec_wrap
  (fun os started H enc _ => crewCheckSpec_lifted os started H enc)
end Go.Proofs.YtgbbljfmngmjeaaGreat
