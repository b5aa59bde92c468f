/- The law CrewWays holds, whatever the input. No condition. -/
import Derived.Test.YtgbbljfmngmjeaaGreatRows
import Derived.Test.YtgbbljfmngmjeaaGreatRowKit1Pack
import Derived.Test.YtgbbljfmngmjeaaGreatLawWays
set_option linter.all false
set_option maxRecDepth 100000
namespace Go.Proofs.YtgbbljfmngmjeaaGreat
open Go.ChangeShapes Go.WideShapes Go.RowKit

theorem crewWays_law (W : World) (args : Array Value) (hs : args.size = Tryz.f7.params.size) (hA : ∀ (j : Nat) t v, Tryz.f7.params[j]? = some t → args[j]? = some v → Arg Tryz.prog W t v) :
  Calls Tryz.prog 7 args W fun e w' => e = .returned (.bool true) ∧ Below W.heap.size W w' := by
 rw [Tryz.params7] at hs hA
 match args, hs with
 | ⟨[v0, v1, v2, v3, v4, v5]⟩, _ =>
  obtain ⟨vs0, vt0, ss0, ts0, rfl, s0, t0⟩ := Arg.range (hA 0 _ v0 rfl rfl)
  obtain ⟨sc1, V1, rfl, s1⟩ := Arg.scene (hA 1 _ v1 rfl rfl)
  obtain ⟨n2, rfl⟩ := Arg.int (hA 2 _ v2 rfl rfl) Tryz.underlying3
  obtain ⟨n3, rfl⟩ := Arg.int (hA 3 _ v3 rfl rfl) Tryz.underlying3
  obtain ⟨n4, rfl⟩ := Arg.int (hA 4 _ v4 rfl rfl) Tryz.underlying3
  obtain ⟨n5, rfl⟩ := Arg.int (hA 5 _ v5 rfl rfl) Tryz.underlying3
  exact law_CrewWays vs0 vt0 ss0 ts0 sc1 V1 n2 n3 n4 n5 W s0 t0 s1
theorem crewWays_lifted (os : Os) (started : os.Started) (H : Type) (enc : TypeId × Value → H) :
  ReturnsInHanded {} Tryz.checked os 7 .any (Rows.crewWaysSpec.pre6 enc Tryz.prog Tryz.f7 Rows.crewWaysRow.domain false) (Rows.crewWaysSpec.post enc Tryz.prog Tryz.f7 false true false false) :=
 law_liftedP (C := Tryz.checked) (tb := 4) rows_own started (by kernel_rfl) Tryz.func7 rows_laidOut
  (fun t ht => List.all_eq_true.1 (show (Tryz.f7.params.toList.all fun t => Tryz.prog.readableRec t) = true by kernel_rfl) t ht)
  (fun t ht => of_decide_eq_true (List.all_eq_true.1 (show (Tryz.f7.params.toList.all fun t => decide (t < Tryz.prog.types.size)) = true by kernel_rfl) t ht))
  (by kernel_rfl) Tryz.underlying4 rfl
  (fun ds hd => by
   rw [Tryz.params7] at hd
   match ds, hd with
   | [d0, d1, d2, d3, d4, d5], _ => rfl)
  (ChangeSpec.witness6 (enc := enc) (C := Tryz.checked) false ⟨#[], #[.agg #[.slice none 0 0, .slice none 0 0], .agg #[.slice none 0 0, .slice none 0 0, .int .i64 0, .int .i64 0, .int .i64 0, .slice none 0 0, .slice none 0 0, .slice none 0 0], .int .i64 0, .int .i64 0, .int .i64 0, .int .i64 0], []⟩ 8 (by kernel_rfl) (by kernel_rfl) (by kernel_rfl) (by kernel_rfl))
  crewWays_law
theorem crewWays_inPlace : (Rows.crewWaysRow.inPlace == Tryz.prog.inPlace 7) = true := by kernel_rfl
theorem crewWays_unfollowed : (Rows.crewWaysRow.unfollowed == Tryz.prog.unfollowed 7) = true := by kernel_rfl
theorem crewWays_recurses : (Rows.crewWaysRow.recurses == Tryz.prog.recurses 7) = true := by kernel_rfl
theorem crewWays_named : (Rows.crewWaysRow.named == Tryz.prog.varsNamed 7) = true := by kernel_rfl
theorem crewWays_facts : joinedFacts Tryz.prog 7 Tryz.f7 Rows.crewWaysSpec Rows.crewWaysRow = true := by
 unfold joinedFacts
 repeat' (with_reducible refine and_true_of ?_ ?_)
 ·kernel_rfl
 ·exact rows_laidOut
 ·exact rows_mapsRowed
 ·kernel_rfl
 ·kernel_rfl
 ·kernel_rfl
 ·exact rows_stops
 ·kernel_rfl
 ·exact rows_stopKnobs
 ·exact crewWays_inPlace
 ·exact crewWays_unfollowed
 ·exact crewWays_recurses
 ·exact crewWays_named
 ·kernel_rfl
 ·kernel_rfl
 ·kernel_rfl
 ·kernel_rfl
 ·kernel_rfl
 ·kernel_rfl
 ·kernel_rfl
 ·kernel_rfl
 ·kernel_rfl
 ·rw [rows_plainKeys]; kernel_rfl
 ·kernel_rfl
 ·exact rows_stopsHeard
 ·exact rows_mayEnter
 ·rw [rows_lifts]; kernel_rfl
 ·rw [rows_make]; kernel_rfl
 all_goals kernel_rfl
theorem crewWays_func : Tryz.prog.funcNamed Rows.crewWaysRow.func = some 7 := by kernel_rfl
theorem crewWays_inst : Tryz.f7.isInstance Tryz.prog Rows.crewWaysRow.origin Rows.crewWaysRow.targs := of_decide_eq_true (by kernel_rfl)
theorem crewWays_wrap : Tryz.f7.isWrapper Tryz.prog Rows.crewWaysRow.wrapper Rows.crewWaysRow.mainSum := by unfold Func.isWrapper; rw [if_neg (of_decide_eq_false (by kernel_rfl))]; exact ⟨rfl, rfl⟩
theorem crewWays_holds : Rows.CrewWaysSaid :=
 OpenClaim.holds_of_wide 7 Tryz.f7 rfl rfl rfl rfl rfl rfl rfl ⟨rfl, rfl, rfl, rfl, rfl⟩ rfl rfl rfl rfl rfl crewWays_func Tryz.func7 crewWays_facts crewWays_inst crewWays_wrap
  (fun os started H enc _ => crewWays_lifted os started H enc)
end Go.Proofs.YtgbbljfmngmjeaaGreat
