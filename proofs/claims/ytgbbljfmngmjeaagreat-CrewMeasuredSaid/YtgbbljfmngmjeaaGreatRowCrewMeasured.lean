/- The law CrewMeasured holds, whatever the input. No condition. -/
import Derived.Test.YtgbbljfmngmjeaaGreatRows
import Derived.Test.YtgbbljfmngmjeaaGreatRowKit1Pack
import Derived.Test.YtgbbljfmngmjeaaGreatLawMeasured
set_option linter.all false
set_option maxRecDepth 100000
namespace Go.Proofs.YtgbbljfmngmjeaaGreat
open Go.ChangeShapes Go.WideShapes Go.RowKit

theorem crewMeasured_law (W : World) (args : Array Value) (hs : args.size = Tryz.f10.params.size) (hA : ∀ (j : Nat) t v, Tryz.f10.params[j]? = some t → args[j]? = some v → Arg Tryz.prog W t v) :
  Calls Tryz.prog 10 args W fun e w' => e = .returned (.bool true) ∧ Below W.heap.size W w' := by
 rw [Tryz.params10] at hs hA
 match args, hs with
 | ⟨[v0, v1, v2, v3, v4, v5, v6]⟩, _ =>
  obtain ⟨sc0, V0, rfl, s0⟩ := Arg.scene (hA 0 _ v0 rfl rfl)
  obtain ⟨xs1, s1⟩ := Arg.ints (hA 1 _ v1 rfl rfl)
  obtain ⟨n2, rfl⟩ := Arg.int (hA 2 _ v2 rfl rfl) Tryz.underlying3
  obtain ⟨n3, rfl⟩ := Arg.int (hA 3 _ v3 rfl rfl) Tryz.underlying3
  obtain ⟨n4, rfl⟩ := Arg.int (hA 4 _ v4 rfl rfl) Tryz.underlying3
  obtain ⟨n5, rfl⟩ := Arg.int (hA 5 _ v5 rfl rfl) Tryz.underlying3
  obtain ⟨n6, rfl⟩ := Arg.int (hA 6 _ v6 rfl rfl) Tryz.underlying3
  exact law_CrewMeasured sc0 V0 v1 xs1 n2 n3 n4 n5 n6 W s0 s1
theorem crewMeasured_lifted (os : Os) (started : os.Started) (H : Type) (enc : TypeId × Value → H) :
  ReturnsInHanded {} Tryz.checked os 10 .any (Rows.crewMeasuredSpec.pre6 enc Tryz.prog Tryz.f10 Rows.crewMeasuredRow.domain false) (Rows.crewMeasuredSpec.post enc Tryz.prog Tryz.f10 false true false false) :=
 law_liftedP (C := Tryz.checked) (tb := 4) rows_own started (by kernel_rfl) Tryz.func10 rows_laidOut
  (fun t ht => List.all_eq_true.1 (show (Tryz.f10.params.toList.all fun t => Tryz.prog.readableRec t) = true by kernel_rfl) t ht)
  (fun t ht => of_decide_eq_true (List.all_eq_true.1 (show (Tryz.f10.params.toList.all fun t => decide (t < Tryz.prog.types.size)) = true by kernel_rfl) t ht))
  (by kernel_rfl) Tryz.underlying4 rfl
  (fun ds hd => by
   rw [Tryz.params10] at hd
   match ds, hd with
   | [d0, d1, d2, d3, d4, d5, d6], _ => rfl)
  (ChangeSpec.witness6 (enc := enc) (C := Tryz.checked) false ⟨#[], #[.agg #[.slice none 0 0, .slice none 0 0, .int .i64 0, .int .i64 0, .int .i64 0, .slice none 0 0, .slice none 0 0, .slice none 0 0], .slice none 0 0, .int .i64 0, .int .i64 0, .int .i64 0, .int .i64 0, .int .i64 0], []⟩ 8 (by kernel_rfl) (by kernel_rfl) (by kernel_rfl) (by kernel_rfl))
  crewMeasured_law
theorem crewMeasured_inPlace : (Rows.crewMeasuredRow.inPlace == Tryz.prog.inPlace 10) = true := by kernel_rfl
theorem crewMeasured_unfollowed : (Rows.crewMeasuredRow.unfollowed == Tryz.prog.unfollowed 10) = true := by kernel_rfl
theorem crewMeasured_recurses : (Rows.crewMeasuredRow.recurses == Tryz.prog.recurses 10) = true := by kernel_rfl
theorem crewMeasured_named : (Rows.crewMeasuredRow.named == Tryz.prog.varsNamed 10) = true := by kernel_rfl
theorem crewMeasured_facts : joinedFacts Tryz.prog 10 Tryz.f10 Rows.crewMeasuredSpec Rows.crewMeasuredRow = true := by
 unfold joinedFacts
 repeat' (with_reducible refine and_true_of ?_ ?_)
 ·kernel_rfl
 ·exact rows_laidOut
 ·exact rows_mapsRowed
 ·kernel_rfl
 ·kernel_rfl
 ·kernel_rfl
 ·exact rows_stops
 ·kernel_rfl
 ·exact rows_stopKnobs
 ·exact crewMeasured_inPlace
 ·exact crewMeasured_unfollowed
 ·exact crewMeasured_recurses
 ·exact crewMeasured_named
 ·kernel_rfl
 ·kernel_rfl
 ·kernel_rfl
 ·kernel_rfl
 ·kernel_rfl
 ·kernel_rfl
 ·kernel_rfl
 ·kernel_rfl
 ·kernel_rfl
 ·rw [rows_plainKeys]; kernel_rfl
 ·kernel_rfl
 ·exact rows_stopsHeard
 ·exact rows_mayEnter
 ·rw [rows_lifts]; kernel_rfl
 ·rw [rows_make]; kernel_rfl
 all_goals kernel_rfl
theorem crewMeasured_func : Tryz.prog.funcNamed Rows.crewMeasuredRow.func = some 10 := by kernel_rfl
theorem crewMeasured_inst : Tryz.f10.isInstance Tryz.prog Rows.crewMeasuredRow.origin Rows.crewMeasuredRow.targs := of_decide_eq_true (by kernel_rfl)
theorem crewMeasured_wrap : Tryz.f10.isWrapper Tryz.prog Rows.crewMeasuredRow.wrapper Rows.crewMeasuredRow.mainSum := by unfold Func.isWrapper; rw [if_neg (of_decide_eq_false (by kernel_rfl))]; exact ⟨rfl, rfl⟩
theorem crewMeasured_holds : Rows.CrewMeasuredSaid :=
 OpenClaim.holds_of_wide 10 Tryz.f10 rfl rfl rfl rfl rfl rfl rfl ⟨rfl, rfl, rfl, rfl, rfl⟩ rfl rfl rfl rfl rfl crewMeasured_func Tryz.func10 crewMeasured_facts crewMeasured_inst crewMeasured_wrap
  (fun os started H enc _ => crewMeasured_lifted os started H enc)
end Go.Proofs.YtgbbljfmngmjeaaGreat
