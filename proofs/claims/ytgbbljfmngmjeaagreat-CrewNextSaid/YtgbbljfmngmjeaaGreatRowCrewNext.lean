/- The law CrewNext holds, whatever the input. No condition. -/
import Derived.Test.YtgbbljfmngmjeaaGreatRows
import Derived.Test.YtgbbljfmngmjeaaGreatRowKit1Pack
import Derived.Test.YtgbbljfmngmjeaaGreatLawNext
set_option linter.all false
set_option maxRecDepth 100000
namespace Go.Proofs.YtgbbljfmngmjeaaGreat
open Go.ChangeShapes Go.WideShapes Go.RowKit

theorem crewNext_law (W : World) (args : Array Value) (hs : args.size = Tryz.f12.params.size) (hA : ∀ (j : Nat) t v, Tryz.f12.params[j]? = some t → args[j]? = some v → Arg Tryz.prog W t v) :
  Calls Tryz.prog 12 args W fun e w' => e = .returned (.bool true) ∧ Below W.heap.size W w' := by
 rw [Tryz.params12] at hs hA
 match args, hs with
 | ⟨[v0, v1, v2, v3, v4, v5]⟩, _ =>
  obtain ⟨vs0, vt0, ss0, ts0, rfl, s0, t0⟩ := Arg.range (hA 0 _ v0 rfl rfl)
  obtain ⟨sc1, V1, rfl, s1⟩ := Arg.scene (hA 1 _ v1 rfl rfl)
  obtain ⟨c2, rfl⟩ := Arg.crew (hA 2 _ v2 rfl rfl)
  obtain ⟨n3, rfl⟩ := Arg.int (hA 3 _ v3 rfl rfl) Tryz.underlying3
  obtain ⟨xs4, s4⟩ := Arg.ints (hA 4 _ v4 rfl rfl)
  obtain ⟨n5, rfl⟩ := Arg.int (hA 5 _ v5 rfl rfl) Tryz.underlying3
  exact law_CrewNext vs0 vt0 ss0 ts0 sc1 V1 c2 n3 v4 xs4 n5 W s0 t0 s1 s4
theorem crewNext_lifted (os : Os) (started : os.Started) (H : Type) (enc : TypeId × Value → H) :
  ReturnsInHanded {} Tryz.checked os 12 .any (Rows.crewNextSpec.pre6 enc Tryz.prog Tryz.f12 Rows.crewNextRow.domain false) (Rows.crewNextSpec.post enc Tryz.prog Tryz.f12 false true false false) :=
 law_liftedP (C := Tryz.checked) (tb := 4) rows_own started (by kernel_rfl) Tryz.func12 rows_laidOut
  (fun t ht => List.all_eq_true.1 (show (Tryz.f12.params.toList.all fun t => Tryz.prog.readableRec t) = true by kernel_rfl) t ht)
  (fun t ht => of_decide_eq_true (List.all_eq_true.1 (show (Tryz.f12.params.toList.all fun t => decide (t < Tryz.prog.types.size)) = true by kernel_rfl) t ht))
  (by kernel_rfl) Tryz.underlying4 rfl
  (fun ds hd => by
   rw [Tryz.params12] at hd
   match ds, hd with
   | [d0, d1, d2, d3, d4, d5], _ => rfl)
  (ChangeSpec.witness6 (enc := enc) (C := Tryz.checked) false ⟨#[], #[.agg #[.slice none 0 0, .slice none 0 0], .agg #[.slice none 0 0, .slice none 0 0, .int .i64 0, .int .i64 0, .int .i64 0, .slice none 0 0, .slice none 0 0, .slice none 0 0], .agg #[.int .i64 0, .int .i64 0, .int .i64 0], .int .i64 0, .slice none 0 0, .int .i64 0], []⟩ 8 (by kernel_rfl) (by kernel_rfl) (by kernel_rfl) (by kernel_rfl))
  crewNext_law
theorem crewNext_inPlace : (Rows.crewNextRow.inPlace == Tryz.prog.inPlace 12) = true := by kernel_rfl
theorem crewNext_unfollowed : (Rows.crewNextRow.unfollowed == Tryz.prog.unfollowed 12) = true := by kernel_rfl
theorem crewNext_recurses : (Rows.crewNextRow.recurses == Tryz.prog.recurses 12) = true := by kernel_rfl
theorem crewNext_named : (Rows.crewNextRow.named == Tryz.prog.varsNamed 12) = true := by kernel_rfl
theorem crewNext_facts : joinedFacts Tryz.prog 12 Tryz.f12 Rows.crewNextSpec Rows.crewNextRow = true := by
 unfold joinedFacts
 repeat' (with_reducible refine and_true_of ?_ ?_)
 ·kernel_rfl
 ·exact rows_laidOut
 ·exact rows_mapsRowed
 ·kernel_rfl
 ·kernel_rfl
 ·kernel_rfl
 ·exact rows_stops
 ·kernel_rfl
 ·exact rows_stopKnobs
 ·exact crewNext_inPlace
 ·exact crewNext_unfollowed
 ·exact crewNext_recurses
 ·exact crewNext_named
 ·kernel_rfl
 ·kernel_rfl
 ·kernel_rfl
 ·kernel_rfl
 ·kernel_rfl
 ·kernel_rfl
 ·kernel_rfl
 ·kernel_rfl
 ·kernel_rfl
 ·rw [rows_plainKeys]; kernel_rfl
 ·kernel_rfl
 ·exact rows_stopsHeard
 ·exact rows_mayEnter
 ·rw [rows_lifts]; kernel_rfl
 ·rw [rows_make]; kernel_rfl
 all_goals kernel_rfl
theorem crewNext_func : Tryz.prog.funcNamed Rows.crewNextRow.func = some 12 := by kernel_rfl
theorem crewNext_inst : Tryz.f12.isInstance Tryz.prog Rows.crewNextRow.origin Rows.crewNextRow.targs := of_decide_eq_true (by kernel_rfl)
theorem crewNext_wrap : Tryz.f12.isWrapper Tryz.prog Rows.crewNextRow.wrapper Rows.crewNextRow.mainSum := by unfold Func.isWrapper; rw [if_neg (of_decide_eq_false (by kernel_rfl))]; exact ⟨rfl, rfl⟩
theorem crewNext_holds : Rows.CrewNextSaid :=
 OpenClaim.holds_of_wide 12 Tryz.f12 rfl rfl rfl rfl rfl rfl rfl ⟨rfl, rfl, rfl, rfl, rfl⟩ rfl rfl rfl rfl rfl crewNext_func Tryz.func12 crewNext_facts crewNext_inst crewNext_wrap
  (fun os started H enc _ => crewNext_lifted os started H enc)
end Go.Proofs.YtgbbljfmngmjeaaGreat
