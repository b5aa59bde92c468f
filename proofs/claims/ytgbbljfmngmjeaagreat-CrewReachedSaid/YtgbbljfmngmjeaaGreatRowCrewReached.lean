/- The law CrewReached holds, whatever the input. No condition. -/
import Derived.Test.YtgbbljfmngmjeaaGreatRows
import Derived.Test.YtgbbljfmngmjeaaGreatRowKit1Pack
import Derived.Test.YtgbbljfmngmjeaaGreatLawReached
set_option linter.all false
set_option maxRecDepth 100000
namespace Go.Proofs.YtgbbljfmngmjeaaGreat
open Go.ChangeShapes Go.WideShapes Go.RowKit

theorem crewReached_law (W : World) (args : Array Value) (hs : args.size = Tryz.f8.params.size) (hA : ∀ (j : Nat) t v, Tryz.f8.params[j]? = some t → args[j]? = some v → Arg Tryz.prog W t v) :
  Calls Tryz.prog 8 args W fun e w' => e = .returned (.bool true) ∧ Below W.heap.size W w' := by
 rw [Tryz.params8] at hs hA
 match args, hs with
 | ⟨[v0, v1, v2, v3]⟩, _ =>
  obtain ⟨vs0, vt0, ss0, ts0, rfl, s0, t0⟩ := Arg.range (hA 0 _ v0 rfl rfl)
  obtain ⟨sc1, V1, rfl, s1⟩ := Arg.scene (hA 1 _ v1 rfl rfl)
  obtain ⟨c2, rfl⟩ := Arg.crew (hA 2 _ v2 rfl rfl)
  obtain ⟨n3, rfl⟩ := Arg.int (hA 3 _ v3 rfl rfl) Tryz.underlying3
  exact law_CrewReached vs0 vt0 ss0 ts0 sc1 V1 c2 n3 W s0 t0 s1
theorem crewReached_lifted (os : Os) (started : os.Started) (H : Type) (enc : TypeId × Value → H) :
  ReturnsInHanded {} Tryz.checked os 8 .any (Rows.crewReachedSpec.pre6 enc Tryz.prog Tryz.f8 Rows.crewReachedRow.domain false) (Rows.crewReachedSpec.post enc Tryz.prog Tryz.f8 false true false false) :=
 law_liftedP (C := Tryz.checked) (tb := 4) rows_own started (by kernel_rfl) Tryz.func8 rows_laidOut
  (fun t ht => List.all_eq_true.1 (show (Tryz.f8.params.toList.all fun t => Tryz.prog.readableRec t) = true by kernel_rfl) t ht)
  (fun t ht => of_decide_eq_true (List.all_eq_true.1 (show (Tryz.f8.params.toList.all fun t => decide (t < Tryz.prog.types.size)) = true by kernel_rfl) t ht))
  (by kernel_rfl) Tryz.underlying4 rfl
  (fun ds hd => by
   rw [Tryz.params8] at hd
   match ds, hd with
   | [d0, d1, d2, d3], _ => rfl)
  (ChangeSpec.witness6 (enc := enc) (C := Tryz.checked) false ⟨#[], #[.agg #[.slice none 0 0, .slice none 0 0], .agg #[.slice none 0 0, .slice none 0 0, .int .i64 0, .int .i64 0, .int .i64 0, .slice none 0 0, .slice none 0 0, .slice none 0 0], .agg #[.int .i64 0, .int .i64 0, .int .i64 0], .int .i64 0], []⟩ 8 (by kernel_rfl) (by kernel_rfl) (by kernel_rfl) (by kernel_rfl))
  crewReached_law
theorem crewReached_inPlace : (Rows.crewReachedRow.inPlace == Tryz.prog.inPlace 8) = true := by kernel_rfl
theorem crewReached_unfollowed : (Rows.crewReachedRow.unfollowed == Tryz.prog.unfollowed 8) = true := by kernel_rfl
theorem crewReached_recurses : (Rows.crewReachedRow.recurses == Tryz.prog.recurses 8) = true := by kernel_rfl
theorem crewReached_named : (Rows.crewReachedRow.named == Tryz.prog.varsNamed 8) = true := by kernel_rfl
theorem crewReached_facts : joinedFacts Tryz.prog 8 Tryz.f8 Rows.crewReachedSpec Rows.crewReachedRow = true := by
 unfold joinedFacts
 repeat' (with_reducible refine and_true_of ?_ ?_)
 ·kernel_rfl
 ·exact rows_laidOut
 ·exact rows_mapsRowed
 ·kernel_rfl
 ·kernel_rfl
 ·kernel_rfl
 ·exact rows_stops
 ·kernel_rfl
 ·exact rows_stopKnobs
 ·exact crewReached_inPlace
 ·exact crewReached_unfollowed
 ·exact crewReached_recurses
 ·exact crewReached_named
 ·kernel_rfl
 ·kernel_rfl
 ·kernel_rfl
 ·kernel_rfl
 ·kernel_rfl
 ·kernel_rfl
 ·kernel_rfl
 ·kernel_rfl
 ·kernel_rfl
 ·rw [rows_plainKeys]; kernel_rfl
 ·kernel_rfl
 ·exact rows_stopsHeard
 ·exact rows_mayEnter
 ·rw [rows_lifts]; kernel_rfl
 ·rw [rows_make]; kernel_rfl
 all_goals kernel_rfl
theorem crewReached_func : Tryz.prog.funcNamed Rows.crewReachedRow.func = some 8 := by kernel_rfl
theorem crewReached_inst : Tryz.f8.isInstance Tryz.prog Rows.crewReachedRow.origin Rows.crewReachedRow.targs := of_decide_eq_true (by kernel_rfl)
theorem crewReached_wrap : Tryz.f8.isWrapper Tryz.prog Rows.crewReachedRow.wrapper Rows.crewReachedRow.mainSum := by unfold Func.isWrapper; rw [if_neg (of_decide_eq_false (by kernel_rfl))]; exact ⟨rfl, rfl⟩
theorem crewReached_holds : Rows.CrewReachedSaid :=
 OpenClaim.holds_of_wide 8 Tryz.f8 rfl rfl rfl rfl rfl rfl rfl ⟨rfl, rfl, rfl, rfl, rfl⟩ rfl rfl rfl rfl rfl crewReached_func Tryz.func8 crewReached_facts crewReached_inst crewReached_wrap
  (fun os started H enc _ => crewReached_lifted os started H enc)
end Go.Proofs.YtgbbljfmngmjeaaGreat
