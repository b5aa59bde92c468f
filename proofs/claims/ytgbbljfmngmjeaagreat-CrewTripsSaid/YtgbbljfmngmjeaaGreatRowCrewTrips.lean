/- The law CrewTrips holds, whatever the input. No condition. -/
import Derived.Test.YtgbbljfmngmjeaaGreatRows
import Derived.Test.YtgbbljfmngmjeaaGreatRowKit1Pack
import Derived.Test.YtgbbljfmngmjeaaGreatLawTrips
set_option linter.all false
set_option maxRecDepth 100000
namespace Go.Proofs.YtgbbljfmngmjeaaGreat
open Go.ChangeShapes Go.WideShapes Go.RowKit

theorem crewTrips_law (W : World) (args : Array Value) (hs : args.size = Tryz.f14.params.size) (hA : ∀ (j : Nat) t v, Tryz.f14.params[j]? = some t → args[j]? = some v → Arg Tryz.prog W t v) :
  Calls Tryz.prog 14 args W fun e w' => e = .returned (.bool true) ∧ Below W.heap.size W w' := by
 rw [Tryz.params14] at hs hA
 match args, hs with
 | ⟨[v0, v1, v2, v3, v4, v5, v6]⟩, _ =>
  obtain ⟨vs0, vt0, ss0, ts0, rfl, s0, t0⟩ := Arg.range (hA 0 _ v0 rfl rfl)
  obtain ⟨sc1, V1, rfl, s1⟩ := Arg.scene (hA 1 _ v1 rfl rfl)
  obtain ⟨c2, rfl⟩ := Arg.crew (hA 2 _ v2 rfl rfl)
  obtain ⟨n3, rfl⟩ := Arg.int (hA 3 _ v3 rfl rfl) Tryz.underlying3
  obtain ⟨xs4, s4⟩ := Arg.ints (hA 4 _ v4 rfl rfl)
  obtain ⟨xs5, s5⟩ := Arg.ints (hA 5 _ v5 rfl rfl)
  obtain ⟨n6, rfl⟩ := Arg.int (hA 6 _ v6 rfl rfl) Tryz.underlying3
  exact law_CrewTrips vs0 vt0 ss0 ts0 sc1 V1 c2 n3 v4 xs4 v5 xs5 n6 W s0 t0 s1 s4 s5
theorem crewTrips_lifted (os : Os) (started : os.Started) (H : Type) (enc : TypeId × Value → H) :
  ReturnsInHanded {} Tryz.checked os 14 .any (Rows.crewTripsSpec.pre6 enc Tryz.prog Tryz.f14 Rows.crewTripsRow.domain false) (Rows.crewTripsSpec.post enc Tryz.prog Tryz.f14 false true false false) :=
 law_liftedP (C := Tryz.checked) (tb := 4) rows_own started (by kernel_rfl) Tryz.func14 rows_laidOut
  (fun t ht => List.all_eq_true.1 (show (Tryz.f14.params.toList.all fun t => Tryz.prog.readableRec t) = true by kernel_rfl) t ht)
  (fun t ht => of_decide_eq_true (List.all_eq_true.1 (show (Tryz.f14.params.toList.all fun t => decide (t < Tryz.prog.types.size)) = true by kernel_rfl) t ht))
  (by kernel_rfl) Tryz.underlying4 rfl
  (fun ds hd => by
   rw [Tryz.params14] at hd
   match ds, hd with
   | [d0, d1, d2, d3, d4, d5, d6], _ => rfl)
  (ChangeSpec.witness6 (enc := enc) (C := Tryz.checked) false ⟨#[], #[.agg #[.slice none 0 0, .slice none 0 0], .agg #[.slice none 0 0, .slice none 0 0, .int .i64 0, .int .i64 0, .int .i64 0, .slice none 0 0, .slice none 0 0, .slice none 0 0], .agg #[.int .i64 0, .int .i64 0, .int .i64 0], .int .i64 0, .slice none 0 0, .slice none 0 0, .int .i64 0], []⟩ 8 (by kernel_rfl) (by kernel_rfl) (by kernel_rfl) (by kernel_rfl))
  crewTrips_law
theorem crewTrips_inPlace : (Rows.crewTripsRow.inPlace == Tryz.prog.inPlace 14) = true := by kernel_rfl
theorem crewTrips_unfollowed : (Rows.crewTripsRow.unfollowed == Tryz.prog.unfollowed 14) = true := by kernel_rfl
theorem crewTrips_recurses : (Rows.crewTripsRow.recurses == Tryz.prog.recurses 14) = true := by kernel_rfl
theorem crewTrips_named : (Rows.crewTripsRow.named == Tryz.prog.varsNamed 14) = true := by kernel_rfl
theorem crewTrips_facts : joinedFacts Tryz.prog 14 Tryz.f14 Rows.crewTripsSpec Rows.crewTripsRow = true := by
 unfold joinedFacts
 repeat' (with_reducible refine and_true_of ?_ ?_)
 ·kernel_rfl
 ·exact rows_laidOut
 ·exact rows_mapsRowed
 ·kernel_rfl
 ·kernel_rfl
 ·kernel_rfl
 ·exact rows_stops
 ·kernel_rfl
 ·exact rows_stopKnobs
 ·exact crewTrips_inPlace
 ·exact crewTrips_unfollowed
 ·exact crewTrips_recurses
 ·exact crewTrips_named
 ·kernel_rfl
 ·kernel_rfl
 ·kernel_rfl
 ·kernel_rfl
 ·kernel_rfl
 ·kernel_rfl
 ·kernel_rfl
 ·kernel_rfl
 ·kernel_rfl
 ·rw [rows_plainKeys]; kernel_rfl
 ·kernel_rfl
 ·exact rows_stopsHeard
 ·exact rows_mayEnter
 ·rw [rows_lifts]; kernel_rfl
 ·rw [rows_make]; kernel_rfl
 all_goals kernel_rfl
theorem crewTrips_func : Tryz.prog.funcNamed Rows.crewTripsRow.func = some 14 := by kernel_rfl
theorem crewTrips_inst : Tryz.f14.isInstance Tryz.prog Rows.crewTripsRow.origin Rows.crewTripsRow.targs := of_decide_eq_true (by kernel_rfl)
theorem crewTrips_wrap : Tryz.f14.isWrapper Tryz.prog Rows.crewTripsRow.wrapper Rows.crewTripsRow.mainSum := by unfold Func.isWrapper; rw [if_neg (of_decide_eq_false (by kernel_rfl))]; exact ⟨rfl, rfl⟩
theorem crewTrips_holds : Rows.CrewTripsSaid :=
 OpenClaim.holds_of_wide 14 Tryz.f14 rfl rfl rfl rfl rfl rfl rfl ⟨rfl, rfl, rfl, rfl, rfl⟩ rfl rfl rfl rfl rfl crewTrips_func Tryz.func14 crewTrips_facts crewTrips_inst crewTrips_wrap
  (fun os started H enc _ => crewTrips_lifted os started H enc)
end Go.Proofs.YtgbbljfmngmjeaaGreat
