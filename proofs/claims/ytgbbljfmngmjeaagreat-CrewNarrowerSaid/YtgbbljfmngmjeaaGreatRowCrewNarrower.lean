/- The law CrewNarrower holds, whatever the input. No condition. -/
import Derived.Test.YtgbbljfmngmjeaaGreatRows
import Derived.Test.YtgbbljfmngmjeaaGreatRowKit1Pack
import Derived.Test.YtgbbljfmngmjeaaGreatLawNarrow
set_option linter.all false
set_option maxRecDepth 100000
namespace Go.Proofs.YtgbbljfmngmjeaaGreat
open Go.ChangeShapes Go.WideShapes Go.RowKit

theorem crewNarrower_law (W : World) (args : Array Value) (hs : args.size = Tryz.f9.params.size) (hA : ∀ (j : Nat) t v, Tryz.f9.params[j]? = some t → args[j]? = some v → Arg Tryz.prog W t v) :
  Calls Tryz.prog 9 args W fun e w' => e = .returned (.bool true) ∧ Below W.heap.size W w' := by
 rw [Tryz.params9] at hs hA
 match args, hs with
 | ⟨[v0, v1, v2, v3]⟩, _ =>
  obtain ⟨vs0, vt0, ss0, ts0, rfl, s0, t0⟩ := Arg.range (hA 0 _ v0 rfl rfl)
  obtain ⟨sc1, V1, rfl, s1⟩ := Arg.scene (hA 1 _ v1 rfl rfl)
  obtain ⟨x2, rfl⟩ := Arg.sight (hA 2 _ v2 rfl rfl)
  obtain ⟨n3, rfl⟩ := Arg.int (hA 3 _ v3 rfl rfl) Tryz.underlying3
  exact law_CrewNarrower vs0 vt0 ss0 ts0 sc1 V1 x2 n3 W s0 t0 s1
theorem crewNarrower_lifted (os : Os) (started : os.Started) (H : Type) (enc : TypeId × Value → H) :
  ReturnsInHanded {} Tryz.checked os 9 .any (Rows.crewNarrowerSpec.pre6 enc Tryz.prog Tryz.f9 Rows.crewNarrowerRow.domain false) (Rows.crewNarrowerSpec.post enc Tryz.prog Tryz.f9 false true false false) :=
 law_liftedP (C := Tryz.checked) (tb := 4) rows_own started (by kernel_rfl) Tryz.func9 rows_laidOut
  (fun t ht => List.all_eq_true.1 (show (Tryz.f9.params.toList.all fun t => Tryz.prog.readableRec t) = true by kernel_rfl) t ht)
  (fun t ht => of_decide_eq_true (List.all_eq_true.1 (show (Tryz.f9.params.toList.all fun t => decide (t < Tryz.prog.types.size)) = true by kernel_rfl) t ht))
  (by kernel_rfl) Tryz.underlying4 rfl
  (fun ds hd => by
   rw [Tryz.params9] at hd
   match ds, hd with
   | [d0, d1, d2, d3], _ => rfl)
  (ChangeSpec.witness6 (enc := enc) (C := Tryz.checked) false ⟨#[], #[.agg #[.slice none 0 0, .slice none 0 0], .agg #[.slice none 0 0, .slice none 0 0, .int .i64 0, .int .i64 0, .int .i64 0, .slice none 0 0, .slice none 0 0, .slice none 0 0], .agg #[.int .i64 0, .int .i64 0, .int .i64 0, .int .i64 0, .int .i64 0], .int .i64 0], []⟩ 8 (by kernel_rfl) (by kernel_rfl) (by kernel_rfl) (by kernel_rfl))
  crewNarrower_law
theorem crewNarrower_inPlace : (Rows.crewNarrowerRow.inPlace == Tryz.prog.inPlace 9) = true := by kernel_rfl
theorem crewNarrower_unfollowed : (Rows.crewNarrowerRow.unfollowed == Tryz.prog.unfollowed 9) = true := by kernel_rfl
theorem crewNarrower_recurses : (Rows.crewNarrowerRow.recurses == Tryz.prog.recurses 9) = true := by kernel_rfl
theorem crewNarrower_named : (Rows.crewNarrowerRow.named == Tryz.prog.varsNamed 9) = true := by kernel_rfl
theorem crewNarrower_facts : joinedFacts Tryz.prog 9 Tryz.f9 Rows.crewNarrowerSpec Rows.crewNarrowerRow = true := by
 unfold joinedFacts
 repeat' (with_reducible refine and_true_of ?_ ?_)
 ·kernel_rfl
 ·exact rows_laidOut
 ·exact rows_mapsRowed
 ·kernel_rfl
 ·kernel_rfl
 ·kernel_rfl
 ·exact rows_stops
 ·kernel_rfl
 ·exact rows_stopKnobs
 ·exact crewNarrower_inPlace
 ·exact crewNarrower_unfollowed
 ·exact crewNarrower_recurses
 ·exact crewNarrower_named
 ·kernel_rfl
 ·kernel_rfl
 ·kernel_rfl
 ·kernel_rfl
 ·kernel_rfl
 ·kernel_rfl
 ·kernel_rfl
 ·kernel_rfl
 ·kernel_rfl
 ·rw [rows_plainKeys]; kernel_rfl
 ·kernel_rfl
 ·exact rows_stopsHeard
 ·exact rows_mayEnter
 ·rw [rows_lifts]; kernel_rfl
 ·rw [rows_make]; kernel_rfl
 all_goals kernel_rfl
theorem crewNarrower_func : Tryz.prog.funcNamed Rows.crewNarrowerRow.func = some 9 := by kernel_rfl
theorem crewNarrower_inst : Tryz.f9.isInstance Tryz.prog Rows.crewNarrowerRow.origin Rows.crewNarrowerRow.targs := of_decide_eq_true (by kernel_rfl)
theorem crewNarrower_wrap : Tryz.f9.isWrapper Tryz.prog Rows.crewNarrowerRow.wrapper Rows.crewNarrowerRow.mainSum := by unfold Func.isWrapper; rw [if_neg (of_decide_eq_false (by kernel_rfl))]; exact ⟨rfl, rfl⟩
theorem crewNarrower_holds : Rows.CrewNarrowerSaid :=
 OpenClaim.holds_of_wide 9 Tryz.f9 rfl rfl rfl rfl rfl rfl rfl ⟨rfl, rfl, rfl, rfl, rfl⟩ rfl rfl rfl rfl rfl crewNarrower_func Tryz.func9 crewNarrower_facts crewNarrower_inst crewNarrower_wrap
  (fun os started H enc _ => crewNarrower_lifted os started H enc)
end Go.Proofs.YtgbbljfmngmjeaaGreat
