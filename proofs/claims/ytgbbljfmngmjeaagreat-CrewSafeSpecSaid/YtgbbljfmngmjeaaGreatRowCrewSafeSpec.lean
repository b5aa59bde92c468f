/- The law CrewSafeSpec holds, whatever the input. No condition. -/
import Derived.Test.YtgbbljfmngmjeaaGreatRows
import Derived.Test.YtgbbljfmngmjeaaGreatRowKit1Pack
import Derived.Test.YtgbbljfmngmjeaaGreatLawSafe
set_option linter.all false
set_option maxRecDepth 100000
namespace Go.Proofs.YtgbbljfmngmjeaaGreat
open Go.ChangeShapes Go.WideShapes Go.RowKit

theorem crewSafeSpec_law (W : World) (args : Array Value) (hs : args.size = Tryz.f13.params.size) (hA : ∀ (j : Nat) t v, Tryz.f13.params[j]? = some t → args[j]? = some v → Arg Tryz.prog W t v) :
  Calls Tryz.prog 13 args W fun e w' => e = .returned (.bool true) ∧ Below W.heap.size W w' := by
 rw [Tryz.params13] at hs hA
 match args, hs with
 | ⟨[v0, v1, v2, v3]⟩, _ =>
  obtain ⟨vs0, vt0, ss0, ts0, rfl, s0, t0⟩ := Arg.range (hA 0 _ v0 rfl rfl)
  obtain ⟨sc1, V1, rfl, s1⟩ := Arg.scene (hA 1 _ v1 rfl rfl)
  obtain ⟨n2, rfl⟩ := Arg.int (hA 2 _ v2 rfl rfl) Tryz.underlying3
  obtain ⟨n3, rfl⟩ := Arg.int (hA 3 _ v3 rfl rfl) Tryz.underlying3
  exact law_CrewSafeSpec vs0 vt0 ss0 ts0 sc1 V1 n2 n3 W s0 t0 s1
theorem crewSafeSpec_lifted (os : Os) (started : os.Started) (H : Type) (enc : TypeId × Value → H) :
  ReturnsInHanded {} Tryz.checked os 13 .any (Rows.crewSafeSpecSpec.pre6 enc Tryz.prog Tryz.f13 Rows.crewSafeSpecRow.domain false) (Rows.crewSafeSpecSpec.post enc Tryz.prog Tryz.f13 false true false false) :=
 law_liftedP (C := Tryz.checked) (tb := 4) rows_own started (by kernel_rfl) Tryz.func13 rows_laidOut
  (fun t ht => List.all_eq_true.1 (show (Tryz.f13.params.toList.all fun t => Tryz.prog.readableRec t) = true by kernel_rfl) t ht)
  (fun t ht => of_decide_eq_true (List.all_eq_true.1 (show (Tryz.f13.params.toList.all fun t => decide (t < Tryz.prog.types.size)) = true by kernel_rfl) t ht))
  (by kernel_rfl) Tryz.underlying4 rfl
  (fun ds hd => by
   rw [Tryz.params13] at hd
   match ds, hd with
   | [d0, d1, d2, d3], _ => rfl)
  (ChangeSpec.witness6 (enc := enc) (C := Tryz.checked) false ⟨#[], #[.agg #[.slice none 0 0, .slice none 0 0], .agg #[.slice none 0 0, .slice none 0 0, .int .i64 0, .int .i64 0, .int .i64 0, .slice none 0 0, .slice none 0 0, .slice none 0 0], .int .i64 0, .int .i64 0], []⟩ 8 (by kernel_rfl) (by kernel_rfl) (by kernel_rfl) (by kernel_rfl))
  crewSafeSpec_law
theorem crewSafeSpec_inPlace : (Rows.crewSafeSpecRow.inPlace == Tryz.prog.inPlace 13) = true := by kernel_rfl
theorem crewSafeSpec_unfollowed : (Rows.crewSafeSpecRow.unfollowed == Tryz.prog.unfollowed 13) = true := by kernel_rfl
theorem crewSafeSpec_recurses : (Rows.crewSafeSpecRow.recurses == Tryz.prog.recurses 13) = true := by kernel_rfl
theorem crewSafeSpec_named : (Rows.crewSafeSpecRow.named == Tryz.prog.varsNamed 13) = true := by kernel_rfl
theorem crewSafeSpec_facts : joinedFacts Tryz.prog 13 Tryz.f13 Rows.crewSafeSpecSpec Rows.crewSafeSpecRow = true := by
 unfold joinedFacts
 repeat' (with_reducible refine and_true_of ?_ ?_)
 ·kernel_rfl
 ·exact rows_laidOut
 ·exact rows_mapsRowed
 ·kernel_rfl
 ·kernel_rfl
 ·kernel_rfl
 ·exact rows_stops
 ·kernel_rfl
 ·exact rows_stopKnobs
 ·exact crewSafeSpec_inPlace
 ·exact crewSafeSpec_unfollowed
 ·exact crewSafeSpec_recurses
 ·exact crewSafeSpec_named
 ·kernel_rfl
 ·kernel_rfl
 ·kernel_rfl
 ·kernel_rfl
 ·kernel_rfl
 ·kernel_rfl
 ·kernel_rfl
 ·kernel_rfl
 ·kernel_rfl
 ·rw [rows_plainKeys]; kernel_rfl
 ·kernel_rfl
 ·exact rows_stopsHeard
 ·exact rows_mayEnter
 ·rw [rows_lifts]; kernel_rfl
 ·rw [rows_make]; kernel_rfl
 all_goals kernel_rfl
theorem crewSafeSpec_func : Tryz.prog.funcNamed Rows.crewSafeSpecRow.func = some 13 := by kernel_rfl
theorem crewSafeSpec_inst : Tryz.f13.isInstance Tryz.prog Rows.crewSafeSpecRow.origin Rows.crewSafeSpecRow.targs := of_decide_eq_true (by kernel_rfl)
theorem crewSafeSpec_wrap : Tryz.f13.isWrapper Tryz.prog Rows.crewSafeSpecRow.wrapper Rows.crewSafeSpecRow.mainSum := by unfold Func.isWrapper; rw [if_neg (of_decide_eq_false (by kernel_rfl))]; exact ⟨rfl, rfl⟩
theorem crewSafeSpec_holds : Rows.CrewSafeSpecSaid :=
 OpenClaim.holds_of_wide 13 Tryz.f13 rfl rfl rfl rfl rfl rfl rfl ⟨rfl, rfl, rfl, rfl, rfl⟩ rfl rfl rfl rfl rfl crewSafeSpec_func Tryz.func13 crewSafeSpec_facts crewSafeSpec_inst crewSafeSpec_wrap
  (fun os started H enc _ => crewSafeSpec_lifted os started H enc)
end Go.Proofs.YtgbbljfmngmjeaaGreat
