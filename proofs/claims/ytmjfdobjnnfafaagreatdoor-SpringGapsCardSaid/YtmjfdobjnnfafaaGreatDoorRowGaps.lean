/- The law SpringGaps holds, whatever the input: its row, and its tied card: the listed tables are as the text of the program lays them. -/
import Derived.Test.YtmjfdobjnnfafaaGreatDoorRowKit3
import Derived.Test.YtmjfdobjnnfafaaGreatDoorLawGaps
set_option linter.all false
namespace Go.Proofs.YtmjfdobjnnfafaaGreatDoor
open Go.ChangeShapes Go.WideShapes Go.RowKit

set_option maxRecDepth 100000 in
theorem springGaps_law (W : World) (args : Array Value) (hs : args.size = Tryz.f8.params.size) (hA : ∀ (j : Nat) t v, Tryz.f8.params[j]? = some t → args[j]? = some v → Arg Tryz.prog W t v) (hL : laidMetH Tryz.prog Rows.springGapsRow.laid W) :
    Calls Tryz.prog 8 args W fun e w' => e = .returned (.bool true) ∧ Below W.heap.size W w' := by
  have hp : Pow10 W := pow10_of_laid hL
  rw [Tryz.params8] at hs hA
  match args, hs with
  | ⟨[v0, v1, v2, v3, v4]⟩, _ =>
    obtain ⟨c, rfl⟩ := Arg.climate (hA 0 _ v0 rfl rfl)
    obtain ⟨xs1, s1⟩ := Arg.weathers (hA 1 _ v1 rfl rfl)
    obtain ⟨xs2, s2⟩ := Arg.weathers (hA 2 _ v2 rfl rfl)
    obtain ⟨n3, rfl⟩ := Arg.int (hA 3 _ v3 rfl rfl) Tryz.underlying3
    obtain ⟨n4, rfl⟩ := Arg.int (hA 4 _ v4 rfl rfl) Tryz.underlying3
    exact law_Gaps c v1 xs1 v2 xs2 n3 n4 W hp s1 s2
set_option maxRecDepth 100000 in
theorem springGaps_lifted (os : Os) (started : os.Started) (H : Type) (enc : TypeId × Value → H) :
    ReturnsInHanded {} Tryz.checked os 8 .any (fun w args => (Rows.springGapsSpec.pre enc Tryz.prog Tryz.f8 [] false w args ∧ laidMetH Tryz.prog Rows.springGapsRow.laid w) ∧ sizedMet enc Tryz.prog Tryz.f8 (OpenSpec.ofChange Rows.springGapsSpec) false w args)
      (Rows.springGapsSpec.post enc Tryz.prog Tryz.f8 false true false false) :=
  law_lifted (C := Tryz.checked) (tb := 4) rows_own started (by kernel_rfl) Tryz.func8 rows_laidOut
    (fun t ht => List.all_eq_true.1 (show (Tryz.f8.params.toList.all fun t => Tryz.prog.readableRec t) = true by kernel_rfl) t ht)
    (fun t ht => of_decide_eq_true (List.all_eq_true.1 (show (Tryz.f8.params.toList.all fun t => decide (t < Tryz.prog.types.size)) = true by kernel_rfl) t ht))
    (by kernel_rfl) Tryz.underlying4 rfl
    (fun ds hd => by
      rw [Tryz.params8] at hd
      match ds, hd with
      | [d0, d1, d2, d3, d4], _ => rfl)
    (ChangeSpec.witness_shaped (enc := enc) (C := Tryz.checked) (os := os) (X := fun w _ => laidMetH Tryz.prog Rows.springGapsRow.laid w) false (World.laidAll Tryz.prog os Rows.springGapsRow.laid) #[.agg #[I 0, I 0, I 0, I 0, I 0, I 0, I 0, I 0], .slice none 0 0, .slice none 0 0, I 0, I 0] 8 (World.laidAll_os _ _ _)
      (World.shaped_of_ZipB (by kernel_rfl) (by kernel_rfl)) (by kernel_rfl) (by kernel_rfl) (by kernel_rfl)
      (by rw [MakeChecks.laidMetH_plain _ _ _ (by kernel_rfl)]; exact laidMet_laidAll _ (by kernel_rfl) (by kernel_rfl)))
    springGaps_law
theorem springGaps_inPlace : (Rows.springGapsRow.inPlace == Tryz.prog.inPlace 8) = true := by kernel_rfl
theorem springGaps_unfollowed : (Rows.springGapsRow.unfollowed == Tryz.prog.unfollowed 8) = true := by kernel_rfl
theorem springGaps_recurses : (Rows.springGapsRow.recurses == Tryz.prog.recurses 8) = true := by kernel_rfl
theorem springGaps_named : (Rows.springGapsRow.named == Tryz.prog.varsNamed 8) = true := by kernel_rfl
theorem springGaps_facts : joinedFacts Tryz.prog 8 Tryz.f8 Rows.springGapsSpec Rows.springGapsRow = true := by
  unfold joinedFacts
  repeat' (with_reducible refine and_true_of ?_ ?_)
  · kernel_rfl
  · exact rows_laidOut
  · exact rows_mapsRowed
  · kernel_rfl
  · kernel_rfl
  · kernel_rfl
  · exact rows_stops
  · kernel_rfl
  · exact rows_stopKnobs
  · exact springGaps_inPlace
  · exact springGaps_unfollowed
  · exact springGaps_recurses
  · exact springGaps_named
  · kernel_rfl
  · kernel_rfl
  · kernel_rfl
  · kernel_rfl
  · kernel_rfl
  · kernel_rfl
  · kernel_rfl
  · kernel_rfl
  · kernel_rfl
  · rw [rows_plainKeys]; kernel_rfl
  · kernel_rfl
  · exact rows_stopsHeard
  · exact rows_mayEnter
  · rw [rows_lifts]; kernel_rfl
  · rw [rows_make]; kernel_rfl
  all_goals kernel_rfl
theorem springGaps_func : Tryz.prog.funcNamed Rows.springGapsRow.func = some 8 := by kernel_rfl
theorem springGaps_inst : Tryz.f8.isInstance Tryz.prog Rows.springGapsRow.origin Rows.springGapsRow.targs := of_decide_eq_true (by kernel_rfl)
theorem springGaps_wrap : Tryz.f8.isWrapper Tryz.prog Rows.springGapsRow.wrapper Rows.springGapsRow.mainSum := by unfold Func.isWrapper; rw [if_neg (of_decide_eq_false (by kernel_rfl))]; exact ⟨rfl, rfl⟩
theorem springGaps_said : Rows.SpringGapsSaid :=
  OpenClaim.holds_of_wide 8 Tryz.f8 rfl rfl rfl rfl rfl rfl rfl ⟨rfl, rfl, rfl, rfl, rfl⟩ rfl rfl rfl rfl rfl springGaps_func Tryz.func8 springGaps_facts springGaps_inst springGaps_wrap
    (fun os started H enc _ => springGaps_lifted os started H enc)
theorem springGaps_wf : Rows.springGapsRow.wfByText (OpenSpec.ofChange Rows.springGapsSpec) = true := by kernel_rfl
theorem springGaps_goes : false = Rows.springGapsRow.goesBy Tryz.prog := by kernel_rfl
theorem springGaps_plain : (Tryz.f8.params.toList.all fun t => Tryz.prog.wantsStandIn t == false) = true := by kernel_rfl
theorem springGaps_looks (f : FuncId) (fn : Func) (hf : Tryz.prog.funcNamed Rows.springGapsRow.func = some f) (hfn : Tryz.prog.funcs[f]? = some fn) : false = Tryz.prog.looks [] ∧ ∀ (j : Nat) t, fn.params[j]? = some t → Tryz.prog.wantsStandIn t = false := by
  obtain rfl : f = 8 := (Option.some.inj (springGaps_func.symm.trans hf)).symm
  obtain rfl : fn = Tryz.f8 := (Option.some.inj (Tryz.func8.symm.trans hfn)).symm
  refine ⟨rows_looks, fun j t ht => ?_⟩
  have hm : t ∈ Tryz.f8.params.toList := List.mem_of_getElem? (by simpa using ht)
  exact eq_of_beq (List.all_eq_true.1 springGaps_plain t hm)
/-- The tied card of the law. -/
theorem springGaps_holds : Rows.SpringGapsCardSaid :=
  Claim7.holds_tied_plain_at .later [] [.data, .data, .data] true (true, "35d444981c2af7b56da1b39a94e96b2be7085ba3a092eaffe21a8eb966b9ba23") false
    springGaps_said (fun _ h => by cases h) springGaps_wf (fun _ h => by cases h) springGaps_row_tie rfl ⟨rfl, rfl⟩ rows_mainIs rfl springGaps_looks springGaps_goes
end Go.Proofs.YtmjfdobjnnfafaaGreatDoor
