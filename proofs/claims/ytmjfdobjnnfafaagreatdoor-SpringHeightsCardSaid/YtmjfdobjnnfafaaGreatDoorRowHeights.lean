/- The law SpringHeights holds, whatever the input: its row, and its tied card: the listed tables are as the text of the program lays them. -/
import Derived.Test.YtmjfdobjnnfafaaGreatDoorRowKit3
import Derived.Test.YtmjfdobjnnfafaaGreatDoorLawHeights
set_option linter.all false
namespace Go.Proofs.YtmjfdobjnnfafaaGreatDoor
open Go.ChangeShapes Go.WideShapes Go.RowKit

set_option maxRecDepth 100000 in
theorem springHeights_law (W : World) (args : Array Value) (hs : args.size = Tryz.f13.params.size) (hA : ∀ (j : Nat) t v, Tryz.f13.params[j]? = some t → args[j]? = some v → Arg Tryz.prog W t v) (hL : laidMetH Tryz.prog Rows.springHeightsRow.laid W) :
    Calls Tryz.prog 13 args W fun e w' => e = .returned (.bool true) ∧ Below W.heap.size W w' := by
  have hp : Pow10 W := pow10_of_laid hL
  rw [Tryz.params13] at hs hA
  match args, hs with
  | ⟨[v0, v1, v2, v3, v4, v5]⟩, _ =>
    obtain ⟨c, rfl⟩ := Arg.climate (hA 0 _ v0 rfl rfl)
    obtain ⟨x1, rfl⟩ := Arg.weather (hA 1 _ v1 rfl rfl)
    obtain ⟨x2, rfl⟩ := Arg.weather (hA 2 _ v2 rfl rfl)
    obtain ⟨n3, rfl⟩ := Arg.int (hA 3 _ v3 rfl rfl) Tryz.underlying3
    obtain ⟨n4, rfl⟩ := Arg.int (hA 4 _ v4 rfl rfl) Tryz.underlying3
    obtain ⟨n5, rfl⟩ := Arg.int (hA 5 _ v5 rfl rfl) Tryz.underlying3
    exact law_Heights c x1 x2 n3 n4 n5 W hp
set_option maxRecDepth 100000 in
theorem springHeights_lifted (os : Os) (started : os.Started) (H : Type) (enc : TypeId × Value → H) :
    ReturnsInHanded {} Tryz.checked os 13 .any (fun w args => (Rows.springHeightsSpec.pre enc Tryz.prog Tryz.f13 [] false w args ∧ laidMetH Tryz.prog Rows.springHeightsRow.laid w) ∧ sizedMet enc Tryz.prog Tryz.f13 (OpenSpec.ofChange Rows.springHeightsSpec) false w args)
      (Rows.springHeightsSpec.post enc Tryz.prog Tryz.f13 false true false false) :=
  law_lifted (C := Tryz.checked) (tb := 4) rows_own started (by kernel_rfl) Tryz.func13 rows_laidOut
    (fun t ht => List.all_eq_true.1 (show (Tryz.f13.params.toList.all fun t => Tryz.prog.readableRec t) = true by kernel_rfl) t ht)
    (fun t ht => of_decide_eq_true (List.all_eq_true.1 (show (Tryz.f13.params.toList.all fun t => decide (t < Tryz.prog.types.size)) = true by kernel_rfl) t ht))
    (by kernel_rfl) Tryz.underlying4 rfl
    (fun ds hd => by
      rw [Tryz.params13] at hd
      match ds, hd with
      | [d0, d1, d2, d3, d4, d5], _ => rfl)
    (ChangeSpec.witness_shaped (enc := enc) (C := Tryz.checked) (os := os) (X := fun w _ => laidMetH Tryz.prog Rows.springHeightsRow.laid w) false (World.laidAll Tryz.prog os Rows.springHeightsRow.laid) #[.agg #[I 0, I 0, I 0, I 0, I 0, I 0, I 0, I 0], .agg #[I 0, I 0, I 0], .agg #[I 0, I 0, I 0], I 0, I 0, I 0] 8 (World.laidAll_os _ _ _)
      (World.shaped_of_ZipB (by kernel_rfl) (by kernel_rfl)) (by kernel_rfl) (by kernel_rfl) (by kernel_rfl)
      (by rw [MakeChecks.laidMetH_plain _ _ _ (by kernel_rfl)]; exact laidMet_laidAll _ (by kernel_rfl) (by kernel_rfl)))
    springHeights_law
theorem springHeights_inPlace : (Rows.springHeightsRow.inPlace == Tryz.prog.inPlace 13) = true := by kernel_rfl
theorem springHeights_unfollowed : (Rows.springHeightsRow.unfollowed == Tryz.prog.unfollowed 13) = true := by kernel_rfl
theorem springHeights_recurses : (Rows.springHeightsRow.recurses == Tryz.prog.recurses 13) = true := by kernel_rfl
theorem springHeights_named : (Rows.springHeightsRow.named == Tryz.prog.varsNamed 13) = true := by kernel_rfl
theorem springHeights_facts : joinedFacts Tryz.prog 13 Tryz.f13 Rows.springHeightsSpec Rows.springHeightsRow = true := by
  unfold joinedFacts
  repeat' (with_reducible refine and_true_of ?_ ?_)
  · kernel_rfl
  · exact rows_laidOut
  · exact rows_mapsRowed
  · kernel_rfl
  · kernel_rfl
  · kernel_rfl
  · exact rows_stops
  · kernel_rfl
  · exact rows_stopKnobs
  · exact springHeights_inPlace
  · exact springHeights_unfollowed
  · exact springHeights_recurses
  · exact springHeights_named
  · kernel_rfl
  · kernel_rfl
  · kernel_rfl
  · kernel_rfl
  · kernel_rfl
  · kernel_rfl
  · kernel_rfl
  · kernel_rfl
  · kernel_rfl
  · rw [rows_plainKeys]; kernel_rfl
  · kernel_rfl
  · exact rows_stopsHeard
  · exact rows_mayEnter
  · rw [rows_lifts]; kernel_rfl
  · rw [rows_make]; kernel_rfl
  all_goals kernel_rfl
theorem springHeights_func : Tryz.prog.funcNamed Rows.springHeightsRow.func = some 13 := by kernel_rfl
theorem springHeights_inst : Tryz.f13.isInstance Tryz.prog Rows.springHeightsRow.origin Rows.springHeightsRow.targs := of_decide_eq_true (by kernel_rfl)
theorem springHeights_wrap : Tryz.f13.isWrapper Tryz.prog Rows.springHeightsRow.wrapper Rows.springHeightsRow.mainSum := by unfold Func.isWrapper; rw [if_neg (of_decide_eq_false (by kernel_rfl))]; exact ⟨rfl, rfl⟩
theorem springHeights_said : Rows.SpringHeightsSaid :=
  OpenClaim.holds_of_wide 13 Tryz.f13 rfl rfl rfl rfl rfl rfl rfl ⟨rfl, rfl, rfl, rfl, rfl⟩ rfl rfl rfl rfl rfl springHeights_func Tryz.func13 springHeights_facts springHeights_inst springHeights_wrap
    (fun os started H enc _ => springHeights_lifted os started H enc)
theorem springHeights_wf : Rows.springHeightsRow.wfByText (OpenSpec.ofChange Rows.springHeightsSpec) = true := by kernel_rfl
theorem springHeights_goes : false = Rows.springHeightsRow.goesBy Tryz.prog := by kernel_rfl
theorem springHeights_plain : (Tryz.f13.params.toList.all fun t => Tryz.prog.wantsStandIn t == false) = true := by kernel_rfl
theorem springHeights_looks (f : FuncId) (fn : Func) (hf : Tryz.prog.funcNamed Rows.springHeightsRow.func = some f) (hfn : Tryz.prog.funcs[f]? = some fn) : false = Tryz.prog.looks [] ∧ ∀ (j : Nat) t, fn.params[j]? = some t → Tryz.prog.wantsStandIn t = false := by
  obtain rfl : f = 13 := (Option.some.inj (springHeights_func.symm.trans hf)).symm
  obtain rfl : fn = Tryz.f13 := (Option.some.inj (Tryz.func13.symm.trans hfn)).symm
  refine ⟨rows_looks, fun j t ht => ?_⟩
  have hm : t ∈ Tryz.f13.params.toList := List.mem_of_getElem? (by simpa using ht)
  exact eq_of_beq (List.all_eq_true.1 springHeights_plain t hm)
/-- The tied card of the law. -/
theorem springHeights_holds : Rows.SpringHeightsCardSaid :=
  Claim7.holds_tied_plain_at .later [] [.data, .data, .data] true (true, "35d444981c2af7b56da1b39a94e96b2be7085ba3a092eaffe21a8eb966b9ba23") false
    springHeights_said (fun _ h => by cases h) springHeights_wf (fun _ h => by cases h) springHeights_row_tie rfl ⟨rfl, rfl⟩ rows_mainIs rfl springHeights_looks springHeights_goes
end Go.Proofs.YtmjfdobjnnfafaaGreatDoor
