/- The law SpringHeightSpec holds, whatever the input: its row, and its tied card: the listed tables are as the text of the program lays them. -/
import Derived.Test.YtmjfdobjnnfafaaGreatDoorRowKit3
import Derived.Test.YtmjfdobjnnfafaaGreatDoorLawHeightSpec
set_option linter.all false
namespace Go.Proofs.YtmjfdobjnnfafaaGreatDoor
open Go.ChangeShapes Go.WideShapes Go.RowKit

set_option maxRecDepth 100000 in
theorem springHeightSpec_law (W : World) (args : Array Value) (hs : args.size = Tryz.f4.params.size) (hA : ∀ (j : Nat) t v, Tryz.f4.params[j]? = some t → args[j]? = some v → Arg Tryz.prog W t v) (hL : laidMetH Tryz.prog Rows.springHeightSpecRow.laid W) :
    Calls Tryz.prog 4 args W fun e w' => e = .returned (.bool true) ∧ Below W.heap.size W w' := by
  have hp : Pow10 W := pow10_of_laid hL
  rw [Tryz.params4] at hs hA
  match args, hs with
  | ⟨[v0, v1, v2, v3, v4]⟩, _ =>
    obtain ⟨c, rfl⟩ := Arg.climate (hA 0 _ v0 rfl rfl)
    obtain ⟨x1, rfl⟩ := Arg.weather (hA 1 _ v1 rfl rfl)
    obtain ⟨n2, rfl⟩ := Arg.int (hA 2 _ v2 rfl rfl) Tryz.underlying3
    obtain ⟨n3, rfl⟩ := Arg.int (hA 3 _ v3 rfl rfl) Tryz.underlying3
    obtain ⟨n4, rfl⟩ := Arg.int (hA 4 _ v4 rfl rfl) Tryz.underlying3
    exact law_HeightSpec c x1 n2 n3 n4 W hp
set_option maxRecDepth 100000 in
theorem springHeightSpec_lifted (os : Os) (started : os.Started) (H : Type) (enc : TypeId × Value → H) :
    ReturnsInHanded {} Tryz.checked os 4 .any (fun w args => (Rows.springHeightSpecSpec.pre enc Tryz.prog Tryz.f4 [] false w args ∧ laidMetH Tryz.prog Rows.springHeightSpecRow.laid w) ∧ sizedMet enc Tryz.prog Tryz.f4 (OpenSpec.ofChange Rows.springHeightSpecSpec) false w args)
      (Rows.springHeightSpecSpec.post enc Tryz.prog Tryz.f4 false true false false) :=
  law_lifted (C := Tryz.checked) (tb := 4) rows_own started (by kernel_rfl) Tryz.func4 rows_laidOut
    (fun t ht => List.all_eq_true.1 (show (Tryz.f4.params.toList.all fun t => Tryz.prog.readableRec t) = true by kernel_rfl) t ht)
    (fun t ht => of_decide_eq_true (List.all_eq_true.1 (show (Tryz.f4.params.toList.all fun t => decide (t < Tryz.prog.types.size)) = true by kernel_rfl) t ht))
    (by kernel_rfl) Tryz.underlying4 rfl
    (fun ds hd => by
      rw [Tryz.params4] at hd
      match ds, hd with
      | [d0, d1, d2, d3, d4], _ => rfl)
    (ChangeSpec.witness_shaped (enc := enc) (C := Tryz.checked) (os := os) (X := fun w _ => laidMetH Tryz.prog Rows.springHeightSpecRow.laid w) false (World.laidAll Tryz.prog os Rows.springHeightSpecRow.laid) #[.agg #[I 0, I 0, I 0, I 0, I 0, I 0, I 0, I 0], .agg #[I 0, I 0, I 0], I 0, I 0, I 0] 8 (World.laidAll_os _ _ _)
      (World.shaped_of_ZipB (by kernel_rfl) (by kernel_rfl)) (by kernel_rfl) (by kernel_rfl) (by kernel_rfl)
      (by rw [MakeChecks.laidMetH_plain _ _ _ (by kernel_rfl)]; exact laidMet_laidAll _ (by kernel_rfl) (by kernel_rfl)))
    springHeightSpec_law
theorem springHeightSpec_inPlace : (Rows.springHeightSpecRow.inPlace == Tryz.prog.inPlace 4) = true := by kernel_rfl
theorem springHeightSpec_unfollowed : (Rows.springHeightSpecRow.unfollowed == Tryz.prog.unfollowed 4) = true := by kernel_rfl
theorem springHeightSpec_recurses : (Rows.springHeightSpecRow.recurses == Tryz.prog.recurses 4) = true := by kernel_rfl
theorem springHeightSpec_named : (Rows.springHeightSpecRow.named == Tryz.prog.varsNamed 4) = true := by kernel_rfl
theorem springHeightSpec_facts : joinedFacts Tryz.prog 4 Tryz.f4 Rows.springHeightSpecSpec Rows.springHeightSpecRow = true := by
  unfold joinedFacts
  repeat' (with_reducible refine and_true_of ?_ ?_)
  · kernel_rfl
  · exact rows_laidOut
  · exact rows_mapsRowed
  · kernel_rfl
  · kernel_rfl
  · kernel_rfl
  · exact rows_stops
  · kernel_rfl
  · exact rows_stopKnobs
  · exact springHeightSpec_inPlace
  · exact springHeightSpec_unfollowed
  · exact springHeightSpec_recurses
  · exact springHeightSpec_named
  · kernel_rfl
  · kernel_rfl
  · kernel_rfl
  · kernel_rfl
  · kernel_rfl
  · kernel_rfl
  · kernel_rfl
  · kernel_rfl
  · kernel_rfl
  · rw [rows_plainKeys]; kernel_rfl
  · kernel_rfl
  · exact rows_stopsHeard
  · exact rows_mayEnter
  · rw [rows_lifts]; kernel_rfl
  · rw [rows_make]; kernel_rfl
  all_goals kernel_rfl
theorem springHeightSpec_func : Tryz.prog.funcNamed Rows.springHeightSpecRow.func = some 4 := by kernel_rfl
theorem springHeightSpec_inst : Tryz.f4.isInstance Tryz.prog Rows.springHeightSpecRow.origin Rows.springHeightSpecRow.targs := of_decide_eq_true (by kernel_rfl)
theorem springHeightSpec_wrap : Tryz.f4.isWrapper Tryz.prog Rows.springHeightSpecRow.wrapper Rows.springHeightSpecRow.mainSum := by unfold Func.isWrapper; rw [if_neg (of_decide_eq_false (by kernel_rfl))]; exact ⟨rfl, rfl⟩
theorem springHeightSpec_said : Rows.SpringHeightSpecSaid :=
  OpenClaim.holds_of_wide 4 Tryz.f4 rfl rfl rfl rfl rfl rfl rfl ⟨rfl, rfl, rfl, rfl, rfl⟩ rfl rfl rfl rfl rfl springHeightSpec_func Tryz.func4 springHeightSpec_facts springHeightSpec_inst springHeightSpec_wrap
    (fun os started H enc _ => springHeightSpec_lifted os started H enc)
theorem springHeightSpec_wf : Rows.springHeightSpecRow.wfByText (OpenSpec.ofChange Rows.springHeightSpecSpec) = true := by kernel_rfl
theorem springHeightSpec_goes : false = Rows.springHeightSpecRow.goesBy Tryz.prog := by kernel_rfl
theorem springHeightSpec_plain : (Tryz.f4.params.toList.all fun t => Tryz.prog.wantsStandIn t == false) = true := by kernel_rfl
theorem springHeightSpec_looks (f : FuncId) (fn : Func) (hf : Tryz.prog.funcNamed Rows.springHeightSpecRow.func = some f) (hfn : Tryz.prog.funcs[f]? = some fn) : false = Tryz.prog.looks [] ∧ ∀ (j : Nat) t, fn.params[j]? = some t → Tryz.prog.wantsStandIn t = false := by
  obtain rfl : f = 4 := (Option.some.inj (springHeightSpec_func.symm.trans hf)).symm
  obtain rfl : fn = Tryz.f4 := (Option.some.inj (Tryz.func4.symm.trans hfn)).symm
  refine ⟨rows_looks, fun j t ht => ?_⟩
  have hm : t ∈ Tryz.f4.params.toList := List.mem_of_getElem? (by simpa using ht)
  exact eq_of_beq (List.all_eq_true.1 springHeightSpec_plain t hm)
/-- The tied card of the law. -/
theorem springHeightSpec_holds : Rows.SpringHeightSpecCardSaid :=
  Claim7.holds_tied_plain_at .later [] [.data, .data, .data] true (true, "35d444981c2af7b56da1b39a94e96b2be7085ba3a092eaffe21a8eb966b9ba23") false
    springHeightSpec_said (fun _ h => by cases h) springHeightSpec_wf (fun _ h => by cases h) springHeightSpec_row_tie rfl ⟨rfl, rfl⟩ rows_mainIs rfl springHeightSpec_looks springHeightSpec_goes
end Go.Proofs.YtmjfdobjnnfafaaGreatDoor
