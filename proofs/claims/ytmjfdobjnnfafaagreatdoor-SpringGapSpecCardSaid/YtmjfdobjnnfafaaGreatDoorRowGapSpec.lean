/- The law SpringGapSpec holds, whatever the input: its row, and its tied card: the listed tables are as the text of the program lays them. -/
import Derived.Test.YtmjfdobjnnfafaaGreatDoorRowKit4
import Derived.Test.YtmjfdobjnnfafaaGreatDoorLawGapSpec
set_option linter.all false
namespace Go.Proofs.YtmjfdobjnnfafaaGreatDoor
open Go.ChangeShapes Go.WideShapes Go.RowKit

set_option maxRecDepth 100000 in
theorem springGapSpec_law (W : World) (args : Array Value) (hs : args.size = Tryz.f5.params.size) (hA : ∀ (j : Nat) t v, Tryz.f5.params[j]? = some t → args[j]? = some v → Arg Tryz.prog W t v) (hL : laidMetH Tryz.prog Rows.springGapSpecRow.laid W) :
    Calls Tryz.prog 5 args W fun e w' => e = .returned (.bool true) ∧ Below W.heap.size W w' := by
  have hp : Pow10 W := pow10_of_laid hL
  rw [Tryz.params5] at hs hA
  match args, hs with
  | ⟨[v0, v1, v2, v3, v4, v5]⟩, _ =>
    obtain ⟨c, rfl⟩ := Arg.climate (hA 0 _ v0 rfl rfl)
    obtain ⟨xs1, s1⟩ := Arg.weathers (hA 1 _ v1 rfl rfl)
    obtain ⟨xs2, s2⟩ := Arg.weathers (hA 2 _ v2 rfl rfl)
    obtain ⟨n3, rfl⟩ := Arg.int (hA 3 _ v3 rfl rfl) Tryz.underlying3
    obtain ⟨n4, rfl⟩ := Arg.int (hA 4 _ v4 rfl rfl) Tryz.underlying3
    obtain ⟨b5, rfl⟩ := Arg.bool (hA 5 _ v5 rfl rfl) Tryz.underlying4
    exact law_GapSpec c v1 xs1 v2 xs2 n3 n4 b5 W hp s1 s2
set_option maxRecDepth 100000 in
theorem springGapSpec_lifted (os : Os) (started : os.Started) (H : Type) (enc : TypeId × Value → H) :
    ReturnsInHanded {} Tryz.checked os 5 .any (fun w args => (Rows.springGapSpecSpec.pre enc Tryz.prog Tryz.f5 [] false w args ∧ laidMetH Tryz.prog Rows.springGapSpecRow.laid w) ∧ sizedMet enc Tryz.prog Tryz.f5 (OpenSpec.ofChange Rows.springGapSpecSpec) false w args)
      (Rows.springGapSpecSpec.post enc Tryz.prog Tryz.f5 false true false false) :=
  law_lifted (C := Tryz.checked) (tb := 4) rows_own started (by kernel_rfl) Tryz.func5 rows_laidOut
    (fun t ht => List.all_eq_true.1 (show (Tryz.f5.params.toList.all fun t => Tryz.prog.readableRec t) = true by kernel_rfl) t ht)
    (fun t ht => of_decide_eq_true (List.all_eq_true.1 (show (Tryz.f5.params.toList.all fun t => decide (t < Tryz.prog.types.size)) = true by kernel_rfl) t ht))
    (by kernel_rfl) Tryz.underlying4 rfl
    (fun ds hd => by
      rw [Tryz.params5] at hd
      match ds, hd with
      | [d0, d1, d2, d3, d4, d5], _ => rfl)
    (ChangeSpec.witness_shaped (enc := enc) (C := Tryz.checked) (os := os) (X := fun w _ => laidMetH Tryz.prog Rows.springGapSpecRow.laid w) false (World.laidAll Tryz.prog os Rows.springGapSpecRow.laid) #[.agg #[I 0, I 0, I 0, I 0, I 0, I 0, I 0, I 0], .slice none 0 0, .slice none 0 0, I 0, I 0, .bool false] 8 (World.laidAll_os _ _ _)
      (World.shaped_of_ZipB (by kernel_rfl) (by kernel_rfl)) (by kernel_rfl) (by kernel_rfl) (by kernel_rfl)
      (by rw [MakeChecks.laidMetH_plain _ _ _ (by kernel_rfl)]; exact laidMet_laidAll _ (by kernel_rfl) (by kernel_rfl)))
    springGapSpec_law
theorem springGapSpec_inPlace : (Rows.springGapSpecRow.inPlace == Tryz.prog.inPlace 5) = true := by kernel_rfl
theorem springGapSpec_unfollowed : (Rows.springGapSpecRow.unfollowed == Tryz.prog.unfollowed 5) = true := by kernel_rfl
theorem springGapSpec_recurses : (Rows.springGapSpecRow.recurses == Tryz.prog.recurses 5) = true := by kernel_rfl
theorem springGapSpec_named : (Rows.springGapSpecRow.named == Tryz.prog.varsNamed 5) = true := by kernel_rfl
theorem springGapSpec_facts : joinedFacts Tryz.prog 5 Tryz.f5 Rows.springGapSpecSpec Rows.springGapSpecRow = true := by
  unfold joinedFacts
  repeat' (with_reducible refine and_true_of ?_ ?_)
  · kernel_rfl
  · exact rows_laidOut
  · exact rows_mapsRowed
  · kernel_rfl
  · kernel_rfl
  · kernel_rfl
  · exact rows_stops
  · kernel_rfl
  · exact rows_stopKnobs
  · exact springGapSpec_inPlace
  · exact springGapSpec_unfollowed
  · exact springGapSpec_recurses
  · exact springGapSpec_named
  · kernel_rfl
  · kernel_rfl
  · kernel_rfl
  · kernel_rfl
  · kernel_rfl
  · kernel_rfl
  · kernel_rfl
  · kernel_rfl
  · kernel_rfl
  · rw [rows_plainKeys]; kernel_rfl
  · kernel_rfl
  · exact rows_stopsHeard
  · exact rows_mayEnter
  · rw [rows_lifts]; kernel_rfl
  · rw [rows_make]; kernel_rfl
  all_goals kernel_rfl
theorem springGapSpec_func : Tryz.prog.funcNamed Rows.springGapSpecRow.func = some 5 := by kernel_rfl
theorem springGapSpec_inst : Tryz.f5.isInstance Tryz.prog Rows.springGapSpecRow.origin Rows.springGapSpecRow.targs := of_decide_eq_true (by kernel_rfl)
theorem springGapSpec_wrap : Tryz.f5.isWrapper Tryz.prog Rows.springGapSpecRow.wrapper Rows.springGapSpecRow.mainSum := by unfold Func.isWrapper; rw [if_neg (of_decide_eq_false (by kernel_rfl))]; exact ⟨rfl, rfl⟩
theorem springGapSpec_said : Rows.SpringGapSpecSaid :=
  OpenClaim.holds_of_wide 5 Tryz.f5 rfl rfl rfl rfl rfl rfl rfl ⟨rfl, rfl, rfl, rfl, rfl⟩ rfl rfl rfl rfl rfl springGapSpec_func Tryz.func5 springGapSpec_facts springGapSpec_inst springGapSpec_wrap
    (fun os started H enc _ => springGapSpec_lifted os started H enc)
theorem springGapSpec_wf : Rows.springGapSpecRow.wfByText (OpenSpec.ofChange Rows.springGapSpecSpec) = true := by kernel_rfl
theorem springGapSpec_goes : false = Rows.springGapSpecRow.goesBy Tryz.prog := by kernel_rfl
theorem springGapSpec_plain : (Tryz.f5.params.toList.all fun t => Tryz.prog.wantsStandIn t == false) = true := by kernel_rfl
theorem springGapSpec_looks (f : FuncId) (fn : Func) (hf : Tryz.prog.funcNamed Rows.springGapSpecRow.func = some f) (hfn : Tryz.prog.funcs[f]? = some fn) : false = Tryz.prog.looks [] ∧ ∀ (j : Nat) t, fn.params[j]? = some t → Tryz.prog.wantsStandIn t = false := by
  obtain rfl : f = 5 := (Option.some.inj (springGapSpec_func.symm.trans hf)).symm
  obtain rfl : fn = Tryz.f5 := (Option.some.inj (Tryz.func5.symm.trans hfn)).symm
  refine ⟨rows_looks, fun j t ht => ?_⟩
  have hm : t ∈ Tryz.f5.params.toList := List.mem_of_getElem? (by simpa using ht)
  exact eq_of_beq (List.all_eq_true.1 springGapSpec_plain t hm)
/-- The tied card of the law. -/
theorem springGapSpec_holds : Rows.SpringGapSpecCardSaid :=
  Claim7.holds_tied_plain_at .later [] [.data, .data, .data] true (true, "35d444981c2af7b56da1b39a94e96b2be7085ba3a092eaffe21a8eb966b9ba23") false
    springGapSpec_said (fun _ h => by cases h) springGapSpec_wf (fun _ h => by cases h) springGapSpec_row_tie rfl ⟨rfl, rfl⟩ rows_mainIs rfl springGapSpec_looks springGapSpec_goes
end Go.Proofs.YtmjfdobjnnfafaaGreatDoor
