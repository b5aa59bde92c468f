/- The law SpringCheckSpec holds, whatever the input: its row, and its tied card: the listed tables are as the text of the program lays them. -/
import Derived.Test.YtmjfdobjnnfafaaGreatDoorRowKit3
import Derived.Test.YtmjfdobjnnfafaaGreatDoorLawCheckSpec
set_option linter.all false
namespace Go.Proofs.YtmjfdobjnnfafaaGreatDoor
open Go.ChangeShapes Go.WideShapes Go.RowKit

set_option maxRecDepth 100000 in
theorem springCheckSpec_law (W : World) (args : Array Value) (hs : args.size = Tryz.f3.params.size) (hA : ∀ (j : Nat) t v, Tryz.f3.params[j]? = some t → args[j]? = some v → Arg Tryz.prog W t v) (hL : laidMetH Tryz.prog Rows.springCheckSpecRow.laid W) :
    Calls Tryz.prog 3 args W fun e w' => e = .returned (.bool true) ∧ Below W.heap.size W w' := by
  have hp : Pow10 W := pow10_of_laid hL
  rw [Tryz.params3] at hs hA
  match args, hs with
  | ⟨[v0, v1, v2]⟩, _ =>
    obtain ⟨c, rfl⟩ := Arg.climate (hA 0 _ v0 rfl rfl)
    obtain ⟨xs1, s1⟩ := Arg.weathers (hA 1 _ v1 rfl rfl)
    obtain ⟨no2, vd2, p2, rfl, s2⟩ := Arg.spring (hA 2 _ v2 rfl rfl)
    exact law_CheckSpec c v1 xs1 no2 vd2 p2 W hp s1 s2
set_option maxRecDepth 100000 in
theorem springCheckSpec_lifted (os : Os) (started : os.Started) (H : Type) (enc : TypeId × Value → H) :
    ReturnsInHanded {} Tryz.checked os 3 .any (fun w args => (Rows.springCheckSpecSpec.pre enc Tryz.prog Tryz.f3 [] false w args ∧ laidMetH Tryz.prog Rows.springCheckSpecRow.laid w) ∧ sizedMet enc Tryz.prog Tryz.f3 (OpenSpec.ofChange Rows.springCheckSpecSpec) false w args)
      (Rows.springCheckSpecSpec.post enc Tryz.prog Tryz.f3 false true false false) :=
  law_lifted (C := Tryz.checked) (tb := 4) rows_own started (by kernel_rfl) Tryz.func3 rows_laidOut
    (fun t ht => List.all_eq_true.1 (show (Tryz.f3.params.toList.all fun t => Tryz.prog.readableRec t) = true by kernel_rfl) t ht)
    (fun t ht => of_decide_eq_true (List.all_eq_true.1 (show (Tryz.f3.params.toList.all fun t => decide (t < Tryz.prog.types.size)) = true by kernel_rfl) t ht))
    (by kernel_rfl) Tryz.underlying4 rfl
    (fun ds hd => by
      rw [Tryz.params3] at hd
      match ds, hd with
      | [d0, d1, d2], _ => rfl)
    (ChangeSpec.witness_shaped (enc := enc) (C := Tryz.checked) (os := os) (X := fun w _ => laidMetH Tryz.prog Rows.springCheckSpecRow.laid w) false (World.laidAll Tryz.prog os Rows.springCheckSpecRow.laid) #[.agg #[I 0, I 0, I 0, I 0, I 0, I 0, I 0, I 0], .slice none 0 0, .agg #[I 0, .slice none 0 0]] 8 (World.laidAll_os _ _ _)
      (World.shaped_of_ZipB (by kernel_rfl) (by kernel_rfl)) (by kernel_rfl) (by kernel_rfl) (by kernel_rfl)
      (by rw [MakeChecks.laidMetH_plain _ _ _ (by kernel_rfl)]; exact laidMet_laidAll _ (by kernel_rfl) (by kernel_rfl)))
    springCheckSpec_law
theorem springCheckSpec_inPlace : (Rows.springCheckSpecRow.inPlace == Tryz.prog.inPlace 3) = true := by kernel_rfl
theorem springCheckSpec_unfollowed : (Rows.springCheckSpecRow.unfollowed == Tryz.prog.unfollowed 3) = true := by kernel_rfl
theorem springCheckSpec_recurses : (Rows.springCheckSpecRow.recurses == Tryz.prog.recurses 3) = true := by kernel_rfl
theorem springCheckSpec_named : (Rows.springCheckSpecRow.named == Tryz.prog.varsNamed 3) = true := by kernel_rfl
theorem springCheckSpec_facts : joinedFacts Tryz.prog 3 Tryz.f3 Rows.springCheckSpecSpec Rows.springCheckSpecRow = true := by
  unfold joinedFacts
  repeat' (with_reducible refine and_true_of ?_ ?_)
  · kernel_rfl
  · exact rows_laidOut
  · exact rows_mapsRowed
  · kernel_rfl
  · kernel_rfl
  · kernel_rfl
  · exact rows_stops
  · kernel_rfl
  · exact rows_stopKnobs
  · exact springCheckSpec_inPlace
  · exact springCheckSpec_unfollowed
  · exact springCheckSpec_recurses
  · exact springCheckSpec_named
  · kernel_rfl
  · kernel_rfl
  · kernel_rfl
  · kernel_rfl
  · kernel_rfl
  · kernel_rfl
  · kernel_rfl
  · kernel_rfl
  · kernel_rfl
  · rw [rows_plainKeys]; kernel_rfl
  · kernel_rfl
  · exact rows_stopsHeard
  · exact rows_mayEnter
  · rw [rows_lifts]; kernel_rfl
  · rw [rows_make]; kernel_rfl
  all_goals kernel_rfl
theorem springCheckSpec_func : Tryz.prog.funcNamed Rows.springCheckSpecRow.func = some 3 := by kernel_rfl
theorem springCheckSpec_inst : Tryz.f3.isInstance Tryz.prog Rows.springCheckSpecRow.origin Rows.springCheckSpecRow.targs := of_decide_eq_true (by kernel_rfl)
theorem springCheckSpec_wrap : Tryz.f3.isWrapper Tryz.prog Rows.springCheckSpecRow.wrapper Rows.springCheckSpecRow.mainSum := by unfold Func.isWrapper; rw [if_neg (of_decide_eq_false (by kernel_rfl))]; exact ⟨rfl, rfl⟩
theorem springCheckSpec_said : Rows.SpringCheckSpecSaid :=
  OpenClaim.holds_of_wide 3 Tryz.f3 rfl rfl rfl rfl rfl rfl rfl ⟨rfl, rfl, rfl, rfl, rfl⟩ rfl rfl rfl rfl rfl springCheckSpec_func Tryz.func3 springCheckSpec_facts springCheckSpec_inst springCheckSpec_wrap
    (fun os started H enc _ => springCheckSpec_lifted os started H enc)
theorem springCheckSpec_wf : Rows.springCheckSpecRow.wfByText (OpenSpec.ofChange Rows.springCheckSpecSpec) = true := by kernel_rfl
theorem springCheckSpec_goes : false = Rows.springCheckSpecRow.goesBy Tryz.prog := by kernel_rfl
theorem springCheckSpec_plain : (Tryz.f3.params.toList.all fun t => Tryz.prog.wantsStandIn t == false) = true := by kernel_rfl
theorem springCheckSpec_looks (f : FuncId) (fn : Func) (hf : Tryz.prog.funcNamed Rows.springCheckSpecRow.func = some f) (hfn : Tryz.prog.funcs[f]? = some fn) : false = Tryz.prog.looks [] ∧ ∀ (j : Nat) t, fn.params[j]? = some t → Tryz.prog.wantsStandIn t = false := by
  obtain rfl : f = 3 := (Option.some.inj (springCheckSpec_func.symm.trans hf)).symm
  obtain rfl : fn = Tryz.f3 := (Option.some.inj (Tryz.func3.symm.trans hfn)).symm
  refine ⟨rows_looks, fun j t ht => ?_⟩
  have hm : t ∈ Tryz.f3.params.toList := List.mem_of_getElem? (by simpa using ht)
  exact eq_of_beq (List.all_eq_true.1 springCheckSpec_plain t hm)
/-- The tied card of the law. -/
theorem springCheckSpec_holds : Rows.SpringCheckSpecCardSaid :=
  Claim7.holds_tied_plain_at .later [] [.data, .data, .data] true (true, "35d444981c2af7b56da1b39a94e96b2be7085ba3a092eaffe21a8eb966b9ba23") false
    springCheckSpec_said (fun _ h => by cases h) springCheckSpec_wf (fun _ h => by cases h) springCheckSpec_row_tie rfl ⟨rfl, rfl⟩ rows_mainIs rfl springCheckSpec_looks springCheckSpec_goes
end Go.Proofs.YtmjfdobjnnfafaaGreatDoor
