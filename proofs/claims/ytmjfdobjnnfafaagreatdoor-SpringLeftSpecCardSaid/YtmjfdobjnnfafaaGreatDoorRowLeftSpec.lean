/- The law SpringLeftSpec holds, whatever the input: its row, and its tied card: the listed tables are as the text of the program lays them. -/
import Derived.Test.YtmjfdobjnnfafaaGreatDoorRowKit3
import Derived.Test.YtmjfdobjnnfafaaGreatDoorRowKit5
import Derived.Test.YtmjfdobjnnfafaaGreatDoorLawLeftSpec
set_option linter.all false
namespace Go.Proofs.YtmjfdobjnnfafaaGreatDoor
open Go.ChangeShapes Go.WideShapes Go.RowKit

set_option maxRecDepth 100000 in
theorem springLeftSpec_law (W : World) (args : Array Value) (hs : args.size = Tryz.f18.params.size) (hA : ∀ (j : Nat) t v, Tryz.f18.params[j]? = some t → args[j]? = some v → Arg Tryz.prog W t v) (hL : laidMetH Tryz.prog Rows.springLeftSpecRow.laid W) :
    Calls Tryz.prog 18 args W fun e w' => e = .returned (.bool true) ∧ Below W.heap.size W w' := by
  have hp : Pow10 W := pow10_of_laid hL
  rw [Tryz.params18] at hs hA
  match args, hs with
  | ⟨[v0, v1, v2, v3]⟩, _ =>
    obtain ⟨c, rfl⟩ := Arg.climate (hA 0 _ v0 rfl rfl)
    obtain ⟨xs1, s1⟩ := Arg.weathers (hA 1 _ v1 rfl rfl)
    obtain ⟨no2, vd2, p2, rfl, s2⟩ := Arg.spring (hA 2 _ v2 rfl rfl)
    obtain ⟨xs3, s3⟩ := Arg.springs (hA 3 _ v3 rfl rfl)
    exact law_LeftSpec c v1 xs1 no2 vd2 p2 v3 xs3 W hp s1 s2 s3
set_option maxRecDepth 100000 in
theorem springLeftSpec_lifted (os : Os) (started : os.Started) (H : Type) (enc : TypeId × Value → H) :
    ReturnsInHanded {} Tryz.checked os 18 .any (fun w args => (Rows.springLeftSpecSpec.pre enc Tryz.prog Tryz.f18 [] false w args ∧ laidMetH Tryz.prog Rows.springLeftSpecRow.laid w) ∧ sizedMet enc Tryz.prog Tryz.f18 (OpenSpec.ofChange Rows.springLeftSpecSpec) false w args)
      (Rows.springLeftSpecSpec.post enc Tryz.prog Tryz.f18 false true false false) :=
  law_lifted (C := Tryz.checked) (tb := 4) rows_own started (by kernel_rfl) Tryz.func18 rows_laidOut
    (fun t ht => List.all_eq_true.1 (show (Tryz.f18.params.toList.all fun t => Tryz.prog.readableRec t) = true by kernel_rfl) t ht)
    (fun t ht => of_decide_eq_true (List.all_eq_true.1 (show (Tryz.f18.params.toList.all fun t => decide (t < Tryz.prog.types.size)) = true by kernel_rfl) t ht))
    (by kernel_rfl) Tryz.underlying4 rfl
    (fun ds hd => by
      rw [Tryz.params18] at hd
      match ds, hd with
      | [d0, d1, d2, d3], _ => rfl)
    (ChangeSpec.witness_shaped (enc := enc) (C := Tryz.checked) (os := os) (X := fun w _ => laidMetH Tryz.prog Rows.springLeftSpecRow.laid w) false (World.laidAll Tryz.prog os Rows.springLeftSpecRow.laid) #[.agg #[I 0, I 0, I 0, I 0, I 0, I 0, I 0, I 0], .slice none 0 0, .agg #[I 0, .slice none 0 0], .slice none 0 0] 8 (World.laidAll_os _ _ _)
      (World.shaped_of_ZipB (by kernel_rfl) (by kernel_rfl)) (by kernel_rfl) (by kernel_rfl) (by kernel_rfl)
      (by rw [MakeChecks.laidMetH_plain _ _ _ (by kernel_rfl)]; exact laidMet_laidAll _ (by kernel_rfl) (by kernel_rfl)))
    springLeftSpec_law
theorem springLeftSpec_inPlace : (Rows.springLeftSpecRow.inPlace == Tryz.prog.inPlace 18) = true := by kernel_rfl
theorem springLeftSpec_unfollowed : (Rows.springLeftSpecRow.unfollowed == Tryz.prog.unfollowed 18) = true := by kernel_rfl
theorem springLeftSpec_recurses : (Rows.springLeftSpecRow.recurses == Tryz.prog.recurses 18) = true := by kernel_rfl
theorem springLeftSpec_named : (Rows.springLeftSpecRow.named == Tryz.prog.varsNamed 18) = true := by kernel_rfl
theorem springLeftSpec_facts : joinedFacts Tryz.prog 18 Tryz.f18 Rows.springLeftSpecSpec Rows.springLeftSpecRow = true := by
  unfold joinedFacts
  repeat' (with_reducible refine and_true_of ?_ ?_)
  · kernel_rfl
  · exact rows_laidOut
  · exact rows_mapsRowed
  · kernel_rfl
  · kernel_rfl
  · kernel_rfl
  · exact rows_stops
  · kernel_rfl
  · exact rows_stopKnobs
  · exact springLeftSpec_inPlace
  · exact springLeftSpec_unfollowed
  · exact springLeftSpec_recurses
  · exact springLeftSpec_named
  · kernel_rfl
  · kernel_rfl
  · kernel_rfl
  · kernel_rfl
  · kernel_rfl
  · kernel_rfl
  · kernel_rfl
  · kernel_rfl
  · kernel_rfl
  · rw [rows_plainKeys]; kernel_rfl
  · kernel_rfl
  · exact rows_stopsHeard
  · exact rows_mayEnter
  · rw [rows_lifts]; kernel_rfl
  · rw [rows_make]; kernel_rfl
  all_goals kernel_rfl
theorem springLeftSpec_func : Tryz.prog.funcNamed Rows.springLeftSpecRow.func = some 18 := by kernel_rfl
theorem springLeftSpec_inst : Tryz.f18.isInstance Tryz.prog Rows.springLeftSpecRow.origin Rows.springLeftSpecRow.targs := of_decide_eq_true (by kernel_rfl)
theorem springLeftSpec_wrap : Tryz.f18.isWrapper Tryz.prog Rows.springLeftSpecRow.wrapper Rows.springLeftSpecRow.mainSum := by unfold Func.isWrapper; rw [if_neg (of_decide_eq_false (by kernel_rfl))]; exact ⟨rfl, rfl⟩
theorem springLeftSpec_said : Rows.SpringLeftSpecSaid :=
  OpenClaim.holds_of_wide 18 Tryz.f18 rfl rfl rfl rfl rfl rfl rfl ⟨rfl, rfl, rfl, rfl, rfl⟩ rfl rfl rfl rfl rfl springLeftSpec_func Tryz.func18 springLeftSpec_facts springLeftSpec_inst springLeftSpec_wrap
    (fun os started H enc _ => springLeftSpec_lifted os started H enc)
theorem springLeftSpec_wf : Rows.springLeftSpecRow.wfByText (OpenSpec.ofChange Rows.springLeftSpecSpec) = true := by kernel_rfl
theorem springLeftSpec_goes : false = Rows.springLeftSpecRow.goesBy Tryz.prog := by kernel_rfl
theorem springLeftSpec_plain : (Tryz.f18.params.toList.all fun t => Tryz.prog.wantsStandIn t == false) = true := by kernel_rfl
theorem springLeftSpec_looks (f : FuncId) (fn : Func) (hf : Tryz.prog.funcNamed Rows.springLeftSpecRow.func = some f) (hfn : Tryz.prog.funcs[f]? = some fn) : false = Tryz.prog.looks [] ∧ ∀ (j : Nat) t, fn.params[j]? = some t → Tryz.prog.wantsStandIn t = false := by
  obtain rfl : f = 18 := (Option.some.inj (springLeftSpec_func.symm.trans hf)).symm
  obtain rfl : fn = Tryz.f18 := (Option.some.inj (Tryz.func18.symm.trans hfn)).symm
  refine ⟨rows_looks, fun j t ht => ?_⟩
  have hm : t ∈ Tryz.f18.params.toList := List.mem_of_getElem? (by simpa using ht)
  exact eq_of_beq (List.all_eq_true.1 springLeftSpec_plain t hm)
/-- The tied card of the law. -/
theorem springLeftSpec_holds : Rows.SpringLeftSpecCardSaid :=
  Claim7.holds_tied_plain_at .later [] [.data, .data, .data] true (true, "35d444981c2af7b56da1b39a94e96b2be7085ba3a092eaffe21a8eb966b9ba23") false
    springLeftSpec_said (fun _ h => by cases h) springLeftSpec_wf (fun _ h => by cases h) springLeftSpec_row_tie rfl ⟨rfl, rfl⟩ rows_mainIs rfl springLeftSpec_looks springLeftSpec_goes
end Go.Proofs.YtmjfdobjnnfafaaGreatDoor
