/- The law SpringBounded holds, whatever the input: its row, and its tied card: the listed tables are as the text of the program lays them. -/
import Derived.Test.YtmjfdobjnnfafaaGreatDoorRowKit3
import Derived.Test.YtmjfdobjnnfafaaGreatDoorLawBounded
set_option linter.all false
namespace Go.Proofs.YtmjfdobjnnfafaaGreatDoor
open Go.ChangeShapes Go.WideShapes Go.RowKit

set_option maxRecDepth 100000 in
theorem springBounded_law (W : World) (args : Array Value) (hs : args.size = Tryz.f9.params.size) (hA : ∀ (j : Nat) t v, Tryz.f9.params[j]? = some t → args[j]? = some v → Arg Tryz.prog W t v) (hL : laidMetH Tryz.prog Rows.springBoundedRow.laid W) :
    Calls Tryz.prog 9 args W fun e w' => e = .returned (.bool true) ∧ Below W.heap.size W w' := by
  have hp : Pow10 W := pow10_of_laid hL
  rw [Tryz.params9] at hs hA
  match args, hs with
  | ⟨[v0, v1, v2, v3, v4, v5]⟩, _ =>
    obtain ⟨c, rfl⟩ := Arg.climate (hA 0 _ v0 rfl rfl)
    obtain ⟨xs1, s1⟩ := Arg.weathers (hA 1 _ v1 rfl rfl)
    obtain ⟨xs2, s2⟩ := Arg.weathers (hA 2 _ v2 rfl rfl)
    obtain ⟨n3, rfl⟩ := Arg.int (hA 3 _ v3 rfl rfl) Tryz.underlying3
    obtain ⟨n4, rfl⟩ := Arg.int (hA 4 _ v4 rfl rfl) Tryz.underlying3
    obtain ⟨n5, rfl⟩ := Arg.int (hA 5 _ v5 rfl rfl) Tryz.underlying3
    exact law_Bounded c v1 xs1 v2 xs2 n3 n4 n5 W hp s1 s2
set_option maxRecDepth 100000 in
theorem springBounded_lifted (os : Os) (started : os.Started) (H : Type) (enc : TypeId × Value → H) :
    ReturnsInHanded {} Tryz.checked os 9 .any (fun w args => (Rows.springBoundedSpec.pre enc Tryz.prog Tryz.f9 [] false w args ∧ laidMetH Tryz.prog Rows.springBoundedRow.laid w) ∧ sizedMet enc Tryz.prog Tryz.f9 (OpenSpec.ofChange Rows.springBoundedSpec) false w args)
      (Rows.springBoundedSpec.post enc Tryz.prog Tryz.f9 false true false false) :=
  law_lifted (C := Tryz.checked) (tb := 4) rows_own started (by kernel_rfl) Tryz.func9 rows_laidOut
    (fun t ht => List.all_eq_true.1 (show (Tryz.f9.params.toList.all fun t => Tryz.prog.readableRec t) = true by kernel_rfl) t ht)
    (fun t ht => of_decide_eq_true (List.all_eq_true.1 (show (Tryz.f9.params.toList.all fun t => decide (t < Tryz.prog.types.size)) = true by kernel_rfl) t ht))
    (by kernel_rfl) Tryz.underlying4 rfl
    (fun ds hd => by
      rw [Tryz.params9] at hd
      match ds, hd with
      | [d0, d1, d2, d3, d4, d5], _ => rfl)
    (ChangeSpec.witness_shaped (enc := enc) (C := Tryz.checked) (os := os) (X := fun w _ => laidMetH Tryz.prog Rows.springBoundedRow.laid w) false (World.laidAll Tryz.prog os Rows.springBoundedRow.laid) #[.agg #[I 0, I 0, I 0, I 0, I 0, I 0, I 0, I 0], .slice none 0 0, .slice none 0 0, I 0, I 0, I 0] 8 (World.laidAll_os _ _ _)
      (World.shaped_of_ZipB (by kernel_rfl) (by kernel_rfl)) (by kernel_rfl) (by kernel_rfl) (by kernel_rfl)
      (by rw [MakeChecks.laidMetH_plain _ _ _ (by kernel_rfl)]; exact laidMet_laidAll _ (by kernel_rfl) (by kernel_rfl)))
    springBounded_law
theorem springBounded_inPlace : (Rows.springBoundedRow.inPlace == Tryz.prog.inPlace 9) = true := by kernel_rfl
theorem springBounded_unfollowed : (Rows.springBoundedRow.unfollowed == Tryz.prog.unfollowed 9) = true := by kernel_rfl
theorem springBounded_recurses : (Rows.springBoundedRow.recurses == Tryz.prog.recurses 9) = true := by kernel_rfl
theorem springBounded_named : (Rows.springBoundedRow.named == Tryz.prog.varsNamed 9) = true := by kernel_rfl
theorem springBounded_facts : joinedFacts Tryz.prog 9 Tryz.f9 Rows.springBoundedSpec Rows.springBoundedRow = true := by
  unfold joinedFacts
  repeat' (with_reducible refine and_true_of ?_ ?_)
  · kernel_rfl
  · exact rows_laidOut
  · exact rows_mapsRowed
  · kernel_rfl
  · kernel_rfl
  · kernel_rfl
  · exact rows_stops
  · kernel_rfl
  · exact rows_stopKnobs
  · exact springBounded_inPlace
  · exact springBounded_unfollowed
  · exact springBounded_recurses
  · exact springBounded_named
  · kernel_rfl
  · kernel_rfl
  · kernel_rfl
  · kernel_rfl
  · kernel_rfl
  · kernel_rfl
  · kernel_rfl
  · kernel_rfl
  · kernel_rfl
  · rw [rows_plainKeys]; kernel_rfl
  · kernel_rfl
  · exact rows_stopsHeard
  · exact rows_mayEnter
  · rw [rows_lifts]; kernel_rfl
  · rw [rows_make]; kernel_rfl
  all_goals kernel_rfl
theorem springBounded_func : Tryz.prog.funcNamed Rows.springBoundedRow.func = some 9 := by kernel_rfl
theorem springBounded_inst : Tryz.f9.isInstance Tryz.prog Rows.springBoundedRow.origin Rows.springBoundedRow.targs := of_decide_eq_true (by kernel_rfl)
theorem springBounded_wrap : Tryz.f9.isWrapper Tryz.prog Rows.springBoundedRow.wrapper Rows.springBoundedRow.mainSum := by unfold Func.isWrapper; rw [if_neg (of_decide_eq_false (by kernel_rfl))]; exact ⟨rfl, rfl⟩
theorem springBounded_said : Rows.SpringBoundedSaid :=
  OpenClaim.holds_of_wide 9 Tryz.f9 rfl rfl rfl rfl rfl rfl rfl ⟨rfl, rfl, rfl, rfl, rfl⟩ rfl rfl rfl rfl rfl springBounded_func Tryz.func9 springBounded_facts springBounded_inst springBounded_wrap
    (fun os started H enc _ => springBounded_lifted os started H enc)
theorem springBounded_wf : Rows.springBoundedRow.wfByText (OpenSpec.ofChange Rows.springBoundedSpec) = true := by kernel_rfl
theorem springBounded_goes : false = Rows.springBoundedRow.goesBy Tryz.prog := by kernel_rfl
theorem springBounded_plain : (Tryz.f9.params.toList.all fun t => Tryz.prog.wantsStandIn t == false) = true := by kernel_rfl
theorem springBounded_looks (f : FuncId) (fn : Func) (hf : Tryz.prog.funcNamed Rows.springBoundedRow.func = some f) (hfn : Tryz.prog.funcs[f]? = some fn) : false = Tryz.prog.looks [] ∧ ∀ (j : Nat) t, fn.params[j]? = some t → Tryz.prog.wantsStandIn t = false := by
  obtain rfl : f = 9 := (Option.some.inj (springBounded_func.symm.trans hf)).symm
  obtain rfl : fn = Tryz.f9 := (Option.some.inj (Tryz.func9.symm.trans hfn)).symm
  refine ⟨rows_looks, fun j t ht => ?_⟩
  have hm : t ∈ Tryz.f9.params.toList := List.mem_of_getElem? (by simpa using ht)
  exact eq_of_beq (List.all_eq_true.1 springBounded_plain t hm)
/-- The tied card of the law. -/
theorem springBounded_holds : Rows.SpringBoundedCardSaid :=
  Claim7.holds_tied_plain_at .later [] [.data, .data, .data] true (true, "35d444981c2af7b56da1b39a94e96b2be7085ba3a092eaffe21a8eb966b9ba23") false
    springBounded_said (fun _ h => by cases h) springBounded_wf (fun _ h => by cases h) springBounded_row_tie rfl ⟨rfl, rfl⟩ rows_mainIs rfl springBounded_looks springBounded_goes
end Go.Proofs.YtmjfdobjnnfafaaGreatDoor
