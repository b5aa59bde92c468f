/- The law SpringReleaseSpec holds, whatever the input: its row, and its tied card: the listed tables are as the text of the program lays them. -/
import Derived.Test.YtmjfdobjnnfafaaGreatDoorRowKit3
import Derived.Test.YtmjfdobjnnfafaaGreatDoorLawReleaseSpec
set_option linter.all false
namespace Go.Proofs.YtmjfdobjnnfafaaGreatDoor
open Go.ChangeShapes Go.WideShapes Go.RowKit

set_option maxRecDepth 100000 in
theorem springReleaseSpec_law (W : World) (args : Array Value) (hs : args.size = Tryz.f6.params.size) (hA : ∀ (j : Nat) t v, Tryz.f6.params[j]? = some t → args[j]? = some v → Arg Tryz.prog W t v) (hL : laidMetH Tryz.prog Rows.springReleaseSpecRow.laid W) :
    Calls Tryz.prog 6 args W fun e w' => e = .returned (.bool true) ∧ Below W.heap.size W w' := by
  have hp : Pow10 W := pow10_of_laid hL
  rw [Tryz.params6] at hs hA
  match args, hs with
  | ⟨[v0, v1, v2, v3, v4, v5]⟩, _ =>
    obtain ⟨c, rfl⟩ := Arg.climate (hA 0 _ v0 rfl rfl)
    obtain ⟨no1, vd1, p1, rfl, s1⟩ := Arg.spring (hA 1 _ v1 rfl rfl)
    obtain ⟨n2, rfl⟩ := Arg.int (hA 2 _ v2 rfl rfl) Tryz.underlying3
    obtain ⟨n3, rfl⟩ := Arg.int (hA 3 _ v3 rfl rfl) Tryz.underlying3
    obtain ⟨n4, rfl⟩ := Arg.int (hA 4 _ v4 rfl rfl) Tryz.underlying3
    obtain ⟨n5, rfl⟩ := Arg.int (hA 5 _ v5 rfl rfl) Tryz.underlying3
    exact law_ReleaseSpec c no1 vd1 p1 n2 n3 n4 n5 W hp s1
set_option maxRecDepth 100000 in
theorem springReleaseSpec_lifted (os : Os) (started : os.Started) (H : Type) (enc : TypeId × Value → H) :
    ReturnsInHanded {} Tryz.checked os 6 .any (fun w args => (Rows.springReleaseSpecSpec.pre enc Tryz.prog Tryz.f6 [] false w args ∧ laidMetH Tryz.prog Rows.springReleaseSpecRow.laid w) ∧ sizedMet enc Tryz.prog Tryz.f6 (OpenSpec.ofChange Rows.springReleaseSpecSpec) false w args)
      (Rows.springReleaseSpecSpec.post enc Tryz.prog Tryz.f6 false true false false) :=
  law_lifted (C := Tryz.checked) (tb := 4) rows_own started (by kernel_rfl) Tryz.func6 rows_laidOut
    (fun t ht => List.all_eq_true.1 (show (Tryz.f6.params.toList.all fun t => Tryz.prog.readableRec t) = true by kernel_rfl) t ht)
    (fun t ht => of_decide_eq_true (List.all_eq_true.1 (show (Tryz.f6.params.toList.all fun t => decide (t < Tryz.prog.types.size)) = true by kernel_rfl) t ht))
    (by kernel_rfl) Tryz.underlying4 rfl
    (fun ds hd => by
      rw [Tryz.params6] at hd
      match ds, hd with
      | [d0, d1, d2, d3, d4, d5], _ => rfl)
    (ChangeSpec.witness_shaped (enc := enc) (C := Tryz.checked) (os := os) (X := fun w _ => laidMetH Tryz.prog Rows.springReleaseSpecRow.laid w) false (World.laidAll Tryz.prog os Rows.springReleaseSpecRow.laid) #[.agg #[I 0, I 0, I 0, I 0, I 0, I 0, I 0, I 0], .agg #[I 0, .slice none 0 0], I 0, I 0, I 0, I 0] 8 (World.laidAll_os _ _ _)
      (World.shaped_of_ZipB (by kernel_rfl) (by kernel_rfl)) (by kernel_rfl) (by kernel_rfl) (by kernel_rfl)
      (by rw [MakeChecks.laidMetH_plain _ _ _ (by kernel_rfl)]; exact laidMet_laidAll _ (by kernel_rfl) (by kernel_rfl)))
    springReleaseSpec_law
theorem springReleaseSpec_inPlace : (Rows.springReleaseSpecRow.inPlace == Tryz.prog.inPlace 6) = true := by kernel_rfl
theorem springReleaseSpec_unfollowed : (Rows.springReleaseSpecRow.unfollowed == Tryz.prog.unfollowed 6) = true := by kernel_rfl
theorem springReleaseSpec_recurses : (Rows.springReleaseSpecRow.recurses == Tryz.prog.recurses 6) = true := by kernel_rfl
theorem springReleaseSpec_named : (Rows.springReleaseSpecRow.named == Tryz.prog.varsNamed 6) = true := by kernel_rfl
theorem springReleaseSpec_facts : joinedFacts Tryz.prog 6 Tryz.f6 Rows.springReleaseSpecSpec Rows.springReleaseSpecRow = true := by
  unfold joinedFacts
  repeat' (with_reducible refine and_true_of ?_ ?_)
  · kernel_rfl
  · exact rows_laidOut
  · exact rows_mapsRowed
  · kernel_rfl
  · kernel_rfl
  · kernel_rfl
  · exact rows_stops
  · kernel_rfl
  · exact rows_stopKnobs
  · exact springReleaseSpec_inPlace
  · exact springReleaseSpec_unfollowed
  · exact springReleaseSpec_recurses
  · exact springReleaseSpec_named
  · kernel_rfl
  · kernel_rfl
  · kernel_rfl
  · kernel_rfl
  · kernel_rfl
  · kernel_rfl
  · kernel_rfl
  · kernel_rfl
  · kernel_rfl
  · rw [rows_plainKeys]; kernel_rfl
  · kernel_rfl
  · exact rows_stopsHeard
  · exact rows_mayEnter
  · rw [rows_lifts]; kernel_rfl
  · rw [rows_make]; kernel_rfl
  all_goals kernel_rfl
theorem springReleaseSpec_func : Tryz.prog.funcNamed Rows.springReleaseSpecRow.func = some 6 := by kernel_rfl
theorem springReleaseSpec_inst : Tryz.f6.isInstance Tryz.prog Rows.springReleaseSpecRow.origin Rows.springReleaseSpecRow.targs := of_decide_eq_true (by kernel_rfl)
theorem springReleaseSpec_wrap : Tryz.f6.isWrapper Tryz.prog Rows.springReleaseSpecRow.wrapper Rows.springReleaseSpecRow.mainSum := by unfold Func.isWrapper; rw [if_neg (of_decide_eq_false (by kernel_rfl))]; exact ⟨rfl, rfl⟩
theorem springReleaseSpec_said : Rows.SpringReleaseSpecSaid :=
  OpenClaim.holds_of_wide 6 Tryz.f6 rfl rfl rfl rfl rfl rfl rfl ⟨rfl, rfl, rfl, rfl, rfl⟩ rfl rfl rfl rfl rfl springReleaseSpec_func Tryz.func6 springReleaseSpec_facts springReleaseSpec_inst springReleaseSpec_wrap
    (fun os started H enc _ => springReleaseSpec_lifted os started H enc)
theorem springReleaseSpec_wf : Rows.springReleaseSpecRow.wfByText (OpenSpec.ofChange Rows.springReleaseSpecSpec) = true := by kernel_rfl
theorem springReleaseSpec_goes : false = Rows.springReleaseSpecRow.goesBy Tryz.prog := by kernel_rfl
theorem springReleaseSpec_plain : (Tryz.f6.params.toList.all fun t => Tryz.prog.wantsStandIn t == false) = true := by kernel_rfl
theorem springReleaseSpec_looks (f : FuncId) (fn : Func) (hf : Tryz.prog.funcNamed Rows.springReleaseSpecRow.func = some f) (hfn : Tryz.prog.funcs[f]? = some fn) : false = Tryz.prog.looks [] ∧ ∀ (j : Nat) t, fn.params[j]? = some t → Tryz.prog.wantsStandIn t = false := by
  obtain rfl : f = 6 := (Option.some.inj (springReleaseSpec_func.symm.trans hf)).symm
  obtain rfl : fn = Tryz.f6 := (Option.some.inj (Tryz.func6.symm.trans hfn)).symm
  refine ⟨rows_looks, fun j t ht => ?_⟩
  have hm : t ∈ Tryz.f6.params.toList := List.mem_of_getElem? (by simpa using ht)
  exact eq_of_beq (List.all_eq_true.1 springReleaseSpec_plain t hm)
/-- The tied card of the law. -/
theorem springReleaseSpec_holds : Rows.SpringReleaseSpecCardSaid :=
  Claim7.holds_tied_plain_at .later [] [.data, .data, .data] true (true, "35d444981c2af7b56da1b39a94e96b2be7085ba3a092eaffe21a8eb966b9ba23") false
    springReleaseSpec_said (fun _ h => by cases h) springReleaseSpec_wf (fun _ h => by cases h) springReleaseSpec_row_tie rfl ⟨rfl, rfl⟩ rows_mainIs rfl springReleaseSpec_looks springReleaseSpec_goes
end Go.Proofs.YtmjfdobjnnfafaaGreatDoor
