/- The law SpringCarried holds, whatever the input: its row, and its tied card: the listed tables are as the text of the program lays them. -/
import Derived.Test.YtmjfdobjnnfafaaGreatDoorRowKit3
import Derived.Test.YtmjfdobjnnfafaaGreatDoorRowKit5
import Derived.Test.YtmjfdobjnnfafaaGreatDoorLawCarried
set_option linter.all false
namespace Go.Proofs.YtmjfdobjnnfafaaGreatDoor
open Go.ChangeShapes Go.WideShapes Go.RowKit

set_option maxRecDepth 100000 in
theorem springCarried_law (W : World) (args : Array Value) (hs : args.size = Tryz.f16.params.size) (hA : ∀ (j : Nat) t v, Tryz.f16.params[j]? = some t → args[j]? = some v → Arg Tryz.prog W t v) (hL : laidMetH Tryz.prog Rows.springCarriedRow.laid W) :
    Calls Tryz.prog 16 args W fun e w' => e = .returned (.bool true) ∧ Below W.heap.size W w' := by
  have hp : Pow10 W := pow10_of_laid hL
  rw [Tryz.params16] at hs hA
  match args, hs with
  | ⟨[v0, v1, v2, v3, v4, v5, v6]⟩, _ =>
    obtain ⟨c, rfl⟩ := Arg.climate (hA 0 _ v0 rfl rfl)
    obtain ⟨xs1, s1⟩ := Arg.weathers (hA 1 _ v1 rfl rfl)
    obtain ⟨xs2, s2⟩ := Arg.weathers (hA 2 _ v2 rfl rfl)
    obtain ⟨b3, vc3, vp3, rfl, s3⟩ := Arg.basin (hA 3 _ v3 rfl rfl)
    obtain ⟨n4, rfl⟩ := Arg.int (hA 4 _ v4 rfl rfl) Tryz.underlying3
    obtain ⟨xs5, s5⟩ := Arg.ints (hA 5 _ v5 rfl rfl)
    obtain ⟨xs6, s6⟩ := Arg.ints (hA 6 _ v6 rfl rfl)
    exact law_Carried c v1 xs1 v2 xs2 b3 vc3 vp3 n4 v5 xs5 v6 xs6 W hp s1 s2 s3.1 s3.2 s5 s6
set_option maxRecDepth 100000 in
theorem springCarried_lifted (os : Os) (started : os.Started) (H : Type) (enc : TypeId × Value → H) :
    ReturnsInHanded {} Tryz.checked os 16 .any (fun w args => (Rows.springCarriedSpec.pre enc Tryz.prog Tryz.f16 [] false w args ∧ laidMetH Tryz.prog Rows.springCarriedRow.laid w) ∧ sizedMet enc Tryz.prog Tryz.f16 (OpenSpec.ofChange Rows.springCarriedSpec) false w args)
      (Rows.springCarriedSpec.post enc Tryz.prog Tryz.f16 false true false false) :=
  law_lifted (C := Tryz.checked) (tb := 4) rows_own started (by kernel_rfl) Tryz.func16 rows_laidOut
    (fun t ht => List.all_eq_true.1 (show (Tryz.f16.params.toList.all fun t => Tryz.prog.readableRec t) = true by kernel_rfl) t ht)
    (fun t ht => of_decide_eq_true (List.all_eq_true.1 (show (Tryz.f16.params.toList.all fun t => decide (t < Tryz.prog.types.size)) = true by kernel_rfl) t ht))
    (by kernel_rfl) Tryz.underlying4 rfl
    (fun ds hd => by
      rw [Tryz.params16] at hd
      match ds, hd with
      | [d0, d1, d2, d3, d4, d5, d6], _ => rfl)
    (ChangeSpec.witness_shaped (enc := enc) (C := Tryz.checked) (os := os) (X := fun w _ => laidMetH Tryz.prog Rows.springCarriedRow.laid w) false (World.laidAll Tryz.prog os Rows.springCarriedRow.laid) #[.agg #[I 0, I 0, I 0, I 0, I 0, I 0, I 0, I 0], .slice none 0 0, .slice none 0 0, .agg #[.slice none 0 0, .slice none 0 0, I 0, I 0, I 0], I 0, .slice none 0 0, .slice none 0 0] 8 (World.laidAll_os _ _ _)
      (World.shaped_of_ZipB (by kernel_rfl) (by kernel_rfl)) (by kernel_rfl) (by kernel_rfl) (by kernel_rfl)
      (by rw [MakeChecks.laidMetH_plain _ _ _ (by kernel_rfl)]; exact laidMet_laidAll _ (by kernel_rfl) (by kernel_rfl)))
    springCarried_law
theorem springCarried_inPlace : (Rows.springCarriedRow.inPlace == Tryz.prog.inPlace 16) = true := by kernel_rfl
theorem springCarried_unfollowed : (Rows.springCarriedRow.unfollowed == Tryz.prog.unfollowed 16) = true := by kernel_rfl
theorem springCarried_recurses : (Rows.springCarriedRow.recurses == Tryz.prog.recurses 16) = true := by kernel_rfl
theorem springCarried_named : (Rows.springCarriedRow.named == Tryz.prog.varsNamed 16) = true := by kernel_rfl
theorem springCarried_facts : joinedFacts Tryz.prog 16 Tryz.f16 Rows.springCarriedSpec Rows.springCarriedRow = true := by
  unfold joinedFacts
  repeat' (with_reducible refine and_true_of ?_ ?_)
  · kernel_rfl
  · exact rows_laidOut
  · exact rows_mapsRowed
  · kernel_rfl
  · kernel_rfl
  · kernel_rfl
  · exact rows_stops
  · kernel_rfl
  · exact rows_stopKnobs
  · exact springCarried_inPlace
  · exact springCarried_unfollowed
  · exact springCarried_recurses
  · exact springCarried_named
  · kernel_rfl
  · kernel_rfl
  · kernel_rfl
  · kernel_rfl
  · kernel_rfl
  · kernel_rfl
  · kernel_rfl
  · kernel_rfl
  · kernel_rfl
  · rw [rows_plainKeys]; kernel_rfl
  · kernel_rfl
  · exact rows_stopsHeard
  · exact rows_mayEnter
  · rw [rows_lifts]; kernel_rfl
  · rw [rows_make]; kernel_rfl
  all_goals kernel_rfl
theorem springCarried_func : Tryz.prog.funcNamed Rows.springCarriedRow.func = some 16 := by kernel_rfl
theorem springCarried_inst : Tryz.f16.isInstance Tryz.prog Rows.springCarriedRow.origin Rows.springCarriedRow.targs := of_decide_eq_true (by kernel_rfl)
theorem springCarried_wrap : Tryz.f16.isWrapper Tryz.prog Rows.springCarriedRow.wrapper Rows.springCarriedRow.mainSum := by unfold Func.isWrapper; rw [if_neg (of_decide_eq_false (by kernel_rfl))]; exact ⟨rfl, rfl⟩
theorem springCarried_said : Rows.SpringCarriedSaid :=
  OpenClaim.holds_of_wide 16 Tryz.f16 rfl rfl rfl rfl rfl rfl rfl ⟨rfl, rfl, rfl, rfl, rfl⟩ rfl rfl rfl rfl rfl springCarried_func Tryz.func16 springCarried_facts springCarried_inst springCarried_wrap
    (fun os started H enc _ => springCarried_lifted os started H enc)
theorem springCarried_wf : Rows.springCarriedRow.wfByText (OpenSpec.ofChange Rows.springCarriedSpec) = true := by kernel_rfl
theorem springCarried_goes : false = Rows.springCarriedRow.goesBy Tryz.prog := by kernel_rfl
theorem springCarried_plain : (Tryz.f16.params.toList.all fun t => Tryz.prog.wantsStandIn t == false) = true := by kernel_rfl
theorem springCarried_looks (f : FuncId) (fn : Func) (hf : Tryz.prog.funcNamed Rows.springCarriedRow.func = some f) (hfn : Tryz.prog.funcs[f]? = some fn) : false = Tryz.prog.looks [] ∧ ∀ (j : Nat) t, fn.params[j]? = some t → Tryz.prog.wantsStandIn t = false := by
  obtain rfl : f = 16 := (Option.some.inj (springCarried_func.symm.trans hf)).symm
  obtain rfl : fn = Tryz.f16 := (Option.some.inj (Tryz.func16.symm.trans hfn)).symm
  refine ⟨rows_looks, fun j t ht => ?_⟩
  have hm : t ∈ Tryz.f16.params.toList := List.mem_of_getElem? (by simpa using ht)
  exact eq_of_beq (List.all_eq_true.1 springCarried_plain t hm)
/-- The tied card of the law. -/
theorem springCarried_holds : Rows.SpringCarriedCardSaid :=
  Claim7.holds_tied_plain_at .later [] [.data, .data, .data] true (true, "35d444981c2af7b56da1b39a94e96b2be7085ba3a092eaffe21a8eb966b9ba23") false
    springCarried_said (fun _ h => by cases h) springCarried_wf (fun _ h => by cases h) springCarried_row_tie rfl ⟨rfl, rfl⟩ rows_mainIs rfl springCarried_looks springCarried_goes
end Go.Proofs.YtmjfdobjnnfafaaGreatDoor
