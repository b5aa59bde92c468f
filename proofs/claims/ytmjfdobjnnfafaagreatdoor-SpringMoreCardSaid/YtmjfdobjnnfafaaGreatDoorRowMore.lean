/- The law SpringMore holds, whatever the input: its row, and its tied card: the listed tables are as the text of the program lays them. -/
import Derived.Test.YtmjfdobjnnfafaaGreatDoorRowKit3
import Derived.Test.YtmjfdobjnnfafaaGreatDoorLawMore
set_option linter.all false
namespace Go.Proofs.YtmjfdobjnnfafaaGreatDoor
open Go.ChangeShapes Go.WideShapes Go.RowKit

set_option maxRecDepth 100000 in
theorem springMore_law (W : World) (args : Array Value) (hs : args.size = Tryz.f11.params.size) (hA : ∀ (j : Nat) t v, Tryz.f11.params[j]? = some t → args[j]? = some v → Arg Tryz.prog W t v) (hL : laidMetH Tryz.prog Rows.springMoreRow.laid W) :
    Calls Tryz.prog 11 args W fun e w' => e = .returned (.bool true) ∧ Below W.heap.size W w' := by
  have hp : Pow10 W := pow10_of_laid hL
  rw [Tryz.params11] at hs hA
  match args, hs with
  | ⟨[v0, v1, v2, v3, v4, v5]⟩, _ =>
    obtain ⟨c, rfl⟩ := Arg.climate (hA 0 _ v0 rfl rfl)
    obtain ⟨no1, vd1, p1, rfl, s1⟩ := Arg.spring (hA 1 _ v1 rfl rfl)
    obtain ⟨n2, rfl⟩ := Arg.int (hA 2 _ v2 rfl rfl) Tryz.underlying3
    obtain ⟨a3, b3, rfl⟩ := Arg.two (hA 3 _ v3 rfl rfl)
    obtain ⟨a4, b4, rfl⟩ := Arg.two (hA 4 _ v4 rfl rfl)
    obtain ⟨n5, rfl⟩ := Arg.int (hA 5 _ v5 rfl rfl) Tryz.underlying3
    exact law_More c no1 vd1 p1 n2 a3 b3 a4 b4 n5 W hp s1
set_option maxRecDepth 100000 in
theorem springMore_lifted (os : Os) (started : os.Started) (H : Type) (enc : TypeId × Value → H) :
    ReturnsInHanded {} Tryz.checked os 11 .any (fun w args => (Rows.springMoreSpec.pre enc Tryz.prog Tryz.f11 [] false w args ∧ laidMetH Tryz.prog Rows.springMoreRow.laid w) ∧ sizedMet enc Tryz.prog Tryz.f11 (OpenSpec.ofChange Rows.springMoreSpec) false w args)
      (Rows.springMoreSpec.post enc Tryz.prog Tryz.f11 false true false false) :=
  law_lifted (C := Tryz.checked) (tb := 4) rows_own started (by kernel_rfl) Tryz.func11 rows_laidOut
    (fun t ht => List.all_eq_true.1 (show (Tryz.f11.params.toList.all fun t => Tryz.prog.readableRec t) = true by kernel_rfl) t ht)
    (fun t ht => of_decide_eq_true (List.all_eq_true.1 (show (Tryz.f11.params.toList.all fun t => decide (t < Tryz.prog.types.size)) = true by kernel_rfl) t ht))
    (by kernel_rfl) Tryz.underlying4 rfl
    (fun ds hd => by
      rw [Tryz.params11] at hd
      match ds, hd with
      | [d0, d1, d2, d3, d4, d5], _ => rfl)
    (ChangeSpec.witness_shaped (enc := enc) (C := Tryz.checked) (os := os) (X := fun w _ => laidMetH Tryz.prog Rows.springMoreRow.laid w) false (World.laidAll Tryz.prog os Rows.springMoreRow.laid) #[.agg #[I 0, I 0, I 0, I 0, I 0, I 0, I 0, I 0], .agg #[I 0, .slice none 0 0], I 0, .agg #[I 0, I 0], .agg #[I 0, I 0], I 0] 8 (World.laidAll_os _ _ _)
      (World.shaped_of_ZipB (by kernel_rfl) (by kernel_rfl)) (by kernel_rfl) (by kernel_rfl) (by kernel_rfl)
      (by rw [MakeChecks.laidMetH_plain _ _ _ (by kernel_rfl)]; exact laidMet_laidAll _ (by kernel_rfl) (by kernel_rfl)))
    springMore_law
theorem springMore_inPlace : (Rows.springMoreRow.inPlace == Tryz.prog.inPlace 11) = true := by kernel_rfl
theorem springMore_unfollowed : (Rows.springMoreRow.unfollowed == Tryz.prog.unfollowed 11) = true := by kernel_rfl
theorem springMore_recurses : (Rows.springMoreRow.recurses == Tryz.prog.recurses 11) = true := by kernel_rfl
theorem springMore_named : (Rows.springMoreRow.named == Tryz.prog.varsNamed 11) = true := by kernel_rfl
theorem springMore_facts : joinedFacts Tryz.prog 11 Tryz.f11 Rows.springMoreSpec Rows.springMoreRow = true := by
  unfold joinedFacts
  repeat' (with_reducible refine and_true_of ?_ ?_)
  · kernel_rfl
  · exact rows_laidOut
  · exact rows_mapsRowed
  · kernel_rfl
  · kernel_rfl
  · kernel_rfl
  · exact rows_stops
  · kernel_rfl
  · exact rows_stopKnobs
  · exact springMore_inPlace
  · exact springMore_unfollowed
  · exact springMore_recurses
  · exact springMore_named
  · kernel_rfl
  · kernel_rfl
  · kernel_rfl
  · kernel_rfl
  · kernel_rfl
  · kernel_rfl
  · kernel_rfl
  · kernel_rfl
  · kernel_rfl
  · rw [rows_plainKeys]; kernel_rfl
  · kernel_rfl
  · exact rows_stopsHeard
  · exact rows_mayEnter
  · rw [rows_lifts]; kernel_rfl
  · rw [rows_make]; kernel_rfl
  all_goals kernel_rfl
theorem springMore_func : Tryz.prog.funcNamed Rows.springMoreRow.func = some 11 := by kernel_rfl
theorem springMore_inst : Tryz.f11.isInstance Tryz.prog Rows.springMoreRow.origin Rows.springMoreRow.targs := of_decide_eq_true (by kernel_rfl)
theorem springMore_wrap : Tryz.f11.isWrapper Tryz.prog Rows.springMoreRow.wrapper Rows.springMoreRow.mainSum := by unfold Func.isWrapper; rw [if_neg (of_decide_eq_false (by kernel_rfl))]; exact ⟨rfl, rfl⟩
theorem springMore_said : Rows.SpringMoreSaid :=
  OpenClaim.holds_of_wide 11 Tryz.f11 rfl rfl rfl rfl rfl rfl rfl ⟨rfl, rfl, rfl, rfl, rfl⟩ rfl rfl rfl rfl rfl springMore_func Tryz.func11 springMore_facts springMore_inst springMore_wrap
    (fun os started H enc _ => springMore_lifted os started H enc)
theorem springMore_wf : Rows.springMoreRow.wfByText (OpenSpec.ofChange Rows.springMoreSpec) = true := by kernel_rfl
theorem springMore_goes : false = Rows.springMoreRow.goesBy Tryz.prog := by kernel_rfl
theorem springMore_plain : (Tryz.f11.params.toList.all fun t => Tryz.prog.wantsStandIn t == false) = true := by kernel_rfl
theorem springMore_looks (f : FuncId) (fn : Func) (hf : Tryz.prog.funcNamed Rows.springMoreRow.func = some f) (hfn : Tryz.prog.funcs[f]? = some fn) : false = Tryz.prog.looks [] ∧ ∀ (j : Nat) t, fn.params[j]? = some t → Tryz.prog.wantsStandIn t = false := by
  obtain rfl : f = 11 := (Option.some.inj (springMore_func.symm.trans hf)).symm
  obtain rfl : fn = Tryz.f11 := (Option.some.inj (Tryz.func11.symm.trans hfn)).symm
  refine ⟨rows_looks, fun j t ht => ?_⟩
  have hm : t ∈ Tryz.f11.params.toList := List.mem_of_getElem? (by simpa using ht)
  exact eq_of_beq (List.all_eq_true.1 springMore_plain t hm)
/-- The tied card of the law. -/
theorem springMore_holds : Rows.SpringMoreCardSaid :=
  Claim7.holds_tied_plain_at .later [] [.data, .data, .data] true (true, "35d444981c2af7b56da1b39a94e96b2be7085ba3a092eaffe21a8eb966b9ba23") false
    springMore_said (fun _ h => by cases h) springMore_wf (fun _ h => by cases h) springMore_row_tie rfl ⟨rfl, rfl⟩ rows_mainIs rfl springMore_looks springMore_goes
end Go.Proofs.YtmjfdobjnnfafaaGreatDoor
