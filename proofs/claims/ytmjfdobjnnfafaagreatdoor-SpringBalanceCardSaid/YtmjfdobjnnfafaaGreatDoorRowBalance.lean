/- The law SpringBalance holds, whatever the input: its row, and its tied card: the listed tables are as the text of the program lays them. -/
import Derived.Test.YtmjfdobjnnfafaaGreatDoorRowKit3
import Derived.Test.YtmjfdobjnnfafaaGreatDoorLawBalance
set_option linter.all false
namespace Go.Proofs.YtmjfdobjnnfafaaGreatDoor
open Go.ChangeShapes Go.WideShapes Go.RowKit

set_option maxRecDepth 100000 in
theorem springBalance_law (W : World) (args : Array Value) (hs : args.size = Tryz.f10.params.size) (hA : ∀ (j : Nat) t v, Tryz.f10.params[j]? = some t → args[j]? = some v → Arg Tryz.prog W t v) (hL : laidMetH Tryz.prog Rows.springBalanceRow.laid W) :
    Calls Tryz.prog 10 args W fun e w' => e = .returned (.bool true) ∧ Below W.heap.size W w' := by
  have hp : Pow10 W := pow10_of_laid hL
  rw [Tryz.params10] at hs hA
  match args, hs with
  | ⟨[v0, v1, v2, v3, v4]⟩, _ =>
    obtain ⟨c, rfl⟩ := Arg.climate (hA 0 _ v0 rfl rfl)
    obtain ⟨no1, vd1, p1, rfl, s1⟩ := Arg.spring (hA 1 _ v1 rfl rfl)
    obtain ⟨n2, rfl⟩ := Arg.int (hA 2 _ v2 rfl rfl) Tryz.underlying3
    obtain ⟨n3, rfl⟩ := Arg.int (hA 3 _ v3 rfl rfl) Tryz.underlying3
    obtain ⟨n4, rfl⟩ := Arg.int (hA 4 _ v4 rfl rfl) Tryz.underlying3
    exact law_Balance c no1 vd1 p1 n2 n3 n4 W hp s1
set_option maxRecDepth 100000 in
theorem springBalance_lifted (os : Os) (started : os.Started) (H : Type) (enc : TypeId × Value → H) :
    ReturnsInHanded {} Tryz.checked os 10 .any (fun w args => (Rows.springBalanceSpec.pre enc Tryz.prog Tryz.f10 [] false w args ∧ laidMetH Tryz.prog Rows.springBalanceRow.laid w) ∧ sizedMet enc Tryz.prog Tryz.f10 (OpenSpec.ofChange Rows.springBalanceSpec) false w args)
      (Rows.springBalanceSpec.post enc Tryz.prog Tryz.f10 false true false false) :=
  law_lifted (C := Tryz.checked) (tb := 4) rows_own started (by kernel_rfl) Tryz.func10 rows_laidOut
    (fun t ht => List.all_eq_true.1 (show (Tryz.f10.params.toList.all fun t => Tryz.prog.readableRec t) = true by kernel_rfl) t ht)
    (fun t ht => of_decide_eq_true (List.all_eq_true.1 (show (Tryz.f10.params.toList.all fun t => decide (t < Tryz.prog.types.size)) = true by kernel_rfl) t ht))
    (by kernel_rfl) Tryz.underlying4 rfl
    (fun ds hd => by
      rw [Tryz.params10] at hd
      match ds, hd with
      | [d0, d1, d2, d3, d4], _ => rfl)
    (ChangeSpec.witness_shaped (enc := enc) (C := Tryz.checked) (os := os) (X := fun w _ => laidMetH Tryz.prog Rows.springBalanceRow.laid w) false (World.laidAll Tryz.prog os Rows.springBalanceRow.laid) #[.agg #[I 0, I 0, I 0, I 0, I 0, I 0, I 0, I 0], .agg #[I 0, .slice none 0 0], I 0, I 0, I 0] 8 (World.laidAll_os _ _ _)
      (World.shaped_of_ZipB (by kernel_rfl) (by kernel_rfl)) (by kernel_rfl) (by kernel_rfl) (by kernel_rfl)
      (by rw [MakeChecks.laidMetH_plain _ _ _ (by kernel_rfl)]; exact laidMet_laidAll _ (by kernel_rfl) (by kernel_rfl)))
    springBalance_law
theorem springBalance_inPlace : (Rows.springBalanceRow.inPlace == Tryz.prog.inPlace 10) = true := by kernel_rfl
theorem springBalance_unfollowed : (Rows.springBalanceRow.unfollowed == Tryz.prog.unfollowed 10) = true := by kernel_rfl
theorem springBalance_recurses : (Rows.springBalanceRow.recurses == Tryz.prog.recurses 10) = true := by kernel_rfl
theorem springBalance_named : (Rows.springBalanceRow.named == Tryz.prog.varsNamed 10) = true := by kernel_rfl
theorem springBalance_facts : joinedFacts Tryz.prog 10 Tryz.f10 Rows.springBalanceSpec Rows.springBalanceRow = true := by
  unfold joinedFacts
  repeat' (with_reducible refine and_true_of ?_ ?_)
  · kernel_rfl
  · exact rows_laidOut
  · exact rows_mapsRowed
  · kernel_rfl
  · kernel_rfl
  · kernel_rfl
  · exact rows_stops
  · kernel_rfl
  · exact rows_stopKnobs
  · exact springBalance_inPlace
  · exact springBalance_unfollowed
  · exact springBalance_recurses
  · exact springBalance_named
  · kernel_rfl
  · kernel_rfl
  · kernel_rfl
  · kernel_rfl
  · kernel_rfl
  · kernel_rfl
  · kernel_rfl
  · kernel_rfl
  · kernel_rfl
  · rw [rows_plainKeys]; kernel_rfl
  · kernel_rfl
  · exact rows_stopsHeard
  · exact rows_mayEnter
  · rw [rows_lifts]; kernel_rfl
  · rw [rows_make]; kernel_rfl
  all_goals kernel_rfl
theorem springBalance_func : Tryz.prog.funcNamed Rows.springBalanceRow.func = some 10 := by kernel_rfl
theorem springBalance_inst : Tryz.f10.isInstance Tryz.prog Rows.springBalanceRow.origin Rows.springBalanceRow.targs := of_decide_eq_true (by kernel_rfl)
theorem springBalance_wrap : Tryz.f10.isWrapper Tryz.prog Rows.springBalanceRow.wrapper Rows.springBalanceRow.mainSum := by unfold Func.isWrapper; rw [if_neg (of_decide_eq_false (by kernel_rfl))]; exact ⟨rfl, rfl⟩
theorem springBalance_said : Rows.SpringBalanceSaid :=
  OpenClaim.holds_of_wide 10 Tryz.f10 rfl rfl rfl rfl rfl rfl rfl ⟨rfl, rfl, rfl, rfl, rfl⟩ rfl rfl rfl rfl rfl springBalance_func Tryz.func10 springBalance_facts springBalance_inst springBalance_wrap
    (fun os started H enc _ => springBalance_lifted os started H enc)
theorem springBalance_wf : Rows.springBalanceRow.wfByText (OpenSpec.ofChange Rows.springBalanceSpec) = true := by kernel_rfl
theorem springBalance_goes : false = Rows.springBalanceRow.goesBy Tryz.prog := by kernel_rfl
theorem springBalance_plain : (Tryz.f10.params.toList.all fun t => Tryz.prog.wantsStandIn t == false) = true := by kernel_rfl
theorem springBalance_looks (f : FuncId) (fn : Func) (hf : Tryz.prog.funcNamed Rows.springBalanceRow.func = some f) (hfn : Tryz.prog.funcs[f]? = some fn) : false = Tryz.prog.looks [] ∧ ∀ (j : Nat) t, fn.params[j]? = some t → Tryz.prog.wantsStandIn t = false := by
  obtain rfl : f = 10 := (Option.some.inj (springBalance_func.symm.trans hf)).symm
  obtain rfl : fn = Tryz.f10 := (Option.some.inj (Tryz.func10.symm.trans hfn)).symm
  refine ⟨rows_looks, fun j t ht => ?_⟩
  have hm : t ∈ Tryz.f10.params.toList := List.mem_of_getElem? (by simpa using ht)
  exact eq_of_beq (List.all_eq_true.1 springBalance_plain t hm)
/-- The tied card of the law. -/
theorem springBalance_holds : Rows.SpringBalanceCardSaid :=
  Claim7.holds_tied_plain_at .later [] [.data, .data, .data] true (true, "35d444981c2af7b56da1b39a94e96b2be7085ba3a092eaffe21a8eb966b9ba23") false
    springBalance_said (fun _ h => by cases h) springBalance_wf (fun _ h => by cases h) springBalance_row_tie rfl ⟨rfl, rfl⟩ rows_mainIs rfl springBalance_looks springBalance_goes
end Go.Proofs.YtmjfdobjnnfafaaGreatDoor
