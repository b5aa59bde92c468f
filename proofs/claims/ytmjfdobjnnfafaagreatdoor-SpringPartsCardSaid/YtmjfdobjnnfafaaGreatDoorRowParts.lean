/- The law SpringParts holds, whatever the input: its row, and its tied card: the listed tables are as the text of the program lays them. -/
import Derived.Test.YtmjfdobjnnfafaaGreatDoorRowKit3
import Derived.Test.YtmjfdobjnnfafaaGreatDoorRowKit5
import Derived.Test.YtmjfdobjnnfafaaGreatDoorLawParts
set_option linter.all false
namespace Go.Proofs.YtmjfdobjnnfafaaGreatDoor
open Go.ChangeShapes Go.WideShapes Go.RowKit

set_option maxRecDepth 100000 in
theorem springParts_law (W : World) (args : Array Value) (hs : args.size = Tryz.f12.params.size) (hA : ∀ (j : Nat) t v, Tryz.f12.params[j]? = some t → args[j]? = some v → Arg Tryz.prog W t v) (hL : laidMetH Tryz.prog Rows.springPartsRow.laid W) :
    Calls Tryz.prog 12 args W fun e w' => e = .returned (.bool true) ∧ Below W.heap.size W w' := by
  have hp : Pow10 W := pow10_of_laid hL
  rw [Tryz.params12] at hs hA
  match args, hs with
  | ⟨[v0, v1, v2, v3, v4, v5, v6]⟩, _ =>
    obtain ⟨c, rfl⟩ := Arg.climate (hA 0 _ v0 rfl rfl)
    obtain ⟨no1, vd1, p1, rfl, s1⟩ := Arg.spring (hA 1 _ v1 rfl rfl)
    obtain ⟨sc2, V2, rfl, s2⟩ := Arg.scene (hA 2 _ v2 rfl rfl)
    obtain ⟨xs3, s3⟩ := Arg.ints (hA 3 _ v3 rfl rfl)
    obtain ⟨n4, rfl⟩ := Arg.int (hA 4 _ v4 rfl rfl) Tryz.underlying3
    obtain ⟨n5, rfl⟩ := Arg.int (hA 5 _ v5 rfl rfl) Tryz.underlying3
    obtain ⟨n6, rfl⟩ := Arg.int (hA 6 _ v6 rfl rfl) Tryz.underlying3
    exact law_Parts c no1 vd1 p1 sc2 V2 v3 xs3 n4 n5 n6 W hp s1 s2 s3
set_option maxRecDepth 100000 in
theorem springParts_lifted (os : Os) (started : os.Started) (H : Type) (enc : TypeId × Value → H) :
    ReturnsInHanded {} Tryz.checked os 12 .any (fun w args => (Rows.springPartsSpec.pre enc Tryz.prog Tryz.f12 [] false w args ∧ laidMetH Tryz.prog Rows.springPartsRow.laid w) ∧ sizedMet enc Tryz.prog Tryz.f12 (OpenSpec.ofChange Rows.springPartsSpec) false w args)
      (Rows.springPartsSpec.post enc Tryz.prog Tryz.f12 false true false false) :=
  law_lifted (C := Tryz.checked) (tb := 4) rows_own started (by kernel_rfl) Tryz.func12 rows_laidOut
    (fun t ht => List.all_eq_true.1 (show (Tryz.f12.params.toList.all fun t => Tryz.prog.readableRec t) = true by kernel_rfl) t ht)
    (fun t ht => of_decide_eq_true (List.all_eq_true.1 (show (Tryz.f12.params.toList.all fun t => decide (t < Tryz.prog.types.size)) = true by kernel_rfl) t ht))
    (by kernel_rfl) Tryz.underlying4 rfl
    (fun ds hd => by
      rw [Tryz.params12] at hd
      match ds, hd with
      | [d0, d1, d2, d3, d4, d5, d6], _ => rfl)
    (ChangeSpec.witness_shaped (enc := enc) (C := Tryz.checked) (os := os) (X := fun w _ => laidMetH Tryz.prog Rows.springPartsRow.laid w) false (World.laidAll Tryz.prog os Rows.springPartsRow.laid) #[.agg #[I 0, I 0, I 0, I 0, I 0, I 0, I 0, I 0], .agg #[I 0, .slice none 0 0], .agg #[.slice none 0 0, .slice none 0 0, I 0, I 0, I 0, .slice none 0 0, .slice none 0 0, .slice none 0 0], .slice none 0 0, I 0, I 0, I 0] 8 (World.laidAll_os _ _ _)
      (World.shaped_of_ZipB (by kernel_rfl) (by kernel_rfl)) (by kernel_rfl) (by kernel_rfl) (by kernel_rfl)
      (by rw [MakeChecks.laidMetH_plain _ _ _ (by kernel_rfl)]; exact laidMet_laidAll _ (by kernel_rfl) (by kernel_rfl)))
    springParts_law
theorem springParts_inPlace : (Rows.springPartsRow.inPlace == Tryz.prog.inPlace 12) = true := by kernel_rfl
theorem springParts_unfollowed : (Rows.springPartsRow.unfollowed == Tryz.prog.unfollowed 12) = true := by kernel_rfl
theorem springParts_recurses : (Rows.springPartsRow.recurses == Tryz.prog.recurses 12) = true := by kernel_rfl
theorem springParts_named : (Rows.springPartsRow.named == Tryz.prog.varsNamed 12) = true := by kernel_rfl
theorem springParts_facts : joinedFacts Tryz.prog 12 Tryz.f12 Rows.springPartsSpec Rows.springPartsRow = true := by
  unfold joinedFacts
  repeat' (with_reducible refine and_true_of ?_ ?_)
  · kernel_rfl
  · exact rows_laidOut
  · exact rows_mapsRowed
  · kernel_rfl
  · kernel_rfl
  · kernel_rfl
  · exact rows_stops
  · kernel_rfl
  · exact rows_stopKnobs
  · exact springParts_inPlace
  · exact springParts_unfollowed
  · exact springParts_recurses
  · exact springParts_named
  · kernel_rfl
  · kernel_rfl
  · kernel_rfl
  · kernel_rfl
  · kernel_rfl
  · kernel_rfl
  · kernel_rfl
  · kernel_rfl
  · kernel_rfl
  · rw [rows_plainKeys]; kernel_rfl
  · kernel_rfl
  · exact rows_stopsHeard
  · exact rows_mayEnter
  · rw [rows_lifts]; kernel_rfl
  · rw [rows_make]; kernel_rfl
  all_goals kernel_rfl
theorem springParts_func : Tryz.prog.funcNamed Rows.springPartsRow.func = some 12 := by kernel_rfl
theorem springParts_inst : Tryz.f12.isInstance Tryz.prog Rows.springPartsRow.origin Rows.springPartsRow.targs := of_decide_eq_true (by kernel_rfl)
theorem springParts_wrap : Tryz.f12.isWrapper Tryz.prog Rows.springPartsRow.wrapper Rows.springPartsRow.mainSum := by unfold Func.isWrapper; rw [if_neg (of_decide_eq_false (by kernel_rfl))]; exact ⟨rfl, rfl⟩
theorem springParts_said : Rows.SpringPartsSaid :=
  OpenClaim.holds_of_wide 12 Tryz.f12 rfl rfl rfl rfl rfl rfl rfl ⟨rfl, rfl, rfl, rfl, rfl⟩ rfl rfl rfl rfl rfl springParts_func Tryz.func12 springParts_facts springParts_inst springParts_wrap
    (fun os started H enc _ => springParts_lifted os started H enc)
theorem springParts_wf : Rows.springPartsRow.wfByText (OpenSpec.ofChange Rows.springPartsSpec) = true := by kernel_rfl
theorem springParts_goes : false = Rows.springPartsRow.goesBy Tryz.prog := by kernel_rfl
theorem springParts_plain : (Tryz.f12.params.toList.all fun t => Tryz.prog.wantsStandIn t == false) = true := by kernel_rfl
theorem springParts_looks (f : FuncId) (fn : Func) (hf : Tryz.prog.funcNamed Rows.springPartsRow.func = some f) (hfn : Tryz.prog.funcs[f]? = some fn) : false = Tryz.prog.looks [] ∧ ∀ (j : Nat) t, fn.params[j]? = some t → Tryz.prog.wantsStandIn t = false := by
  obtain rfl : f = 12 := (Option.some.inj (springParts_func.symm.trans hf)).symm
  obtain rfl : fn = Tryz.f12 := (Option.some.inj (Tryz.func12.symm.trans hfn)).symm
  refine ⟨rows_looks, fun j t ht => ?_⟩
  have hm : t ∈ Tryz.f12.params.toList := List.mem_of_getElem? (by simpa using ht)
  exact eq_of_beq (List.all_eq_true.1 springParts_plain t hm)
/-- The tied card of the law. -/
theorem springParts_holds : Rows.SpringPartsCardSaid :=
  Claim7.holds_tied_plain_at .later [] [.data, .data, .data] true (true, "35d444981c2af7b56da1b39a94e96b2be7085ba3a092eaffe21a8eb966b9ba23") false
    springParts_said (fun _ h => by cases h) springParts_wf (fun _ h => by cases h) springParts_row_tie rfl ⟨rfl, rfl⟩ rows_mainIs rfl springParts_looks springParts_goes
end Go.Proofs.YtmjfdobjnnfafaaGreatDoor
