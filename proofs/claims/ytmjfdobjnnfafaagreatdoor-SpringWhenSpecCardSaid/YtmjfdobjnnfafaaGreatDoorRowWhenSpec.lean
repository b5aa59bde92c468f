/- The law SpringWhenSpec holds, whatever the input: its row, and its tied card: the listed tables are as the text of the program lays them. -/
import Derived.Test.YtmjfdobjnnfafaaGreatDoorRowKit3
import Derived.Test.YtmjfdobjnnfafaaGreatDoorRowKit5
import Derived.Test.YtmjfdobjnnfafaaGreatDoorLawWhenSpec
set_option linter.all false
set_option maxRecDepth 100000
namespace Go.Proofs.YtmjfdobjnnfafaaGreatDoor
open Go.ChangeShapes Go.WideShapes Go.RowKit

theorem springWhenSpec_law (W : World) (args : Array Value) (hs : args.size = Tryz.f7.params.size) (hA : ∀ (j : Nat) t v, Tryz.f7.params[j]? = some t → args[j]? = some v → Arg Tryz.prog W t v) (hL : laidMetH Tryz.prog Rows.springWhenSpecRow.laid W) :
  Calls Tryz.prog 7 args W fun e w' => e = .returned (.bool true) ∧ Below W.heap.size W w' := by
 have hp : Pow10 W := pow10_of_laid hL
 rw [Tryz.params7] at hs hA
 match args, hs with
 | ⟨[v0, v1, v2, v3, v4]⟩, _ =>
  obtain ⟨c, rfl⟩ := Arg.climate (hA 0 _ v0 rfl rfl)
  obtain ⟨no1, vd1, p1, rfl, s1⟩ := Arg.spring (hA 1 _ v1 rfl rfl)
  obtain ⟨sc2, V2, rfl, s2⟩ := Arg.scene (hA 2 _ v2 rfl rfl)
  obtain ⟨xs3, s3⟩ := Arg.ints (hA 3 _ v3 rfl rfl)
  obtain ⟨n4, rfl⟩ := Arg.int (hA 4 _ v4 rfl rfl) Tryz.underlying3
  exact law_WhenSpec c no1 vd1 p1 sc2 V2 v3 xs3 n4 W hp s1 s2 s3
theorem springWhenSpec_lifted (os : Os) (started : os.Started) (H : Type) (enc : TypeId × Value → H) :
  ReturnsInHanded {} Tryz.checked os 7 .any (fun w args => (Rows.springWhenSpecSpec.pre enc Tryz.prog Tryz.f7 [] false w args ∧ laidMetH Tryz.prog Rows.springWhenSpecRow.laid w) ∧ sizedMet enc Tryz.prog Tryz.f7 (OpenSpec.ofChange Rows.springWhenSpecSpec) false w args)
   (Rows.springWhenSpecSpec.post enc Tryz.prog Tryz.f7 false true false false) :=
 law_lifted (C := Tryz.checked) (tb := 4) rows_own started (by kernel_rfl) Tryz.func7 rows_laidOut
  (fun t ht => List.all_eq_true.1 (show (Tryz.f7.params.toList.all fun t => Tryz.prog.readableRec t) = true by kernel_rfl) t ht)
  (fun t ht => of_decide_eq_true (List.all_eq_true.1 (show (Tryz.f7.params.toList.all fun t => decide (t < Tryz.prog.types.size)) = true by kernel_rfl) t ht))
  (by kernel_rfl) Tryz.underlying4 rfl
  (fun ds hd => by
   rw [Tryz.params7] at hd
   match ds, hd with
   | [d0, d1, d2, d3, d4], _ => rfl)
  (ChangeSpec.witness_shaped (enc := enc) (C := Tryz.checked) (os := os) (X := fun w _ => laidMetH Tryz.prog Rows.springWhenSpecRow.laid w) false (World.laidAll Tryz.prog os Rows.springWhenSpecRow.laid) #[.agg #[I 0, I 0, I 0, I 0, I 0, I 0, I 0, I 0], .agg #[I 0, .slice none 0 0], .agg #[.slice none 0 0, .slice none 0 0, I 0, I 0, I 0, .slice none 0 0, .slice none 0 0, .slice none 0 0], .slice none 0 0, I 0] 8 (World.laidAll_os _ _ _)
   (World.shaped_of_ZipB (by kernel_rfl) (by kernel_rfl)) (by kernel_rfl) (by kernel_rfl) (by kernel_rfl)
   (by rw [MakeChecks.laidMetH_plain _ _ _ (by kernel_rfl)]; exact laidMet_laidAll _ (by kernel_rfl) (by kernel_rfl)))
  springWhenSpec_law
theorem springWhenSpec_inPlace : (Rows.springWhenSpecRow.inPlace == Tryz.prog.inPlace 7) = true := by kernel_rfl
theorem springWhenSpec_unfollowed : (Rows.springWhenSpecRow.unfollowed == Tryz.prog.unfollowed 7) = true := by kernel_rfl
theorem springWhenSpec_recurses : (Rows.springWhenSpecRow.recurses == Tryz.prog.recurses 7) = true := by kernel_rfl
theorem springWhenSpec_named : (Rows.springWhenSpecRow.named == Tryz.prog.varsNamed 7) = true := by kernel_rfl
theorem springWhenSpec_facts : joinedFacts Tryz.prog 7 Tryz.f7 Rows.springWhenSpecSpec Rows.springWhenSpecRow = true := by
 unfold joinedFacts
 repeat' (with_reducible refine and_true_of ?_ ?_)
 ·kernel_rfl
 ·exact rows_laidOut
 ·exact rows_mapsRowed
 ·kernel_rfl
 ·kernel_rfl
 ·kernel_rfl
 ·exact rows_stops
 ·kernel_rfl
 ·exact rows_stopKnobs
 ·exact springWhenSpec_inPlace
 ·exact springWhenSpec_unfollowed
 ·exact springWhenSpec_recurses
 ·exact springWhenSpec_named
 ·kernel_rfl
 ·kernel_rfl
 ·kernel_rfl
 ·kernel_rfl
 ·kernel_rfl
 ·kernel_rfl
 ·kernel_rfl
 ·kernel_rfl
 ·kernel_rfl
 ·rw [rows_plainKeys]; kernel_rfl
 ·kernel_rfl
 ·exact rows_stopsHeard
 ·exact rows_mayEnter
 ·rw [rows_lifts]; kernel_rfl
 ·rw [rows_make]; kernel_rfl
 all_goals kernel_rfl
theorem springWhenSpec_func : Tryz.prog.funcNamed Rows.springWhenSpecRow.func = some 7 := by kernel_rfl
theorem springWhenSpec_inst : Tryz.f7.isInstance Tryz.prog Rows.springWhenSpecRow.origin Rows.springWhenSpecRow.targs := of_decide_eq_true (by kernel_rfl)
theorem springWhenSpec_wrap : Tryz.f7.isWrapper Tryz.prog Rows.springWhenSpecRow.wrapper Rows.springWhenSpecRow.mainSum := by unfold Func.isWrapper; rw [if_neg (of_decide_eq_false (by kernel_rfl))]; exact ⟨rfl, rfl⟩
theorem springWhenSpec_said : Rows.SpringWhenSpecSaid :=
 OpenClaim.holds_of_wide 7 Tryz.f7 rfl rfl rfl rfl rfl rfl rfl ⟨rfl, rfl, rfl, rfl, rfl⟩ rfl rfl rfl rfl rfl springWhenSpec_func Tryz.func7 springWhenSpec_facts springWhenSpec_inst springWhenSpec_wrap
  (fun os started H enc _ => springWhenSpec_lifted os started H enc)
theorem springWhenSpec_wf : Rows.springWhenSpecRow.wfByText (OpenSpec.ofChange Rows.springWhenSpecSpec) = true := by kernel_rfl
theorem springWhenSpec_goes : false = Rows.springWhenSpecRow.goesBy Tryz.prog := by kernel_rfl
theorem springWhenSpec_plain : (Tryz.f7.params.toList.all fun t => Tryz.prog.wantsStandIn t == false) = true := by kernel_rfl
theorem springWhenSpec_looks (f : FuncId) (fn : Func) (hf : Tryz.prog.funcNamed Rows.springWhenSpecRow.func = some f) (hfn : Tryz.prog.funcs[f]? = some fn) : false = Tryz.prog.looks [] ∧ ∀ (j : Nat) t, fn.params[j]? = some t → Tryz.prog.wantsStandIn t = false := by
 obtain rfl : f = 7 := (Option.some.inj (springWhenSpec_func.symm.trans hf)).symm
 obtain rfl : fn = Tryz.f7 := (Option.some.inj (Tryz.func7.symm.trans hfn)).symm
 refine ⟨rows_looks, fun j t ht => ?_⟩
 have hm : t ∈ Tryz.f7.params.toList := List.mem_of_getElem? (by simpa using ht)
 exact eq_of_beq (List.all_eq_true.1 springWhenSpec_plain t hm)
theorem springWhenSpec_holds : Rows.SpringWhenSpecCardSaid :=
 Claim7.holds_tied_plain_at .later [] [.data, .data, .data] true (true, "35d444981c2af7b56da1b39a94e96b2be7085ba3a092eaffe21a8eb966b9ba23") false
  springWhenSpec_said (fun _ h => by cases h) springWhenSpec_wf (fun _ h => by cases h) springWhenSpec_row_tie rfl ⟨rfl, rfl⟩ rows_mainIs rfl springWhenSpec_looks springWhenSpec_goes
end Go.Proofs.YtmjfdobjnnfafaaGreatDoor
