/- The law SpringChangeSpec holds, whatever the input: its row, and its tied card: the listed tables are as the text of the program lays them. -/
import Derived.Test.YtmjfdobjnnfafaaGreatDoorRowKit3
import Derived.Test.YtmjfdobjnnfafaaGreatDoorRowKit5
import Derived.Test.YtmjfdobjnnfafaaGreatDoorLawChangeSpec
set_option linter.all false
set_option maxRecDepth 100000
namespace Go.Proofs.YtmjfdobjnnfafaaGreatDoor
open Go.ChangeShapes Go.WideShapes Go.RowKit

theorem springChangeSpec_law (W : World) (args : Array Value) (hs : args.size = Tryz.f15.params.size) (hA : ∀ (j : Nat) t v, Tryz.f15.params[j]? = some t → args[j]? = some v → Arg Tryz.prog W t v) (hL : laidMetH Tryz.prog Rows.springChangeSpecRow.laid W) :
  Calls Tryz.prog 15 args W fun e w' => e = .returned (.bool true) ∧ Below W.heap.size W w' := by
 have hp : Pow10 W := pow10_of_laid hL
 rw [Tryz.params15] at hs hA
 match args, hs with
 | ⟨[v0, v1, v2, v3, v4, v5, v6]⟩, _ =>
  obtain ⟨c, rfl⟩ := Arg.climate (hA 0 _ v0 rfl rfl)
  obtain ⟨xs1, s1⟩ := Arg.weathers (hA 1 _ v1 rfl rfl)
  obtain ⟨b2, vc2, vp2, rfl, s2⟩ := Arg.basin (hA 2 _ v2 rfl rfl)
  obtain ⟨n3, rfl⟩ := Arg.int (hA 3 _ v3 rfl rfl) Tryz.underlying3
  obtain ⟨n4, rfl⟩ := Arg.int (hA 4 _ v4 rfl rfl) Tryz.underlying3
  obtain ⟨n5, rfl⟩ := Arg.int (hA 5 _ v5 rfl rfl) Tryz.underlying3
  obtain ⟨xs6, s6⟩ := Arg.ints (hA 6 _ v6 rfl rfl)
  exact law_ChangeSpec c v1 xs1 b2 vc2 vp2 n3 n4 n5 v6 xs6 W hp s1 s2.1 s2.2 s6
theorem springChangeSpec_lifted (os : Os) (started : os.Started) (H : Type) (enc : TypeId × Value → H) :
  ReturnsInHanded {} Tryz.checked os 15 .any (fun w args => (Rows.springChangeSpecSpec.pre enc Tryz.prog Tryz.f15 [] false w args ∧ laidMetH Tryz.prog Rows.springChangeSpecRow.laid w) ∧ sizedMet enc Tryz.prog Tryz.f15 (OpenSpec.ofChange Rows.springChangeSpecSpec) false w args)
   (Rows.springChangeSpecSpec.post enc Tryz.prog Tryz.f15 false true false false) :=
 law_lifted (C := Tryz.checked) (tb := 4) rows_own started (by kernel_rfl) Tryz.func15 rows_laidOut
  (fun t ht => List.all_eq_true.1 (show (Tryz.f15.params.toList.all fun t => Tryz.prog.readableRec t) = true by kernel_rfl) t ht)
  (fun t ht => of_decide_eq_true (List.all_eq_true.1 (show (Tryz.f15.params.toList.all fun t => decide (t < Tryz.prog.types.size)) = true by kernel_rfl) t ht))
  (by kernel_rfl) Tryz.underlying4 rfl
  (fun ds hd => by
   rw [Tryz.params15] at hd
   match ds, hd with
   | [d0, d1, d2, d3, d4, d5, d6], _ => rfl)
  (ChangeSpec.witness_shaped (enc := enc) (C := Tryz.checked) (os := os) (X := fun w _ => laidMetH Tryz.prog Rows.springChangeSpecRow.laid w) false (World.laidAll Tryz.prog os Rows.springChangeSpecRow.laid) #[.agg #[I 0, I 0, I 0, I 0, I 0, I 0, I 0, I 0], .slice none 0 0, .agg #[.slice none 0 0, .slice none 0 0, I 0, I 0, I 0], I 0, I 0, I 0, .slice none 0 0] 8 (World.laidAll_os _ _ _)
   (World.shaped_of_ZipB (by kernel_rfl) (by kernel_rfl)) (by kernel_rfl) (by kernel_rfl) (by kernel_rfl)
   (by rw [MakeChecks.laidMetH_plain _ _ _ (by kernel_rfl)]; exact laidMet_laidAll _ (by kernel_rfl) (by kernel_rfl)))
  springChangeSpec_law
theorem springChangeSpec_inPlace : (Rows.springChangeSpecRow.inPlace == Tryz.prog.inPlace 15) = true := by kernel_rfl
theorem springChangeSpec_unfollowed : (Rows.springChangeSpecRow.unfollowed == Tryz.prog.unfollowed 15) = true := by kernel_rfl
theorem springChangeSpec_recurses : (Rows.springChangeSpecRow.recurses == Tryz.prog.recurses 15) = true := by kernel_rfl
theorem springChangeSpec_named : (Rows.springChangeSpecRow.named == Tryz.prog.varsNamed 15) = true := by kernel_rfl
theorem springChangeSpec_facts : joinedFacts Tryz.prog 15 Tryz.f15 Rows.springChangeSpecSpec Rows.springChangeSpecRow = true := by
 unfold joinedFacts
 repeat' (with_reducible refine and_true_of ?_ ?_)
 ·kernel_rfl
 ·exact rows_laidOut
 ·exact rows_mapsRowed
 ·kernel_rfl
 ·kernel_rfl
 ·kernel_rfl
 ·exact rows_stops
 ·kernel_rfl
 ·exact rows_stopKnobs
 ·exact springChangeSpec_inPlace
 ·exact springChangeSpec_unfollowed
 ·exact springChangeSpec_recurses
 ·exact springChangeSpec_named
 ·kernel_rfl
 ·kernel_rfl
 ·kernel_rfl
 ·kernel_rfl
 ·kernel_rfl
 ·kernel_rfl
 ·kernel_rfl
 ·kernel_rfl
 ·kernel_rfl
 ·rw [rows_plainKeys]; kernel_rfl
 ·kernel_rfl
 ·exact rows_stopsHeard
 ·exact rows_mayEnter
 ·rw [rows_lifts]; kernel_rfl
 ·rw [rows_make]; kernel_rfl
 all_goals kernel_rfl
theorem springChangeSpec_func : Tryz.prog.funcNamed Rows.springChangeSpecRow.func = some 15 := by kernel_rfl
theorem springChangeSpec_inst : Tryz.f15.isInstance Tryz.prog Rows.springChangeSpecRow.origin Rows.springChangeSpecRow.targs := of_decide_eq_true (by kernel_rfl)
theorem springChangeSpec_wrap : Tryz.f15.isWrapper Tryz.prog Rows.springChangeSpecRow.wrapper Rows.springChangeSpecRow.mainSum := by unfold Func.isWrapper; rw [if_neg (of_decide_eq_false (by kernel_rfl))]; exact ⟨rfl, rfl⟩
theorem springChangeSpec_said : Rows.SpringChangeSpecSaid :=
 OpenClaim.holds_of_wide 15 Tryz.f15 rfl rfl rfl rfl rfl rfl rfl ⟨rfl, rfl, rfl, rfl, rfl⟩ rfl rfl rfl rfl rfl springChangeSpec_func Tryz.func15 springChangeSpec_facts springChangeSpec_inst springChangeSpec_wrap
  (fun os started H enc _ => springChangeSpec_lifted os started H enc)
theorem springChangeSpec_wf : Rows.springChangeSpecRow.wfByText (OpenSpec.ofChange Rows.springChangeSpecSpec) = true := by kernel_rfl
theorem springChangeSpec_goes : false = Rows.springChangeSpecRow.goesBy Tryz.prog := by kernel_rfl
theorem springChangeSpec_plain : (Tryz.f15.params.toList.all fun t => Tryz.prog.wantsStandIn t == false) = true := by kernel_rfl
theorem springChangeSpec_looks (f : FuncId) (fn : Func) (hf : Tryz.prog.funcNamed Rows.springChangeSpecRow.func = some f) (hfn : Tryz.prog.funcs[f]? = some fn) : false = Tryz.prog.looks [] ∧ ∀ (j : Nat) t, fn.params[j]? = some t → Tryz.prog.wantsStandIn t = false := by
 obtain rfl : f = 15 := (Option.some.inj (springChangeSpec_func.symm.trans hf)).symm
 obtain rfl : fn = Tryz.f15 := (Option.some.inj (Tryz.func15.symm.trans hfn)).symm
 refine ⟨rows_looks, fun j t ht => ?_⟩
 have hm : t ∈ Tryz.f15.params.toList := List.mem_of_getElem? (by simpa using ht)
 exact eq_of_beq (List.all_eq_true.1 springChangeSpec_plain t hm)
/-- The tied card of the law. -/
theorem springChangeSpec_holds : Rows.SpringChangeSpecCardSaid :=
 Claim7.holds_tied_plain_at .later [] [.data, .data, .data] true (true, "35d444981c2af7b56da1b39a94e96b2be7085ba3a092eaffe21a8eb966b9ba23") false
  springChangeSpec_said (fun _ h => by cases h) springChangeSpec_wf (fun _ h => by cases h) springChangeSpec_row_tie rfl ⟨rfl, rfl⟩ rows_mainIs rfl springChangeSpec_looks springChangeSpec_goes
end Go.Proofs.YtmjfdobjnnfafaaGreatDoor
