/- The law SpringNarrower holds, whatever the input: its row, and its tied card: the listed tables are as the text of the program lays them. -/
import Derived.Test.YtifeniiefhpadaaGreatDoorRowKit3
import Derived.Test.YtifeniiefhpadaaGreatDoorRowKit5
import Derived.Test.YtifeniiefhpadaaGreatDoorLawNarrower
set_option linter.all false
set_option maxRecDepth 100000
namespace Go.Proofs.YtifeniiefhpadaaGreatDoor
open Go.ChangeShapes Go.WideShapes Go.RowKit

theorem springNarrower_law (W : World) (args : Array Value) (hs : args.size = Tryz.f3.params.size) (hA : ∀ (j : Nat) t v, Tryz.f3.params[j]? = some t → args[j]? = some v → Arg Tryz.prog W t v) (hL : laidMetH Tryz.prog Rows.springNarrowerRow.laid W) :
  Calls Tryz.prog 3 args W fun e w' => e = .returned (.bool true) ∧ Below W.heap.size W w' := by
 have hp : Pow10 W := pow10_of_laid hL
 rw [Tryz.params3] at hs hA
 match args, hs with
 | ⟨[v0, v1, v2, v3, v4, v5, v6]⟩, _ =>
  obtain ⟨c, rfl⟩ := Arg.climate (hA 0 _ v0 rfl rfl)
  obtain ⟨xs1, s1⟩ := Arg.weathers (hA 1 _ v1 rfl rfl)
  obtain ⟨x2, rfl⟩ := Arg.weather (hA 2 _ v2 rfl rfl)
  obtain ⟨n3, rfl⟩ := Arg.int (hA 3 _ v3 rfl rfl) Tryz.underlying3
  obtain ⟨n4, rfl⟩ := Arg.int (hA 4 _ v4 rfl rfl) Tryz.underlying3
  obtain ⟨n5, rfl⟩ := Arg.int (hA 5 _ v5 rfl rfl) Tryz.underlying3
  obtain ⟨xs6, s6⟩ := Arg.springs (hA 6 _ v6 rfl rfl)
  exact law_Narrower c v1 xs1 x2 n3 n4 n5 v6 xs6 W hp s1 s6
theorem springNarrower_lifted (os : Os) (started : os.Started) (H : Type) (enc : TypeId × Value → H) :
  ReturnsInHanded {} Tryz.checked os 3 .any (fun w args => (Rows.springNarrowerSpec.pre enc Tryz.prog Tryz.f3 [] false w args ∧ laidMetH Tryz.prog Rows.springNarrowerRow.laid w) ∧ sizedMet enc Tryz.prog Tryz.f3 (OpenSpec.ofChange Rows.springNarrowerSpec) false w args)
   (Rows.springNarrowerSpec.post enc Tryz.prog Tryz.f3 false true false false) :=
 law_lifted (C := Tryz.checked) (tb := 4) rows_own started (by kernel_rfl) Tryz.func3 rows_laidOut
  (fun t ht => List.all_eq_true.1 (show (Tryz.f3.params.toList.all fun t => Tryz.prog.readableRec t) = true by kernel_rfl) t ht)
  (fun t ht => of_decide_eq_true (List.all_eq_true.1 (show (Tryz.f3.params.toList.all fun t => decide (t < Tryz.prog.types.size)) = true by kernel_rfl) t ht))
  (by kernel_rfl) Tryz.underlying4 rfl
  (fun ds hd => by
   rw [Tryz.params3] at hd
   match ds, hd with
   | [d0, d1, d2, d3, d4, d5, d6], _ => rfl)
  (ChangeSpec.witness_shaped (enc := enc) (C := Tryz.checked) (os := os) (X := fun w _ => laidMetH Tryz.prog Rows.springNarrowerRow.laid w) false (World.laidAll Tryz.prog os Rows.springNarrowerRow.laid) #[.agg #[I 0, I 0, I 0, I 0, I 0, I 0, I 0, I 0], .slice none 0 0, .agg #[I 0, I 0, I 0], I 0, I 0, I 0, .slice none 0 0] 8 (World.laidAll_os _ _ _)
   (World.shaped_of_ZipB (by kernel_rfl) (by kernel_rfl)) (by kernel_rfl) (by kernel_rfl) (by kernel_rfl)
   (by rw [MakeChecks.laidMetH_plain _ _ _ (by kernel_rfl)]; exact laidMet_laidAll _ (by kernel_rfl) (by kernel_rfl)))
  springNarrower_law
theorem springNarrower_inPlace : (Rows.springNarrowerRow.inPlace == Tryz.prog.inPlace 3) = true := by kernel_rfl
theorem springNarrower_unfollowed : (Rows.springNarrowerRow.unfollowed == Tryz.prog.unfollowed 3) = true := by kernel_rfl
theorem springNarrower_recurses : (Rows.springNarrowerRow.recurses == Tryz.prog.recurses 3) = true := by kernel_rfl
theorem springNarrower_named : (Rows.springNarrowerRow.named == Tryz.prog.varsNamed 3) = true := by kernel_rfl
theorem springNarrower_facts : joinedFacts Tryz.prog 3 Tryz.f3 Rows.springNarrowerSpec Rows.springNarrowerRow = true := by
 unfold joinedFacts
 repeat' (with_reducible refine and_true_of ?_ ?_)
 ·kernel_rfl
 ·exact rows_laidOut
 ·exact rows_mapsRowed
 ·kernel_rfl
 ·kernel_rfl
 ·kernel_rfl
 ·exact rows_stops
 ·kernel_rfl
 ·exact rows_stopKnobs
 ·exact springNarrower_inPlace
 ·exact springNarrower_unfollowed
 ·exact springNarrower_recurses
 ·exact springNarrower_named
 ·kernel_rfl
 ·kernel_rfl
 ·kernel_rfl
 ·kernel_rfl
 ·kernel_rfl
 ·kernel_rfl
 ·kernel_rfl
 ·kernel_rfl
 ·kernel_rfl
 ·rw [rows_plainKeys]; kernel_rfl
 ·kernel_rfl
 ·exact rows_stopsHeard
 ·exact rows_mayEnter
 ·rw [rows_lifts]; kernel_rfl
 ·rw [rows_make]; kernel_rfl
 all_goals kernel_rfl
theorem springNarrower_func : Tryz.prog.funcNamed Rows.springNarrowerRow.func = some 3 := by kernel_rfl
theorem springNarrower_inst : Tryz.f3.isInstance Tryz.prog Rows.springNarrowerRow.origin Rows.springNarrowerRow.targs := of_decide_eq_true (by kernel_rfl)
theorem springNarrower_wrap : Tryz.f3.isWrapper Tryz.prog Rows.springNarrowerRow.wrapper Rows.springNarrowerRow.mainSum := by unfold Func.isWrapper; rw [if_neg (of_decide_eq_false (by kernel_rfl))]; exact ⟨rfl, rfl⟩
theorem springNarrower_said : Rows.SpringNarrowerSaid :=
 OpenClaim.holds_of_wide 3 Tryz.f3 rfl rfl rfl rfl rfl rfl rfl ⟨rfl, rfl, rfl, rfl, rfl⟩ rfl rfl rfl rfl rfl springNarrower_func Tryz.func3 springNarrower_facts springNarrower_inst springNarrower_wrap
  (fun os started H enc _ => springNarrower_lifted os started H enc)
theorem springNarrower_wf : Rows.springNarrowerRow.wfByText (OpenSpec.ofChange Rows.springNarrowerSpec) = true := by kernel_rfl
theorem springNarrower_goes : false = Rows.springNarrowerRow.goesBy Tryz.prog := by kernel_rfl
theorem springNarrower_plain : (Tryz.f3.params.toList.all fun t => Tryz.prog.wantsStandIn t == false) = true := by kernel_rfl
theorem springNarrower_looks (f : FuncId) (fn : Func) (hf : Tryz.prog.funcNamed Rows.springNarrowerRow.func = some f) (hfn : Tryz.prog.funcs[f]? = some fn) : false = Tryz.prog.looks [] ∧ ∀ (j : Nat) t, fn.params[j]? = some t → Tryz.prog.wantsStandIn t = false := by
 obtain rfl : f = 3 := (Option.some.inj (springNarrower_func.symm.trans hf)).symm
 obtain rfl : fn = Tryz.f3 := (Option.some.inj (Tryz.func3.symm.trans hfn)).symm
 refine ⟨rows_looks, fun j t ht => ?_⟩
 have hm : t ∈ Tryz.f3.params.toList := List.mem_of_getElem? (by simpa using ht)
 exact eq_of_beq (List.all_eq_true.1 springNarrower_plain t hm)
theorem springNarrower_holds : Rows.SpringNarrowerCardSaid :=
 Claim7.holds_tied_plain_at .later [] [.data, .data, .data] true (true, "a0378df57d0864d4d14efa998146bebab26facbf30135244eeb9b9a8dcf51c03") false
  springNarrower_said (fun _ h => by cases h) springNarrower_wf (fun _ h => by cases h) springNarrower_row_tie rfl ⟨rfl, rfl⟩ rows_mainIs rfl springNarrower_looks springNarrower_goes
end Go.Proofs.YtifeniiefhpadaaGreatDoor
