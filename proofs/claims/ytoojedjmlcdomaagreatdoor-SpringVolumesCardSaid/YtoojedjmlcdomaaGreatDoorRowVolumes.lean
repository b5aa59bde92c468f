/- The law SpringVolumes holds, whatever the input: its row, and its tied card: the listed tables are as the text of the program lays them. -/
import Derived.Test.YtoojedjmlcdomaaGreatDoorRowKit3
import Derived.Test.YtoojedjmlcdomaaGreatDoorRowKit5
import Derived.Test.YtoojedjmlcdomaaGreatDoorOneArg
import Derived.Test.YtoojedjmlcdomaaGreatDoorLawVolumes
set_option linter.all false
set_option maxRecDepth 100000
namespace Go.Proofs.YtoojedjmlcdomaaGreatDoor
open Go.ChangeShapes Go.WideShapes Go.RowKit

theorem springVolumes_law (W : World) (args : Array Value) (hs : args.size = Tryz.f4.params.size) (hA : ∀ (j : Nat) t v, Tryz.f4.params[j]? = some t → args[j]? = some v → Arg Tryz.prog W t v) (hL : laidMetH Tryz.prog Rows.springVolumesRow.laid W) :
  Calls Tryz.prog 4 args W fun e w' => e = .returned (.bool true) ∧ Below W.heap.size W w' := by
 have hp : Pow10 W := pow10_of_laid hL
 rw [Tryz.params4] at hs hA
 match args, hs with
 | ⟨[v0, v1, v2, v3, v4, v5, v6, v7]⟩, _ =>
  obtain ⟨c, rfl⟩ := Arg.climate (hA 0 _ v0 rfl rfl)
  obtain ⟨xs1, s1⟩ := Arg.springs (hA 1 _ v1 rfl rfl)
  obtain ⟨sc2, V2, rfl, s2⟩ := Arg.scene (hA 2 _ v2 rfl rfl)
  obtain ⟨xs3, s3⟩ := Arg.ints (hA 3 _ v3 rfl rfl)
  obtain ⟨n4, rfl⟩ := Arg.int (hA 4 _ v4 rfl rfl) Tryz.underlying3
  obtain ⟨n5, rfl⟩ := Arg.int (hA 5 _ v5 rfl rfl) Tryz.underlying3
  obtain ⟨n6, rfl⟩ := Arg.int (hA 6 _ v6 rfl rfl) Tryz.underlying3
  obtain ⟨f7, s7⟩ := Arg.field (hA 7 _ v7 rfl rfl)
  exact law_Volumes c v1 xs1 sc2 V2 v3 xs3 n4 n5 n6 v7 f7 W hp s1 s2 s3 s7
theorem springVolumes_lifted (os : Os) (started : os.Started) (H : Type) (enc : TypeId × Value → H) :
  ReturnsInHanded {} Tryz.checked os 4 .any (fun w args => (Rows.springVolumesSpec.pre enc Tryz.prog Tryz.f4 [] false w args ∧ laidMetH Tryz.prog Rows.springVolumesRow.laid w) ∧ sizedMet enc Tryz.prog Tryz.f4 (OpenSpec.ofChange Rows.springVolumesSpec) false w args)
   (Rows.springVolumesSpec.post enc Tryz.prog Tryz.f4 false true false false) :=
 law_lifted (C := Tryz.checked) (tb := 4) rows_own started (by kernel_rfl) Tryz.func4 rows_laidOut
  (fun t ht => List.all_eq_true.1 (show (Tryz.f4.params.toList.all fun t => Tryz.prog.readableRec t) = true by kernel_rfl) t ht)
  (fun t ht => of_decide_eq_true (List.all_eq_true.1 (show (Tryz.f4.params.toList.all fun t => decide (t < Tryz.prog.types.size)) = true by kernel_rfl) t ht))
  (by kernel_rfl) Tryz.underlying4 rfl
  (fun ds hd => by
   rw [Tryz.params4] at hd
   match ds, hd with
   | [d0, d1, d2, d3, d4, d5, d6, d7], _ => rfl)
  (ChangeSpec.witness_shaped (enc := enc) (C := Tryz.checked) (os := os) (X := fun w _ => laidMetH Tryz.prog Rows.springVolumesRow.laid w) false (World.laidAll Tryz.prog os Rows.springVolumesRow.laid) #[.agg #[I 0, I 0, I 0, I 0, I 0, I 0, I 0, I 0], .slice none 0 0, .agg #[.slice none 0 0, .slice none 0 0, I 0, I 0, I 0, .slice none 0 0, .slice none 0 0, .slice none 0 0], .slice none 0 0, I 0, I 0, I 0, .slice none 0 0] 8 (World.laidAll_os _ _ _)
   (World.shaped_of_ZipB (by kernel_rfl) (by kernel_rfl)) (by kernel_rfl) (by kernel_rfl) (by kernel_rfl)
   (by rw [MakeChecks.laidMetH_plain _ _ _ (by kernel_rfl)]; exact laidMet_laidAll _ (by kernel_rfl) (by kernel_rfl)))
  springVolumes_law
theorem springVolumes_inPlace : (Rows.springVolumesRow.inPlace == Tryz.prog.inPlace 4) = true := by kernel_rfl
theorem springVolumes_unfollowed : (Rows.springVolumesRow.unfollowed == Tryz.prog.unfollowed 4) = true := by kernel_rfl
theorem springVolumes_recurses : (Rows.springVolumesRow.recurses == Tryz.prog.recurses 4) = true := by kernel_rfl
theorem springVolumes_named : (Rows.springVolumesRow.named == Tryz.prog.varsNamed 4) = true := by kernel_rfl
theorem springVolumes_facts : joinedFacts Tryz.prog 4 Tryz.f4 Rows.springVolumesSpec Rows.springVolumesRow = true := by
 unfold joinedFacts
 repeat' (with_reducible refine and_true_of ?_ ?_)
 ·kernel_rfl
 ·exact rows_laidOut
 ·exact rows_mapsRowed
 ·kernel_rfl
 ·kernel_rfl
 ·kernel_rfl
 ·exact rows_stops
 ·kernel_rfl
 ·exact rows_stopKnobs
 ·exact springVolumes_inPlace
 ·exact springVolumes_unfollowed
 ·exact springVolumes_recurses
 ·exact springVolumes_named
 ·kernel_rfl
 ·kernel_rfl
 ·kernel_rfl
 ·kernel_rfl
 ·kernel_rfl
 ·kernel_rfl
 ·kernel_rfl
 ·kernel_rfl
 ·kernel_rfl
 ·rw [rows_plainKeys]; kernel_rfl
 ·kernel_rfl
 ·exact rows_stopsHeard
 ·exact rows_mayEnter
 ·rw [rows_lifts]; kernel_rfl
 ·rw [rows_make]; kernel_rfl
 all_goals kernel_rfl
theorem springVolumes_func : Tryz.prog.funcNamed Rows.springVolumesRow.func = some 4 := by kernel_rfl
theorem springVolumes_inst : Tryz.f4.isInstance Tryz.prog Rows.springVolumesRow.origin Rows.springVolumesRow.targs := of_decide_eq_true (by kernel_rfl)
theorem springVolumes_wrap : Tryz.f4.isWrapper Tryz.prog Rows.springVolumesRow.wrapper Rows.springVolumesRow.mainSum := by unfold Func.isWrapper; rw [if_neg (of_decide_eq_false (by kernel_rfl))]; exact ⟨rfl, rfl⟩
theorem springVolumes_said : Rows.SpringVolumesSaid :=
 OpenClaim.holds_of_wide 4 Tryz.f4 rfl rfl rfl rfl rfl rfl rfl ⟨rfl, rfl, rfl, rfl, rfl⟩ rfl rfl rfl rfl rfl springVolumes_func Tryz.func4 springVolumes_facts springVolumes_inst springVolumes_wrap
  (fun os started H enc _ => springVolumes_lifted os started H enc)
theorem springVolumes_wf : Rows.springVolumesRow.wfByText (OpenSpec.ofChange Rows.springVolumesSpec) = true := by kernel_rfl
theorem springVolumes_goes : false = Rows.springVolumesRow.goesBy Tryz.prog := by kernel_rfl
theorem springVolumes_plain : (Tryz.f4.params.toList.all fun t => Tryz.prog.wantsStandIn t == false) = true := by kernel_rfl
theorem springVolumes_looks (f : FuncId) (fn : Func) (hf : Tryz.prog.funcNamed Rows.springVolumesRow.func = some f) (hfn : Tryz.prog.funcs[f]? = some fn) : false = Tryz.prog.looks [] ∧ ∀ (j : Nat) t, fn.params[j]? = some t → Tryz.prog.wantsStandIn t = false := by
 obtain rfl : f = 4 := (Option.some.inj (springVolumes_func.symm.trans hf)).symm
 obtain rfl : fn = Tryz.f4 := (Option.some.inj (Tryz.func4.symm.trans hfn)).symm
 refine ⟨rows_looks, fun j t ht => ?_⟩
 have hm : t ∈ Tryz.f4.params.toList := List.mem_of_getElem? (by simpa using ht)
 exact eq_of_beq (List.all_eq_true.1 springVolumes_plain t hm)
theorem springVolumes_holds : Rows.SpringVolumesCardSaid :=
 Claim7.holds_tied_plain_at .later [] [.data, .data, .data] true (true, "3e135ccada2d687900207481f92b3908ea17ac63b34e15c9d7f93d7ad0344087") false
  springVolumes_said (fun _ h => by cases h) springVolumes_wf (fun _ h => by cases h) springVolumes_row_tie rfl ⟨rfl, rfl⟩ rows_mainIs rfl springVolumes_looks springVolumes_goes
end Go.Proofs.YtoojedjmlcdomaaGreatDoor
