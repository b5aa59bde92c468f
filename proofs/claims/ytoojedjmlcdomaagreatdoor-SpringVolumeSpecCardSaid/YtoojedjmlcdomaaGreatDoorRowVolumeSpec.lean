/- The law SpringVolumeSpec holds, whatever the input: its row, and its tied card: the listed tables are as the text of the program lays them. -/
import Derived.Test.YtoojedjmlcdomaaGreatDoorRowKit3
import Derived.Test.YtoojedjmlcdomaaGreatDoorRowKit5
import Derived.Test.YtoojedjmlcdomaaGreatDoorOneSkip2Pack
set_option linter.all false
set_option maxRecDepth 100000
namespace Go.Proofs.YtoojedjmlcdomaaGreatDoor
open Go.ChangeShapes Go.WideShapes Go.RowKit

theorem springVolumeSpec_law (W : World) (args : Array Value) (hs : args.size = Tryz.f3.params.size) (hA : ∀ (j : Nat) t v, Tryz.f3.params[j]? = some t → args[j]? = some v → Arg Tryz.prog W t v) (hL : laidMetH Tryz.prog Rows.springVolumeSpecRow.laid W) :
  Calls Tryz.prog 3 args W fun e w' => e = .returned (.bool true) ∧ Below W.heap.size W w' := by
 have hp : Pow10 W := pow10_of_laid hL
 rw [Tryz.params3] at hs hA
 match args, hs with
 | ⟨[v0, v1, v2, v3, v4, v5, v6]⟩, _ =>
  obtain ⟨c, rfl⟩ := Arg.climate (hA 0 _ v0 rfl rfl)
  obtain ⟨no1, vd1, p1, rfl, s1⟩ := Arg.spring (hA 1 _ v1 rfl rfl)
  obtain ⟨xs2, s2⟩ := Arg.springs (hA 2 _ v2 rfl rfl)
  obtain ⟨sc3, V3, rfl, s3⟩ := Arg.scene (hA 3 _ v3 rfl rfl)
  obtain ⟨xs4, s4⟩ := Arg.ints (hA 4 _ v4 rfl rfl)
  obtain ⟨n5, rfl⟩ := Arg.int (hA 5 _ v5 rfl rfl) Tryz.underlying3
  obtain ⟨n6, rfl⟩ := Arg.int (hA 6 _ v6 rfl rfl) Tryz.underlying3
  exact law_VolumeSpec c no1 vd1 p1 v2 xs2 sc3 V3 v4 xs4 n5 n6 W hp s1 s2 s3 s4
theorem springVolumeSpec_lifted (os : Os) (started : os.Started) (H : Type) (enc : TypeId × Value → H) :
  ReturnsInHanded {} Tryz.checked os 3 .any (fun w args => (Rows.springVolumeSpecSpec.pre enc Tryz.prog Tryz.f3 [] false w args ∧ laidMetH Tryz.prog Rows.springVolumeSpecRow.laid w) ∧ sizedMet enc Tryz.prog Tryz.f3 (OpenSpec.ofChange Rows.springVolumeSpecSpec) false w args)
   (Rows.springVolumeSpecSpec.post enc Tryz.prog Tryz.f3 false true false false) :=
 law_lifted (C := Tryz.checked) (tb := 4) rows_own started (by kernel_rfl) Tryz.func3 rows_laidOut
  (fun t ht => List.all_eq_true.1 (show (Tryz.f3.params.toList.all fun t => Tryz.prog.readableRec t) = true by kernel_rfl) t ht)
  (fun t ht => of_decide_eq_true (List.all_eq_true.1 (show (Tryz.f3.params.toList.all fun t => decide (t < Tryz.prog.types.size)) = true by kernel_rfl) t ht))
  (by kernel_rfl) Tryz.underlying4 rfl
  (fun ds hd => by
   rw [Tryz.params3] at hd
   match ds, hd with
   | [d0, d1, d2, d3, d4, d5, d6], _ => rfl)
  (ChangeSpec.witness_shaped (enc := enc) (C := Tryz.checked) (os := os) (X := fun w _ => laidMetH Tryz.prog Rows.springVolumeSpecRow.laid w) false (World.laidAll Tryz.prog os Rows.springVolumeSpecRow.laid) #[.agg #[I 0, I 0, I 0, I 0, I 0, I 0, I 0, I 0], .agg #[I 0, .slice none 0 0], .slice none 0 0, .agg #[.slice none 0 0, .slice none 0 0, I 0, I 0, I 0, .slice none 0 0, .slice none 0 0, .slice none 0 0], .slice none 0 0, I 0, I 0] 8 (World.laidAll_os _ _ _)
   (World.shaped_of_ZipB (by kernel_rfl) (by kernel_rfl)) (by kernel_rfl) (by kernel_rfl) (by kernel_rfl)
   (by rw [MakeChecks.laidMetH_plain _ _ _ (by kernel_rfl)]; exact laidMet_laidAll _ (by kernel_rfl) (by kernel_rfl)))
  springVolumeSpec_law
theorem springVolumeSpec_inPlace : (Rows.springVolumeSpecRow.inPlace == Tryz.prog.inPlace 3) = true := by kernel_rfl
theorem springVolumeSpec_unfollowed : (Rows.springVolumeSpecRow.unfollowed == Tryz.prog.unfollowed 3) = true := by kernel_rfl
theorem springVolumeSpec_recurses : (Rows.springVolumeSpecRow.recurses == Tryz.prog.recurses 3) = true := by kernel_rfl
theorem springVolumeSpec_named : (Rows.springVolumeSpecRow.named == Tryz.prog.varsNamed 3) = true := by kernel_rfl
theorem springVolumeSpec_facts : joinedFacts Tryz.prog 3 Tryz.f3 Rows.springVolumeSpecSpec Rows.springVolumeSpecRow = true := by
 unfold joinedFacts
 repeat' (with_reducible refine and_true_of ?_ ?_)
 ·kernel_rfl
 ·exact rows_laidOut
 ·exact rows_mapsRowed
 ·kernel_rfl
 ·kernel_rfl
 ·kernel_rfl
 ·exact rows_stops
 ·kernel_rfl
 ·exact rows_stopKnobs
 ·exact springVolumeSpec_inPlace
 ·exact springVolumeSpec_unfollowed
 ·exact springVolumeSpec_recurses
 ·exact springVolumeSpec_named
 ·kernel_rfl
 ·kernel_rfl
 ·kernel_rfl
 ·kernel_rfl
 ·kernel_rfl
 ·kernel_rfl
 ·kernel_rfl
 ·kernel_rfl
 ·kernel_rfl
 ·rw [rows_plainKeys]; kernel_rfl
 ·kernel_rfl
 ·exact rows_stopsHeard
 ·exact rows_mayEnter
 ·rw [rows_lifts]; kernel_rfl
 ·rw [rows_make]; kernel_rfl
 all_goals kernel_rfl
theorem springVolumeSpec_func : Tryz.prog.funcNamed Rows.springVolumeSpecRow.func = some 3 := by kernel_rfl
theorem springVolumeSpec_inst : Tryz.f3.isInstance Tryz.prog Rows.springVolumeSpecRow.origin Rows.springVolumeSpecRow.targs := of_decide_eq_true (by kernel_rfl)
theorem springVolumeSpec_wrap : Tryz.f3.isWrapper Tryz.prog Rows.springVolumeSpecRow.wrapper Rows.springVolumeSpecRow.mainSum := by unfold Func.isWrapper; rw [if_neg (of_decide_eq_false (by kernel_rfl))]; exact ⟨rfl, rfl⟩
theorem springVolumeSpec_said : Rows.SpringVolumeSpecSaid :=
 OpenClaim.holds_of_wide 3 Tryz.f3 rfl rfl rfl rfl rfl rfl rfl ⟨rfl, rfl, rfl, rfl, rfl⟩ rfl rfl rfl rfl rfl springVolumeSpec_func Tryz.func3 springVolumeSpec_facts springVolumeSpec_inst springVolumeSpec_wrap
  (fun os started H enc _ => springVolumeSpec_lifted os started H enc)
theorem springVolumeSpec_wf : Rows.springVolumeSpecRow.wfByText (OpenSpec.ofChange Rows.springVolumeSpecSpec) = true := by kernel_rfl
theorem springVolumeSpec_goes : false = Rows.springVolumeSpecRow.goesBy Tryz.prog := by kernel_rfl
theorem springVolumeSpec_plain : (Tryz.f3.params.toList.all fun t => Tryz.prog.wantsStandIn t == false) = true := by kernel_rfl
theorem springVolumeSpec_looks (f : FuncId) (fn : Func) (hf : Tryz.prog.funcNamed Rows.springVolumeSpecRow.func = some f) (hfn : Tryz.prog.funcs[f]? = some fn) : false = Tryz.prog.looks [] ∧ ∀ (j : Nat) t, fn.params[j]? = some t → Tryz.prog.wantsStandIn t = false := by
 obtain rfl : f = 3 := (Option.some.inj (springVolumeSpec_func.symm.trans hf)).symm
 obtain rfl : fn = Tryz.f3 := (Option.some.inj (Tryz.func3.symm.trans hfn)).symm
 refine ⟨rows_looks, fun j t ht => ?_⟩
 have hm : t ∈ Tryz.f3.params.toList := List.mem_of_getElem? (by simpa using ht)
 exact eq_of_beq (List.all_eq_true.1 springVolumeSpec_plain t hm)
theorem springVolumeSpec_holds : Rows.SpringVolumeSpecCardSaid :=
 Claim7.holds_tied_plain_at .later [] [.data, .data, .data] true (true, "3e135ccada2d687900207481f92b3908ea17ac63b34e15c9d7f93d7ad0344087") false
  springVolumeSpec_said (fun _ h => by cases h) springVolumeSpec_wf (fun _ h => by cases h) springVolumeSpec_row_tie rfl ⟨rfl, rfl⟩ rows_mainIs rfl springVolumeSpec_looks springVolumeSpec_goes
end Go.Proofs.YtoojedjmlcdomaaGreatDoor
