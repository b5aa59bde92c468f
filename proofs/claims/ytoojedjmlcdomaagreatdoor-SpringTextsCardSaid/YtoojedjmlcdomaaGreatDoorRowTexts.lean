/- The law SpringTexts holds, whatever the input: its row, and its tied card: the listed tables are as the text of the program lays them. -/
import Derived.Test.YtoojedjmlcdomaaGreatDoorRowKit3
import Derived.Test.YtoojedjmlcdomaaGreatDoorRowKit6
import Derived.Test.YtoojedjmlcdomaaGreatDoorLawTexts
set_option linter.all false
set_option maxRecDepth 100000
namespace Go.Proofs.YtoojedjmlcdomaaGreatDoor
open Go.ChangeShapes Go.WideShapes Go.RowKit

theorem springTexts_pow {W : World} (h : laidMetH Tryz.prog Rows.springTextsRow.laid W) : Pow10 W := by
 rw [MakeChecks.laidMetH_plain _ _ _ (by kernel_rfl)] at h
 have h3 := laidMet.tail (laidMet.tail h)
 unfold Pow10
 exact Lib.tabIs_of_head (rest := [("unicode/utf8.acceptRanges", Rows.laid_unicode_utf8_acceptRanges), ("unicode/utf8.first", Rows.laid_unicode_utf8_first)]) (g := 0) (n := 20) (e := 197) (t := 264) (by kernel_rfl) (by kernel_rfl) (by kernel_rfl) (by kernel_rfl) (by kernel_rfl) (by kernel_rfl) h3
theorem springTexts_law (W : World) (args : Array Value) (hs : args.size = Tryz.f5.params.size) (hA : ∀ (j : Nat) t v, Tryz.f5.params[j]? = some t → args[j]? = some v → Arg Tryz.prog W t v) (hL : laidMetH Tryz.prog Rows.springTextsRow.laid W) (hS : W.ShapedOpen Tryz.prog) :
  Calls Tryz.prog 5 args W fun e w' => e = .returned (.bool true) ∧ Below W.heap.size W w' := by
 have hp : Pow10 W := springTexts_pow hL
 have hm : MaxAt W := Tryz.laysM146.s1_3 W hS
 rw [Tryz.params5] at hs hA
 match args, hs with
 | ⟨[v0, v1]⟩, _ =>
  obtain ⟨x0, rfl⟩ := Arg.weather (hA 0 _ v0 rfl rfl)
  obtain ⟨s1, rfl, _⟩ := Arg.str (hA 1 _ v1 rfl rfl) Tryz.underlying9
  exact law_Texts x0 s1 W hp hm
theorem springTexts_lifted (os : Os) (started : os.Started) (H : Type) (enc : TypeId × Value → H) :
  ReturnsInHanded {} Tryz.checked os 5 .any (fun w args => (Rows.springTextsSpec.pre enc Tryz.prog Tryz.f5 [] false w args ∧ laidMetH Tryz.prog Rows.springTextsRow.laid w) ∧ sizedMet enc Tryz.prog Tryz.f5 (OpenSpec.ofChange Rows.springTextsSpec) false w args)
   (Rows.springTextsSpec.post enc Tryz.prog Tryz.f5 false true false false) :=
 law_liftedS (C := Tryz.checked) (tb := 4) rows_own started (by kernel_rfl) Tryz.func5 rows_laidOut
  (fun t ht => List.all_eq_true.1 (show (Tryz.f5.params.toList.all fun t => Tryz.prog.readableRec t) = true by kernel_rfl) t ht)
  (fun t ht => of_decide_eq_true (List.all_eq_true.1 (show (Tryz.f5.params.toList.all fun t => decide (t < Tryz.prog.types.size)) = true by kernel_rfl) t ht))
  (by kernel_rfl) Tryz.underlying4 rfl
  (fun ds hd => by
   rw [Tryz.params5] at hd
   match ds, hd with
   | [d0, d1], _ => rfl)
  (ChangeSpec.witness_shaped (enc := enc) (C := Tryz.checked) (os := os) (X := fun w _ => laidMetH Tryz.prog Rows.springTextsRow.laid w) false (World.laidAll Tryz.prog os Rows.springTextsRow.laid) #[.agg #[I 0, I 0, I 0], .string ⟨#[]⟩] 8 (World.laidAll_os _ _ _)
   (World.shaped_of_ZipB (by kernel_rfl) (by kernel_rfl)) (by kernel_rfl) (by kernel_rfl) (by kernel_rfl)
   (by rw [MakeChecks.laidMetH_plain _ _ _ (by kernel_rfl)]; exact laidMet_laidAll _ (by kernel_rfl) (by kernel_rfl)))
  springTexts_law
theorem springTexts_inPlace : (Rows.springTextsRow.inPlace == Tryz.prog.inPlace 5) = true := by kernel_rfl
theorem springTexts_unfollowed : (Rows.springTextsRow.unfollowed == Tryz.prog.unfollowed 5) = true := by kernel_rfl
theorem springTexts_recurses : (Rows.springTextsRow.recurses == Tryz.prog.recurses 5) = true := by kernel_rfl
theorem springTexts_named : (Rows.springTextsRow.named == Tryz.prog.varsNamed 5) = true := by kernel_rfl
theorem springTexts_facts : joinedFacts Tryz.prog 5 Tryz.f5 Rows.springTextsSpec Rows.springTextsRow = true := by
 unfold joinedFacts
 repeat' (with_reducible refine and_true_of ?_ ?_)
 ·kernel_rfl
 ·exact rows_laidOut
 ·exact rows_mapsRowed
 ·kernel_rfl
 ·kernel_rfl
 ·kernel_rfl
 ·exact rows_stops
 ·kernel_rfl
 ·exact rows_stopKnobs
 ·exact springTexts_inPlace
 ·exact springTexts_unfollowed
 ·exact springTexts_recurses
 ·exact springTexts_named
 ·kernel_rfl
 ·kernel_rfl
 ·kernel_rfl
 ·kernel_rfl
 ·kernel_rfl
 ·kernel_rfl
 ·kernel_rfl
 ·kernel_rfl
 ·kernel_rfl
 ·rw [rows_plainKeys]; kernel_rfl
 ·kernel_rfl
 ·exact rows_stopsHeard
 ·exact rows_mayEnter
 ·rw [rows_lifts]; kernel_rfl
 ·rw [rows_make]; kernel_rfl
 all_goals kernel_rfl
theorem springTexts_func : Tryz.prog.funcNamed Rows.springTextsRow.func = some 5 := by kernel_rfl
theorem springTexts_inst : Tryz.f5.isInstance Tryz.prog Rows.springTextsRow.origin Rows.springTextsRow.targs := of_decide_eq_true (by kernel_rfl)
theorem springTexts_wrap : Tryz.f5.isWrapper Tryz.prog Rows.springTextsRow.wrapper Rows.springTextsRow.mainSum := by unfold Func.isWrapper; rw [if_neg (of_decide_eq_false (by kernel_rfl))]; exact ⟨rfl, rfl⟩
theorem springTexts_said : Rows.SpringTextsSaid :=
 OpenClaim.holds_of_wide 5 Tryz.f5 rfl rfl rfl rfl rfl rfl rfl ⟨rfl, rfl, rfl, rfl, rfl⟩ rfl rfl rfl rfl rfl springTexts_func Tryz.func5 springTexts_facts springTexts_inst springTexts_wrap
  (fun os started H enc _ => springTexts_lifted os started H enc)
theorem springTexts_wf : Rows.springTextsRow.wfByText (OpenSpec.ofChange Rows.springTextsSpec) = true := by kernel_rfl
theorem springTexts_goes : false = Rows.springTextsRow.goesBy Tryz.prog := by kernel_rfl
theorem springTexts_plain : (Tryz.f5.params.toList.all fun t => Tryz.prog.wantsStandIn t == false) = true := by kernel_rfl
theorem springTexts_looks (f : FuncId) (fn : Func) (hf : Tryz.prog.funcNamed Rows.springTextsRow.func = some f) (hfn : Tryz.prog.funcs[f]? = some fn) : false = Tryz.prog.looks [] ∧ ∀ (j : Nat) t, fn.params[j]? = some t → Tryz.prog.wantsStandIn t = false := by
 obtain rfl : f = 5 := (Option.some.inj (springTexts_func.symm.trans hf)).symm
 obtain rfl : fn = Tryz.f5 := (Option.some.inj (Tryz.func5.symm.trans hfn)).symm
 refine ⟨rows_looks, fun j t ht => ?_⟩
 have hm : t ∈ Tryz.f5.params.toList := List.mem_of_getElem? (by simpa using ht)
 exact eq_of_beq (List.all_eq_true.1 springTexts_plain t hm)
theorem springTexts_holds : Rows.SpringTextsCardSaid :=
 Claim7.holds_tied_plain_at .later [] [.data, .data, .data, .data, .pinned] true (true, "3e135ccada2d687900207481f92b3908ea17ac63b34e15c9d7f93d7ad0344087") false
  springTexts_said (fun _ h => by cases h) springTexts_wf (fun _ h => by cases h) springTexts_row_tie rfl ⟨rfl, rfl⟩ rows_mainIs rfl springTexts_looks springTexts_goes
end Go.Proofs.YtoojedjmlcdomaaGreatDoor
