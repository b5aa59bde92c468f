/- The rows of this seat: the tables are as the text lays them, so the powers of ten are there. No condition. -/
import Derived.Test.YtifeniiefhpadaaGreatDoorRowKit2
import Derived.Test.YtifeniiefhpadaaGreatDoorSpring25
import Derived.Test.YtifeniiefhpadaaGreatDoorRows
import Derived.Test.YtifeniiefhpadaaGreatDoorTie
import Derived.Test.YtifeniiefhpadaaGreatDoorCards
import Derived.SevenTiedAt
set_option linter.all false
namespace Go.Proofs.YtifeniiefhpadaaGreatDoor
open Go.ChangeShapes Go.WideShapes Go.RowKit

theorem rows_own : ownKnob Tryz.prog.godebug = none := by kernel_rfl
theorem rows_laidOut : laidOutB Tryz.prog = true := by kernel_rfl
theorem rows_mapsRowed : mapsRowed Tryz.prog = true := by kernel_rfl
theorem rows_stops : (Tryz.prog.stops == []) = true := by kernel_rfl
theorem rows_stopKnobs : (Tryz.prog.stopKnobs == []) = true := by kernel_rfl
theorem rows_stopsHeard : Tryz.prog.stopsHeard = true := by kernel_rfl
theorem rows_plainKeys : Tryz.prog.plainKeys = Rows.springNarrowerRow.plainKeys := by kernel_rfl
theorem words_one : ∀ (w : List Char), (w.all fun c => c != Char.ofNat 32) = true → wordsSigns w = [w]
 | [], _ => rfl
 | c :: w, h => by
  simp only [List.all_cons, Bool.and_eq_true, bne_iff_ne, ne_eq] at h
  rw [wordsSigns.eq_3 _ _ (fun h' => h.1 h'), words_one w (by simpa using h.2)]
theorem words_cons (r : List Char) : ∀ (w : List Char), (w.all fun c => c != Char.ofNat 32) = true → wordsSigns (w ++ Char.ofNat 32 :: r) = w :: wordsSigns r
 | [], _ => rfl
 | c :: w, h => by
  simp only [List.all_cons, Bool.and_eq_true, bne_iff_ne, ne_eq] at h
  rw [List.cons_append, wordsSigns.eq_3 _ _ (fun h' => h.1 h'), words_cons r w (by simpa using h.2)]
def joinWords : List (List Nat) → List Char
 | [] => []
 | [w] => w.map Char.ofNat
 | w :: v :: ws => w.map Char.ofNat ++ Char.ofNat 32 :: joinWords (v :: ws)
theorem words_join : ∀ (ws : List (List Nat)), ws ≠ [] → (ws.all fun w => (w.map Char.ofNat).all fun c => c != Char.ofNat 32) = true → wordsSigns (joinWords ws) = ws.map fun w => w.map Char.ofNat
 | [], h, _ => absurd rfl h
 | [w], _, h => by
  simp only [List.all_cons, Bool.and_eq_true] at h
  rw [joinWords, words_one _ h.1]
  rfl
 | w :: v :: ws, _, h => by
  rw [List.all_cons, Bool.and_eq_true] at h
  rw [joinWords, words_cons _ _ h.1, words_join (v :: ws) (by simp) h.2]
  rfl
def rowWords : List (List Nat) := [[104, 97, 114, 110, 101, 115, 115], [97, 48, 51, 55, 56, 100, 102, 53, 55, 100, 48, 56, 54, 52, 100, 52, 100, 49, 52, 101, 102, 97, 57, 57, 56, 49, 52, 54, 98, 101, 98, 97, 98, 50, 54, 102, 97, 99, 98, 102, 51, 48, 49, 51, 53, 50, 52, 52, 101, 101, 98, 57, 98, 57, 97, 56, 100, 99, 102, 53, 49, 99, 48, 51], [99, 117, 116], [97, 116], [115, 110, 111, 119, 108, 105, 110, 101, 47, 115, 110, 111, 119, 108, 105, 110, 101, 108, 97, 119, 48, 54, 46, 83, 112, 114, 105, 110, 103, 78, 97, 114, 114, 111, 119, 101, 114]]
theorem rows_order : Tryz.prog.initOrder = String.ofList (joinWords rowWords) := by kernel_rfl
theorem rows_words : wordsSigns Tryz.prog.initOrder.toList = rowWords.map fun w => w.map Char.ofNat := by
 rw [rows_order, String.toList_ofList]
 exact words_join rowWords (by decide) (by kernel_rfl)
theorem rows_behind : behindMainWord (wordsSigns Tryz.prog.initOrder.toList) = rowWords.tail.tail.map fun w => w.map Char.ofNat := by
 rw [rows_words]
 kernel_rfl
theorem rows_cut : ∃ r, behindMainWord (wordsSigns Tryz.prog.initOrder.toList) = [Char.ofNat 99, Char.ofNat 117, Char.ofNat 116] :: r :=
 ⟨rowWords.tail.tail.tail.map fun w => w.map Char.ofNat, rows_behind.trans (by kernel_rfl)⟩
theorem rows_strip (r : List (List Char)) : stripLifts liftWords ([Char.ofNat 99, Char.ofNat 117, Char.ofNat 116] :: r) = ([], [Char.ofNat 99, Char.ofNat 117, Char.ofNat 116] :: r) := by kernel_rfl
theorem rows_lays : Tryz.prog.laysLater = false := by kernel_rfl
theorem rows_bears : Tryz.prog.bearsReflect = false := by kernel_rfl
theorem rows_door : Tryz.prog.doorFits [] = true := by kernel_rfl
theorem mayEnter_of {P : Program} {r : List (List Char)} (hr : behindMainWord (wordsSigns P.initOrder.toList) = [Char.ofNat 99, Char.ofNat 117, Char.ofNat 116] :: r) (h1 : P.laysLater = false) (h2 : P.bearsReflect = false) (h3 : P.doorFits [] = true) : P.mayEnter = true := by
 unfold Program.mayEnter
 rw [hr]
 dsimp only
 rw [rows_strip, h1, h2, h3]
 simp
theorem rows_mayEnter : Tryz.prog.mayEnter = true := by
 obtain ⟨r, hr⟩ := rows_cut
 exact mayEnter_of hr rows_lays rows_bears rows_door
theorem rows_lifts : Tryz.prog.liftsFinal = false := by
 obtain ⟨r, hr⟩ := rows_cut
 unfold Program.liftsFinal Program.headLifts
 rw [hr, rows_strip]
 kernel_rfl
theorem make_of {P : Program} {r : List (List Char)} (hr : behindMainWord (wordsSigns P.initOrder.toList) = [Char.ofNat 99, Char.ofNat 117, Char.ofNat 116] :: r) : P.make = some .cut := by
 unfold Program.make
 rw [hr]
 have h1 : ([Char.ofNat 99, Char.ofNat 117, Char.ofNat 116] == "gc".toList || [Char.ofNat 99, Char.ofNat 117, Char.ofNat 116] == "spec".toList) = false := by kernel_rfl
 have h2 : ([Char.ofNat 99, Char.ofNat 117, Char.ofNat 116] == "cut".toList) = true := by kernel_rfl
 dsimp only
 rw [h1, h2]
 simp
theorem rows_make : Tryz.prog.make = some .cut := by
 obtain ⟨r, hr⟩ := rows_cut
 exact make_of hr
theorem rows_sum : "a0378df57d0864d4d14efa998146bebab26facbf30135244eeb9b9a8dcf51c03" = String.ofList ((rowWords.getD 1 []).map Char.ofNat) := by kernel_rfl
theorem mainIs_of {P : Program} {s : List Char} {r : List (List Char)} (hr : wordsSigns P.initOrder.toList = "harness".toList :: s :: r) (hs : isSumSigns s = true) : P.mainIs = some (true, s) := by
 unfold Program.mainIs
 rw [hr]
 dsimp only
 rw [hs]
 simp
theorem rows_mainIs : Tryz.prog.mainIs = some (true, "a0378df57d0864d4d14efa998146bebab26facbf30135244eeb9b9a8dcf51c03".toList) := by
 rw [rows_sum, String.toList_ofList]
 exact mainIs_of (r := (rowWords.tail.tail).map fun w => w.map Char.ofNat) (rows_words.trans (by kernel_rfl)) (by kernel_rfl)
theorem rows_looks : false = Tryz.prog.looks [] := by kernel_rfl
theorem and_true_of {a b : Bool} (ha : a = true) (hb : b = true) : (a && b) = true := by rw [ha, hb]; rfl
theorem pow10_of_laid {W : World} (h : laidMetH Tryz.prog Rows.springNarrowerRow.laid W) : Pow10 W := by
 rw [MakeChecks.laidMetH_plain _ _ _ (by kernel_rfl)] at h
 have h3 := laidMet.tail (laidMet.tail h)
 unfold Pow10
 exact Lib.tabIs_of_head (rest := []) (g := 0) (n := 20) (e := 129) (t := 187) (by kernel_rfl) (by kernel_rfl) (by kernel_rfl) (by kernel_rfl) (by kernel_rfl) (by kernel_rfl) h3
end Go.Proofs.YtifeniiefhpadaaGreatDoor
