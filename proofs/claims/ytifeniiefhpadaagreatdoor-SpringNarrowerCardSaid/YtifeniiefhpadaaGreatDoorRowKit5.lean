/- Readers of scenes, basins, lists of springs and rows of numbers. Conditions stand in the theorems. -/
import Derived.Test.YtifeniiefhpadaaGreatDoorRowKit2
import Derived.Test.YtifeniiefhpadaaGreatDoorReachPack
set_option linter.all false
set_option maxRecDepth 100000
namespace Go.Proofs.YtifeniiefhpadaaGreatDoor
open Go.ChangeShapes Go.WideShapes Go.RowKit Go.Deep

theorem Reads.sliceW {P : Program} {α : Type} {t e : TypeId} {k : Nat} {enc : α → List Value} {R : World → α → Prop} (ht : P.underlying t = some (.slice e)) (hC : P.cellsOf e = k) (hk : 0 < k) (hb : 0 < P.bytesOf e) (hE : Reads P e fun w cs => ∃ a, cs = enc a ∧ R w a) :
  Reads P t fun w cs => ∃ v xs, cs = [v] ∧ Sl w k enc v xs ∧ ∀ x ∈ xs, R w x := by
 intro H f w base sp held fuel cs d p h hf
 rcases open_slice ht h with ⟨rfl, _⟩ | ⟨a, len, cap, m, n, D, Pl, rfl, hba, hl, hm, hmm, hx, hi⟩
 ·exact ⟨_, [], rfl, Sl.nil w k enc, fun _ h => by simp at h⟩
 obtain ⟨rfl, rfl⟩ := Prod.mk.inj hx
 have hlm : len ≤ m := by rw [hmm]; split <;> omega
 have hw := hf ((len + (m - len)) * P.bytesOf e) (by simp [DataW.weights, ht])
 have hlen : len ≤ 140737488355328 := by
  have h1 : len ≤ (len + (m - len)) * P.bytesOf e := Nat.le_trans (Nat.le_add_right _ _) (Nat.le_mul_of_pos_right _ hb)
  have h2 : reachBytes ≤ 140737488355328 := by decide
  omega
 obtain ⟨xs, hxl, hxs⟩ := list_of (p := fun i x => w.cells? base (a.add (i * k)) k = some (enc x) ∧ R w x) len fun i hil => by
  obtain ⟨cs', h1, h2⟩ := hi i (by omega)
  rw [hC] at h1
  have hfit : Fits P e (D i) := fun q hq => hf q (by
   rw [DataW.weights, ht]
   refine List.mem_cons_of_mem _ (List.mem_append.2 (.inl ?_))
   exact weights_all (j := i) (by simp [hil]) q hq)
  obtain ⟨x, rfl, hR⟩ := hE H f w base sp held n cs' (D i) (Pl i) h2 hfit
  exact ⟨x, h1, hR⟩
 refine ⟨_, xs, rfl, ⟨some a, cap, by rw [hxl], by omega, ⟨hm, by omega⟩, fun h0 => ?_⟩, fun x hx => ?_⟩
 ·have hx0 : xs[0]? = some (xs[0]'h0) := List.getElem?_eq_getElem h0
  obtain ⟨_, hl0, hc0⟩ := World.cells?_some (hxs 0 _ hx0).1
  have hc00 := hc0 0 hk
  rw [List.getElem?_eq_getElem (by omega)] at hc00
  have ha : (a.add (0 * k)).add 0 = a := by simp [Addr.add]
  rw [ha] at hc00
  obtain ⟨hs, hlt⟩ := spot_none hc00
  obtain ⟨b, o, s⟩ := a
  dsimp only at hs hlt
  subst hs
  refine ⟨b, o, rfl, hlt, fun i x hix j u hu => ?_⟩
  obtain ⟨_, hli, hci⟩ := World.cells?_some (hxs i x hix).1
  have hj : j < k := by
   rw [← hli]
   exact (List.getElem?_eq_some_iff.1 hu).1
  have := hci j hj
  rw [add_plain, add_plain, hu] at this
  exact this
 ·obtain ⟨i, hi2⟩ := List.getElem?_of_mem hx
  exact (hxs i x hi2).2
section
open Go.Proofs.YtifeniiefhpadaaGreatDoor
structure SprL where
 no : Int
 dv : Value
 days : List Weather
def SprL.cells (x : SprL) : List Value := [I x.no, x.dv]
def SprL.spring (x : SprL) : Spring := ⟨x.no, x.days⟩
def SprsAt (w : World) (v : Value) (xs : List SprL) : Prop := Sl w 2 SprL.cells v xs ∧ ∀ x ∈ xs, Sl w 3 Weather.cells x.dv x.days
theorem SprsAt.mono {w w' : World} {v : Value} {xs : List SprL} (h : SprsAt w v xs) (hb : Below w.heap.size w w') : SprsAt w' v xs := ⟨h.1.mono hb, fun x hx => (h.2 x hx).mono hb⟩
theorem reads_SprL : Reads Tryz.prog 58 fun w cs => ∃ x : SprL, cs = x.cells ∧ Sl w 3 Weather.cells x.dv x.days := fun H e w base sp held fuel cs d p h hf => by
 obtain ⟨no, vd, l, h1, h2⟩ := reads_Spring H e w base sp held fuel cs d p h hf
 exact ⟨⟨no, vd, l⟩, h1, h2⟩
theorem Arg.slW {P : Program} {α : Type} {W : World} {t e : TypeId} {v : Value} {k : Nat} {enc : α → List Value} {R : World → α → Prop} (h : Arg P W t v) (ht : P.underlying t = some (.slice e)) (hC : P.cellsOf e = k) (hk : 0 < k) (hb : 0 < P.bytesOf e) (hE : Reads P e fun w cs => ∃ a, cs = enc a ∧ R w a) : ∃ xs, Sl W k enc v xs ∧ ∀ x ∈ xs, R W x := by
 obtain ⟨⟨b, h1⟩, h2⟩ := h
 obtain ⟨a, len, cap, rfl⟩ := okWide_slice ht h1
 obtain ⟨v', xs, h3, h4⟩ := h2 _ (Reads.sliceW ht hC hk hb hE)
 simp [Value.cells] at h3
 subst h3
 exact ⟨xs, h4⟩
theorem Arg.springs {W : World} {v : Value} (h : Arg Tryz.prog W 29 v) : ∃ xs, SprsAt W v xs :=
 h.slW Tryz.underlying29 (by kernel_rfl) (by decide) (of_decide_eq_true (by kernel_rfl)) reads_SprL
end
end Go.Proofs.YtifeniiefhpadaaGreatDoor
