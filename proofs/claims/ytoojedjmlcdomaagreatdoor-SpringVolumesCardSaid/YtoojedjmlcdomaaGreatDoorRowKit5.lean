/- Readers of scenes, basins, lists of springs and rows of numbers. Conditions stand in the theorems. -/
import Derived.Test.YtoojedjmlcdomaaGreatDoorRowKit2
import Derived.Test.YtoojedjmlcdomaaGreatDoorReachPack
set_option linter.all false
set_option maxRecDepth 100000
namespace Go.Proofs.YtoojedjmlcdomaaGreatDoor
open Go.ChangeShapes Go.WideShapes Go.RowKit Go.Deep

theorem Reads.sliceW {P : Program} {α : Type} {t e : TypeId} {k : Nat} {enc : α → List Value} {R : World → α → Prop} (ht : P.underlying t = some (.slice e)) (hC : P.cellsOf e = k) (hk : 0 < k) (hb : 0 < P.bytesOf e) (hE : Reads P e fun w cs => ∃ a, cs = enc a ∧ R w a) :
  Reads P t fun w cs => ∃ v xs, cs = [v] ∧ Sl w k enc v xs ∧ ∀ x ∈ xs, R w x := by
 intro H f w base sp held fuel cs d p h hf
 rcases open_slice ht h with ⟨rfl, _⟩ | ⟨a, len, cap, m, n, D, Pl, rfl, hba, hl, hm, hmm, hx, hi⟩
 ·exact ⟨_, [], rfl, Sl.nil w k enc, fun _ h => by simp at h⟩
 obtain ⟨rfl, rfl⟩ := Prod.mk.inj hx
 have hlm : len ≤ m := by rw [hmm]; split <;> omega
 have hw := hf ((len + (m - len)) * P.bytesOf e) (by simp [DataW.weights, ht])
 have hlen : len ≤ 140737488355328 := by
  have h1 : len ≤ (len + (m - len)) * P.bytesOf e := Nat.le_trans (Nat.le_add_right _ _) (Nat.le_mul_of_pos_right _ hb)
  have h2 : reachBytes ≤ 140737488355328 := by decide
  omega
 obtain ⟨xs, hxl, hxs⟩ := list_of (p := fun i x => w.cells? base (a.add (i * k)) k = some (enc x) ∧ R w x) len fun i hil => by
  obtain ⟨cs', h1, h2⟩ := hi i (by omega)
  rw [hC] at h1
  have hfit : Fits P e (D i) := fun q hq => hf q (by
   rw [DataW.weights, ht]
   refine List.mem_cons_of_mem _ (List.mem_append.2 (.inl ?_))
   exact weights_all (j := i) (by simp [hil]) q hq)
  obtain ⟨x, rfl, hR⟩ := hE H f w base sp held n cs' (D i) (Pl i) h2 hfit
  exact ⟨x, h1, hR⟩
 refine ⟨_, xs, rfl, ⟨some a, cap, by rw [hxl], by omega, ⟨hm, by omega⟩, fun h0 => ?_⟩, fun x hx => ?_⟩
 ·have hx0 : xs[0]? = some (xs[0]'h0) := List.getElem?_eq_getElem h0
  obtain ⟨_, hl0, hc0⟩ := World.cells?_some (hxs 0 _ hx0).1
  have hc00 := hc0 0 hk
  rw [List.getElem?_eq_getElem (by omega)] at hc00
  have ha : (a.add (0 * k)).add 0 = a := by simp [Addr.add]
  rw [ha] at hc00
  obtain ⟨hs, hlt⟩ := spot_none hc00
  obtain ⟨b, o, s⟩ := a
  dsimp only at hs hlt
  subst hs
  refine ⟨b, o, rfl, hlt, fun i x hix j u hu => ?_⟩
  obtain ⟨_, hli, hci⟩ := World.cells?_some (hxs i x hix).1
  have hj : j < k := by
   rw [← hli]
   exact (List.getElem?_eq_some_iff.1 hu).1
  have := hci j hj
  rw [add_plain, add_plain, hu] at this
  exact this
 ·obtain ⟨i, hi2⟩ := List.getElem?_of_mem hx
  exact (hxs i x hi2).2
section
open Go.Proofs.YtoojedjmlcdomaaGreatDoor
theorem reads_Cell : Reads Tryz.prog 92 fun _ cs => ∃ x : Cell, cs = x.cells := fun H e w base sp held fuel cs d p h hf => by
 obtain ⟨hl, hg⟩ := Reads.struct Tryz.underlying92 H e w base sp held fuel cs d p h hf
 have hk : Tryz.prog.cellsOf 92 = 4 := by kernel_rfl
 have h3 : Tryz.prog.cellsOf 3 = 1 := by kernel_rfl
 rw [hk] at hl
 have hI := @Reads.int Tryz.prog 3 Tryz.underlying3
 match cs, hl with
 | [c0, c1, c2, c3], _ =>
  obtain ⟨n0, e0⟩ := hg 0 _ rfl _ hI
  obtain ⟨n1, e1⟩ := hg 1 _ rfl _ hI
  obtain ⟨n2, e2⟩ := hg 2 _ rfl _ hI
  obtain ⟨n3, e3⟩ := hg 3 _ rfl _ hI
  simp [h3] at e0 e1 e2 e3
  subst e0 e1 e2 e3
  exact ⟨⟨n0, n1, n2, n3⟩, rfl⟩
theorem reads_Cells : Reads Tryz.prog 30 fun w cs => ∃ v xs, cs = [v] ∧ Sl w 4 Cell.cells v xs :=
 Reads.slice Tryz.underlying30 (by kernel_rfl) (by decide) (of_decide_eq_true (by kernel_rfl)) reads_Cell
theorem reads_Sight : Reads Tryz.prog 94 fun _ cs => ∃ x : Sight, cs = x.cells := fun H e w base sp held fuel cs d p h hf => by
 obtain ⟨hl, hg⟩ := Reads.struct Tryz.underlying94 H e w base sp held fuel cs d p h hf
 have hk : Tryz.prog.cellsOf 94 = 5 := by kernel_rfl
 have h3 : Tryz.prog.cellsOf 3 = 1 := by kernel_rfl
 rw [hk] at hl
 have hI := @Reads.int Tryz.prog 3 Tryz.underlying3
 match cs, hl with
 | [c0, c1, c2, c3, c4], _ =>
  obtain ⟨n0, e0⟩ := hg 0 _ rfl _ hI
  obtain ⟨n1, e1⟩ := hg 1 _ rfl _ hI
  obtain ⟨n2, e2⟩ := hg 2 _ rfl _ hI
  obtain ⟨n3, e3⟩ := hg 3 _ rfl _ hI
  obtain ⟨n4, e4⟩ := hg 4 _ rfl _ hI
  simp [h3] at e0 e1 e2 e3 e4
  subst e0 e1 e2 e3 e4
  exact ⟨⟨n0, n1, n2, n3, n4⟩, rfl⟩
theorem reads_Sights : Reads Tryz.prog 35 fun w cs => ∃ v xs, cs = [v] ∧ Sl w 5 Sight.cells v xs :=
 Reads.slice Tryz.underlying35 (by kernel_rfl) (by decide) (of_decide_eq_true (by kernel_rfl)) reads_Sight
theorem reads_Change : Reads Tryz.prog 163 fun _ cs => ∃ x : Change, cs = x.cells := fun H e w base sp held fuel cs d p h hf => by
 obtain ⟨hl, hg⟩ := Reads.struct Tryz.underlying163 H e w base sp held fuel cs d p h hf
 have hk : Tryz.prog.cellsOf 163 = 5 := by kernel_rfl
 have h3 : Tryz.prog.cellsOf 3 = 1 := by kernel_rfl
 rw [hk] at hl
 have hI := @Reads.int Tryz.prog 3 Tryz.underlying3
 match cs, hl with
 | [c0, c1, c2, c3, c4], _ =>
  obtain ⟨n0, e0⟩ := hg 0 _ rfl _ hI
  obtain ⟨n1, e1⟩ := hg 1 _ rfl _ hI
  obtain ⟨n2, e2⟩ := hg 2 _ rfl _ hI
  obtain ⟨n3, e3⟩ := hg 3 _ rfl _ hI
  obtain ⟨n4, e4⟩ := hg 4 _ rfl _ hI
  simp [h3] at e0 e1 e2 e3 e4
  subst e0 e1 e2 e3 e4
  exact ⟨⟨n0, n1, n2, n3, n4⟩, rfl⟩
theorem reads_Changes : Reads Tryz.prog 36 fun w cs => ∃ v xs, cs = [v] ∧ Sl w 5 Change.cells v xs :=
 Reads.slice Tryz.underlying36 (by kernel_rfl) (by decide) (of_decide_eq_true (by kernel_rfl)) reads_Change
theorem reads_pair : Reads Tryz.prog 177 fun _ cs => ∃ x : Int × Int, cs = pairC x := fun H e w base sp held fuel cs d p h hf => by
 obtain ⟨a, b, h1⟩ := reads_two H e w base sp held fuel cs d p h hf
 exact ⟨(a, b), h1⟩
theorem reads_pairs : Reads Tryz.prog 31 fun w cs => ∃ v xs, cs = [v] ∧ Sl w 2 pairC v xs :=
 Reads.slice Tryz.underlying31 (by kernel_rfl) (by decide) (of_decide_eq_true (by kernel_rfl)) reads_pair
theorem reads_intCs : Reads Tryz.prog 34 fun w cs => ∃ v xs, cs = [v] ∧ Sl w 1 intC v xs := reads_ints
def BasinAt (w : World) (b : Basin) (vc vp : Value) : Prop := Sl w 4 Cell.cells vc b.cells ∧ Sl w 2 pairC vp b.pairs
theorem reads_Basin : Reads Tryz.prog 33 fun w cs => ∃ (b : Basin) (vc vp : Value), cs = [vc, vp, I b.gain, I b.slack, I b.deep] ∧ BasinAt w b vc vp := fun H e w base sp held fuel cs d p h hf => by
 obtain ⟨hl, hg⟩ := Reads.struct Tryz.underlying33 H e w base sp held fuel cs d p h hf
 have hk : Tryz.prog.cellsOf 33 = 5 := by kernel_rfl
 have h3 : Tryz.prog.cellsOf 3 = 1 := by kernel_rfl
 have h1 : Tryz.prog.cellsOf 30 = 1 := by kernel_rfl
 have h2 : Tryz.prog.cellsOf 31 = 1 := by kernel_rfl
 rw [hk] at hl
 have hI := @Reads.int Tryz.prog 3 Tryz.underlying3
 match cs, hl with
 | [c0, c1, c2, c3, c4], _ =>
  obtain ⟨v0, x0, e0, s0⟩ := hg 0 _ rfl _ reads_Cells
  obtain ⟨v1, x1, e1, s1⟩ := hg 1 _ rfl _ reads_pairs
  obtain ⟨n2, e2⟩ := hg 2 _ rfl _ hI
  obtain ⟨n3, e3⟩ := hg 3 _ rfl _ hI
  obtain ⟨n4, e4⟩ := hg 4 _ rfl _ hI
  simp [h3, h1, h2] at e0 e1 e2 e3 e4
  subst e0 e1 e2 e3 e4
  exact ⟨⟨x0, x1, n2, n3, n4⟩, _, _, rfl, s0, s1⟩
theorem reads_Scene : Reads Tryz.prog 38 fun w cs => ∃ (s : Scene) (V : SceneV), Value.agg cs.toArray = s.v V ∧ SceneAt w s V := fun H e w base sp held fuel cs d p h hf => by
 obtain ⟨hl, hg⟩ := Reads.struct Tryz.underlying38 H e w base sp held fuel cs d p h hf
 have hk : Tryz.prog.cellsOf 38 = 8 := by kernel_rfl
 have h5 : Tryz.prog.cellsOf 33 = 5 := by kernel_rfl
 have h1 : Tryz.prog.cellsOf 34 = 1 := by kernel_rfl
 have h2 : Tryz.prog.cellsOf 35 = 1 := by kernel_rfl
 have h3 : Tryz.prog.cellsOf 36 = 1 := by kernel_rfl
 rw [hk] at hl
 match cs, hl with
 | [c0, c1, c2, c3, c4, c5, c6, c7], _ =>
  obtain ⟨b, vc, vp, e0, s0⟩ := hg 0 _ rfl _ reads_Basin
  obtain ⟨v5, x5, e5, s5⟩ := hg 1 _ rfl _ reads_intCs
  obtain ⟨v6, x6, e6, s6⟩ := hg 2 _ rfl _ reads_Sights
  obtain ⟨v7, x7, e7, s7⟩ := hg 3 _ rfl _ reads_Changes
  simp [h5, h1, h2, h3] at e0 e5 e6 e7
  obtain ⟨rfl, rfl, rfl, rfl, rfl⟩ := e0
  subst e5 e6 e7
  exact ⟨⟨b, x5, x6, x7⟩, ⟨_, _, _, _, _⟩, rfl, s0.1, s0.2, s5, s6, s7⟩
theorem Arg.scene {W : World} {v : Value} (h : Arg Tryz.prog W 38 v) : ∃ (s : Scene) (V : SceneV), v = s.v V ∧ SceneAt W s V := by
 obtain ⟨cs, rfl, s, V, h1, h2⟩ := h.struct Tryz.underlying38 reads_Scene
 exact ⟨s, V, h1, h2⟩
theorem Arg.basin {W : World} {v : Value} (h : Arg Tryz.prog W 33 v) : ∃ (b : Basin) (vc vp : Value), v = .agg #[vc, vp, I b.gain, I b.slack, I b.deep] ∧ BasinAt W b vc vp := by
 obtain ⟨cs, rfl, b, vc, vp, rfl, h2⟩ := h.struct Tryz.underlying33 reads_Basin
 exact ⟨b, vc, vp, rfl, h2⟩
structure SprL where
 no : Int
 dv : Value
 days : List Weather
def SprL.cells (x : SprL) : List Value := [I x.no, x.dv]
def SprL.spring (x : SprL) : Spring := ⟨x.no, x.days⟩
def SprsAt (w : World) (v : Value) (xs : List SprL) : Prop := Sl w 2 SprL.cells v xs ∧ ∀ x ∈ xs, Sl w 3 Weather.cells x.dv x.days
theorem SprsAt.mono {w w' : World} {v : Value} {xs : List SprL} (h : SprsAt w v xs) (hb : Below w.heap.size w w') : SprsAt w' v xs := ⟨h.1.mono hb, fun x hx => (h.2 x hx).mono hb⟩
theorem reads_SprL : Reads Tryz.prog 28 fun w cs => ∃ x : SprL, cs = x.cells ∧ Sl w 3 Weather.cells x.dv x.days := fun H e w base sp held fuel cs d p h hf => by
 obtain ⟨no, vd, l, h1, h2⟩ := reads_Spring H e w base sp held fuel cs d p h hf
 exact ⟨⟨no, vd, l⟩, h1, h2⟩
theorem Arg.slW {P : Program} {α : Type} {W : World} {t e : TypeId} {v : Value} {k : Nat} {enc : α → List Value} {R : World → α → Prop} (h : Arg P W t v) (ht : P.underlying t = some (.slice e)) (hC : P.cellsOf e = k) (hk : 0 < k) (hb : 0 < P.bytesOf e) (hE : Reads P e fun w cs => ∃ a, cs = enc a ∧ R w a) : ∃ xs, Sl W k enc v xs ∧ ∀ x ∈ xs, R W x := by
 obtain ⟨⟨b, h1⟩, h2⟩ := h
 obtain ⟨a, len, cap, rfl⟩ := okWide_slice ht h1
 obtain ⟨v', xs, h3, h4⟩ := h2 _ (Reads.sliceW ht hC hk hb hE)
 simp [Value.cells] at h3
 subst h3
 exact ⟨xs, h4⟩
theorem Arg.springs {W : World} {v : Value} (h : Arg Tryz.prog W 29 v) : ∃ xs, SprsAt W v xs :=
 h.slW Tryz.underlying29 (by kernel_rfl) (by decide) (of_decide_eq_true (by kernel_rfl)) reads_SprL
end
end Go.Proofs.YtoojedjmlcdomaaGreatDoor
