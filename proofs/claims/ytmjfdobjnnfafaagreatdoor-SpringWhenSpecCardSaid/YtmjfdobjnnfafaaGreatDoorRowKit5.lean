/- Readers of scenes, basins, lists of springs and rows of numbers. Conditions stand in the theorems. -/
import Derived.Test.YtmjfdobjnnfafaaGreatDoorRowKit2
import Derived.Test.YtmjfdobjnnfafaaGreatDoorReachPack
set_option linter.all false
set_option maxRecDepth 100000
namespace Go.Proofs.YtmjfdobjnnfafaaGreatDoor
open Go.ChangeShapes Go.WideShapes Go.RowKit Go.Deep

section
open Go.Proofs.YtmjfdobjnnfafaaGreatDoor
theorem reads_Cell : Reads Tryz.prog 89 fun _ cs => ∃ x : Cell, cs = x.cells := fun H e w base sp held fuel cs d p h hf => by
 obtain ⟨hl, hg⟩ := Reads.struct Tryz.underlying89 H e w base sp held fuel cs d p h hf
 have hk : Tryz.prog.cellsOf 89 = 4 := by kernel_rfl
 have h3 : Tryz.prog.cellsOf 3 = 1 := by kernel_rfl
 rw [hk] at hl
 have hI := @Reads.int Tryz.prog 3 Tryz.underlying3
 match cs, hl with
 | [c0, c1, c2, c3], _ =>
  obtain ⟨n0, e0⟩ := hg 0 _ rfl _ hI
  obtain ⟨n1, e1⟩ := hg 1 _ rfl _ hI
  obtain ⟨n2, e2⟩ := hg 2 _ rfl _ hI
  obtain ⟨n3, e3⟩ := hg 3 _ rfl _ hI
  simp [h3] at e0 e1 e2 e3
  subst e0 e1 e2 e3
  exact ⟨⟨n0, n1, n2, n3⟩, rfl⟩
theorem reads_Cells : Reads Tryz.prog 55 fun w cs => ∃ v xs, cs = [v] ∧ Sl w 4 Cell.cells v xs :=
 Reads.slice Tryz.underlying55 (by kernel_rfl) (by decide) (of_decide_eq_true (by kernel_rfl)) reads_Cell
theorem reads_Sight : Reads Tryz.prog 124 fun _ cs => ∃ x : Sight, cs = x.cells := fun H e w base sp held fuel cs d p h hf => by
 obtain ⟨hl, hg⟩ := Reads.struct Tryz.underlying124 H e w base sp held fuel cs d p h hf
 have hk : Tryz.prog.cellsOf 124 = 5 := by kernel_rfl
 have h3 : Tryz.prog.cellsOf 3 = 1 := by kernel_rfl
 rw [hk] at hl
 have hI := @Reads.int Tryz.prog 3 Tryz.underlying3
 match cs, hl with
 | [c0, c1, c2, c3, c4], _ =>
  obtain ⟨n0, e0⟩ := hg 0 _ rfl _ hI
  obtain ⟨n1, e1⟩ := hg 1 _ rfl _ hI
  obtain ⟨n2, e2⟩ := hg 2 _ rfl _ hI
  obtain ⟨n3, e3⟩ := hg 3 _ rfl _ hI
  obtain ⟨n4, e4⟩ := hg 4 _ rfl _ hI
  simp [h3] at e0 e1 e2 e3 e4
  subst e0 e1 e2 e3 e4
  exact ⟨⟨n0, n1, n2, n3, n4⟩, rfl⟩
theorem reads_Sights : Reads Tryz.prog 60 fun w cs => ∃ v xs, cs = [v] ∧ Sl w 5 Sight.cells v xs :=
 Reads.slice Tryz.underlying60 (by kernel_rfl) (by decide) (of_decide_eq_true (by kernel_rfl)) reads_Sight
theorem reads_Change : Reads Tryz.prog 92 fun _ cs => ∃ x : Change, cs = x.cells := fun H e w base sp held fuel cs d p h hf => by
 obtain ⟨hl, hg⟩ := Reads.struct Tryz.underlying92 H e w base sp held fuel cs d p h hf
 have hk : Tryz.prog.cellsOf 92 = 5 := by kernel_rfl
 have h3 : Tryz.prog.cellsOf 3 = 1 := by kernel_rfl
 rw [hk] at hl
 have hI := @Reads.int Tryz.prog 3 Tryz.underlying3
 match cs, hl with
 | [c0, c1, c2, c3, c4], _ =>
  obtain ⟨n0, e0⟩ := hg 0 _ rfl _ hI
  obtain ⟨n1, e1⟩ := hg 1 _ rfl _ hI
  obtain ⟨n2, e2⟩ := hg 2 _ rfl _ hI
  obtain ⟨n3, e3⟩ := hg 3 _ rfl _ hI
  obtain ⟨n4, e4⟩ := hg 4 _ rfl _ hI
  simp [h3] at e0 e1 e2 e3 e4
  subst e0 e1 e2 e3 e4
  exact ⟨⟨n0, n1, n2, n3, n4⟩, rfl⟩
theorem reads_Changes : Reads Tryz.prog 61 fun w cs => ∃ v xs, cs = [v] ∧ Sl w 5 Change.cells v xs :=
 Reads.slice Tryz.underlying61 (by kernel_rfl) (by decide) (of_decide_eq_true (by kernel_rfl)) reads_Change
theorem reads_pair : Reads Tryz.prog 77 fun _ cs => ∃ x : Int × Int, cs = pairC x := fun H e w base sp held fuel cs d p h hf => by
 obtain ⟨a, b, h1⟩ := reads_two H e w base sp held fuel cs d p h hf
 exact ⟨(a, b), h1⟩
theorem reads_pairs : Reads Tryz.prog 56 fun w cs => ∃ v xs, cs = [v] ∧ Sl w 2 pairC v xs :=
 Reads.slice Tryz.underlying56 (by kernel_rfl) (by decide) (of_decide_eq_true (by kernel_rfl)) reads_pair
theorem reads_intCs : Reads Tryz.prog 59 fun w cs => ∃ v xs, cs = [v] ∧ Sl w 1 intC v xs := reads_ints
def BasinAt (w : World) (b : Basin) (vc vp : Value) : Prop := Sl w 4 Cell.cells vc b.cells ∧ Sl w 2 pairC vp b.pairs
theorem reads_Basin : Reads Tryz.prog 58 fun w cs => ∃ (b : Basin) (vc vp : Value), cs = [vc, vp, I b.gain, I b.slack, I b.deep] ∧ BasinAt w b vc vp := fun H e w base sp held fuel cs d p h hf => by
 obtain ⟨hl, hg⟩ := Reads.struct Tryz.underlying58 H e w base sp held fuel cs d p h hf
 have hk : Tryz.prog.cellsOf 58 = 5 := by kernel_rfl
 have h3 : Tryz.prog.cellsOf 3 = 1 := by kernel_rfl
 have h1 : Tryz.prog.cellsOf 55 = 1 := by kernel_rfl
 have h2 : Tryz.prog.cellsOf 56 = 1 := by kernel_rfl
 rw [hk] at hl
 have hI := @Reads.int Tryz.prog 3 Tryz.underlying3
 match cs, hl with
 | [c0, c1, c2, c3, c4], _ =>
  obtain ⟨v0, x0, e0, s0⟩ := hg 0 _ rfl _ reads_Cells
  obtain ⟨v1, x1, e1, s1⟩ := hg 1 _ rfl _ reads_pairs
  obtain ⟨n2, e2⟩ := hg 2 _ rfl _ hI
  obtain ⟨n3, e3⟩ := hg 3 _ rfl _ hI
  obtain ⟨n4, e4⟩ := hg 4 _ rfl _ hI
  simp [h3, h1, h2] at e0 e1 e2 e3 e4
  subst e0 e1 e2 e3 e4
  exact ⟨⟨x0, x1, n2, n3, n4⟩, _, _, rfl, s0, s1⟩
theorem reads_Scene : Reads Tryz.prog 63 fun w cs => ∃ (s : Scene) (V : SceneV), Value.agg cs.toArray = s.v V ∧ SceneAt w s V := fun H e w base sp held fuel cs d p h hf => by
 obtain ⟨hl, hg⟩ := Reads.struct Tryz.underlying63 H e w base sp held fuel cs d p h hf
 have hk : Tryz.prog.cellsOf 63 = 8 := by kernel_rfl
 have h5 : Tryz.prog.cellsOf 58 = 5 := by kernel_rfl
 have h1 : Tryz.prog.cellsOf 59 = 1 := by kernel_rfl
 have h2 : Tryz.prog.cellsOf 60 = 1 := by kernel_rfl
 have h3 : Tryz.prog.cellsOf 61 = 1 := by kernel_rfl
 rw [hk] at hl
 match cs, hl with
 | [c0, c1, c2, c3, c4, c5, c6, c7], _ =>
  obtain ⟨b, vc, vp, e0, s0⟩ := hg 0 _ rfl _ reads_Basin
  obtain ⟨v5, x5, e5, s5⟩ := hg 1 _ rfl _ reads_intCs
  obtain ⟨v6, x6, e6, s6⟩ := hg 2 _ rfl _ reads_Sights
  obtain ⟨v7, x7, e7, s7⟩ := hg 3 _ rfl _ reads_Changes
  simp [h5, h1, h2, h3] at e0 e5 e6 e7
  obtain ⟨rfl, rfl, rfl, rfl, rfl⟩ := e0
  subst e5 e6 e7
  exact ⟨⟨b, x5, x6, x7⟩, ⟨_, _, _, _, _⟩, rfl, s0.1, s0.2, s5, s6, s7⟩
theorem Arg.scene {W : World} {v : Value} (h : Arg Tryz.prog W 63 v) : ∃ (s : Scene) (V : SceneV), v = s.v V ∧ SceneAt W s V := by
 obtain ⟨cs, rfl, s, V, h1, h2⟩ := h.struct Tryz.underlying63 reads_Scene
 exact ⟨s, V, h1, h2⟩
theorem Arg.basin {W : World} {v : Value} (h : Arg Tryz.prog W 58 v) : ∃ (b : Basin) (vc vp : Value), v = .agg #[vc, vp, I b.gain, I b.slack, I b.deep] ∧ BasinAt W b vc vp := by
 obtain ⟨cs, rfl, b, vc, vp, rfl, h2⟩ := h.struct Tryz.underlying58 reads_Basin
 exact ⟨b, vc, vp, rfl, h2⟩
structure SprL where
 no : Int
 dv : Value
 days : List Weather
def SprL.cells (x : SprL) : List Value := [I x.no, x.dv]
def SprL.spring (x : SprL) : Spring := ⟨x.no, x.days⟩
def SprsAt (w : World) (v : Value) (xs : List SprL) : Prop := Sl w 2 SprL.cells v xs ∧ ∀ x ∈ xs, Sl w 3 Weather.cells x.dv x.days
theorem SprsAt.mono {w w' : World} {v : Value} {xs : List SprL} (h : SprsAt w v xs) (hb : Below w.heap.size w w') : SprsAt w' v xs := ⟨h.1.mono hb, fun x hx => (h.2 x hx).mono hb⟩
end
end Go.Proofs.YtmjfdobjnnfafaaGreatDoor
