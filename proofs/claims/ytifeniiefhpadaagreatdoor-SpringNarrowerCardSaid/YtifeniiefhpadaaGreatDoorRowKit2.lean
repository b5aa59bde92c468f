/- The row of a law: what its walk shows, and what its arguments read as, is what the row says. The arguments of the laws of chapter 6. Conditions stand in the theorems. -/
import Derived.Test.YtifeniiefhpadaaGreatDoorRowKit1
import Derived.Test.YtifeniiefhpadaaGreatDoorSpringDefsPack
import Derived.Test.YtifeniiefhpadaaGreatDoorChecked
import Derived.LaidHandle
import Derived.SevenTiedAt
import Derived.MakeChecks
set_option linter.all false
set_option maxRecDepth 100000
namespace Go.Proofs.YtifeniiefhpadaaGreatDoor
open Go.ChangeShapes Go.WideShapes Go.RowKit Go.Deep

theorem law_lifted {C : Checked} {os : Os} {K : FuncId} {fn : Func} {s : ChangeSpec} {laid : List (String × DataW Unit)} {H : Type} {enc : TypeId × Value → H} {tb : TypeId}
  (own : ownKnob C.prog.godebug = none) (started : os.Started) (noInit : C.prog.inits.idxOf? K = none) (hfn : C.prog.funcs[K]? = some fn)
  (hl : laidOutB C.prog = true) (hr : ∀ t ∈ fn.params.toList, C.prog.readableRec t = true) (hrow : ∀ t ∈ fn.params.toList, t < C.prog.types.size)
  (hres : fn.resultTypes = #[tb]) (htb : C.prog.underlying tb = some .bool) (hv : s.vars = [])
  (hfun : ∀ ds : List (DataW H), ds.length = fn.params.size → s.fn H ds = { results := [.lit (.bool true)], args := ds })
  (wit : ∃ (w : World) (tape : Tape) (i : Input), w.os = os ∧ (w.forCall tape i).Shaped C.prog ∧ i.vars = [] ∧ Input.okWide C.prog (w.forCall tape i) .any w.heap.size K i ∧
   ((s.pre enc C.prog fn [] false (w.forCall tape i).memory i.args ∧ laidMetH C.prog laid (w.forCall tape i).memory) ∧ sizedMet enc C.prog fn (OpenSpec.ofChange s) false (w.forCall tape i).memory i.args) ∧ ({} : Assume).holds C.prog (lone (Frame.enter C.prog K i.args .normal) [] (w.forCall tape i)))
  (law : ∀ (W : World) (args : Array Value), args.size = fn.params.size → (∀ (j : Nat) t v, fn.params[j]? = some t → args[j]? = some v → Arg C.prog W t v) → laidMetH C.prog laid W →
   Calls C.prog K args W fun e w' => e = .returned (.bool true) ∧ Below W.heap.size W w') :
  ReturnsInHanded {} C os K .any (fun w args => (s.pre enc C.prog fn [] false w args ∧ laidMetH C.prog laid w) ∧ sizedMet enc C.prog fn (OpenSpec.ofChange s) false w args) (s.post enc C.prog fn false true false false) := by
 refine returnsInHanded_of_change_and (C := C) (X := fun w _ => laidMetH C.prog laid w) (fun _ _ _ hh h => h.of_heap hh) own started noInit hfn wit ?_
 intro W base args ds gs before hval hW _ hz hL _
 have hW' := hW
 obtain ⟨p, q, hA, hV, rfl, _, _⟩ := hW
 rw [hv] at hV
 obtain ⟨rfl, rfl⟩ := trodVars_none hV
 obtain ⟨hdl, hvl, hget⟩ := trodAll_get hA
 simp only [List.append_nil] at hW' hz
 refine (law W args (by simpa using hvl) (fun j t v hj hjv => ⟨⟨base, hval j t v hj hjv⟩, fun Q hQ => ?_⟩) hL).mono fun e W' ⟨he, hb⟩ => ?_
 ·obtain ⟨d, pd, hd, fuel, hf⟩ := hget j t v (by simpa using hj) (by simpa using hjv)
  refine hQ H enc W 0 _ true fuel _ d pd hf fun n hn => ?_
  have hm := DataW.weights_mem_each (P := C.prog) (ts := fn.params.toList ++ s.plain.varTypes C.prog) (ds := ds) (j := j) (t := t) (d := d)
   (by rw [List.getElem?_append_left (by have := (List.getElem?_eq_some_iff.1 hd).1; omega)]; simpa using hj) hd n hn
  exact of_decide_eq_true (List.all_eq_true.1 hz _ hm)
 ·subst he
  have hlt : ∀ x ∈ p, x.block < W.heap.size := fun x hx => hW'.lt x hx
  refine ⟨_, rfl, ds, [], p, [], p, [], hW', ?_, ?_, ?_, World.keptBut_mono (fun _ h => h) (hb.frame _), fun h => by cases h⟩
  ·rw [List.append_nil, hfun ds (by simpa using hdl), hres]
   exact trodAll_mk1 (shut_bool htb true)
  ·rw [List.append_nil, hfun ds (by simpa using hdl)]
   exact trodAll_grow hl hb hr hrow hA hlt (fun x hx => by simpa using hlt x hx)
  ·rw [List.append_nil, hfun ds (by simpa using hdl), hv]
   rfl

section
open Go.Proofs.YtifeniiefhpadaaGreatDoor
theorem reads_Span : Reads Tryz.prog 23 fun _ cs => ∃ a b : Int, cs = [I a, I b] := fun H e w base sp held fuel cs d p h hf => by
 obtain ⟨hl, hg⟩ := Reads.struct Tryz.underlying23 H e w base sp held fuel cs d p h hf
 have hk : Tryz.prog.cellsOf 23 = 2 := by kernel_rfl
 have h3 : Tryz.prog.cellsOf 3 = 1 := by kernel_rfl
 rw [hk] at hl
 have hI := @Reads.int Tryz.prog 3 Tryz.underlying3
 match cs, hl with
 | [c0, c1], _ =>
  obtain ⟨n0, e0⟩ := hg 0 _ rfl _ hI
  obtain ⟨n1, e1⟩ := hg 1 _ rfl _ hI
  simp [h3] at e0 e1
  subst e0 e1
  exact ⟨n0, n1, rfl⟩
theorem reads_Weather : Reads Tryz.prog 28 fun _ cs => ∃ x : Weather, cs = x.cells := fun H e w base sp held fuel cs d p h hf => by
 obtain ⟨hl, hg⟩ := Reads.struct Tryz.underlying28 H e w base sp held fuel cs d p h hf
 have hk : Tryz.prog.cellsOf 28 = 3 := by kernel_rfl
 have h3 : Tryz.prog.cellsOf 3 = 1 := by kernel_rfl
 rw [hk] at hl
 have hI := @Reads.int Tryz.prog 3 Tryz.underlying3
 match cs, hl with
 | [c0, c1, c2], _ =>
  obtain ⟨n0, e0⟩ := hg 0 _ rfl _ hI
  obtain ⟨n1, e1⟩ := hg 1 _ rfl _ hI
  obtain ⟨n2, e2⟩ := hg 2 _ rfl _ hI
  simp [h3] at e0 e1 e2
  subst e0 e1 e2
  exact ⟨⟨n0, n1, n2⟩, rfl⟩
theorem reads_Climate : Reads Tryz.prog 25 fun _ cs => ∃ c : Climate, Value.agg cs.toArray = c.v := fun H e w base sp held fuel cs d p h hf => by
 obtain ⟨hl, hg⟩ := Reads.struct Tryz.underlying25 H e w base sp held fuel cs d p h hf
 have hk : Tryz.prog.cellsOf 25 = 8 := by kernel_rfl
 have h3 : Tryz.prog.cellsOf 3 = 1 := by kernel_rfl
 have h2 : Tryz.prog.cellsOf 23 = 2 := by kernel_rfl
 rw [hk] at hl
 have hI := @Reads.int Tryz.prog 3 Tryz.underlying3
 match cs, hl with
 | [c0, c1, c2, c3, c4, c5, c6, c7], _ =>
  obtain ⟨n0, e0⟩ := hg 0 _ rfl _ hI
  obtain ⟨n1, e1⟩ := hg 1 _ rfl _ hI
  obtain ⟨n2, e2⟩ := hg 2 _ rfl _ hI
  obtain ⟨n3, e3⟩ := hg 3 _ rfl _ hI
  obtain ⟨n4, e4⟩ := hg 4 _ rfl _ hI
  obtain ⟨n5, e5⟩ := hg 5 _ rfl _ hI
  obtain ⟨n6, n7, e6⟩ := hg 6 _ rfl _ reads_Span
  simp [h3, h2] at e0 e1 e2 e3 e4 e5 e6
  obtain ⟨e6, e7⟩ := e6
  subst e0 e1 e2 e3 e4 e5 e6 e7
  exact ⟨⟨n0, n1, n2, n3, n4, n5, n6, n7⟩, rfl⟩
theorem reads_Weathers : Reads Tryz.prog 26 fun w cs => ∃ v xs, cs = [v] ∧ Sl w 3 Weather.cells v xs :=
 Reads.slice Tryz.underlying26 (by kernel_rfl) (by decide) (of_decide_eq_true (by kernel_rfl)) reads_Weather
theorem reads_Spring : Reads Tryz.prog 58 fun w cs => ∃ (no : Int) (vd : Value) (p : List Weather), cs = [I no, vd] ∧ Sl w 3 Weather.cells vd p := fun H e w base sp held fuel cs d p h hf => by
 obtain ⟨hl, hg⟩ := Reads.struct Tryz.underlying58 H e w base sp held fuel cs d p h hf
 have hk : Tryz.prog.cellsOf 58 = 2 := by kernel_rfl
 have h3 : Tryz.prog.cellsOf 3 = 1 := by kernel_rfl
 have h1 : Tryz.prog.cellsOf 26 = 1 := by kernel_rfl
 rw [hk] at hl
 have hI := @Reads.int Tryz.prog 3 Tryz.underlying3
 match cs, hl with
 | [c0, c1], _ =>
  obtain ⟨n0, e0⟩ := hg 0 _ rfl _ hI
  obtain ⟨v, xs, e1, hs⟩ := hg 1 _ rfl _ reads_Weathers
  simp [h3, h1] at e0 e1
  subst e0 e1
  exact ⟨n0, c1, xs, rfl, hs⟩
theorem reads_two : Reads Tryz.prog 161 fun _ cs => ∃ a b : Int, cs = [I a, I b] := fun H e w base sp held fuel cs d p h hf => by
 obtain ⟨hl, hg⟩ := Reads.array Tryz.underlying161 H e w base sp held fuel cs d p h hf
 have hk : Tryz.prog.cellsOf 161 = 2 := by kernel_rfl
 have h3 : Tryz.prog.cellsOf 3 = 1 := by kernel_rfl
 rw [hk] at hl
 have hI := @Reads.int Tryz.prog 3 Tryz.underlying3
 match cs, hl with
 | [c0, c1], _ =>
  obtain ⟨n0, e0⟩ := hg 0 (by decide) _ hI
  obtain ⟨n1, e1⟩ := hg 1 (by decide) _ hI
  simp [h3] at e0 e1
  subst e0 e1
  exact ⟨n0, n1, rfl⟩
theorem reads_ints : Reads Tryz.prog 42 fun w cs => ∃ v xs, cs = [v] ∧ Sl w 1 (fun n : Int => [I n]) v xs :=
 Reads.slice Tryz.underlying42 (by kernel_rfl) (by decide) (of_decide_eq_true (by kernel_rfl)) (Reads.int Tryz.underlying3)

theorem Arg.climate {W : World} {v : Value} (h : Arg Tryz.prog W 25 v) : ∃ c : Climate, v = c.v := by
 obtain ⟨cs, rfl, c, hc⟩ := h.struct Tryz.underlying25 reads_Climate
 exact ⟨c, hc⟩
theorem Arg.weather {W : World} {v : Value} (h : Arg Tryz.prog W 28 v) : ∃ x : Weather, v = x.v := by
 obtain ⟨cs, rfl, x, rfl⟩ := h.struct Tryz.underlying28 reads_Weather
 exact ⟨x, rfl⟩
theorem Arg.spring {W : World} {v : Value} (h : Arg Tryz.prog W 58 v) : ∃ (no : Int) (vd : Value) (p : List Weather), v = .agg #[I no, vd] ∧ Sl W 3 Weather.cells vd p := by
 obtain ⟨cs, rfl, no, vd, p, rfl, hs⟩ := h.struct Tryz.underlying58 reads_Spring
 exact ⟨no, vd, p, rfl, hs⟩
theorem Arg.two {W : World} {v : Value} (h : Arg Tryz.prog W 161 v) : ∃ a b : Int, v = .agg #[I a, I b] := by
 obtain ⟨cs, rfl, a, b, rfl⟩ := h.array Tryz.underlying161 reads_two
 exact ⟨a, b, rfl⟩
theorem Arg.weathers {W : World} {v : Value} (h : Arg Tryz.prog W 26 v) : ∃ xs, Sl W 3 Weather.cells v xs :=
 h.sl Tryz.underlying26 (by kernel_rfl) (by decide) (of_decide_eq_true (by kernel_rfl)) reads_Weather
theorem Arg.ints {W : World} {v : Value} (h : Arg Tryz.prog W 42 v) : ∃ xs, Sl W 1 (fun n : Int => [I n]) v xs :=
 h.sl Tryz.underlying42 (by kernel_rfl) (by decide) (of_decide_eq_true (by kernel_rfl)) (Reads.int Tryz.underlying3)
end
end Go.Proofs.YtifeniiefhpadaaGreatDoor
