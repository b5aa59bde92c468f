/- From what a row reads to what a contract asks: an argument's cells, by its type. Conditions stand in the theorems. -/
import Derived.Test.YtgbbljfmngmjeaaGreatBasePack
import Derived.ProofKit
import Derived.Lay
import Derived.LaidLaws
import Derived.SizedLaws
import Derived.Lib.LaidTab
import Derived.Handed
import Derived.Deep.Slices
import Derived.OpenShut
import Derived.DataReads
import Derived.Stop.LaidErr
import Derived.Test.YtgbbljfmngmjeaaGreatChecked
import Derived.Test.YtgbbljfmngmjeaaGreatReachPack
import Derived.Test.YtgbbljfmngmjeaaGreatRows
set_option linter.all false
set_option maxRecDepth 100000
namespace Go.Proofs.YtgbbljfmngmjeaaGreat
open Go.ChangeShapes Go.WideShapes Go.RowKit Go.Deep

def Fits {H : Type} (P : Program) (t : TypeId) (d : DataW H) : Prop := ∀ n ∈ d.weights P t, n ≤ reachBytes
def Reads (P : Program) (t : TypeId) (Q : World → List Value → Prop) : Prop :=
 ∀ (H : Type) (e : TypeId × Value → H) (w : World) (base : Nat) (sp : Nat → Bool) (held : Bool) (fuel : Nat) (cs : List Value) (d : DataW H) (p : List MemPlace), DataW.trod e P w base sp held fuel t cs = some (d, p) → Fits P t d → Q w cs

section
variable {P : Program}
theorem Reads.int {t : TypeId} (ht : P.underlying t = some (.int .i64)) : Reads P t fun _ cs => ∃ n : Int, cs = [I n] := by
 intro H e w base sp held fuel cs d p h _
 obtain ⟨n, h1, _, _⟩ := DataW.trod_int ht h
 exact ⟨n, h1⟩
theorem Reads.str {t : TypeId} (ht : P.underlying t = some .string) : Reads P t fun _ cs => ∃ s : ByteArray, cs = [.string s] ∧ s.size ≤ reachBytes := by
 intro H e w base sp held fuel cs d p h hf
 obtain ⟨s, h1, h2, _⟩ := DataW.trod_string ht h
 refine ⟨s, h1, ?_⟩
 obtain ⟨rfl, _⟩ := Prod.mk.inj h2
 have := hf s.data.toList.length (by simp [DataW.weights])
 simpa using this
theorem fits_each {H : Type} {ts : List TypeId} {ds : List (DataW H)} (h : ∀ n ∈ DataW.weightsEach P ts ds, n ≤ reachBytes) {j : Nat} {t : TypeId} {d : DataW H} (ht : ts[j]? = some t) (hd : ds[j]? = some d) : Fits P t d :=
 fun n hn => h n (DataW.weights_mem_each ht hd n hn)
theorem weights_all {H : Type} {e : TypeId} : ∀ {ds : List (DataW H)} {j : Nat} {d : DataW H}, ds[j]? = some d → ∀ n ∈ d.weights P e, n ∈ DataW.weightsAll P e ds
 | [], _, _, h, _, _ => by cases h
 | x :: xs, 0, d, h, n, hn => by
  obtain rfl : x = d := Option.some.inj h
  rw [DataW.weightsAll]
  exact List.mem_append.2 (.inl hn)
 | x :: xs, j + 1, d, h, n, hn => by
  rw [DataW.weightsAll]
  exact List.mem_append.2 (.inr (weights_all (ds := xs) (j := j) h n hn))
theorem Reads.struct {t : TypeId} {fs : Array Field} (ht : P.underlying t = some (.struct fs)) :
  Reads P t fun w cs => cs.length = P.cellsOf t ∧ ∀ (j : Nat) (f : Field), fs[j]? = some f → ∀ Q, Reads P f.type Q → Q w ((cs.drop f.offset).take (P.cellsOf f.type)) := by
 intro H e w base sp held fuel cs d p h hf
 obtain ⟨xs, n, _, hx, hl, hn, hg⟩ := DataW.trod_struct ht h
 obtain ⟨rfl, rfl⟩ := Prod.mk.inj hx
 refine ⟨hl, fun j f hj Q hQ => ?_⟩
 have h1 := hg j f hj
 have hjl : j < xs.length := by rw [hn]; exact (Array.getElem?_eq_some_iff.1 hj).1
 rw [List.getElem?_eq_getElem hjl] at h1
 refine hQ H e w base sp held n _ (xs[j]).1 (xs[j]).2 h1 ?_
 refine fits_each (ts := fs.toList.map (·.type)) (ds := xs.map (·.1)) (fun m hm => hf m ?_) (j := j) ?_ ?_
 ·rw [DataW.weights, ht]
  exact hm
 ·simp [hj]
 ·simp [hjl]
theorem Reads.array {t e : TypeId} {n : Nat} (ht : P.underlying t = some (.array n e)) :
  Reads P t fun w cs => cs.length = P.cellsOf t ∧ ∀ i, i < n → ∀ Q, Reads P e Q → Q w ((cs.drop (i * P.cellsOf e)).take (P.cellsOf e)) := by
 intro H enc w base sp held fuel cs d p h hf
 obtain ⟨xs, m, _, hx, hl, hn, hg⟩ := DataW.trod_array ht h
 obtain ⟨rfl, rfl⟩ := Prod.mk.inj hx
 refine ⟨hl, fun j hj Q hQ => ?_⟩
 have h1 := hg j hj
 have hjl : j < xs.length := by omega
 rw [List.getElem?_eq_getElem hjl] at h1
 refine hQ H enc w base sp held m _ (xs[j]).1 (xs[j]).2 h1 fun k hk => hf k ?_
 rw [DataW.weights, ht]
 exact weights_all (j := j) (by simp [hjl]) k hk
theorem list_of {α : Type} {p : Nat → α → Prop} : ∀ n : Nat, (∀ i, i < n → ∃ x, p i x) → ∃ xs : List α, xs.length = n ∧ ∀ i x, xs[i]? = some x → p i x
 | 0, _ => ⟨[], rfl, fun i x h => by simp at h⟩
 | n + 1, h => by
  obtain ⟨xs, h1, h2⟩ := list_of n fun i hi => h i (by omega)
  obtain ⟨x, hx⟩ := h n (by omega)
  refine ⟨xs ++ [x], by simp [h1], fun i y hy => ?_⟩
  rcases Nat.lt_or_ge i n with k | k
  ·rw [List.getElem?_append_left (by omega)] at hy
   exact h2 i y hy
  ·rw [List.getElem?_append_right (by omega)] at hy
   have hi : i = n := by
    rcases Nat.lt_or_ge n i with k2 | k2
    ·rw [List.getElem?_eq_none (by simp; omega)] at hy
     cases hy
    ·omega
   subst hi
   simp [h1] at hy
   subst hy
   exact hx
theorem spot_none {w : World} {a : Addr} {v : Value} (h : w.cell? a = some v) : a.spot = none ∧ a.block < w.heap.size := by
 unfold World.cell? at h
 split at h
 ·rename_i c t fr hb
  split at h
  ·cases h
  ·rename_i hs
   refine ⟨by cases hz : a.spot <;> simp_all, ?_⟩
   exact (Array.getElem?_eq_some_iff.1 hb).1
 ·cases h
theorem add_plain (b o n : Nat) : (Addr.mk b o none).add n = ⟨b, o + n, none⟩ := by
 unfold Addr.add
 split
 ·rename_i h
  subst h
  rfl
 ·rfl
theorem Reads.slice {α : Type} {t e : TypeId} {k : Nat} {enc : α → List Value} (ht : P.underlying t = some (.slice e)) (hC : P.cellsOf e = k) (hk : 0 < k) (hb : 0 < P.bytesOf e) (hE : Reads P e fun _ cs => ∃ a, cs = enc a) :
  Reads P t fun w cs => ∃ v xs, cs = [v] ∧ Sl w k enc v xs := by
 intro H f w base sp held fuel cs d p h hf
 rcases open_slice ht h with ⟨rfl, _⟩ | ⟨a, len, cap, m, n, D, Pl, rfl, hba, hl, hm, hmm, hx, hi⟩
 ·exact ⟨_, [], rfl, Sl.nil w k enc⟩
 obtain ⟨rfl, rfl⟩ := Prod.mk.inj hx
 have hlm : len ≤ m := by rw [hmm]; split <;> omega
 have hw := hf ((len + (m - len)) * P.bytesOf e) (by simp [DataW.weights, ht])
 have hlen : len ≤ 140737488355328 := by
  have h1 : len ≤ (len + (m - len)) * P.bytesOf e := Nat.le_trans (Nat.le_add_right _ _) (Nat.le_mul_of_pos_right _ hb)
  have h2 : reachBytes ≤ 140737488355328 := by decide
  omega
 obtain ⟨xs, hxl, hxs⟩ := list_of (p := fun i x => w.cells? base (a.add (i * k)) k = some (enc x)) len fun i hil => by
  obtain ⟨cs', h1, h2⟩ := hi i (by omega)
  rw [hC] at h1
  have hfit : Fits P e (D i) := fun q hq => hf q (by
   rw [DataW.weights, ht]
   refine List.mem_cons_of_mem _ (List.mem_append.2 (.inl ?_))
   exact weights_all (j := i) (by simp [hil]) q hq)
  obtain ⟨x, rfl⟩ := hE H f w base sp held n cs' (D i) (Pl i) h2 hfit
  exact ⟨x, h1⟩
 refine ⟨_, xs, rfl, some a, cap, by rw [hxl], by omega, ⟨hm, by omega⟩, fun h0 => ?_⟩
 have hx0 : xs[0]? = some (xs[0]'h0) := List.getElem?_eq_getElem h0
 obtain ⟨_, hl0, hc0⟩ := World.cells?_some (hxs 0 _ hx0)
 have hc00 := hc0 0 hk
 rw [List.getElem?_eq_getElem (by omega)] at hc00
 have ha : (a.add (0 * k)).add 0 = a := by simp [Addr.add]
 rw [ha] at hc00
 obtain ⟨hs, hlt⟩ := spot_none hc00
 obtain ⟨b, o, s⟩ := a
 dsimp only at hs hlt
 subst hs
 refine ⟨b, o, rfl, hlt, fun i x hix j u hu => ?_⟩
 obtain ⟨_, hli, hci⟩ := World.cells?_some (hxs i x hix)
 have hj : j < k := by
  rw [← hli]
  exact (List.getElem?_eq_some_iff.1 hu).1
 have := hci j hj
 rw [add_plain, add_plain, hu] at this
 exact this

def Arg (P : Program) (W : World) (t : TypeId) (v : Value) : Prop := (∃ base, Value.okWide P W .any base t v) ∧ ∀ Q, Reads P t Q → Q W v.cells.toList
theorem Arg.int {W : World} {t : TypeId} {v : Value} (h : Arg P W t v) (ht : P.underlying t = some (.int .i64)) : ∃ n, v = I n := by
 obtain ⟨⟨b, h1⟩, _⟩ := h
 exact okWide_int ht h1
theorem Arg.str {W : World} {t : TypeId} {v : Value} (h : Arg P W t v) (ht : P.underlying t = some .string) : ∃ s : ByteArray, v = .string s ∧ s.size ≤ reachBytes := by
 obtain ⟨⟨b, h1⟩, h2⟩ := h
 obtain ⟨s, rfl⟩ := okWide_string ht h1
 obtain ⟨s', h3, h4⟩ := h2 _ (Reads.str ht)
 simp [Value.cells] at h3
 subst h3
 exact ⟨s, rfl, h4⟩
theorem Arg.sl {α : Type} {W : World} {t e : TypeId} {v : Value} {k : Nat} {enc : α → List Value} (h : Arg P W t v) (ht : P.underlying t = some (.slice e)) (hC : P.cellsOf e = k) (hk : 0 < k) (hb : 0 < P.bytesOf e) (hE : Reads P e fun _ cs => ∃ a, cs = enc a) : ∃ xs, Sl W k enc v xs := by
 obtain ⟨⟨b, h1⟩, h2⟩ := h
 obtain ⟨a, len, cap, rfl⟩ := okWide_slice ht h1
 obtain ⟨v', xs, h3, h4⟩ := h2 _ (Reads.slice ht hC hk hb hE)
 simp [Value.cells] at h3
 subst h3
 exact ⟨xs, h4⟩
theorem Arg.struct {W : World} {t : TypeId} {fs : Array Field} {v : Value} (h : Arg P W t v) (ht : P.underlying t = some (.struct fs)) {Q : World → List Value → Prop} (hQ : Reads P t Q) : ∃ cs : List Value, v = .agg cs.toArray ∧ Q W cs := by
 obtain ⟨⟨b, h1⟩, h2⟩ := h
 obtain ⟨cs, rfl, _⟩ := okWide_struct ht h1
 exact ⟨cs.toList, by simp, h2 _ hQ⟩
theorem okWide_arr {t e : TypeId} {n : Nat} {w : World} {r : Reach} {base : Nat} {v : Value} (ht : P.underlying t = some (.array n e)) (h : Value.okWide P w r base t v) : ∃ cs, v = .agg cs ∧ cs.size = P.cellsOf t := by
 simp only [Value.okWide, ht] at h
 obtain ⟨cs, h1, h2, _⟩ := h
 exact ⟨cs, h1, h2⟩
theorem Arg.array {W : World} {t e : TypeId} {n : Nat} {v : Value} (h : Arg P W t v) (ht : P.underlying t = some (.array n e)) {Q : World → List Value → Prop} (hQ : Reads P t Q) : ∃ cs : List Value, v = .agg cs.toArray ∧ Q W cs := by
 obtain ⟨⟨b, h1⟩, h2⟩ := h
 obtain ⟨cs, rfl, _⟩ := okWide_arr ht h1
 exact ⟨cs.toList, by simp, h2 _ hQ⟩

theorem trodAll_get {H : Type} {enc : TypeId × Value → H} {w : World} {base : Nat} {sp : Nat → Bool} {held : Bool} : ∀ {ts : List TypeId} {vs : List Value} {ds : List (DataW H)} {ps : List MemPlace}, DataW.TrodAll enc P w base sp held ts vs ds ps →
  ds.length = ts.length ∧ vs.length = ts.length ∧ ∀ (j : Nat) t v, ts[j]? = some t → vs[j]? = some v → ∃ d p, ds[j]? = some d ∧ DataW.Trod enc P w base sp held t v d p
 | [], vs, ds, ps, h => by
  obtain ⟨rfl, rfl, _⟩ := trodAll_nil h
  exact ⟨rfl, rfl, fun j t v hj _ => by simp at hj⟩
 | t :: ts, vs, ds, ps, h => by
  obtain ⟨v, vs', d, ds', p, q, rfl, rfl, rfl, h1, h2⟩ := trodAll_cons h
  obtain ⟨a, b, c⟩ := trodAll_get h2
  refine ⟨by simp [a], by simp [b], fun j t' v' hj hv => ?_⟩
  cases j with
  | zero =>
   simp at hj hv
   subst hj; subst hv
   exact ⟨d, p, rfl, h1⟩
  | succ j => exact c j t' v' (by simpa using hj) (by simpa using hv)
theorem trodAll_grow {H : Type} {enc : TypeId × Value → H} {W W' : World} (hl : laidOutB P = true) (hb : Below W.heap.size W W') {sp' : Nat → Bool} : ∀ {ts : List TypeId} {vs : List Value} {ds : List (DataW H)} {ps : List MemPlace},
  (∀ t ∈ ts, P.readableRec t = true) → (∀ t ∈ ts, t < P.types.size) → DataW.TrodAll enc P W 0 (fun _ => true) true ts vs ds ps → (∀ x ∈ ps, x.block < W.heap.size) → (∀ x ∈ ps, sp' x.block = true) → DataW.TrodAll enc P W' 0 sp' true ts vs ds ps
 | [], vs, ds, ps, _, _, h, _, _ => by
  obtain ⟨rfl, rfl, rfl⟩ := trodAll_nil h
  rfl
 | t :: ts, vs, ds, ps, hr, hrow, h, hlt, hs => by
  obtain ⟨v, vs', d, ds', p, q, rfl, rfl, rfl, h1, h2⟩ := trodAll_cons h
  refine ⟨p, q, WideElems.Trod_stays hl (hr t (by simp)) (hrow t (by simp)) h1 (fun x hx => hb.same (hlt x (by simp [hx]))) (fun x hx => hs x (by simp [hx])), ?_, rfl⟩
  exact trodAll_grow hl hb (fun u hu => hr u (by simp [hu])) (fun u hu => hrow u (by simp [hu])) h2 (fun x hx => hlt x (by simp [hx])) (fun x hx => hs x (by simp [hx]))
end
end Go.Proofs.YtgbbljfmngmjeaaGreat
/- Rows of laws without tables; the arguments of the laws of chapter 7. Conditions stand in the theorems. -/
namespace Go.Proofs.YtgbbljfmngmjeaaGreat
open Go.ChangeShapes Go.WideShapes Go.RowKit Go.Deep

theorem law_liftedP {C : Checked} {os : Os} {K : FuncId} {fn : Func} {s : ChangeSpec} {H : Type} {enc : TypeId × Value → H} {tb : TypeId}
  (own : ownKnob C.prog.godebug = none) (started : os.Started) (noInit : C.prog.inits.idxOf? K = none) (hfn : C.prog.funcs[K]? = some fn)
  (hl : laidOutB C.prog = true) (hr : ∀ t ∈ fn.params.toList, C.prog.readableRec t = true) (hrow : ∀ t ∈ fn.params.toList, t < C.prog.types.size)
  (hres : fn.resultTypes = #[tb]) (htb : C.prog.underlying tb = some .bool) (hv : s.vars = [])
  (hfun : ∀ ds : List (DataW H), ds.length = fn.params.size → s.fn H ds = { results := [.lit (.bool true)], args := ds })
  (wit : ∃ (w : World) (tape : Tape) (i : Input), w.os = os ∧ (w.forCall tape i).Shaped C.prog ∧ i.vars = [] ∧ Input.okWide C.prog (w.forCall tape i) .any w.heap.size K i ∧
   s.pre6 enc C.prog fn [] false (w.forCall tape i).memory i.args ∧ ({} : Assume).holds C.prog (lone (Frame.enter C.prog K i.args .normal) [] (w.forCall tape i)))
  (law : ∀ (W : World) (args : Array Value), args.size = fn.params.size → (∀ (j : Nat) t v, fn.params[j]? = some t → args[j]? = some v → Arg C.prog W t v) →
   Calls C.prog K args W fun e w' => e = .returned (.bool true) ∧ Below W.heap.size W w') :
  ReturnsInHanded {} C os K .any (s.pre6 enc C.prog fn [] false) (s.post enc C.prog fn false true false false) := by
 refine returnsInHanded_of_change_sized (C := C) own started noInit hfn wit ?_
 intro W base args ds gs before hval hW _ hz _
 have hW' := hW
 obtain ⟨p, q, hA, hV, rfl, _, _⟩ := hW
 rw [hv] at hV
 obtain ⟨rfl, rfl⟩ := trodVars_none hV
 obtain ⟨hdl, hvl, hget⟩ := trodAll_get hA
 simp only [List.append_nil] at hW' hz
 refine (law W args (by simpa using hvl) (fun j t v hj hjv => ⟨⟨base, hval j t v hj hjv⟩, fun Q hQ => ?_⟩)).mono fun e W' ⟨he, hb⟩ => ?_
 ·obtain ⟨d, pd, hd, fuel, hf⟩ := hget j t v (by simpa using hj) (by simpa using hjv)
  refine hQ H enc W 0 _ true fuel _ d pd hf fun n hn => ?_
  have hm := DataW.weights_mem_each (P := C.prog) (ts := fn.params.toList ++ s.plain.varTypes C.prog) (ds := ds) (j := j) (t := t) (d := d)
   (by rw [List.getElem?_append_left (by have := (List.getElem?_eq_some_iff.1 hd).1; omega)]; simpa using hj) hd n hn
  exact of_decide_eq_true (List.all_eq_true.1 hz _ hm)
 ·subst he
  have hlt : ∀ x ∈ p, x.block < W.heap.size := fun x hx => hW'.lt x hx
  refine ⟨_, rfl, ds, [], p, [], p, [], hW', ?_, ?_, ?_, World.keptBut_mono (fun _ h => h) (hb.frame _), fun h => by cases h⟩
  ·rw [List.append_nil, hfun ds (by simpa using hdl), hres]
   exact trodAll_mk1 (shut_bool htb true)
  ·rw [List.append_nil, hfun ds (by simpa using hdl)]
   exact trodAll_grow hl hb hr hrow hA hlt (fun x hx => by simpa using hlt x hx)
  ·rw [List.append_nil, hfun ds (by simpa using hdl), hv]
   rfl
theorem reads_Site : Reads Tryz.prog 80 fun _ cs => ∃ x : Site, cs = x.cells := fun H e w base sp held fuel cs d p h hf => by
 obtain ⟨hl, hg⟩ := Reads.struct Tryz.underlying80 H e w base sp held fuel cs d p h hf
 have hk : Tryz.prog.cellsOf 80 = 3 := by kernel_rfl
 have h3 : Tryz.prog.cellsOf 3 = 1 := by kernel_rfl
 rw [hk] at hl
 have hI := @Reads.int Tryz.prog 3 Tryz.underlying3
 match cs, hl with
 | [c0, c1, c2], _ =>
  obtain ⟨n0, e0⟩ := hg 0 _ rfl _ hI
  obtain ⟨n1, e1⟩ := hg 1 _ rfl _ hI
  obtain ⟨n2, e2⟩ := hg 2 _ rfl _ hI
  simp [h3] at e0 e1 e2
  subst e0 e1 e2
  exact ⟨⟨n0, n1, n2⟩, rfl⟩
theorem reads_Track : Reads Tryz.prog 74 fun _ cs => ∃ x : Track, cs = x.cells := fun H e w base sp held fuel cs d p h hf => by
 obtain ⟨hl, hg⟩ := Reads.struct Tryz.underlying74 H e w base sp held fuel cs d p h hf
 have hk : Tryz.prog.cellsOf 74 = 6 := by kernel_rfl
 have h3 : Tryz.prog.cellsOf 3 = 1 := by kernel_rfl
 rw [hk] at hl
 have hI := @Reads.int Tryz.prog 3 Tryz.underlying3
 match cs, hl with
 | [c0, c1, c2, c3, c4, c5], _ =>
  obtain ⟨n0, e0⟩ := hg 0 _ rfl _ hI
  obtain ⟨n1, e1⟩ := hg 1 _ rfl _ hI
  obtain ⟨n2, e2⟩ := hg 2 _ rfl _ hI
  obtain ⟨n3, e3⟩ := hg 3 _ rfl _ hI
  obtain ⟨n4, e4⟩ := hg 4 _ rfl _ hI
  obtain ⟨n5, e5⟩ := hg 5 _ rfl _ hI
  simp [h3] at e0 e1 e2 e3 e4 e5
  subst e0 e1 e2 e3 e4 e5
  exact ⟨⟨n0, n1, n2, n3, n4, n5⟩, rfl⟩
theorem reads_Sites : Reads Tryz.prog 22 fun w cs => ∃ v xs, cs = [v] ∧ Sl w 3 Site.cells v xs :=
 Reads.slice Tryz.underlying22 (by kernel_rfl) (by decide) (of_decide_eq_true (by kernel_rfl)) reads_Site
theorem reads_Tracks : Reads Tryz.prog 23 fun w cs => ∃ v xs, cs = [v] ∧ Sl w 6 Track.cells v xs :=
 Reads.slice Tryz.underlying23 (by kernel_rfl) (by decide) (of_decide_eq_true (by kernel_rfl)) reads_Track
theorem reads_Range : Reads Tryz.prog 25 fun w cs => ∃ (vs vt : Value) (ss : List Site) (ts : List Track), cs = [vs, vt] ∧ Sl w 3 Site.cells vs ss ∧ Sl w 6 Track.cells vt ts := fun H e w base sp held fuel cs d p h hf => by
 obtain ⟨hl, hg⟩ := Reads.struct Tryz.underlying25 H e w base sp held fuel cs d p h hf
 have hk : Tryz.prog.cellsOf 25 = 2 := by kernel_rfl
 have h3 : Tryz.prog.cellsOf 22 = 1 := by kernel_rfl
 have h4 : Tryz.prog.cellsOf 23 = 1 := by kernel_rfl
 rw [hk] at hl
 match cs, hl with
 | [c0, c1], _ =>
  obtain ⟨v0, x0, e0, s0⟩ := hg 0 _ rfl _ reads_Sites
  obtain ⟨v1, x1, e1, s1⟩ := hg 1 _ rfl _ reads_Tracks
  simp [h3, h4] at e0 e1
  subst e0 e1
  exact ⟨_, _, _, _, rfl, s0, s1⟩
theorem Arg.range {W : World} {v : Value} (h : Arg Tryz.prog W 25 v) : ∃ (vs vt : Value) (ss : List Site) (ts : List Track), v = .agg #[vs, vt] ∧ Sl W 3 Site.cells vs ss ∧ Sl W 6 Track.cells vt ts := by
 obtain ⟨cs, rfl, vs, vt, ss, ts, rfl, h1, h2⟩ := h.struct Tryz.underlying25 reads_Range
 exact ⟨vs, vt, ss, ts, rfl, h1, h2⟩
end Go.Proofs.YtgbbljfmngmjeaaGreat
/- Readers of scenes, crews, sights and lists of numbers. Conditions stand in the theorems. -/
namespace Go.Proofs.YtgbbljfmngmjeaaGreat
open Go.ChangeShapes Go.WideShapes Go.RowKit Go.Deep

theorem reads_two : Reads Tryz.prog 203 fun _ cs => ∃ a b : Int, cs = [I a, I b] := fun H e w base sp held fuel cs d p h hf => by
 obtain ⟨hl, hg⟩ := Reads.array Tryz.underlying203 H e w base sp held fuel cs d p h hf
 have hk : Tryz.prog.cellsOf 203 = 2 := by kernel_rfl
 have h3 : Tryz.prog.cellsOf 3 = 1 := by kernel_rfl
 rw [hk] at hl
 have hI := @Reads.int Tryz.prog 3 Tryz.underlying3
 match cs, hl with
 | [c0, c1], _ =>
  obtain ⟨n0, e0⟩ := hg 0 (by decide) _ hI
  obtain ⟨n1, e1⟩ := hg 1 (by decide) _ hI
  simp [h3] at e0 e1
  subst e0 e1
  exact ⟨n0, n1, rfl⟩
theorem reads_intCs : Reads Tryz.prog 38 fun w cs => ∃ v xs, cs = [v] ∧ Sl w 1 intC v xs :=
 Reads.slice Tryz.underlying38 (by kernel_rfl) (by decide) (of_decide_eq_true (by kernel_rfl)) (Reads.int Tryz.underlying3)
theorem reads_Cell : Reads Tryz.prog 101 fun _ cs => ∃ x : Cell, cs = x.cells := fun H e w base sp held fuel cs d p h hf => by
 obtain ⟨hl, hg⟩ := Reads.struct Tryz.underlying101 H e w base sp held fuel cs d p h hf
 have hk : Tryz.prog.cellsOf 101 = 4 := by kernel_rfl
 have h3 : Tryz.prog.cellsOf 3 = 1 := by kernel_rfl
 rw [hk] at hl
 have hI := @Reads.int Tryz.prog 3 Tryz.underlying3
 match cs, hl with
 | [c0, c1, c2, c3], _ =>
  obtain ⟨n0, e0⟩ := hg 0 _ rfl _ hI
  obtain ⟨n1, e1⟩ := hg 1 _ rfl _ hI
  obtain ⟨n2, e2⟩ := hg 2 _ rfl _ hI
  obtain ⟨n3, e3⟩ := hg 3 _ rfl _ hI
  simp [h3] at e0 e1 e2 e3
  subst e0 e1 e2 e3
  exact ⟨⟨n0, n1, n2, n3⟩, rfl⟩
theorem reads_Cells : Reads Tryz.prog 34 fun w cs => ∃ v xs, cs = [v] ∧ Sl w 4 Cell.cells v xs :=
 Reads.slice Tryz.underlying34 (by kernel_rfl) (by decide) (of_decide_eq_true (by kernel_rfl)) reads_Cell
theorem reads_Sight : Reads Tryz.prog 83 fun _ cs => ∃ x : Sight, cs = x.cells := fun H e w base sp held fuel cs d p h hf => by
 obtain ⟨hl, hg⟩ := Reads.struct Tryz.underlying83 H e w base sp held fuel cs d p h hf
 have hk : Tryz.prog.cellsOf 83 = 5 := by kernel_rfl
 have h3 : Tryz.prog.cellsOf 3 = 1 := by kernel_rfl
 rw [hk] at hl
 have hI := @Reads.int Tryz.prog 3 Tryz.underlying3
 match cs, hl with
 | [c0, c1, c2, c3, c4], _ =>
  obtain ⟨n0, e0⟩ := hg 0 _ rfl _ hI
  obtain ⟨n1, e1⟩ := hg 1 _ rfl _ hI
  obtain ⟨n2, e2⟩ := hg 2 _ rfl _ hI
  obtain ⟨n3, e3⟩ := hg 3 _ rfl _ hI
  obtain ⟨n4, e4⟩ := hg 4 _ rfl _ hI
  simp [h3] at e0 e1 e2 e3 e4
  subst e0 e1 e2 e3 e4
  exact ⟨⟨n0, n1, n2, n3, n4⟩, rfl⟩
theorem reads_Sights : Reads Tryz.prog 39 fun w cs => ∃ v xs, cs = [v] ∧ Sl w 5 Sight.cells v xs :=
 Reads.slice Tryz.underlying39 (by kernel_rfl) (by decide) (of_decide_eq_true (by kernel_rfl)) reads_Sight
theorem reads_Change : Reads Tryz.prog 171 fun _ cs => ∃ x : Change, cs = x.cells := fun H e w base sp held fuel cs d p h hf => by
 obtain ⟨hl, hg⟩ := Reads.struct Tryz.underlying171 H e w base sp held fuel cs d p h hf
 have hk : Tryz.prog.cellsOf 171 = 5 := by kernel_rfl
 have h3 : Tryz.prog.cellsOf 3 = 1 := by kernel_rfl
 rw [hk] at hl
 have hI := @Reads.int Tryz.prog 3 Tryz.underlying3
 match cs, hl with
 | [c0, c1, c2, c3, c4], _ =>
  obtain ⟨n0, e0⟩ := hg 0 _ rfl _ hI
  obtain ⟨n1, e1⟩ := hg 1 _ rfl _ hI
  obtain ⟨n2, e2⟩ := hg 2 _ rfl _ hI
  obtain ⟨n3, e3⟩ := hg 3 _ rfl _ hI
  obtain ⟨n4, e4⟩ := hg 4 _ rfl _ hI
  simp [h3] at e0 e1 e2 e3 e4
  subst e0 e1 e2 e3 e4
  exact ⟨⟨n0, n1, n2, n3, n4⟩, rfl⟩
theorem reads_Changes : Reads Tryz.prog 40 fun w cs => ∃ v xs, cs = [v] ∧ Sl w 5 Change.cells v xs :=
 Reads.slice Tryz.underlying40 (by kernel_rfl) (by decide) (of_decide_eq_true (by kernel_rfl)) reads_Change
theorem reads_pair : Reads Tryz.prog 203 fun _ cs => ∃ x : Int × Int, cs = pairC x := fun H e w base sp held fuel cs d p h hf => by
 obtain ⟨a, b, h1⟩ := reads_two H e w base sp held fuel cs d p h hf
 exact ⟨(a, b), h1⟩
theorem reads_pairs : Reads Tryz.prog 35 fun w cs => ∃ v xs, cs = [v] ∧ Sl w 2 pairC v xs :=
 Reads.slice Tryz.underlying35 (by kernel_rfl) (by decide) (of_decide_eq_true (by kernel_rfl)) reads_pair
def BasinAt (w : World) (b : Basin) (vc vp : Value) : Prop := Sl w 4 Cell.cells vc b.cells ∧ Sl w 2 pairC vp b.pairs
theorem reads_Basin : Reads Tryz.prog 37 fun w cs => ∃ (b : Basin) (vc vp : Value), cs = [vc, vp, I b.gain, I b.slack, I b.deep] ∧ BasinAt w b vc vp := fun H e w base sp held fuel cs d p h hf => by
 obtain ⟨hl, hg⟩ := Reads.struct Tryz.underlying37 H e w base sp held fuel cs d p h hf
 have hk : Tryz.prog.cellsOf 37 = 5 := by kernel_rfl
 have h3 : Tryz.prog.cellsOf 3 = 1 := by kernel_rfl
 have h1 : Tryz.prog.cellsOf 34 = 1 := by kernel_rfl
 have h2 : Tryz.prog.cellsOf 35 = 1 := by kernel_rfl
 rw [hk] at hl
 have hI := @Reads.int Tryz.prog 3 Tryz.underlying3
 match cs, hl with
 | [c0, c1, c2, c3, c4], _ =>
  obtain ⟨v0, x0, e0, s0⟩ := hg 0 _ rfl _ reads_Cells
  obtain ⟨v1, x1, e1, s1⟩ := hg 1 _ rfl _ reads_pairs
  obtain ⟨n2, e2⟩ := hg 2 _ rfl _ hI
  obtain ⟨n3, e3⟩ := hg 3 _ rfl _ hI
  obtain ⟨n4, e4⟩ := hg 4 _ rfl _ hI
  simp [h3, h1, h2] at e0 e1 e2 e3 e4
  subst e0 e1 e2 e3 e4
  exact ⟨⟨x0, x1, n2, n3, n4⟩, _, _, rfl, s0, s1⟩
theorem reads_Scene : Reads Tryz.prog 42 fun w cs => ∃ (s : Scene) (V : SceneV), Value.agg cs.toArray = s.v V ∧ SceneAt w s V := fun H e w base sp held fuel cs d p h hf => by
 obtain ⟨hl, hg⟩ := Reads.struct Tryz.underlying42 H e w base sp held fuel cs d p h hf
 have hk : Tryz.prog.cellsOf 42 = 8 := by kernel_rfl
 have h5 : Tryz.prog.cellsOf 37 = 5 := by kernel_rfl
 have h1 : Tryz.prog.cellsOf 38 = 1 := by kernel_rfl
 have h2 : Tryz.prog.cellsOf 39 = 1 := by kernel_rfl
 have h3 : Tryz.prog.cellsOf 40 = 1 := by kernel_rfl
 rw [hk] at hl
 match cs, hl with
 | [c0, c1, c2, c3, c4, c5, c6, c7], _ =>
  obtain ⟨b, vc, vp, e0, s0⟩ := hg 0 _ rfl _ reads_Basin
  obtain ⟨v5, x5, e5, s5⟩ := hg 1 _ rfl _ reads_intCs
  obtain ⟨v6, x6, e6, s6⟩ := hg 2 _ rfl _ reads_Sights
  obtain ⟨v7, x7, e7, s7⟩ := hg 3 _ rfl _ reads_Changes
  simp [h5, h1, h2, h3] at e0 e5 e6 e7
  obtain ⟨rfl, rfl, rfl, rfl, rfl⟩ := e0
  subst e5 e6 e7
  exact ⟨⟨b, x5, x6, x7⟩, ⟨_, _, _, _, _⟩, rfl, s0.1, s0.2, s5, s6, s7⟩
theorem Arg.scene {W : World} {v : Value} (h : Arg Tryz.prog W 42 v) : ∃ (s : Scene) (V : SceneV), v = s.v V ∧ SceneAt W s V := by
 obtain ⟨cs, rfl, s, V, h1, h2⟩ := h.struct Tryz.underlying42 reads_Scene
 exact ⟨s, V, h1, h2⟩
theorem Arg.ints {W : World} {v : Value} (h : Arg Tryz.prog W 38 v) : ∃ xs, Sl W 1 intC v xs :=
 h.sl Tryz.underlying38 (by kernel_rfl) (by decide) (of_decide_eq_true (by kernel_rfl)) (Reads.int Tryz.underlying3)
theorem Arg.sight {W : World} {v : Value} (h : Arg Tryz.prog W 83 v) : ∃ x : Sight, v = .agg #[I x.no, I x.cell, I x.day, I x.lo, I x.hi] := by
 obtain ⟨cs, rfl, x, rfl⟩ := h.struct Tryz.underlying83 reads_Sight
 exact ⟨x, rfl⟩
theorem reads_Crew : Reads Tryz.prog 44 fun _ cs => ∃ c : Crew, cs = [I c.hut, I c.work, I c.load] := fun H e w base sp held fuel cs d p h hf => by
 obtain ⟨hl, hg⟩ := Reads.struct Tryz.underlying44 H e w base sp held fuel cs d p h hf
 have hk : Tryz.prog.cellsOf 44 = 3 := by kernel_rfl
 have h3 : Tryz.prog.cellsOf 3 = 1 := by kernel_rfl
 rw [hk] at hl
 have hI := @Reads.int Tryz.prog 3 Tryz.underlying3
 match cs, hl with
 | [c0, c1, c2], _ =>
  obtain ⟨n0, e0⟩ := hg 0 _ rfl _ hI
  obtain ⟨n1, e1⟩ := hg 1 _ rfl _ hI
  obtain ⟨n2, e2⟩ := hg 2 _ rfl _ hI
  simp [h3] at e0 e1 e2
  subst e0 e1 e2
  exact ⟨⟨n0, n1, n2⟩, rfl⟩
theorem Arg.crew {W : World} {v : Value} (h : Arg Tryz.prog W 44 v) : ∃ c : Crew, v = .agg #[I c.hut, I c.work, I c.load] := by
 obtain ⟨cs, rfl, c, rfl⟩ := h.struct Tryz.underlying44 reads_Crew
 exact ⟨c, rfl⟩
end Go.Proofs.YtgbbljfmngmjeaaGreat
/- The rows of this seat: closed facts of the program that all rows ask. No condition. -/
namespace Go.Proofs.YtgbbljfmngmjeaaGreat
open Go.ChangeShapes Go.WideShapes Go.RowKit

theorem rows_own : ownKnob Tryz.prog.godebug = none := by kernel_rfl
theorem rows_laidOut : laidOutB Tryz.prog = true := by kernel_rfl
theorem rows_mapsRowed : mapsRowed Tryz.prog = true := by kernel_rfl
theorem rows_stops : (Tryz.prog.stops == []) = true := by kernel_rfl
theorem rows_stopKnobs : (Tryz.prog.stopKnobs == []) = true := by kernel_rfl
theorem rows_stopsHeard : Tryz.prog.stopsHeard = true := by kernel_rfl
theorem rows_plainKeys : Tryz.prog.plainKeys = Rows.crewReachedRow.plainKeys := by kernel_rfl
theorem words_one : ∀ (w : List Char), (w.all fun c => c != Char.ofNat 32) = true → wordsSigns w = [w]
 | [], _ => rfl
 | c :: w, h => by
  simp only [List.all_cons, Bool.and_eq_true, bne_iff_ne, ne_eq] at h
  rw [wordsSigns.eq_3 _ _ (fun h' => h.1 h'), words_one w (by simpa using h.2)]
theorem words_cons (r : List Char) : ∀ (w : List Char), (w.all fun c => c != Char.ofNat 32) = true → wordsSigns (w ++ Char.ofNat 32 :: r) = w :: wordsSigns r
 | [], _ => rfl
 | c :: w, h => by
  simp only [List.all_cons, Bool.and_eq_true, bne_iff_ne, ne_eq] at h
  rw [List.cons_append, wordsSigns.eq_3 _ _ (fun h' => h.1 h'), words_cons r w (by simpa using h.2)]
def joinWords : List (List Nat) → List Char
 | [] => []
 | [w] => w.map Char.ofNat
 | w :: v :: ws => w.map Char.ofNat ++ Char.ofNat 32 :: joinWords (v :: ws)
theorem words_join : ∀ (ws : List (List Nat)), ws ≠ [] → (ws.all fun w => (w.map Char.ofNat).all fun c => c != Char.ofNat 32) = true → wordsSigns (joinWords ws) = ws.map fun w => w.map Char.ofNat
 | [], h, _ => absurd rfl h
 | [w], _, h => by
  simp only [List.all_cons, Bool.and_eq_true] at h
  rw [joinWords, words_one _ h.1]
  rfl
 | w :: v :: ws, _, h => by
  rw [List.all_cons, Bool.and_eq_true] at h
  rw [joinWords, words_cons _ _ h.1, words_join (v :: ws) (by simp) h.2]
  rfl
def rowWords : List (List Nat) := [[104, 97, 114, 110, 101, 115, 115], [99, 51, 98, 55, 99, 55, 97, 52, 100, 54, 49, 52, 102, 102, 56, 98, 57, 54, 50, 57, 55, 55, 51, 102, 48, 102, 97, 53, 102, 99, 51, 52, 53, 48, 102, 97, 56, 99, 98, 100, 51, 53, 48, 102, 100, 54, 53, 50, 101, 50, 97, 48, 102, 48, 102, 48, 100, 50, 54, 101, 97, 54, 49, 102], [99, 117, 116], [97, 116], [115, 110, 111, 119, 108, 105, 110, 101, 47, 115, 110, 111, 119, 108, 105, 110, 101, 108, 97, 119, 48, 55, 46, 67, 114, 101, 119, 67, 104, 101, 99, 107, 83, 112, 101, 99], [115, 110, 111, 119, 108, 105, 110, 101, 47, 115, 110, 111, 119, 108, 105, 110, 101, 108, 97, 119, 48, 55, 46, 67, 114, 101, 119, 87, 97, 121, 83, 112, 101, 99], [115, 110, 111, 119, 108, 105, 110, 101, 47, 115, 110, 111, 119, 108, 105, 110, 101, 108, 97, 119, 48, 55, 46, 67, 114, 101, 119, 84, 114, 105, 112, 83, 112, 101, 99], [115, 110, 111, 119, 108, 105, 110, 101, 47, 115, 110, 111, 119, 108, 105, 110, 101, 108, 97, 119, 48, 55, 46, 67, 114, 101, 119, 87, 111, 114, 115, 116, 83, 112, 101, 99], [115, 110, 111, 119, 108, 105, 110, 101, 47, 115, 110, 111, 119, 108, 105, 110, 101, 108, 97, 119, 48, 55, 46, 67, 114, 101, 119, 87, 97, 121, 115], [115, 110, 111, 119, 108, 105, 110, 101, 47, 115, 110, 111, 119, 108, 105, 110, 101, 108, 97, 119, 48, 55, 46, 67, 114, 101, 119, 82, 101, 97, 99, 104, 101, 100], [115, 110, 111, 119, 108, 105, 110, 101, 47, 115, 110, 111, 119, 108, 105, 110, 101, 108, 97, 119, 48, 55, 46, 67, 114, 101, 119, 78, 97, 114, 114, 111, 119, 101, 114], [115, 110, 111, 119, 108, 105, 110, 101, 47, 115, 110, 111, 119, 108, 105, 110, 101, 108, 97, 119, 48, 55, 46, 67, 114, 101, 119, 77, 101, 97, 115, 117, 114, 101, 100], [115, 110, 111, 119, 108, 105, 110, 101, 47, 115, 110, 111, 119, 108, 105, 110, 101, 108, 97, 119, 48, 55, 46, 67, 114, 101, 119, 66, 101, 115, 116, 83, 112, 101, 99], [115, 110, 111, 119, 108, 105, 110, 101, 47, 115, 110, 111, 119, 108, 105, 110, 101, 108, 97, 119, 48, 55, 46, 67, 114, 101, 119, 78, 101, 120, 116], [115, 110, 111, 119, 108, 105, 110, 101, 47, 115, 110, 111, 119, 108, 105, 110, 101, 108, 97, 119, 48, 55, 46, 67, 114, 101, 119, 83, 97, 102, 101, 83, 112, 101, 99], [115, 110, 111, 119, 108, 105, 110, 101, 47, 115, 110, 111, 119, 108, 105, 110, 101, 108, 97, 119, 48, 55, 46, 67, 114, 101, 119, 84, 114, 105, 112, 115], [115, 110, 111, 119, 108, 105, 110, 101, 47, 115, 110, 111, 119, 108, 105, 110, 101, 108, 97, 119, 48, 55, 46, 67, 114, 101, 119, 78, 111, 98, 111, 100, 121]]
theorem rows_order : Tryz.prog.initOrder = String.ofList (joinWords rowWords) := by kernel_rfl
theorem rows_words : wordsSigns Tryz.prog.initOrder.toList = rowWords.map fun w => w.map Char.ofNat := by
 rw [rows_order, String.toList_ofList]
 exact words_join rowWords (by decide) (by kernel_rfl)
theorem rows_behind : behindMainWord (wordsSigns Tryz.prog.initOrder.toList) = rowWords.tail.tail.map fun w => w.map Char.ofNat := by
 rw [rows_words]
 kernel_rfl
theorem rows_cut : ∃ r, behindMainWord (wordsSigns Tryz.prog.initOrder.toList) = [Char.ofNat 99, Char.ofNat 117, Char.ofNat 116] :: r :=
 ⟨rowWords.tail.tail.tail.map fun w => w.map Char.ofNat, rows_behind.trans (by kernel_rfl)⟩
theorem rows_strip (r : List (List Char)) : stripLifts liftWords ([Char.ofNat 99, Char.ofNat 117, Char.ofNat 116] :: r) = ([], [Char.ofNat 99, Char.ofNat 117, Char.ofNat 116] :: r) := by kernel_rfl
theorem rows_lays : Tryz.prog.laysLater = false := by kernel_rfl
theorem rows_bears : Tryz.prog.bearsReflect = false := by kernel_rfl
theorem rows_door : Tryz.prog.doorFits [] = true := by kernel_rfl
theorem mayEnter_of {P : Program} {r : List (List Char)} (hr : behindMainWord (wordsSigns P.initOrder.toList) = [Char.ofNat 99, Char.ofNat 117, Char.ofNat 116] :: r) (h1 : P.laysLater = false) (h2 : P.bearsReflect = false) (h3 : P.doorFits [] = true) : P.mayEnter = true := by
 unfold Program.mayEnter
 rw [hr]
 dsimp only
 rw [rows_strip, h1, h2, h3]
 simp
theorem rows_mayEnter : Tryz.prog.mayEnter = true := by
 obtain ⟨r, hr⟩ := rows_cut
 exact mayEnter_of hr rows_lays rows_bears rows_door
theorem rows_lifts : Tryz.prog.liftsFinal = false := by
 obtain ⟨r, hr⟩ := rows_cut
 unfold Program.liftsFinal Program.headLifts
 rw [hr, rows_strip]
 kernel_rfl
theorem make_of {P : Program} {r : List (List Char)} (hr : behindMainWord (wordsSigns P.initOrder.toList) = [Char.ofNat 99, Char.ofNat 117, Char.ofNat 116] :: r) : P.make = some .cut := by
 unfold Program.make
 rw [hr]
 have h1 : ([Char.ofNat 99, Char.ofNat 117, Char.ofNat 116] == "gc".toList || [Char.ofNat 99, Char.ofNat 117, Char.ofNat 116] == "spec".toList) = false := by kernel_rfl
 have h2 : ([Char.ofNat 99, Char.ofNat 117, Char.ofNat 116] == "cut".toList) = true := by kernel_rfl
 dsimp only
 rw [h1, h2]
 simp
theorem rows_make : Tryz.prog.make = some .cut := by
 obtain ⟨r, hr⟩ := rows_cut
 exact make_of hr
theorem and_true_of {a b : Bool} (ha : a = true) (hb : b = true) : (a && b) = true := by rw [ha, hb]; rfl
end Go.Proofs.YtgbbljfmngmjeaaGreat
