/- From what a row reads to what a contract asks: an argument's cells, by its type. Conditions stand in the theorems. -/
import Derived.Test.YtifeniiefhpadaaGreatDoorBasePack
import Derived.ProofKit
import Derived.Lay
import Derived.LaidLaws
import Derived.SizedLaws
import Derived.Lib.LaidTab
import Derived.Handed
import Derived.Deep.Slices
import Derived.OpenShut
import Derived.DataReads
import Derived.Stop.LaidErr
set_option linter.all false
namespace Go.Proofs.YtifeniiefhpadaaGreatDoor
open Go.ChangeShapes Go.WideShapes Go.RowKit Go.Deep

def Fits {H : Type} (P : Program) (t : TypeId) (d : DataW H) : Prop := ∀ n ∈ d.weights P t, n ≤ reachBytes
def Reads (P : Program) (t : TypeId) (Q : World → List Value → Prop) : Prop :=
 ∀ (H : Type) (e : TypeId × Value → H) (w : World) (base : Nat) (sp : Nat → Bool) (held : Bool) (fuel : Nat) (cs : List Value) (d : DataW H) (p : List MemPlace), DataW.trod e P w base sp held fuel t cs = some (d, p) → Fits P t d → Q w cs

section
variable {P : Program}
theorem Reads.int {t : TypeId} (ht : P.underlying t = some (.int .i64)) : Reads P t fun _ cs => ∃ n : Int, cs = [I n] := by
 intro H e w base sp held fuel cs d p h _
 obtain ⟨n, h1, _, _⟩ := DataW.trod_int ht h
 exact ⟨n, h1⟩
theorem Reads.str {t : TypeId} (ht : P.underlying t = some .string) : Reads P t fun _ cs => ∃ s : ByteArray, cs = [.string s] ∧ s.size ≤ reachBytes := by
 intro H e w base sp held fuel cs d p h hf
 obtain ⟨s, h1, h2, _⟩ := DataW.trod_string ht h
 refine ⟨s, h1, ?_⟩
 obtain ⟨rfl, _⟩ := Prod.mk.inj h2
 have := hf s.data.toList.length (by simp [DataW.weights])
 simpa using this
theorem fits_each {H : Type} {ts : List TypeId} {ds : List (DataW H)} (h : ∀ n ∈ DataW.weightsEach P ts ds, n ≤ reachBytes) {j : Nat} {t : TypeId} {d : DataW H} (ht : ts[j]? = some t) (hd : ds[j]? = some d) : Fits P t d :=
 fun n hn => h n (DataW.weights_mem_each ht hd n hn)
theorem weights_all {H : Type} {e : TypeId} : ∀ {ds : List (DataW H)} {j : Nat} {d : DataW H}, ds[j]? = some d → ∀ n ∈ d.weights P e, n ∈ DataW.weightsAll P e ds
 | [], _, _, h, _, _ => by cases h
 | x :: xs, 0, d, h, n, hn => by
  obtain rfl : x = d := Option.some.inj h
  rw [DataW.weightsAll]
  exact List.mem_append.2 (.inl hn)
 | x :: xs, j + 1, d, h, n, hn => by
  rw [DataW.weightsAll]
  exact List.mem_append.2 (.inr (weights_all (ds := xs) (j := j) h n hn))
theorem Reads.struct {t : TypeId} {fs : Array Field} (ht : P.underlying t = some (.struct fs)) :
  Reads P t fun w cs => cs.length = P.cellsOf t ∧ ∀ (j : Nat) (f : Field), fs[j]? = some f → ∀ Q, Reads P f.type Q → Q w ((cs.drop f.offset).take (P.cellsOf f.type)) := by
 intro H e w base sp held fuel cs d p h hf
 obtain ⟨xs, n, _, hx, hl, hn, hg⟩ := DataW.trod_struct ht h
 obtain ⟨rfl, rfl⟩ := Prod.mk.inj hx
 refine ⟨hl, fun j f hj Q hQ => ?_⟩
 have h1 := hg j f hj
 have hjl : j < xs.length := by rw [hn]; exact (Array.getElem?_eq_some_iff.1 hj).1
 rw [List.getElem?_eq_getElem hjl] at h1
 refine hQ H e w base sp held n _ (xs[j]).1 (xs[j]).2 h1 ?_
 refine fits_each (ts := fs.toList.map (·.type)) (ds := xs.map (·.1)) (fun m hm => hf m ?_) (j := j) ?_ ?_
 ·rw [DataW.weights, ht]
  exact hm
 ·simp [hj]
 ·simp [hjl]
theorem Reads.array {t e : TypeId} {n : Nat} (ht : P.underlying t = some (.array n e)) :
  Reads P t fun w cs => cs.length = P.cellsOf t ∧ ∀ i, i < n → ∀ Q, Reads P e Q → Q w ((cs.drop (i * P.cellsOf e)).take (P.cellsOf e)) := by
 intro H enc w base sp held fuel cs d p h hf
 obtain ⟨xs, m, _, hx, hl, hn, hg⟩ := DataW.trod_array ht h
 obtain ⟨rfl, rfl⟩ := Prod.mk.inj hx
 refine ⟨hl, fun j hj Q hQ => ?_⟩
 have h1 := hg j hj
 have hjl : j < xs.length := by omega
 rw [List.getElem?_eq_getElem hjl] at h1
 refine hQ H enc w base sp held m _ (xs[j]).1 (xs[j]).2 h1 fun k hk => hf k ?_
 rw [DataW.weights, ht]
 exact weights_all (j := j) (by simp [hjl]) k hk
theorem list_of {α : Type} {p : Nat → α → Prop} : ∀ n : Nat, (∀ i, i < n → ∃ x, p i x) → ∃ xs : List α, xs.length = n ∧ ∀ i x, xs[i]? = some x → p i x
 | 0, _ => ⟨[], rfl, fun i x h => by simp at h⟩
 | n + 1, h => by
  obtain ⟨xs, h1, h2⟩ := list_of n fun i hi => h i (by omega)
  obtain ⟨x, hx⟩ := h n (by omega)
  refine ⟨xs ++ [x], by simp [h1], fun i y hy => ?_⟩
  rcases Nat.lt_or_ge i n with k | k
  ·rw [List.getElem?_append_left (by omega)] at hy
   exact h2 i y hy
  ·rw [List.getElem?_append_right (by omega)] at hy
   have hi : i = n := by
    rcases Nat.lt_or_ge n i with k2 | k2
    ·rw [List.getElem?_eq_none (by simp; omega)] at hy
     cases hy
    ·omega
   subst hi
   simp [h1] at hy
   subst hy
   exact hx
theorem spot_none {w : World} {a : Addr} {v : Value} (h : w.cell? a = some v) : a.spot = none ∧ a.block < w.heap.size := by
 unfold World.cell? at h
 split at h
 ·rename_i c t fr hb
  split at h
  ·cases h
  ·rename_i hs
   refine ⟨by cases hz : a.spot <;> simp_all, ?_⟩
   exact (Array.getElem?_eq_some_iff.1 hb).1
 ·cases h
theorem add_plain (b o n : Nat) : (Addr.mk b o none).add n = ⟨b, o + n, none⟩ := by
 unfold Addr.add
 split
 ·rename_i h
  subst h
  rfl
 ·rfl
theorem Reads.slice {α : Type} {t e : TypeId} {k : Nat} {enc : α → List Value} (ht : P.underlying t = some (.slice e)) (hC : P.cellsOf e = k) (hk : 0 < k) (hb : 0 < P.bytesOf e) (hE : Reads P e fun _ cs => ∃ a, cs = enc a) :
  Reads P t fun w cs => ∃ v xs, cs = [v] ∧ Sl w k enc v xs := by
 intro H f w base sp held fuel cs d p h hf
 rcases open_slice ht h with ⟨rfl, _⟩ | ⟨a, len, cap, m, n, D, Pl, rfl, hba, hl, hm, hmm, hx, hi⟩
 ·exact ⟨_, [], rfl, Sl.nil w k enc⟩
 obtain ⟨rfl, rfl⟩ := Prod.mk.inj hx
 have hlm : len ≤ m := by rw [hmm]; split <;> omega
 have hw := hf ((len + (m - len)) * P.bytesOf e) (by simp [DataW.weights, ht])
 have hlen : len ≤ 140737488355328 := by
  have h1 : len ≤ (len + (m - len)) * P.bytesOf e := Nat.le_trans (Nat.le_add_right _ _) (Nat.le_mul_of_pos_right _ hb)
  have h2 : reachBytes ≤ 140737488355328 := by decide
  omega
 obtain ⟨xs, hxl, hxs⟩ := list_of (p := fun i x => w.cells? base (a.add (i * k)) k = some (enc x)) len fun i hil => by
  obtain ⟨cs', h1, h2⟩ := hi i (by omega)
  rw [hC] at h1
  have hfit : Fits P e (D i) := fun q hq => hf q (by
   rw [DataW.weights, ht]
   refine List.mem_cons_of_mem _ (List.mem_append.2 (.inl ?_))
   exact weights_all (j := i) (by simp [hil]) q hq)
  obtain ⟨x, rfl⟩ := hE H f w base sp held n cs' (D i) (Pl i) h2 hfit
  exact ⟨x, h1⟩
 refine ⟨_, xs, rfl, some a, cap, by rw [hxl], by omega, ⟨hm, by omega⟩, fun h0 => ?_⟩
 have hx0 : xs[0]? = some (xs[0]'h0) := List.getElem?_eq_getElem h0
 obtain ⟨_, hl0, hc0⟩ := World.cells?_some (hxs 0 _ hx0)
 have hc00 := hc0 0 hk
 rw [List.getElem?_eq_getElem (by omega)] at hc00
 have ha : (a.add (0 * k)).add 0 = a := by simp [Addr.add]
 rw [ha] at hc00
 obtain ⟨hs, hlt⟩ := spot_none hc00
 obtain ⟨b, o, s⟩ := a
 dsimp only at hs hlt
 subst hs
 refine ⟨b, o, rfl, hlt, fun i x hix j u hu => ?_⟩
 obtain ⟨_, hli, hci⟩ := World.cells?_some (hxs i x hix)
 have hj : j < k := by
  rw [← hli]
  exact (List.getElem?_eq_some_iff.1 hu).1
 have := hci j hj
 rw [add_plain, add_plain, hu] at this
 exact this

def Arg (P : Program) (W : World) (t : TypeId) (v : Value) : Prop := (∃ base, Value.okWide P W .any base t v) ∧ ∀ Q, Reads P t Q → Q W v.cells.toList
theorem Arg.int {W : World} {t : TypeId} {v : Value} (h : Arg P W t v) (ht : P.underlying t = some (.int .i64)) : ∃ n, v = I n := by
 obtain ⟨⟨b, h1⟩, _⟩ := h
 exact okWide_int ht h1
theorem Arg.str {W : World} {t : TypeId} {v : Value} (h : Arg P W t v) (ht : P.underlying t = some .string) : ∃ s : ByteArray, v = .string s ∧ s.size ≤ reachBytes := by
 obtain ⟨⟨b, h1⟩, h2⟩ := h
 obtain ⟨s, rfl⟩ := okWide_string ht h1
 obtain ⟨s', h3, h4⟩ := h2 _ (Reads.str ht)
 simp [Value.cells] at h3
 subst h3
 exact ⟨s, rfl, h4⟩
theorem Arg.sl {α : Type} {W : World} {t e : TypeId} {v : Value} {k : Nat} {enc : α → List Value} (h : Arg P W t v) (ht : P.underlying t = some (.slice e)) (hC : P.cellsOf e = k) (hk : 0 < k) (hb : 0 < P.bytesOf e) (hE : Reads P e fun _ cs => ∃ a, cs = enc a) : ∃ xs, Sl W k enc v xs := by
 obtain ⟨⟨b, h1⟩, h2⟩ := h
 obtain ⟨a, len, cap, rfl⟩ := okWide_slice ht h1
 obtain ⟨v', xs, h3, h4⟩ := h2 _ (Reads.slice ht hC hk hb hE)
 simp [Value.cells] at h3
 subst h3
 exact ⟨xs, h4⟩
theorem Arg.struct {W : World} {t : TypeId} {fs : Array Field} {v : Value} (h : Arg P W t v) (ht : P.underlying t = some (.struct fs)) {Q : World → List Value → Prop} (hQ : Reads P t Q) : ∃ cs : List Value, v = .agg cs.toArray ∧ Q W cs := by
 obtain ⟨⟨b, h1⟩, h2⟩ := h
 obtain ⟨cs, rfl, _⟩ := okWide_struct ht h1
 exact ⟨cs.toList, by simp, h2 _ hQ⟩
theorem okWide_arr {t e : TypeId} {n : Nat} {w : World} {r : Reach} {base : Nat} {v : Value} (ht : P.underlying t = some (.array n e)) (h : Value.okWide P w r base t v) : ∃ cs, v = .agg cs ∧ cs.size = P.cellsOf t := by
 simp only [Value.okWide, ht] at h
 obtain ⟨cs, h1, h2, _⟩ := h
 exact ⟨cs, h1, h2⟩
theorem Arg.array {W : World} {t e : TypeId} {n : Nat} {v : Value} (h : Arg P W t v) (ht : P.underlying t = some (.array n e)) {Q : World → List Value → Prop} (hQ : Reads P t Q) : ∃ cs : List Value, v = .agg cs.toArray ∧ Q W cs := by
 obtain ⟨⟨b, h1⟩, h2⟩ := h
 obtain ⟨cs, rfl, _⟩ := okWide_arr ht h1
 exact ⟨cs.toList, by simp, h2 _ hQ⟩

theorem trodAll_get {H : Type} {enc : TypeId × Value → H} {w : World} {base : Nat} {sp : Nat → Bool} {held : Bool} : ∀ {ts : List TypeId} {vs : List Value} {ds : List (DataW H)} {ps : List MemPlace}, DataW.TrodAll enc P w base sp held ts vs ds ps →
  ds.length = ts.length ∧ vs.length = ts.length ∧ ∀ (j : Nat) t v, ts[j]? = some t → vs[j]? = some v → ∃ d p, ds[j]? = some d ∧ DataW.Trod enc P w base sp held t v d p
 | [], vs, ds, ps, h => by
  obtain ⟨rfl, rfl, _⟩ := trodAll_nil h
  exact ⟨rfl, rfl, fun j t v hj _ => by simp at hj⟩
 | t :: ts, vs, ds, ps, h => by
  obtain ⟨v, vs', d, ds', p, q, rfl, rfl, rfl, h1, h2⟩ := trodAll_cons h
  obtain ⟨a, b, c⟩ := trodAll_get h2
  refine ⟨by simp [a], by simp [b], fun j t' v' hj hv => ?_⟩
  cases j with
  | zero =>
   simp at hj hv
   subst hj; subst hv
   exact ⟨d, p, rfl, h1⟩
  | succ j => exact c j t' v' (by simpa using hj) (by simpa using hv)
theorem trodAll_grow {H : Type} {enc : TypeId × Value → H} {W W' : World} (hl : laidOutB P = true) (hb : Below W.heap.size W W') {sp' : Nat → Bool} : ∀ {ts : List TypeId} {vs : List Value} {ds : List (DataW H)} {ps : List MemPlace},
  (∀ t ∈ ts, P.readableRec t = true) → (∀ t ∈ ts, t < P.types.size) → DataW.TrodAll enc P W 0 (fun _ => true) true ts vs ds ps → (∀ x ∈ ps, x.block < W.heap.size) → (∀ x ∈ ps, sp' x.block = true) → DataW.TrodAll enc P W' 0 sp' true ts vs ds ps
 | [], vs, ds, ps, _, _, h, _, _ => by
  obtain ⟨rfl, rfl, rfl⟩ := trodAll_nil h
  rfl
 | t :: ts, vs, ds, ps, hr, hrow, h, hlt, hs => by
  obtain ⟨v, vs', d, ds', p, q, rfl, rfl, rfl, h1, h2⟩ := trodAll_cons h
  refine ⟨p, q, WideElems.Trod_stays hl (hr t (by simp)) (hrow t (by simp)) h1 (fun x hx => hb.same (hlt x (by simp [hx]))) (fun x hx => hs x (by simp [hx])), ?_, rfl⟩
  exact trodAll_grow hl hb (fun u hu => hr u (by simp [hu])) (fun u hu => hrow u (by simp [hu])) h2 (fun x hx => hlt x (by simp [hx])) (fun x hx => hs x (by simp [hx]))
end
end Go.Proofs.YtifeniiefhpadaaGreatDoor
