/- The package spring: fill and its iterator. Conditions stand in the theorems. -/
import Derived.Test.YtgbbljfmngmjeaaGreatSpring9Pack
import Derived.Test.YtgbbljfmngmjeaaGreatRound
import Derived.Deep.DeepCutAuto
import Derived.Outline
set_option linter.all false
namespace Go.Proofs.YtgbbljfmngmjeaaGreat
open Go.RowKit Go.Shelf
attribute [local go_sem] Oper.semAt_some

structure Keep (n₀ : Nat) (X : Nat → Prop) (A B : World) : Prop where
 os : B.os = A.os
 tape : B.tape = A.tape
 output : B.output = A.output
 size : A.heap.size ≤ B.heap.size
 block : ∀ b, b < n₀ → ¬ X b → B.heap[b]? = A.heap[b]?
theorem Keep.trans {n₀ : Nat} {X : Nat → Prop} {A B C : World} (h : Keep n₀ X A B) (k : Keep n₀ X B C) : Keep n₀ X A C := ⟨k.os.trans h.os, k.tape.trans h.tape, k.output.trans h.output, Nat.le_trans h.size k.size, fun b h1 h2 => (k.block b h1 h2).trans (h.block b h1 h2)⟩
theorem Keep.refl (n₀ : Nat) (X : Nat → Prop) (A : World) : Keep n₀ X A A := ⟨rfl, rfl, rfl, Nat.le_refl _, fun _ _ _ => rfl⟩
theorem Keep.of_below {n₀ m : Nat} {X : Nat → Prop} {A B : World} (h : Below m A B) (hm : n₀ ≤ m) : Keep n₀ X A B := ⟨h.os, h.tape, h.output, h.size, fun b h1 _ => h.block b (by omega)⟩
theorem cell_of_block {A B : World} {b o : Nat} (h : B.heap[b]? = A.heap[b]?) : B.cell? ⟨b, o, none⟩ = A.cell? ⟨b, o, none⟩ := by
 simp [World.cell?, h]
theorem Keep.cell {n₀ : Nat} {X : Nat → Prop} {A B : World} (h : Keep n₀ X A B) {b o : Nat} (h1 : b < n₀) (h2 : ¬ X b) : B.cell? ⟨b, o, none⟩ = A.cell? ⟨b, o, none⟩ := cell_of_block (h.block b h1 h2)
theorem Keep.blk {n₀ : Nat} {X : Nat → Prop} {A B : World} {g : Nat} {t : TypeId} {cs : Array Value} (h : Keep n₀ X A B) (hb : Blk A g t cs) (h1 : g < n₀) (h2 : ¬ X g) : Blk B g t cs := (h.block g h1 h2).trans hb
theorem Keep.clim {n₀ : Nat} {X : Nat → Prop} {A B : World} {g : Nat} {c : Climate} (h : Keep n₀ X A B) (hb : ClimAt c g A) (h1 : g < n₀) (h2 : ¬ X g) : ClimAt c g B := by
 obtain ⟨z, h0, k1, k2, k3, k4, k5, k6, k7⟩ := hb
 exact ⟨Nat.lt_of_lt_of_le z h.size, (h.cell h1 h2).trans h0, (h.cell h1 h2).trans k1, (h.cell h1 h2).trans k2, (h.cell h1 h2).trans k3, (h.cell h1 h2).trans k4, (h.cell h1 h2).trans k5, (h.cell h1 h2).trans k6, (h.cell h1 h2).trans k7⟩
theorem Keep.sl {α : Type} {n₀ m : Nat} {X : Nat → Prop} {w A B : World} {k : Nat} {enc : α → List Value} {v : Value} {xs : List α} (h : Keep n₀ X A B) (hv : Sl w k enc v xs) (hA : Below w.heap.size w A) (hm : w.heap.size ≤ m) (hn : m ≤ n₀) (hX : ∀ b, X b → m ≤ b) : Sl B k enc v xs := by
 obtain ⟨A', c, hv, hl, hc, hr⟩ := hv
 refine ⟨A', c, hv, hl, hc, fun h0 => ?_⟩
 obtain ⟨b, off, hA', hbw, hcell⟩ := hr h0
 have hX' : ¬ X b := fun hx => by have := hX b hx; omega
 exact ⟨b, off, hA', by have := h.size; have := hA.size; omega, fun i x hx j u hu => ((h.cell (by omega) hX').trans (hA.cell (p := ⟨b, off + i * k + j, none⟩) hbw)).trans (hcell i x hx j u hu)⟩
theorem keep_t {n₀ : Nat} {X : Nat → Prop} {A B C : World} (h : Keep n₀ X A B) (k : Keep n₀ X B C) : Keep n₀ X A C := h.trans k
theorem keep_b {n₀ : Nat} {X : Nat → Prop} {w : World} (hn : n₀ ≤ w.heap.size) (W : World) (l : Nat) (o o' : Obj) (hl : w.heap.size ≤ l) (_ : W.heap[l]? = some o) (_ : o.isCells = false) (_ : o.isWalk = false) : Keep n₀ X W (W.putObj l o') :=
 ⟨rfl, rfl, rfl, by simp [World.putObj], fun b h1 _ => World.putObj_heap_other (by omega)⟩

theorem Keep.below {n₀ m : Nat} {X : Nat → Prop} {A B : World} (h : Keep n₀ X A B) (hm : m ≤ n₀) (hX : ∀ b, X b → m ≤ b) : Below m A B := ⟨h.os, h.tape, h.output, h.size, fun b hb => h.block b (by omega) fun hx => by have := hX b hx; omega⟩
theorem Keep.grown {n₀ : Nat} {X : Nat → Prop} {w A B : World} {row : Option Nat} (h : Keep n₀ X w A) (hn : n₀ ≤ w.heap.size) (hg : A.grownBy B row) (hr : ∀ r, row = some r → n₀ ≤ r) : Keep n₀ X w B :=
 h.trans ⟨hg.os, hg.tape, hg.output, hg.size, fun b hb _ => hg.block b (by have := h.size; omega) fun e => by have := hr b e.symm; omega⟩
theorem Keep.set {n₀ : Nat} {X : Nat → Prop} {A B : World} (h : Keep n₀ X A B) {g i : Nat} (hX : X g) (u : Value) : Keep n₀ X A (B.setCell ⟨g, i, none⟩ u) :=
 h.trans ⟨rfl, rfl, rfl, by simp [World.setCell], fun b _ hb => Below.heap_setCell _ _ _ _ (fun e => hb (by rw [e]; exact hX))⟩
theorem keeps_of_below {A B : World} (h : Below A.heap.size A B) : KeepsOthers A B := ⟨h.size, fun k o hk _ => (h.block k (Array.getElem?_eq_some_iff.1 hk).1).trans hk⟩
theorem keep_own {β : Type} {n₀ : Nat} {X : Nat → Prop} {w : World} (hn : n₀ ≤ w.heap.size) {m : Nat} (hm : n₀ ≤ m) : OwnFrom m (fun (_ : β) W => Keep n₀ X w W) := fun _ _ _ _ hs hg hr => hs.grown hn hg fun r e => by have := (hr r e).1; omega
theorem blk_own {β : Type} {g m : Nat} {t : TypeId} {cs : β → Array Value} (hg : g < m) : OwnFrom m (fun (s : β) W => Blk W g t (cs s)) := fun _ _ _ _ hs h hr => (h.block g hs.lt fun e => by have := (hr g e.symm).1; omega).trans hs

structure TR (c : Climate) (x : Weather) : Prop where
 temp : c.coldest ≤ x.temp ∧ x.temp ≤ c.warmest
 rain : 0 ≤ x.rain ∧ x.rain ≤ c.wettest
theorem TR.t600 {c : Climate} {x : Weather} (h : TR c x) (hc : ClimOk c) : -600 ≤ x.temp ∧ x.temp ≤ 600 := by
 have h1 := hc.cold; have h2 := hc.warm; have h3 := h.temp; omega
structure GapIn (c : Climate) (g : Gap) : Prop where
 tlo : c.coldest ≤ g.tlo ∧ g.tlo ≤ c.warmest
 thi : c.coldest ≤ g.thi ∧ g.thi ≤ c.warmest
 rlo : 0 ≤ g.rlo ∧ g.rlo ≤ c.wettest
 rhi : 0 ≤ g.rhi ∧ g.rhi ≤ c.wettest
theorem sizeF_nonneg (n : Int) : 0 ≤ sizeF n := by unfold sizeF; omega
theorem gapStep_in {c : Climate} {d : Int} {g : Gap} {x : Weather} (hc : ClimOk c) (hx : WeaOk c x) (hg : GapIn c g) : GapIn c (gapStep c d g x) := by
 have hs : 0 ≤ c.swing * sizeF (x.day - d) := Int.mul_nonneg hc.swing.1 (sizeF_nonneg _)
 have ht := hx.temp
 have hr := hx.rain
 obtain ⟨a1, a2, a3, a4⟩ := hg
 constructor <;> simp only [gapStep]
 ·omega
 ·omega
 ·split <;> omega
 ·split <;> omega
theorem foldl_in {c : Climate} {d : Int} (hc : ClimOk c) : ∀ (l : List Weather) (g : Gap), (∀ x ∈ l, WeaOk c x) → GapIn c g → GapIn c (l.foldl (gapStep c d) g)
 | [], _, _, h => h
 | x :: xs, g, hl, h => foldl_in hc xs _ (fun y hy => hl y (List.mem_cons_of_mem _ hy)) (gapStep_in hc (hl x (List.mem_cons_self ..)) h)
theorem gapF_in {c : Climate} {l : List Weather} (d : Int) (hc : ClimOk c) (hl : ∀ x ∈ l, WeaOk c x) : GapIn c (gapF c l d) := by
 refine foldl_in hc l _ hl ?_
 have h1 := hc.cw; have h2 := hc.wettest
 constructor <;> simp only [] <;> omega
theorem warmW_tr {c : Climate} {l : List Weather} (d : Int) (b : Bool) (hc : ClimOk c) (hl : ∀ x ∈ l, WeaOk c x) : TR c (warmW c l b d) := by
 obtain ⟨a1, a2, a3, a4⟩ := gapF_in d hc hl
 unfold warmW
 cases b
 ·exact ⟨a1, a4⟩
 ·exact ⟨a2, a3⟩
abbrev WeaC (c : Climate) : Type := { x : Weather // TR c x }
def fillA (c : Climate) (l : List Weather) (a : Int) (b : Bool) (hc : ClimOk c) (hl : ∀ x ∈ l, WeaOk c x) (k : Nat) : List (WeaC c) := (List.range k).map fun i => ⟨warmW c l b (a + (i : Nat)), warmW_tr _ b hc hl⟩
theorem fillA_succ {c : Climate} {l : List Weather} {a : Int} {b : Bool} {hc : ClimOk c} {hl : ∀ x ∈ l, WeaOk c x} (k : Nat) : fillA c l a b hc hl (k + 1) = fillA c l a b hc hl k ++ [⟨warmW c l b (a + (k : Nat)), warmW_tr _ b hc hl⟩] := by
 simp [fillA, List.range_succ]
theorem fillA_len {c : Climate} {l : List Weather} {a : Int} {b : Bool} {hc : ClimOk c} {hl : ∀ x ∈ l, WeaOk c x} (k : Nat) : (fillA c l a b hc hl k).length = k := by simp [fillA]
theorem fillA_val {c : Climate} {l : List Weather} {a : Int} {b : Bool} {hc : ClimOk c} {hl : ∀ x ∈ l, WeaOk c x} (k : Nat) : (fillA c l a b hc hl k).map (fun x : WeaC c => x.1) = fillF c l a k b := by
 simp [fillA, fillF]

structure FillReads (c : Climate) (v : Value) (l : List Weather) (a : Int) (n : Nat) (t : Bool) (bC bL bF bT bW : Nat) (W : World) : Prop where
 clim : ClimAt c bC W
 log : W.cell? ⟨bL, 0, none⟩ = some v
 frm : W.cell? ⟨bF, 0, none⟩ = some (I a)
 til : W.cell? ⟨bT, 0, none⟩ = some (I (a + n))
 warm : W.cell? ⟨bW, 0, none⟩ = some (.bool t)
 sl : Sl W 3 Weather.cells v l

theorem warmW_pos (c : Climate) (l : List Weather) (d : Int) : warmW c l true d = ⟨d, (gapF c l d).thi, (gapF c l d).rlo⟩ := rfl
theorem warmW_neg (c : Climate) (l : List Weather) (d : Int) : warmW c l false d = ⟨d, (gapF c l d).tlo, (gapF c l d).rhi⟩ := rfl

end Go.Proofs.YtgbbljfmngmjeaaGreat
/- The package spring: by how much snow can change. Conditions stand in the theorems. -/
namespace Go.Proofs.YtgbbljfmngmjeaaGreat
open Go.RowKit Go.Shelf
attribute [local go_sem] Oper.semAt_some

def lowA (c : Climate) (h : Int) (xs : List (WeaC c)) : Int := xs.foldl (fun n x => lowStep c h n x.1) 0
def highA (c : Climate) (h : Int) (xs : List (WeaC c)) : Int := xs.foldl (fun n x => highStep c h n x.1) 0
theorem lowA_snoc {c : Climate} {h : Int} (xs : List (WeaC c)) (x : WeaC c) : lowA c h (xs ++ [x]) = lowStep c h (lowA c h xs) x.1 := by simp [lowA]
theorem highA_snoc {c : Climate} {h : Int} (xs : List (WeaC c)) (x : WeaC c) : highA c h (xs ++ [x]) = highStep c h (highA c h xs) x.1 := by simp [highA]
theorem TR.day_bd {c : Climate} {x : Weather} {h f : Int} (hx : TR c x) (hc : ClimOk c) (hh : 0 ≤ h ∧ h ≤ 9000) (hf : 0 ≤ f ∧ f ≤ 2000) : (0 ≤ (fallF c x h).1 ∧ (fallF c x h).1 ≤ 1000) ∧ 0 ≤ meltF c x h f ∧ meltF c x h f ≤ 4800 := by
 have h1 := (meltF_bd (f := f) hc (hx.t600 hc) hh hf).2
 have h2 := fall_sum (c := c) (h := h) hx.rain.1
 have h3 := hx.rain.2
 have h4 := hc.wettest
 omega
theorem ClimOk.fhi2 {c : Climate} (h : ClimOk c) : 0 ≤ c.fhi ∧ c.fhi ≤ 2000 := by have h1 := h.flo; have h2 := h.fl; have h3 := h.fhi; omega
theorem ClimOk.flo2 {c : Climate} (h : ClimOk c) : 0 ≤ c.flo ∧ c.flo ≤ 2000 := by have h1 := h.flo; have h2 := h.fl; have h3 := h.fhi; omega
theorem lowA_bd {c : Climate} {h : Int} (hc : ClimOk c) (hh : 0 ≤ h ∧ h ≤ 9000) (xs : List (WeaC c)) : -5000 * xs.length ≤ lowA c h xs ∧ lowA c h xs ≤ 1000 * xs.length := by
 unfold lowA
 suffices H : ∀ (xs : List (WeaC c)) (n : Int), n - 5000 * xs.length ≤ xs.foldl (fun n x => lowStep c h n x.1) n ∧ xs.foldl (fun n x => lowStep c h n x.1) n ≤ n + 1000 * xs.length by
  have := H xs 0; omega
 intro xs
 induction xs with
 | nil => intro n; simp
 | cons x xs ih =>
  intro n
  have h1 := ih (lowStep c h n x.1)
  have h2 := x.2.day_bd hc hh hc.fhi2
  simp only [List.foldl_cons, List.length_cons]
  simp only [lowStep] at h1 ⊢
  push_cast
  omega
theorem highA_bd {c : Climate} {h : Int} (hc : ClimOk c) (hh : 0 ≤ h ∧ h ≤ 9000) (xs : List (WeaC c)) : 0 ≤ highA c h xs ∧ highA c h xs ≤ 1000 * xs.length := by
 unfold highA
 suffices H : ∀ (xs : List (WeaC c)) (n : Int), 0 ≤ n → 0 ≤ xs.foldl (fun n x => highStep c h n x.1) n ∧ xs.foldl (fun n x => highStep c h n x.1) n ≤ n + 1000 * xs.length by
  have := H xs 0 (Int.le_refl _); omega
 intro xs
 induction xs with
 | nil => intro n hn; simp; omega
 | cons x xs ih =>
  intro n hn
  have h2 := x.2.day_bd hc hh hc.flo2
  have h3 : highStep c h n x.1 = max 0 (n + (fallF c x.1 h).1 - meltF c x.1 h c.flo) := rfl
  have h1 := ih (highStep c h n x.1) (by omega)
  simp only [List.foldl_cons, List.length_cons]
  push_cast
  omega

theorem below_putObj {B g : Nat} {a w : World} (h : Below B a w) (hg : B ≤ g) (o : Obj) : Below B a (w.putObj g o) := h.trans ⟨rfl, rfl, rfl, by simp [World.putObj], fun k hk => World.putObj_heap_other (by omega)⟩
theorem Blk.set1 {w : World} {g : Nat} {t : TypeId} {a : Value} (h : Blk w g t #[a]) (u : Value) : Blk (w.setCell ⟨g, 0, none⟩ u) g t #[u] := by
 have := h.set_ 0 u
 simpa using this
theorem blk_stays {β : Type} {g m : Nat} {t : TypeId} {cs : β → Array Value} : OwnFrom m (fun (s : β) W => Blk W g t (cs s)) := fun s A _ row hs h hr => by
 refine (h.block g hs.lt fun e => ?_).trans hs
 obtain ⟨_, o, ho, hc⟩ := hr g e.symm
 have hs' : A.heap[g]? = some (.cells (cs s) t (0, 0)) := hs
 rw [hs'] at ho; cases ho; cases hc

theorem stretch_ok {a b : Int} (h : stretchE a b = 0) : 0 ≤ a ∧ a < b ∧ b ≤ 1048576 ∧ b - a ≤ 512 := by
 unfold stretchE at h
 split at h
 ·cases h
 split at h
 ·cases h
 omega

def changeE (c : Climate) (l : List Weather) (h a b : Int) : Int := if loggedE c l [heightB h] = 0 then stretchE a b else loggedE c l [heightB h]
def changeV (c : Climate) (l : List Weather) (h a b : Int) : Int × Int := if changeE c l h a b = 0 then changeF c l h a b else (0, 0)
theorem changeF_eq {c : Climate} {l : List Weather} {h a : Int} {n : Nat} (hc : ClimOk c) (hl : ∀ x ∈ l, WeaOk c x) : changeF c l h a (a + n) = (clipF (lowA c h (fillA c l a true hc hl n)), clipF (highA c h (fillA c l a false hc hl n))) := by
 have e : (a + (n : Int) - a).toNat = n := by omega
 simp only [changeF, e, ← fillA_val (hc := hc) (hl := hl), List.foldl_map, lowA, highA]
theorem blk32f (w : World) (t : TypeId) (cs : Array Value) (o o' : Obj) : Blk (((w.alloc o).alloc o').alloc (.cells cs t)).drew (w.heap.size + 2) t cs := blk32 w t cs o o'

end Go.Proofs.YtgbbljfmngmjeaaGreat
