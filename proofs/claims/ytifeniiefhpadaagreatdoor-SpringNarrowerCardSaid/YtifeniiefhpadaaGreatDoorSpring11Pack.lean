/- The package spring: fill and its iterator. Conditions stand in the theorems. -/
import Derived.Test.YtifeniiefhpadaaGreatDoorSpring9Pack
import Derived.Test.YtifeniiefhpadaaGreatDoorRound
import Derived.Deep.DeepCutAuto
import Derived.Outline
set_option linter.all false
set_option maxHeartbeats 4000000
set_option maxRecDepth 100000
namespace Go.Proofs.YtifeniiefhpadaaGreatDoor
open Go.RowKit Go.Shelf
attribute [local go_sem] Oper.semAt_some

structure Keep (n₀ : Nat) (X : Nat → Prop) (A B : World) : Prop where
 os : B.os = A.os
 tape : B.tape = A.tape
 output : B.output = A.output
 size : A.heap.size ≤ B.heap.size
 block : ∀ b, b < n₀ → ¬ X b → B.heap[b]? = A.heap[b]?
theorem Keep.trans {n₀ : Nat} {X : Nat → Prop} {A B C : World} (h : Keep n₀ X A B) (k : Keep n₀ X B C) : Keep n₀ X A C := ⟨k.os.trans h.os, k.tape.trans h.tape, k.output.trans h.output, Nat.le_trans h.size k.size, fun b h1 h2 => (k.block b h1 h2).trans (h.block b h1 h2)⟩
theorem Keep.refl (n₀ : Nat) (X : Nat → Prop) (A : World) : Keep n₀ X A A := ⟨rfl, rfl, rfl, Nat.le_refl _, fun _ _ _ => rfl⟩
theorem Keep.of_below {n₀ m : Nat} {X : Nat → Prop} {A B : World} (h : Below m A B) (hm : n₀ ≤ m) : Keep n₀ X A B := ⟨h.os, h.tape, h.output, h.size, fun b h1 _ => h.block b (by omega)⟩
theorem cell_of_block {A B : World} {b o : Nat} (h : B.heap[b]? = A.heap[b]?) : B.cell? ⟨b, o, none⟩ = A.cell? ⟨b, o, none⟩ := by
 simp [World.cell?, h]
theorem Keep.cell {n₀ : Nat} {X : Nat → Prop} {A B : World} (h : Keep n₀ X A B) {b o : Nat} (h1 : b < n₀) (h2 : ¬ X b) : B.cell? ⟨b, o, none⟩ = A.cell? ⟨b, o, none⟩ := cell_of_block (h.block b h1 h2)
theorem Keep.blk {n₀ : Nat} {X : Nat → Prop} {A B : World} {g : Nat} {t : TypeId} {cs : Array Value} (h : Keep n₀ X A B) (hb : Blk A g t cs) (h1 : g < n₀) (h2 : ¬ X g) : Blk B g t cs := (h.block g h1 h2).trans hb
theorem Keep.clim {n₀ : Nat} {X : Nat → Prop} {A B : World} {g : Nat} {c : Climate} (h : Keep n₀ X A B) (hb : ClimAt c g A) (h1 : g < n₀) (h2 : ¬ X g) : ClimAt c g B := by
 obtain ⟨z, h0, k1, k2, k3, k4, k5, k6, k7⟩ := hb
 exact ⟨Nat.lt_of_lt_of_le z h.size, (h.cell h1 h2).trans h0, (h.cell h1 h2).trans k1, (h.cell h1 h2).trans k2, (h.cell h1 h2).trans k3, (h.cell h1 h2).trans k4, (h.cell h1 h2).trans k5, (h.cell h1 h2).trans k6, (h.cell h1 h2).trans k7⟩
theorem Keep.sl {α : Type} {n₀ m : Nat} {X : Nat → Prop} {w A B : World} {k : Nat} {enc : α → List Value} {v : Value} {xs : List α} (h : Keep n₀ X A B) (hv : Sl w k enc v xs) (hA : Below w.heap.size w A) (hm : w.heap.size ≤ m) (hn : m ≤ n₀) (hX : ∀ b, X b → m ≤ b) : Sl B k enc v xs := by
 obtain ⟨A', c, hv, hl, hc, hr⟩ := hv
 refine ⟨A', c, hv, hl, hc, fun h0 => ?_⟩
 obtain ⟨b, off, hA', hbw, hcell⟩ := hr h0
 have hX' : ¬ X b := fun hx => by have := hX b hx; omega
 exact ⟨b, off, hA', by have := h.size; have := hA.size; omega, fun i x hx j u hu => ((h.cell (by omega) hX').trans (hA.cell (p := ⟨b, off + i * k + j, none⟩) hbw)).trans (hcell i x hx j u hu)⟩
theorem keep_t {n₀ : Nat} {X : Nat → Prop} {A B C : World} (h : Keep n₀ X A B) (k : Keep n₀ X B C) : Keep n₀ X A C := h.trans k
theorem keep_b {n₀ : Nat} {X : Nat → Prop} {w : World} (hn : n₀ ≤ w.heap.size) (W : World) (l : Nat) (o o' : Obj) (hl : w.heap.size ≤ l) (_ : W.heap[l]? = some o) (_ : o.isCells = false) (_ : o.isWalk = false) : Keep n₀ X W (W.putObj l o') :=
 ⟨rfl, rfl, rfl, by simp [World.putObj], fun b h1 _ => World.putObj_heap_other (by omega)⟩

theorem Keep.below {n₀ m : Nat} {X : Nat → Prop} {A B : World} (h : Keep n₀ X A B) (hm : m ≤ n₀) (hX : ∀ b, X b → m ≤ b) : Below m A B := ⟨h.os, h.tape, h.output, h.size, fun b hb => h.block b (by omega) fun hx => by have := hX b hx; omega⟩
theorem Keep.grown {n₀ : Nat} {X : Nat → Prop} {w A B : World} {row : Option Nat} (h : Keep n₀ X w A) (hn : n₀ ≤ w.heap.size) (hg : A.grownBy B row) (hr : ∀ r, row = some r → n₀ ≤ r) : Keep n₀ X w B :=
 h.trans ⟨hg.os, hg.tape, hg.output, hg.size, fun b hb _ => hg.block b (by have := h.size; omega) fun e => by have := hr b e.symm; omega⟩
theorem Keep.set {n₀ : Nat} {X : Nat → Prop} {A B : World} (h : Keep n₀ X A B) {g i : Nat} (hX : X g) (u : Value) : Keep n₀ X A (B.setCell ⟨g, i, none⟩ u) :=
 h.trans ⟨rfl, rfl, rfl, by simp [World.setCell], fun b _ hb => Below.heap_setCell _ _ _ _ (fun e => hb (by rw [e]; exact hX))⟩
theorem keeps_of_below {A B : World} (h : Below A.heap.size A B) : KeepsOthers A B := ⟨h.size, fun k o hk _ => (h.block k (Array.getElem?_eq_some_iff.1 hk).1).trans hk⟩
theorem keep_own {β : Type} {n₀ : Nat} {X : Nat → Prop} {w : World} (hn : n₀ ≤ w.heap.size) {m : Nat} (hm : n₀ ≤ m) : OwnFrom m (fun (_ : β) W => Keep n₀ X w W) := fun _ _ _ _ hs hg hr => hs.grown hn hg fun r e => by have := (hr r e).1; omega
structure TR (c : Climate) (x : Weather) : Prop where
 temp : c.coldest ≤ x.temp ∧ x.temp ≤ c.warmest
 rain : 0 ≤ x.rain ∧ x.rain ≤ c.wettest
theorem TR.t600 {c : Climate} {x : Weather} (h : TR c x) (hc : ClimOk c) : -600 ≤ x.temp ∧ x.temp ≤ 600 := by
 have h1 := hc.cold; have h2 := hc.warm; have h3 := h.temp; omega
structure GapIn (c : Climate) (g : Gap) : Prop where
 tlo : c.coldest ≤ g.tlo ∧ g.tlo ≤ c.warmest
 thi : c.coldest ≤ g.thi ∧ g.thi ≤ c.warmest
 rlo : 0 ≤ g.rlo ∧ g.rlo ≤ c.wettest
 rhi : 0 ≤ g.rhi ∧ g.rhi ≤ c.wettest
theorem sizeF_nonneg (n : Int) : 0 ≤ sizeF n := by unfold sizeF; omega
theorem gapStep_in {c : Climate} {d : Int} {g : Gap} {x : Weather} (hc : ClimOk c) (hx : WeaOk c x) (hg : GapIn c g) : GapIn c (gapStep c d g x) := by
 have hs : 0 ≤ c.swing * sizeF (x.day - d) := Int.mul_nonneg hc.swing.1 (sizeF_nonneg _)
 have ht := hx.temp
 have hr := hx.rain
 obtain ⟨a1, a2, a3, a4⟩ := hg
 constructor <;> simp only [gapStep]
 ·omega
 ·omega
 ·split <;> omega
 ·split <;> omega
theorem foldl_in {c : Climate} {d : Int} (hc : ClimOk c) : ∀ (l : List Weather) (g : Gap), (∀ x ∈ l, WeaOk c x) → GapIn c g → GapIn c (l.foldl (gapStep c d) g)
 | [], _, _, h => h
 | x :: xs, g, hl, h => foldl_in hc xs _ (fun y hy => hl y (List.mem_cons_of_mem _ hy)) (gapStep_in hc (hl x (List.mem_cons_self ..)) h)
theorem gapF_in {c : Climate} {l : List Weather} (d : Int) (hc : ClimOk c) (hl : ∀ x ∈ l, WeaOk c x) : GapIn c (gapF c l d) := by
 refine foldl_in hc l _ hl ?_
 have h1 := hc.cw; have h2 := hc.wettest
 constructor <;> simp only [] <;> omega
theorem warmW_tr {c : Climate} {l : List Weather} (d : Int) (b : Bool) (hc : ClimOk c) (hl : ∀ x ∈ l, WeaOk c x) : TR c (warmW c l b d) := by
 obtain ⟨a1, a2, a3, a4⟩ := gapF_in d hc hl
 unfold warmW
 cases b
 ·exact ⟨a1, a4⟩
 ·exact ⟨a2, a3⟩
abbrev WeaC (c : Climate) : Type := { x : Weather // TR c x }
def fillA (c : Climate) (l : List Weather) (a : Int) (b : Bool) (hc : ClimOk c) (hl : ∀ x ∈ l, WeaOk c x) (k : Nat) : List (WeaC c) := (List.range k).map fun i => ⟨warmW c l b (a + (i : Nat)), warmW_tr _ b hc hl⟩
theorem fillA_succ {c : Climate} {l : List Weather} {a : Int} {b : Bool} {hc : ClimOk c} {hl : ∀ x ∈ l, WeaOk c x} (k : Nat) : fillA c l a b hc hl (k + 1) = fillA c l a b hc hl k ++ [⟨warmW c l b (a + (k : Nat)), warmW_tr _ b hc hl⟩] := by
 simp [fillA, List.range_succ]
theorem fillA_len {c : Climate} {l : List Weather} {a : Int} {b : Bool} {hc : ClimOk c} {hl : ∀ x ∈ l, WeaOk c x} (k : Nat) : (fillA c l a b hc hl k).length = k := by simp [fillA]
theorem fillA_val {c : Climate} {l : List Weather} {a : Int} {b : Bool} {hc : ClimOk c} {hl : ∀ x ∈ l, WeaOk c x} (k : Nat) : (fillA c l a b hc hl k).map (fun x : WeaC c => x.1) = fillF c l a k b := by
 simp [fillA, fillF]

theorem spring_fill (c : Climate) (A : Option Addr) (n m : Nat) (a b : Int) (t : Bool) (w : World) : Calls Tryz.prog 55 #[c.v, .slice A n m, I a, I b, .bool t] w fun e w' =>
  e = .returned (.func (.func 84) #[] #[.pointer (some ⟨w.heap.size + 3, 0, none⟩), .pointer (some ⟨w.heap.size + 2, 0, none⟩), .pointer (some ⟨w.heap.size, 0, none⟩), .pointer (some ⟨w.heap.size + 1, 0, none⟩), .pointer (some ⟨w.heap.size + 4, 0, none⟩)]) ∧
  ClimAt c w.heap.size w' ∧ w'.cell? ⟨w.heap.size + 1, 0, none⟩ = some (.slice A n m) ∧ w'.cell? ⟨w.heap.size + 2, 0, none⟩ = some (I a) ∧ w'.cell? ⟨w.heap.size + 3, 0, none⟩ = some (I b) ∧ w'.cell? ⟨w.heap.size + 4, 0, none⟩ = some (.bool t) ∧ w'.heap.size = w.heap.size + 5 ∧ Below w.heap.size w w' := by
 unfold Climate.v
 go_enter Tryz.func55, Tryz.ntmps55
 go_wp2
 go_ret
 refine ⟨rfl, ?_, by simp [go_sem], by simp [go_sem], by simp [go_sem], by simp [go_sem], by simp, below5 _ _ _ _ _ _⟩
 exact ((((ClimAt.new c w _).grow (below1 _ _)).grow (below1 _ _)).grow (below1 _ _)).grow (below1 _ _)

structure FillReads (c : Climate) (v : Value) (l : List Weather) (a : Int) (n : Nat) (t : Bool) (bC bL bF bT bW : Nat) (W : World) : Prop where
 clim : ClimAt c bC W
 log : W.cell? ⟨bL, 0, none⟩ = some v
 frm : W.cell? ⟨bF, 0, none⟩ = some (I a)
 til : W.cell? ⟨bT, 0, none⟩ = some (I (a + n))
 warm : W.cell? ⟨bW, 0, none⟩ = some (.bool t)
 sl : Sl W 3 Weather.cells v l

theorem warmW_pos (c : Climate) (l : List Weather) (d : Int) : warmW c l true d = ⟨d, (gapF c l d).thi, (gapF c l d).rlo⟩ := rfl
theorem warmW_neg (c : Climate) (l : List Weather) (d : Int) : warmW c l false d = ⟨d, (gapF c l d).tlo, (gapF c l d).rhi⟩ := rfl

theorem fill1_stops (c : Climate) (v : Value) (l : List Weather) (a : Int) (n : Nat) (t : Bool) (bC bL bF bT bW n₀ : Nat) (X : Nat → Prop) (w : World) (hc : ClimOk c) (hl : ∀ x ∈ l, WeaOk c x) (ha : 0 ≤ a) (hn : n ≤ 1000000) (hb : a + n ≤ 1048576) (hn₀ : n₀ ≤ w.heap.size)
  (hread : ∀ W, Keep n₀ X w W → FillReads c v l a n t bC bL bF bT bW W) :
  SeqStopsK Fence.wide 3 Tryz.prog 84 #[.pointer (some ⟨bT, 0, none⟩), .pointer (some ⟨bF, 0, none⟩), .pointer (some ⟨bC, 0, none⟩), .pointer (some ⟨bL, 0, none⟩), .pointer (some ⟨bW, 0, none⟩)]
   (fun x : WeaC c => #[.agg #[I x.1.day, I x.1.temp, I x.1.rain]]) (Keep n₀ X) (fun ys => ys = fillA c l a t hc hl n) (fun _ => True) n w := by
 intro lr J Jx W0 hW0 hJ hJx hY h0
 have HG := hide (fun (d : Int) (hd : 0 ≤ d ∧ d ≤ 1048576) w hv => spring_gap c v l d w hc hd hl hv)
 have hr0 := hide (hread W0 (Keep.of_below hW0 hn₀))
 have k0 : IntKind.i64.wrap (a + (n : Int) - a) = (n : Int) := by rw [show a + (n : Int) - a = (n : Int) by omega]; exact IntWalk.i64_in _ (by omega)
 have q3 := hr0.out.frm
 have q4 := hr0.out.til
 unfold Climate.v at HG
 refine callsIn_of_wp Tryz.func84 rfl trivial ?_ rfl
 simp only [Tryz.ntmps84, List.size_toArray, List.length_cons, List.length_nil, Nat.reduceAdd, Nat.reduceSub, Array.replicate_succ, Array.replicate_zero, List.push_toArray, List.append_toArray, List.nil_append, List.cons_append]
 refine wpIn_wide.2 ?_
 go_wp2_with fail
 go_loopw [14] (fun i wr => ∃ k : Nat, k ≤ n ∧ i = I k ∧ Keep n₀ X w wr ∧ Hid (J (fillA c l a t hc hl k) wr) ∧ W0.heap.size ≤ wr.heap.size) (fun i _ => n - (intOf i).toNat)
 case atStart => exact ⟨0, Nat.zero_le _, rfl, Keep.of_below hW0 hn₀, hide h0, Nat.le_refl _⟩
 case round =>
  obtain ⟨k, hk, rfl, hkp, hj, hsz⟩ := hrel
  clear q3 q4 hr0
  by_cases hlt : k < n
  ·have hr := hread wr hkp
   obtain ⟨hgc, q0, q1, q2, q3, q4, q5, q6, q7⟩ := hr.clim
   have p1 := hr.log
   have p2 := hr.frm
   have p3 := hr.til
   have p4 := hr.warm
   have p5 := hide hr.sl
   have zF : bF < wr.heap.size := World.block_lt_of_cell? wr ⟨bF, 0, none⟩ p2
   have zW : bW < wr.heap.size := World.block_lt_of_cell? wr ⟨bW, 0, none⟩ p4
   obtain ⟨G, hG⟩ : ∃ G, gapF c l (a + k) = G := ⟨_, rfl⟩
   have H1 := HG.out (a + k) (by omega)
   rw [hG] at H1
   replace H1 := hide H1
   have k1 : IntKind.i64.wrap (a + (k : Int)) = a + (k : Int) := IntWalk.i64_in _ (by omega)
   cases t with
   | false =>
    have hx := warmW_neg c l (a + k)
    rw [hG] at hx
    replace hG := hide hG
    go_upto_region 7 with (go_at_call 36; refine (H1.out _ p5.out).mono ?_; clear H1; rintro e w2 ⟨rfl, hb2⟩; have y2 := ((bcell hb2).1 bF 0 zF).trans p2; have y4 := ((bcell hb2).1 bW 0 zW).trans p4; have zF2 := Nat.lt_of_lt_of_le zF hb2.size; have zW2 := Nat.lt_of_lt_of_le zW hb2.size; have zW3 : bW ≤ w2.heap.size := Nat.le_of_lt zW2; have zW4 : bW ≤ w2.heap.size + 1 := Nat.le_succ_of_le zW3; have zW5 : bW < w2.heap.size + 1 + 1 := Nat.lt_succ_of_le zW4)
    obtain ⟨Wy, hWy⟩ : ∃ Wy, Wy = ((w2.alloc (Obj.cells #[Value.int .i64 G.tlo, Value.int .i64 G.thi] 23)).alloc (Obj.cells #[Value.int .i64 G.rlo, Value.int .i64 G.rhi] 23)).alloc (Obj.cells #[Value.int .i64 (a + k), Value.int .i64 G.tlo, Value.int .i64 G.rhi] 28) := ⟨_, rfl⟩
    rw [← hWy]
    have yB : Below wr.heap.size wr Wy := by rw [hWy]; exact bup (bup hb2 (below2 _ _ _)) (below1 _ _)
    have yX : Blk Wy (w2.heap.size + 2) 28 #[I (a + k), I G.tlo, I G.rhi] := by rw [hWy]; exact blk32 _ _ _ _ _
    clear hWy
    have hjy : J (fillA c l a false hc hl k) Wy := hJ _ _ _ none hj.out ⟨yB.os, yB.tape, yB.output, yB.size, fun i hi _ => yB.block i hi⟩ (fun r e => by cases e)
    obtain ⟨fn, tmps, assign, body, hy, hR⟩ := hY (fillA c l a false hc hl k) ⟨warmW c l false (a + k), warmW_tr _ _ hc hl⟩ Wy hjy (by rw [fillA_len]; exact hlt)
    rw [← fillA_succ] at hR
    simp only [hx] at hy
    have x0 := yX.cell 0
    have x1 := yX.cell 1
    have x2 := yX.cell 2
    have xz := yX.lt
    replace hjy := hide hjy
    replace hx := hide hx
    refine (wpIn_wide (n := 3)).1 ?_
    gi_wp2
    refine hR.mono ?_
    rintro e W3 (⟨rfl, hJ3, hk3⟩ | ⟨rfl, hJx3⟩)
    ·replace hJ3 := hide hJ3
     gi_wp2
     go_wp2_with fail
     go_roundw
     case rel => exact ⟨k + 1, by omega, by go_num, (hkp.trans (Keep.of_below yB (by have := hkp.size; omega))).trans hk3, hJ3, by have := hk3.size; have := yB.size; omega⟩
     case measure => simp [intOf]; omega
    ·gi_wp2
     go_wp2_with fail
     refine bodyPost_ret (results_none rfl _ _ _) rfl ?_
     exact ⟨⟨_, rfl⟩, .inr ⟨_, trivial, hJx3⟩⟩
   | true =>
    have hx := warmW_pos c l (a + k)
    rw [hG] at hx
    replace hG := hide hG
    go_upto_region 6 with (go_at_call 36; refine (H1.out _ p5.out).mono ?_; clear H1; rintro e w2 ⟨rfl, hb2⟩; have y2 := ((bcell hb2).1 bF 0 zF).trans p2; have y4 := ((bcell hb2).1 bW 0 zW).trans p4; have zF2 := Nat.lt_of_lt_of_le zF hb2.size; have zW2 := Nat.lt_of_lt_of_le zW hb2.size; have zW3 : bW ≤ w2.heap.size := Nat.le_of_lt zW2; have zW4 : bW ≤ w2.heap.size + 1 := Nat.le_succ_of_le zW3; have zW5 : bW < w2.heap.size + 1 + 1 := Nat.lt_succ_of_le zW4)
    obtain ⟨Wy, hWy⟩ : ∃ Wy, Wy = ((w2.alloc (Obj.cells #[Value.int .i64 G.tlo, Value.int .i64 G.thi] 23)).alloc (Obj.cells #[Value.int .i64 G.rlo, Value.int .i64 G.rhi] 23)).alloc (Obj.cells #[Value.int .i64 (a + k), Value.int .i64 G.tlo, Value.int .i64 G.rhi] 28) := ⟨_, rfl⟩
    rw [← hWy]
    have yB : Below wr.heap.size wr Wy := by rw [hWy]; exact bup (bup hb2 (below2 _ _ _)) (below1 _ _)
    have yX : Blk Wy (w2.heap.size + 2) 28 #[I (a + k), I G.tlo, I G.rhi] := by rw [hWy]; exact blk32 _ _ _ _ _
    have yT : Blk Wy w2.heap.size 23 #[I G.tlo, I G.thi] := by rw [hWy]; exact (blk20 _ _ _ _).alloc _
    have yU : Blk Wy (w2.heap.size + 1) 23 #[I G.rlo, I G.rhi] := by rw [hWy]; exact (blk21 _ _ _ _).alloc _
    clear hWy
    have hz2 : wr.heap.size ≤ w2.heap.size := hb2.size
    obtain ⟨t1, t2, t3, _, _⟩ := blk_box yT
    obtain ⟨u1, u2, u3, _, _⟩ := blk_box yU
    have x0 := yX.cell 0
    have x1 := yX.cell 1
    have x2 := yX.cell 2
    have f1 := yX.frozen 1
    have f2 := yX.frozen 2
    have n1 : w2.heap.size + 1 + 1 ≠ w2.heap.size := by omega
    have n2 : w2.heap.size + 1 + 1 ≠ w2.heap.size + 1 := by omega
    have n3 : w2.heap.size ≠ w2.heap.size + 1 + 1 := by omega
    have n4 : w2.heap.size + 1 ≠ w2.heap.size + 1 + 1 := by omega
    go_region_held3 (fun W => W.cell? ⟨w2.heap.size, 1, none⟩ = some (I G.thi) ∧ W.cell? ⟨w2.heap.size + 1, 0, none⟩ = some (I G.rlo)) (go_keep) (fail)
    obtain ⟨Wz, hWz⟩ : ∃ Wz, Wz = ((Wy.setCell ⟨w2.heap.size + 1 + 1, 1, none⟩ (Value.int .i64 G.thi)).setCell ⟨w2.heap.size + 1 + 1, 2, none⟩ (Value.int .i64 G.rlo)).drew := ⟨_, rfl⟩
    rw [← hWz]
    have zB : Below wr.heap.size wr Wz := by rw [hWz]; exact below_drewN (bset (bset yB (w2.heap.size + 1 + 1) 1 (by omega) _) (w2.heap.size + 1 + 1) 2 (by omega) _) 1
    have zX : Blk Wz (w2.heap.size + 2) 28 #[I (a + k), I G.thi, I G.rlo] := by
     rw [hWz]
     have := (yX.set_ 1 (I G.thi)).set_ 2 (I G.rlo)
     simpa using this.drew
    rename_i hS
    clear hS hWz yB yX yT yU t2 t3 u2 u3 x0 x1 x2 f1 f2 n1 n2 n3 n4 t1 u1
    go_upto_region 7 with fail
    have hjy : J (fillA c l a true hc hl k) Wz := hJ _ _ _ none hj.out ⟨zB.os, zB.tape, zB.output, zB.size, fun i hi _ => zB.block i hi⟩ (fun r e => by cases e)
    obtain ⟨fn, tmps, assign, body, hy, hR⟩ := hY (fillA c l a true hc hl k) ⟨warmW c l true (a + k), warmW_tr _ _ hc hl⟩ Wz hjy (by rw [fillA_len]; exact hlt)
    rw [← fillA_succ] at hR
    simp only [hx] at hy
    have x0 := zX.cell 0
    have x1 := zX.cell 1
    have x2 := zX.cell 2
    have xz := zX.lt
    replace hjy := hide hjy
    replace hx := hide hx
    refine (wpIn_wide (n := 3)).1 ?_
    gi_wp2
    refine hR.mono ?_
    rintro e W3 (⟨rfl, hJ3, hk3⟩ | ⟨rfl, hJx3⟩)
    ·replace hJ3 := hide hJ3
     gi_wp2
     go_wp2_with fail
     go_roundw
     case rel => exact ⟨k + 1, by omega, by go_num, (hkp.trans (Keep.of_below zB (by have := hkp.size; omega))).trans hk3, hJ3, by have := hk3.size; have := zB.size; omega⟩
     case measure => simp [intOf]; omega
    ·gi_wp2
     go_wp2_with fail
     refine bodyPost_ret (results_none rfl _ _ _) rfl ?_
     exact ⟨⟨_, rfl⟩, .inr ⟨_, trivial, hJx3⟩⟩
  ·have he : k = n := by omega
   subst he
   replace hj := hj.out
   go_wp2_with fail
   go_end0
   exact ⟨⟨_, rfl⟩, .inl ⟨_, rfl, hj⟩⟩
end Go.Proofs.YtifeniiefhpadaaGreatDoor
/- The package spring: by how much snow can change. Conditions stand in the theorems. -/
namespace Go.Proofs.YtifeniiefhpadaaGreatDoor
open Go.RowKit Go.Shelf
attribute [local go_sem] Oper.semAt_some

def lowA (c : Climate) (h : Int) (xs : List (WeaC c)) : Int := xs.foldl (fun n x => lowStep c h n x.1) 0
def highA (c : Climate) (h : Int) (xs : List (WeaC c)) : Int := xs.foldl (fun n x => highStep c h n x.1) 0
theorem lowA_snoc {c : Climate} {h : Int} (xs : List (WeaC c)) (x : WeaC c) : lowA c h (xs ++ [x]) = lowStep c h (lowA c h xs) x.1 := by simp [lowA]
theorem highA_snoc {c : Climate} {h : Int} (xs : List (WeaC c)) (x : WeaC c) : highA c h (xs ++ [x]) = highStep c h (highA c h xs) x.1 := by simp [highA]
theorem TR.day_bd {c : Climate} {x : Weather} {h f : Int} (hx : TR c x) (hc : ClimOk c) (hh : 0 ≤ h ∧ h ≤ 9000) (hf : 0 ≤ f ∧ f ≤ 2000) : (0 ≤ (fallF c x h).1 ∧ (fallF c x h).1 ≤ 1000) ∧ 0 ≤ meltF c x h f ∧ meltF c x h f ≤ 4800 := by
 have h1 := (meltF_bd (f := f) hc (hx.t600 hc) hh hf).2
 have h2 := fall_sum (c := c) (h := h) hx.rain.1
 have h3 := hx.rain.2
 have h4 := hc.wettest
 omega
theorem ClimOk.fhi2 {c : Climate} (h : ClimOk c) : 0 ≤ c.fhi ∧ c.fhi ≤ 2000 := by have h1 := h.flo; have h2 := h.fl; have h3 := h.fhi; omega
theorem ClimOk.flo2 {c : Climate} (h : ClimOk c) : 0 ≤ c.flo ∧ c.flo ≤ 2000 := by have h1 := h.flo; have h2 := h.fl; have h3 := h.fhi; omega
theorem lowA_bd {c : Climate} {h : Int} (hc : ClimOk c) (hh : 0 ≤ h ∧ h ≤ 9000) (xs : List (WeaC c)) : -5000 * xs.length ≤ lowA c h xs ∧ lowA c h xs ≤ 1000 * xs.length := by
 unfold lowA
 suffices H : ∀ (xs : List (WeaC c)) (n : Int), n - 5000 * xs.length ≤ xs.foldl (fun n x => lowStep c h n x.1) n ∧ xs.foldl (fun n x => lowStep c h n x.1) n ≤ n + 1000 * xs.length by
  have := H xs 0; omega
 intro xs
 induction xs with
 | nil => intro n; simp
 | cons x xs ih =>
  intro n
  have h1 := ih (lowStep c h n x.1)
  have h2 := x.2.day_bd hc hh hc.fhi2
  simp only [List.foldl_cons, List.length_cons]
  simp only [lowStep] at h1 ⊢
  push_cast
  omega
theorem highA_bd {c : Climate} {h : Int} (hc : ClimOk c) (hh : 0 ≤ h ∧ h ≤ 9000) (xs : List (WeaC c)) : 0 ≤ highA c h xs ∧ highA c h xs ≤ 1000 * xs.length := by
 unfold highA
 suffices H : ∀ (xs : List (WeaC c)) (n : Int), 0 ≤ n → 0 ≤ xs.foldl (fun n x => highStep c h n x.1) n ∧ xs.foldl (fun n x => highStep c h n x.1) n ≤ n + 1000 * xs.length by
  have := H xs 0 (Int.le_refl _); omega
 intro xs
 induction xs with
 | nil => intro n hn; simp; omega
 | cons x xs ih =>
  intro n hn
  have h2 := x.2.day_bd hc hh hc.flo2
  have h3 : highStep c h n x.1 = max 0 (n + (fallF c x.1 h).1 - meltF c x.1 h c.flo) := rfl
  have h1 := ih (highStep c h n x.1) (by omega)
  simp only [List.foldl_cons, List.length_cons]
  push_cast
  omega

theorem clip1 (n : Int) (w : World) : Calls Tryz.prog 77 #[I n] w fun e w' => e = .returned (I (clipF n)) ∧ w = w' := by
 rcases ilt n (-65536) with h1 | h1
 ·have h2 : clipF n = -65536 := by simp only [clipF]; omega
  rw [h2]
  go_enter Tryz.func77, Tryz.ntmps77
  go_wp2
  go_ret
  exact ⟨rfl, rfl⟩
 ·rcases ilt 65536 n with h2 | h2
  ·have h3 : clipF n = 65536 := by simp only [clipF]; omega
   rw [h3]
   go_enter Tryz.func77, Tryz.ntmps77
   go_wp2
   go_ret
   exact ⟨rfl, rfl⟩
  ·have h3 : clipF n = n := by simp only [clipF]; omega
   rw [h3]
   go_enter Tryz.func77, Tryz.ntmps77
   go_wp2
   go_ret
   exact ⟨rfl, rfl⟩

theorem below_putObj {B g : Nat} {a w : World} (h : Below B a w) (hg : B ≤ g) (o : Obj) : Below B a (w.putObj g o) := h.trans ⟨rfl, rfl, rfl, by simp [World.putObj], fun k hk => World.putObj_heap_other (by omega)⟩
theorem Blk.set1 {w : World} {g : Nat} {t : TypeId} {a : Value} (h : Blk w g t #[a]) (u : Value) : Blk (w.setCell ⟨g, 0, none⟩ u) g t #[u] := by
 have := h.set_ 0 u
 simpa using this
theorem blk_stays {β : Type} {g m : Nat} {t : TypeId} {cs : β → Array Value} : OwnFrom m (fun (s : β) W => Blk W g t (cs s)) := fun s A _ row hs h hr => by
 refine (h.block g hs.lt fun e => ?_).trans hs
 obtain ⟨_, o, ho, hc⟩ := hr g e.symm
 have hs' : A.heap[g]? = some (.cells (cs s) t (0, 0)) := hs
 rw [hs'] at ho; cases ho; cases hc
theorem spring_change (c : Climate) (v : Value) (l : List Weather) (h a : Int) (n : Nat) (w : World) (hc : ClimOk c) (hl : ∀ x ∈ l, WeaOk c x) (hh : 0 ≤ h ∧ h ≤ 9000) (ha : 0 ≤ a) (hn : n ≤ 512) (hb : a + n ≤ 1048576) (hv : Sl w 3 Weather.cells v l) :
  Calls Tryz.prog 39 #[c.v, v, I h, I a, I (a + n)] w fun e w' => e = .returned (.agg #[I (clipF (lowA c h (fillA c l a true hc hl n))), I (clipF (highA c h (fillA c l a false hc hl n)))]) ∧ Below w.heap.size w w' := by
 obtain ⟨A, m, rfl, _, _, hlen, hA⟩ := hv.open_
 clear hA
 obtain ⟨lo1, hlo1⟩ : ∃ lo1, lowA c h (fillA c l a true hc hl n) = lo1 := ⟨_, rfl⟩
 obtain ⟨hi1, hhi1⟩ : ∃ hi1, highA c h (fillA c l a false hc hl n) = hi1 := ⟨_, rfl⟩
 rw [hlo1, hhi1]
 replace hlo1 := hide hlo1
 replace hhi1 := hide hhi1
 have HF := hide (fun (x : Weather) (hx : TR c x) w => spring_fall c x h w hc (hx.t600 hc) hh)
 have HM := hide (fun (x : Weather) (hx : TR c x) (f : Int) (hf : 0 ≤ f ∧ f ≤ 2000) w => spring_melt c x h f w hc (hx.t600 hc) hh hf)
 have HL := hide (fun t w => spring_fill c A l.length m a (a + n) t w)
 replace hv := hide hv
 unfold Climate.v Weather.v at *
 refine (callsIn_wide (n := 4)).1 ?_
 refine callsIn_of_wp_marks Tryz.func39 rfl trivial ?_ rfl
 simp only [Tryz.ntmps39, List.size_toArray, List.length_cons, List.length_nil, Nat.reduceAdd, Nat.reduceSub, Array.replicate_succ, Array.replicate_zero, List.push_toArray, List.append_toArray, List.nil_append, List.cons_append]
 refine wpIn_wide.2 ?_
 go_wp2_with (go_at_call 55; refine (HL.out _ _).mono ?_; rintro e w1 ⟨rfl, j0, j1, j2, j3, j4, js, hb1⟩)
 simp only [World.size_alloc] at j0 j1 j2 j3 j4 js hb1
 obtain ⟨W0, hW0⟩ : ∃ W0, W0 = ((((w.alloc (.cells (c8 c) 25)).alloc (.cells #[I h] 3)).alloc (.cells #[I 0, I 0] 23)).alloc (.cells #[I 0] 3)).alloc (.cells #[I 0] 3) := ⟨_, rfl⟩
 have z0 : W0.heap.size = w.heap.size + 5 := by rw [hW0]; simp
 have kB0 : Below w.heap.size w W0 := by rw [hW0]; exact below5 _ _ _ _ _ _
 have kC0 : Blk W0 w.heap.size 25 (c8 c) := by rw [hW0]; exact ((((Blk.new w _ _).alloc _).alloc _).alloc _).alloc _
 have kH0 : Blk W0 (w.heap.size + 1) 3 #[I h] := by rw [hW0]; exact (((blk21 w _ _ _).alloc _).alloc _).alloc _
 have kR0 : Blk W0 (w.heap.size + 2) 23 #[I 0, I 0] := by rw [hW0]; exact ((blk32 w _ _ _ _).alloc _).alloc _
 have kL0 : Blk W0 (w.heap.size + 3) 3 #[I 0] := by rw [hW0]; exact (by have := Blk.new (((w.alloc (.cells (c8 c) 25)).alloc (.cells #[I h] 3)).alloc (.cells #[I 0, I 0] 23)) 3 #[I 0]; simpa using this : Blk _ (w.heap.size + 3) _ _).alloc _
 have kM0 : Blk W0 (w.heap.size + 4) 3 #[I 0] := by rw [hW0]; have := Blk.new ((((w.alloc (.cells (c8 c) 25)).alloc (.cells #[I h] 3)).alloc (.cells #[I 0, I 0] 23)).alloc (.cells #[I 0] 3)) 3 #[I 0]; simpa using this
 rw [← hW0] at hb1
 have hb1 : Below W0.heap.size W0 w1 := by rw [z0]; exact hb1
 clear hW0
 have kC1 := hide (kC0.grow hb1)
 have kH1 := hide (kH0.grow hb1)
 have kR1 := hide (kR0.grow hb1)
 have kL1 := hide (kL0.grow hb1)
 have kM1 := hide (kM0.grow hb1)
 have kB1 := hide (bup kB0 hb1)
 have js : w1.heap.size = w.heap.size + 10 := by rw [js]
 clear kC0 kH0 kR0 kL0 kM0 kB0 hb1 z0
 have j0 : ClimAt c (w.heap.size + 5) w1 := j0
 refine (wpIn_wide (n := 4)).1 ?_
 refine wpIn_rangeFunc_ownH (α := WeaC c) rfl (by omega) (gf := 84) (lb := #[.pointer (some ⟨w.heap.size + 8, 0, none⟩), .pointer (some ⟨w.heap.size + 7, 0, none⟩), .pointer (some ⟨w.heap.size + 5, 0, none⟩), .pointer (some ⟨w.heap.size + 6, 0, none⟩), .pointer (some ⟨w.heap.size + 9, 0, none⟩)]) rfl trivial (enters_of Tryz.func84 (by kernel_rfl) rfl)
  (fill1_stops c (.slice A l.length m) l a n true (w.heap.size + 5) (w.heap.size + 6) (w.heap.size + 7) (w.heap.size + 8) (w.heap.size + 9) w1.heap.size (fun b => b = w.heap.size + 3) w1 hc hl ha (by omega) hb (Nat.le_refl _) ?reads1) keep_t (keep_b (Nat.le_refl _)) (Below.refl _ _) (fun _ => rfl)
  (fun pre W => Keep w1.heap.size (fun b => b = w.heap.size + 3) w1 W ∧ Blk W (w.heap.size + 3) 3 #[I (lowA c h pre)])
  (fun _ _ _ => False)
  (OwnFrom.and (keep_own (Nat.le_refl _) (Nat.le_refl _)) blk_stays)
  (fun _ _ _ _ _ hs _ _ => hs)
  ⟨Keep.refl _ _ _, kL1.out⟩
  (fun x a' W => ∃ Bx, w1.heap.size ≤ Bx ∧ Blk W Bx 28 #[I x.1.day, I x.1.temp, I x.1.rain] ∧ a' = { tmps := #[.agg (c8 c), .slice A l.length m, I h, I a, I (a + n), .pointer (some ⟨w.heap.size, 0, none⟩), undef, .pointer (some ⟨w.heap.size + 1, 0, none⟩), undef, undef, .pointer (some ⟨w.heap.size + 1 + 1, 0, none⟩), .pointer (some ⟨w.heap.size + 1 + 1 + 1, 0, none⟩), .pointer (some ⟨w.heap.size + 1 + 1 + 1 + 1, 0, none⟩), .pointer (some ⟨Bx, 0, none⟩), undef, undef, undef, undef, undef, undef, .agg (c8 c), .slice A l.length m, I a, I (a + n), .func (.func 84) #[] #[.pointer (some ⟨w.heap.size + 1 + 1 + 1 + 1 + 1 + 3, 0, none⟩), .pointer (some ⟨w.heap.size + 1 + 1 + 1 + 1 + 1 + 2, 0, none⟩), .pointer (some ⟨w.heap.size + 1 + 1 + 1 + 1 + 1, 0, none⟩), .pointer (some ⟨w.heap.size + 1 + 1 + 1 + 1 + 1 + 1, 0, none⟩), .pointer (some ⟨w.heap.size + 1 + 1 + 1 + 1 + 1 + 4, 0, none⟩)], .agg #[I x.1.day, I x.1.temp, I x.1.rain], undef, undef, undef, undef, undef, undef, undef, undef, undef, undef, undef, undef, undef, undef, undef, undef, undef, undef, undef, undef, undef, undef, undef, undef, undef, undef, undef, undef, undef, undef, undef, undef, undef, undef, undef, undef, undef, undef, undef, undef, undef, undef, undef, undef, undef, undef, undef, undef, undef, undef], defers := [] })
  (fun x a' s X Y row hs hg hr => by obtain ⟨Bx, h1, h2, h3⟩ := hs; exact ⟨Bx, h1, blk_stays (β := Unit) (cs := fun _ => #[I x.1.day, I x.1.temp, I x.1.rain]) () X Y row h2 hg hr, h3⟩)
  ?assign1 ?body1 ?done1 ?stop1
 case reads1 =>
  intro W hk
  exact ⟨hk.clim j0 (by omega) (by omega), (hk.cell (by omega) (by omega)).trans j1, (hk.cell (by omega) (by omega)).trans j2, (hk.cell (by omega) (by omega)).trans j3, (hk.cell (by omega) (by omega)).trans j4, hk.sl hv.out kB1.out (Nat.le_refl _) (by omega) (fun b hb => by omega)⟩
 case assign1 =>
  rintro lr pre x W K ⟨hk, hb'⟩ hK
  gi_wp2
  exact hK _ _ ((KeepsOthers.alloc _ _).from _) (Keep.of_below (below1 _ _) hk.size) ⟨hk.trans (Keep.of_below (below1 _ _) hk.size), hb'.alloc _⟩ ⟨W.heap.size, hk.size, Blk.new _ _ _, rfl⟩
 case body1 =>
  rintro lr pre x a' W hlr _ ⟨hk, hbl⟩ ⟨Bx, hBx, hbx, rfl⟩ hlt
  have kC := (hk.blk kC1.out (by omega) (by omega)).clim
  obtain ⟨zc, q0, q1, q2, q3, q4, q5, q6, q7⟩ := kC
  have kH := hk.blk kH1.out (by omega) (by omega)
  have r0 := kH.cell 0
  have b0 := hbx.cell 0
  have b1 := hbx.cell 1
  have b2 := hbx.cell 2
  have zx := hbx.lt
  have zl := hbl.lt
  have zh := kH.lt
  have H1 := hide (HF.out x.1 x.2)
  have H2 := hide (HM.out x.1 x.2 c.fhi hc.fhi2)
  have hsn := hide (lowA_snoc (h := h) pre x)
  obtain ⟨lo, hlo⟩ : ∃ lo, lowA c h pre = lo := ⟨_, rfl⟩
  have hlb := lowA_bd hc hh pre
  have hdb := x.2.day_bd hc hh hc.fhi2
  rw [hlo] at hbl hlb
  simp only [lowStep] at hsn
  rw [hlo] at hsn
  obtain ⟨sn, hs1⟩ : ∃ sn, (fallF c x.1 h).1 = sn := ⟨_, rfl⟩
  obtain ⟨ra, hs2⟩ : ∃ ra, (fallF c x.1 h).2 = ra := ⟨_, rfl⟩
  obtain ⟨me, hs3⟩ : ∃ me, meltF c x.1 h c.fhi = me := ⟨_, rfl⟩
  rw [hs1, hs3] at hdb hsn
  simp only [hs1, hs2] at H1
  simp only [hs3] at H2
  replace H1 := hide H1
  replace H2 := hide H2
  have l0 := hbl.cell 0
  have l1 := hbl.frozen 0
  obtain ⟨⟨d1, d2⟩, d3, d4⟩ := hdb
  obtain ⟨e1, e2⟩ := hlb
  have k1 : IntKind.i64.wrap (sn - me) = sn - me := IntWalk.i64_in _ (by omega)
  have k2 : IntKind.i64.wrap (lo + (sn - me)) = lo + (sn - me) := IntWalk.i64_in _ (by omega)
  replace hbl := hide hbl
  replace hk := hide hk
  replace hlo := hide hlo
  replace hs1 := hide hs1
  replace hs2 := hide hs2
  replace hs3 := hide hs3
  clear j0 j1 j2 j3 j4 kH hbx
  gi_wp2_with (refine ⟨trivial, ?_⟩; gi_at_call 48; refine (CallsIn.inRound lr (callsIn_wide.2 (H1.out.out W))).mono ?_; clear H1; rintro e w2 ⟨rfl, hb2⟩; have y0 := fun o => (bcell hb2).1 w.heap.size o zc; have y1 := fun o => (bcell hb2).1 (w.heap.size + 1) o zh; have y2 := fun o => (bcell hb2).1 Bx o zx; have y3 := fun o => (bcell hb2).1 (w.heap.size + 1 + 1 + 1) o zl; have y4 := fun o => (bcell hb2).2 (w.heap.size + 1 + 1 + 1) o zl)
  have zl2 : w.heap.size + 1 + 1 + 1 < w2.heap.size := Nat.lt_of_lt_of_le zl hb2.size
  have zc2 : w.heap.size < w2.heap.size := Nat.lt_of_lt_of_le zc hb2.size
  have zh2 : w.heap.size + 1 < w2.heap.size := Nat.lt_of_lt_of_le zh hb2.size
  have zx2 : Bx < w2.heap.size := Nat.lt_of_lt_of_le zx hb2.size
  refine wpIn_round_zg (S := fun W => (W.cell? ⟨w.heap.size, 0, none⟩ = some (I c.base) ∧ W.cell? ⟨w.heap.size, 1, none⟩ = some (I c.lapse) ∧ W.cell? ⟨w.heap.size, 2, none⟩ = some (I c.swing) ∧ W.cell? ⟨w.heap.size, 3, none⟩ = some (I c.wettest) ∧ W.cell? ⟨w.heap.size, 4, none⟩ = some (I c.coldest) ∧ W.cell? ⟨w.heap.size, 5, none⟩ = some (I c.warmest) ∧ W.cell? ⟨w.heap.size, 6, none⟩ = some (I c.flo) ∧ W.cell? ⟨w.heap.size, 7, none⟩ = some (I c.fhi)) ∧ W.cell? ⟨w.heap.size + 1, 0, none⟩ = some (I h) ∧ W.cell? ⟨Bx, 0, none⟩ = some (I x.1.day) ∧ W.cell? ⟨Bx, 1, none⟩ = some (I x.1.temp) ∧ W.cell? ⟨Bx, 2, none⟩ = some (I x.1.rain) ∧ W.cell? ⟨w.heap.size + 1 + 1 + 1, 0, none⟩ = some (I lo) ∧ W.frozen? ⟨w.heap.size + 1 + 1 + 1, 0, none⟩ = false) 11 (by kernel_rfl) (by kernel_rfl) (by rintro ⟨_, _, h⟩; exact h) (by kernel_rfl) ?_
  have hS0 : (fun W : World => (W.cell? ⟨w.heap.size, 0, none⟩ = some (I c.base) ∧ W.cell? ⟨w.heap.size, 1, none⟩ = some (I c.lapse) ∧ W.cell? ⟨w.heap.size, 2, none⟩ = some (I c.swing) ∧ W.cell? ⟨w.heap.size, 3, none⟩ = some (I c.wettest) ∧ W.cell? ⟨w.heap.size, 4, none⟩ = some (I c.coldest) ∧ W.cell? ⟨w.heap.size, 5, none⟩ = some (I c.warmest) ∧ W.cell? ⟨w.heap.size, 6, none⟩ = some (I c.flo) ∧ W.cell? ⟨w.heap.size, 7, none⟩ = some (I c.fhi)) ∧ W.cell? ⟨w.heap.size + 1, 0, none⟩ = some (I h) ∧ W.cell? ⟨Bx, 0, none⟩ = some (I x.1.day) ∧ W.cell? ⟨Bx, 1, none⟩ = some (I x.1.temp) ∧ W.cell? ⟨Bx, 2, none⟩ = some (I x.1.rain) ∧ W.cell? ⟨w.heap.size + 1 + 1 + 1, 0, none⟩ = some (I lo) ∧ W.frozen? ⟨w.heap.size + 1 + 1 + 1, 0, none⟩ = false) w2.drew := by
   dsimp only
   go_keep
  (refine zg_tk 0 ?_; refine zg_tk 1 ?_; refine zg_tk 2 ?_; refine zg_tk 3 ?_; refine zg_tk 4 ?_; refine zg_tk 5 ?_; refine zg_tk 6 ?_; refine zg_tk 7 ?_; (try go_frame))
  (refine zg_rd 8 fun K_ hK_ => ?_; go_simp; (refine (H2.out.out w2.drew).mono ?_; clear H2; rintro e w3 ⟨rfl, hb3⟩; have u0 := fun o => (bcell hb3).1 w.heap.size o zc2; have u1 := fun o => (bcell hb3).1 (w.heap.size + 1) o zh2; have u2 := fun o => (bcell hb3).1 Bx o zx2; have u3 := fun o => (bcell hb3).1 (w.heap.size + 1 + 1 + 1) o zl2; have u4 := fun o => (bcell hb3).2 (w.heap.size + 1 + 1 + 1) o zl2); refine hK_.out _ _ ?_ (fun hHeld => ?_); rotate_left; clear hK_ K_; (try go_frame); rotate_left)
  ·go_keep
  (refine zg_tk 9 ?_; refine zg_tk 10 ?_; (try go_frame))
  (refine zg_ls 11 fun K_ hK_ => ?_; go_simp; skip; refine hK_.out _ _ ?_; clear hK_ K_; (try go_frame))
  have wB := bup (below_drewN hb2 1) hb3
  refine (show _ ∧ _ ∧ _ ∧ _ from ⟨((keeps_of_below wB).trans (KeepsOthers.setCell _ _ _)).from _, Keep.set (X := fun b => b = w.heap.size + 3) (g := w.heap.size + 3) (Keep.of_below wB hk.out.size) rfl _, Keep.set (X := fun b => b = w.heap.size + 3) (g := w.heap.size + 3) (hk.out.trans (Keep.of_below wB hk.out.size)) rfl _, ?_⟩)
  rw [hsn.out]
  exact (hbl.out.grow wB).set1 _
 case done1 =>
  rintro D1 ys V hD1 rfl ⟨hk, hbl⟩ hK1
  have kC := hk.blk kC1.out (by omega) (by omega)
  have kH := hk.blk kH1.out (by omega) (by omega)
  have kR := hide (hk.blk kR1.out (by omega) (by omega))
  have kM := hide (hk.blk kM1.out (by omega) (by omega))
  have kV : Below w.heap.size w V := kB1.out.trans (hk.below (by omega) (fun b hb => by omega))
  have hVs := hk.size
  have zD : D1 < V.heap.size := (Array.getElem?_eq_some_iff.1 hK1).1
  obtain ⟨zc, q0, q1, q2, q3, q4, q5, q6, q7⟩ := kC.clim
  rw [hlo1.out] at hbl
  replace kC := hide kC
  replace kH := hide kH
  replace hbl := hide hbl
  replace kV := hide kV
  replace hK1 := hide hK1
  replace hk := hide hk
  clear kC1 kH1 kR1 kL1 kM1 kB1 j0 j1 j2 j3 j4
  go_wp2_with (go_at_call 55; refine (HL.out _ _).mono ?_; rintro e v1 ⟨rfl, i0, i1, i2, i3, i4, is, hb2⟩)
  have kC2 := hide (kC.out.grow hb2)
  have kH2 := hide (kH.out.grow hb2)
  have kR2 := hide (kR.out.grow hb2)
  have kM2 := hide (kM.out.grow hb2)
  have kL2 := hide (hbl.out.grow hb2)
  have kB2 := hide (bup kV.out hb2)
  have kD2 : Hid (v1.heap[D1]? = some (.deferred (some []))) := hide ((hb2.block D1 zD).trans hK1.out)
  clear q0 q1 q2 q3 q4 q5 q6 q7 kC kH kR kM hbl kV hK1 hb2 hk
  refine (wpIn_wide (n := 4)).1 ?_
  refine wpIn_rangeFunc_ownH (α := WeaC c) rfl (by omega) (gf := 84) (lb := #[.pointer (some ⟨V.heap.size + 3, 0, none⟩), .pointer (some ⟨V.heap.size + 2, 0, none⟩), .pointer (some ⟨V.heap.size, 0, none⟩), .pointer (some ⟨V.heap.size + 1, 0, none⟩), .pointer (some ⟨V.heap.size + 4, 0, none⟩)]) rfl trivial (enters_of Tryz.func84 (by kernel_rfl) rfl)
   (fill1_stops c (.slice A l.length m) l a n false V.heap.size (V.heap.size + 1) (V.heap.size + 2) (V.heap.size + 3) (V.heap.size + 4) v1.heap.size (fun b => b = w.heap.size + 4) v1 hc hl ha (by omega) hb (Nat.le_refl _) ?reads2) keep_t (keep_b (Nat.le_refl _)) (Below.refl _ _) (fun _ => rfl)
   (fun pre W => Keep v1.heap.size (fun b => b = w.heap.size + 4) v1 W ∧ Blk W (w.heap.size + 4) 3 #[I (highA c h pre)])
   (fun _ _ _ => False)
   (OwnFrom.and (keep_own (Nat.le_refl _) (Nat.le_refl _)) blk_stays)
   (fun _ _ _ _ _ hs _ _ => hs)
   ⟨Keep.refl _ _ _, kM2.out⟩
   (fun x a' W => ∃ Bx, v1.heap.size ≤ Bx ∧ Blk W Bx 28 #[I x.1.day, I x.1.temp, I x.1.rain] ∧ a' = { tmps := #[.agg (c8 c), .slice A l.length m, I h, I a, I (a + n), .pointer (some ⟨w.heap.size, 0, none⟩), undef, .pointer (some ⟨w.heap.size + 1, 0, none⟩), undef, undef, .pointer (some ⟨w.heap.size + 1 + 1, 0, none⟩), .pointer (some ⟨w.heap.size + 1 + 1 + 1, 0, none⟩), .pointer (some ⟨w.heap.size + 1 + 1 + 1 + 1, 0, none⟩), undef, undef, undef, .pointer (some ⟨Bx, 0, none⟩), undef, undef, undef, .agg (c8 c), .slice A l.length m, I a, I (a + n), .func (.func 84) #[] #[.pointer (some ⟨w.heap.size + 1 + 1 + 1 + 1 + 1 + 3, 0, none⟩), .pointer (some ⟨w.heap.size + 1 + 1 + 1 + 1 + 1 + 2, 0, none⟩), .pointer (some ⟨w.heap.size + 1 + 1 + 1 + 1 + 1, 0, none⟩), .pointer (some ⟨w.heap.size + 1 + 1 + 1 + 1 + 1 + 1, 0, none⟩), .pointer (some ⟨w.heap.size + 1 + 1 + 1 + 1 + 1 + 4, 0, none⟩)], undef, undef, undef, undef, undef, undef, undef, undef, undef, undef, undef, undef, undef, undef, undef, undef, undef, undef, undef, .agg (c8 c), .slice A l.length m, I a, I (a + n), .func (.func 84) #[] #[.pointer (some ⟨V.heap.size + 3, 0, none⟩), .pointer (some ⟨V.heap.size + 2, 0, none⟩), .pointer (some ⟨V.heap.size, 0, none⟩), .pointer (some ⟨V.heap.size + 1, 0, none⟩), .pointer (some ⟨V.heap.size + 4, 0, none⟩)], .agg #[I x.1.day, I x.1.temp, I x.1.rain], undef, undef, undef, undef, undef, undef, undef, undef, undef, undef, undef, undef, undef, undef, undef, undef, undef, undef, undef, undef, undef, undef, undef, undef, undef, undef], defers := [] })
   (fun x a' s X Y row hs hg hr => by obtain ⟨Bx, h1, h2, h3⟩ := hs; exact ⟨Bx, h1, blk_stays (β := Unit) (cs := fun _ => #[I x.1.day, I x.1.temp, I x.1.rain]) () X Y row h2 hg hr, h3⟩)
   ?assign2 ?body2 ?done2 ?stop2
  case reads2 =>
   intro W hk
   exact ⟨hk.clim i0 (by omega) (by omega), (hk.cell (by omega) (by omega)).trans i1, (hk.cell (by omega) (by omega)).trans i2, (hk.cell (by omega) (by omega)).trans i3, (hk.cell (by omega) (by omega)).trans i4, hk.sl hv.out kB2.out (Nat.le_refl _) (by omega) (fun b hb => by omega)⟩
  case assign2 =>
   rintro lr pre x W K ⟨hk, hb'⟩ hK
   gi_wp2
   exact hK _ _ ((KeepsOthers.alloc _ _).from _) (Keep.of_below (below1 _ _) hk.size) ⟨hk.trans (Keep.of_below (below1 _ _) hk.size), hb'.alloc _⟩ ⟨W.heap.size, hk.size, Blk.new _ _ _, rfl⟩
  case body2 =>
   rintro lr pre x a' W hlr _ ⟨hk, hbl⟩ ⟨Bx, hBx, hbx, rfl⟩ hlt
   have kC := (hk.blk kC2.out (by omega) (by omega)).clim
   obtain ⟨zc, q0, q1, q2, q3, q4, q5, q6, q7⟩ := kC
   have kH := hk.blk kH2.out (by omega) (by omega)
   have r0 := kH.cell 0
   have b0 := hbx.cell 0
   have b1 := hbx.cell 1
   have b2 := hbx.cell 2
   have zx := hbx.lt
   have zl := hbl.lt
   have zh := kH.lt
   have H1 := hide (HF.out x.1 x.2)
   have H2 := hide (HM.out x.1 x.2 c.flo hc.flo2)
   have hsn := hide (highA_snoc (h := h) pre x)
   obtain ⟨lo, hlo⟩ : ∃ lo, highA c h pre = lo := ⟨_, rfl⟩
   have hlb := highA_bd hc hh pre
   have hdb := x.2.day_bd hc hh hc.flo2
   rw [hlo] at hbl hlb
   simp only [highStep] at hsn
   rw [hlo] at hsn
   obtain ⟨sn, hs1⟩ : ∃ sn, (fallF c x.1 h).1 = sn := ⟨_, rfl⟩
   obtain ⟨ra, hs2⟩ : ∃ ra, (fallF c x.1 h).2 = ra := ⟨_, rfl⟩
   obtain ⟨me, hs3⟩ : ∃ me, meltF c x.1 h c.flo = me := ⟨_, rfl⟩
   rw [hs1, hs3] at hdb hsn
   simp only [hs1, hs2] at H1
   simp only [hs3] at H2
   replace H1 := hide H1
   replace H2 := hide H2
   have l0 := hbl.cell 0
   have l1 := hbl.frozen 0
   obtain ⟨⟨d1, d2⟩, d3, d4⟩ := hdb
   obtain ⟨e1, e2⟩ := hlb
   have k1 : IntKind.i64.wrap (lo + sn) = lo + sn := IntWalk.i64_in _ (by omega)
   have k2 : IntKind.i64.wrap (lo + sn - me) = lo + sn - me := IntWalk.i64_in _ (by omega)
   replace hbl := hide hbl
   replace hk := hide hk
   replace hlo := hide hlo
   replace hs1 := hide hs1
   replace hs2 := hide hs2
   replace hs3 := hide hs3
   clear i0 i1 i2 i3 i4 kH hbx
   gi_wp2_with (refine ⟨trivial, ?_⟩; gi_at_call 48; refine (CallsIn.inRound lr (callsIn_wide.2 (H1.out.out W))).mono ?_; clear H1; rintro e w2 ⟨rfl, hb2⟩; have y0 := fun o => (bcell hb2).1 w.heap.size o zc; have y1 := fun o => (bcell hb2).1 (w.heap.size + 1) o zh; have y2 := fun o => (bcell hb2).1 Bx o zx; have y3 := fun o => (bcell hb2).1 (w.heap.size + 1 + 1 + 1 + 1) o zl; have y4 := fun o => (bcell hb2).2 (w.heap.size + 1 + 1 + 1 + 1) o zl)
   have zl2 : w.heap.size + 1 + 1 + 1 + 1 < w2.heap.size := Nat.lt_of_lt_of_le zl hb2.size
   have zc2 : w.heap.size < w2.heap.size := Nat.lt_of_lt_of_le zc hb2.size
   have zh2 : w.heap.size + 1 < w2.heap.size := Nat.lt_of_lt_of_le zh hb2.size
   have zx2 : Bx < w2.heap.size := Nat.lt_of_lt_of_le zx hb2.size
   refine wpIn_round_zg (S := fun W => (W.cell? ⟨w.heap.size, 0, none⟩ = some (I c.base) ∧ W.cell? ⟨w.heap.size, 1, none⟩ = some (I c.lapse) ∧ W.cell? ⟨w.heap.size, 2, none⟩ = some (I c.swing) ∧ W.cell? ⟨w.heap.size, 3, none⟩ = some (I c.wettest) ∧ W.cell? ⟨w.heap.size, 4, none⟩ = some (I c.coldest) ∧ W.cell? ⟨w.heap.size, 5, none⟩ = some (I c.warmest) ∧ W.cell? ⟨w.heap.size, 6, none⟩ = some (I c.flo) ∧ W.cell? ⟨w.heap.size, 7, none⟩ = some (I c.fhi)) ∧ W.cell? ⟨w.heap.size + 1, 0, none⟩ = some (I h) ∧ W.cell? ⟨Bx, 0, none⟩ = some (I x.1.day) ∧ W.cell? ⟨Bx, 1, none⟩ = some (I x.1.temp) ∧ W.cell? ⟨Bx, 2, none⟩ = some (I x.1.rain) ∧ W.cell? ⟨w.heap.size + 1 + 1 + 1 + 1, 0, none⟩ = some (I lo) ∧ W.frozen? ⟨w.heap.size + 1 + 1 + 1 + 1, 0, none⟩ = false) 12 (by kernel_rfl) (by kernel_rfl) (by rintro ⟨_, _, h⟩; exact h) (by kernel_rfl) ?_
   have hS0 : (fun W : World => (W.cell? ⟨w.heap.size, 0, none⟩ = some (I c.base) ∧ W.cell? ⟨w.heap.size, 1, none⟩ = some (I c.lapse) ∧ W.cell? ⟨w.heap.size, 2, none⟩ = some (I c.swing) ∧ W.cell? ⟨w.heap.size, 3, none⟩ = some (I c.wettest) ∧ W.cell? ⟨w.heap.size, 4, none⟩ = some (I c.coldest) ∧ W.cell? ⟨w.heap.size, 5, none⟩ = some (I c.warmest) ∧ W.cell? ⟨w.heap.size, 6, none⟩ = some (I c.flo) ∧ W.cell? ⟨w.heap.size, 7, none⟩ = some (I c.fhi)) ∧ W.cell? ⟨w.heap.size + 1, 0, none⟩ = some (I h) ∧ W.cell? ⟨Bx, 0, none⟩ = some (I x.1.day) ∧ W.cell? ⟨Bx, 1, none⟩ = some (I x.1.temp) ∧ W.cell? ⟨Bx, 2, none⟩ = some (I x.1.rain) ∧ W.cell? ⟨w.heap.size + 1 + 1 + 1 + 1, 0, none⟩ = some (I lo) ∧ W.frozen? ⟨w.heap.size + 1 + 1 + 1 + 1, 0, none⟩ = false) w2.drew := by
    dsimp only
    go_keep
   (refine zg_tk 0 ?_; refine zg_tk 1 ?_; refine zg_tk 2 ?_; refine zg_tk 3 ?_; refine zg_tk 4 ?_; refine zg_tk 5 ?_; refine zg_tk 6 ?_; refine zg_tk 7 ?_; refine zg_tk 8 ?_; (try go_frame))
   (refine zg_rd 9 fun K_ hK_ => ?_; go_simp; (refine (H2.out.out w2.drew).mono ?_; clear H2; rintro e w3 ⟨rfl, hb3⟩; have u0 := fun o => (bcell hb3).1 w.heap.size o zc2; have u1 := fun o => (bcell hb3).1 (w.heap.size + 1) o zh2; have u2 := fun o => (bcell hb3).1 Bx o zx2; have u3 := fun o => (bcell hb3).1 (w.heap.size + 1 + 1 + 1 + 1) o zl2; have u4 := fun o => (bcell hb3).2 (w.heap.size + 1 + 1 + 1 + 1) o zl2); refine hK_.out _ _ ?_ (fun hHeld => ?_); rotate_left; clear hK_ K_; (try go_frame); rotate_left)
   ·go_keep
   (refine zg_tk 10 ?_; refine zg_tk 11 ?_; (try go_frame))
   (refine zg_ls 12 fun K_ hK_ => ?_; go_simp; skip; refine hK_.out _ _ ?_; clear hK_ K_; (try go_frame))
   have wB := bup (below_drewN hb2 1) hb3
   refine (show _ ∧ _ ∧ _ ∧ _ from ⟨((keeps_of_below wB).trans (KeepsOthers.setCell _ _ _)).from _, Keep.set (X := fun b => b = w.heap.size + 4) (g := w.heap.size + 4) (Keep.of_below wB hk.out.size) rfl _, Keep.set (X := fun b => b = w.heap.size + 4) (g := w.heap.size + 4) (hk.out.trans (Keep.of_below wB hk.out.size)) rfl _, ?_⟩)
   rw [hsn.out, show max 0 (lo + sn - me) = if me < lo + sn then lo + sn - me else 0 by split <;> omega]
   exact (hbl.out.grow wB).set1 _
  case done2 =>
   rintro D2 zs V2 hD2 rfl ⟨hk, hbl⟩ hK2
   rw [hhi1.out] at hbl
   have kL := hk.blk kL2.out (by omega) (by omega)
   have kR := hk.blk kR2.out (by omega) (by omega)
   have kD := (hk.block D1 (by have := (Array.getElem?_eq_some_iff.1 kD2.out).1; exact this) (by omega)).trans kD2.out
   have kV2 : Below w.heap.size w V2 := kB2.out.trans (hk.below (by omega) (fun b hb => by omega))
   have l0 := kL.cell 0
   have m0 := hbl.cell 0
   obtain ⟨zr, r0, r1, r2, r3⟩ := blk_box kR
   have e1 : w.heap.size + 1 + 1 + 1 ≠ w.heap.size + 1 + 1 := by omega
   have e2 : w.heap.size + 1 + 1 + 1 + 1 ≠ w.heap.size + 1 + 1 := by omega
   have e3 : w.heap.size + 1 + 1 ≠ w.heap.size + 1 + 1 + 1 := by omega
   have e4 : w.heap.size + 1 + 1 ≠ w.heap.size + 1 + 1 + 1 + 1 := by omega
   replace hk := hide hk
   replace hK2 := hide hK2
   replace kD := hide kD
   replace kV2 := hide kV2
   replace kR := hide kR
   go_wp2_with fail
   go_region_held3 (fun W => W.cell? ⟨w.heap.size + 1 + 1 + 1, 0, none⟩ = some (I lo1) ∧ W.cell? ⟨w.heap.size + 1 + 1 + 1 + 1, 0, none⟩ = some (I hi1)) (go_keep) (first | (go_at_call 77; refine (clip1 _ _).mono ?_; rintro e w' ⟨rfl, rfl⟩))
   go_wp2_with fail
   obtain ⟨V3, hV3⟩ : ∃ V3, V3 = ((V2.setCell ⟨w.heap.size + 1 + 1, 0, none⟩ (Value.int .i64 (clipF lo1))).setCell ⟨w.heap.size + 1 + 1, 1, none⟩ (Value.int .i64 (clipF hi1))).drew := ⟨_, rfl⟩
   rw [← hV3]
   have zD2 := hk.out.size
   have b3 : ∀ g, g ≠ w.heap.size + 2 → V3.heap[g]? = V2.heap[g]? := fun g hg => by rw [hV3]; exact (Below.heap_setCell _ _ _ g hg).trans (Below.heap_setCell _ _ _ g hg)
   have d2 : V3.heap[D2]? = some (.deferred (some [])) := (b3 D2 (by omega)).trans hK2.out
   have d1 : V3.heap[D1]? = some (.deferred (some [])) := (b3 D1 (by omega)).trans kD.out
   have k3 : Below w.heap.size w V3 := by rw [hV3]; exact below_drewN (gap_below2 kV2.out (by omega)) 1
   have kR3 : Blk V3 (w.heap.size + 2) 23 #[I (clipF lo1), I (clipF hi1)] := by rw [hV3]; exact (gap_set2 kR.out).drew
   have hdn : D1 ≠ D2 := by omega
   have d1' : (V3.putObj D2 (.deferred none)).heap[D1]? = some (.deferred (some [])) := (World.putObj_heap_other hdn).trans d1
   have kR4 : Blk ((V3.putObj D2 (.deferred none)).putObj D1 (.deferred none)) (w.heap.size + 2) 23 #[I (clipF lo1), I (clipF hi1)] := (World.putObj_heap_other (by omega)).trans ((World.putObj_heap_other (by omega)).trans kR3)
   have c0 := kR4.cell 0
   have c1 := kR4.cell 1
   refine ⟨by simp, .inl ⟨_, _, rfl, run_takeDeferred d2, ?_⟩⟩
   refine ⟨by simp, .inl ⟨_, _, rfl, run_takeDeferred d1', ?_⟩⟩
   refine ⟨.agg #[I (clipF lo1), I (clipF hi1)], ?_, rfl, below_putObj (below_putObj k3 (by omega) _) (by omega) _⟩
   simp [results, Tryz.results39, go_sem, c0, c1]
  case stop2 =>
   rintro D c' pre W _ _ h _
   exact h.elim
 case stop1 =>
  rintro D c' pre W _ _ h _
  exact h.elim

theorem spring_stretch (a b : Int) (w : World) : Calls Tryz.prog 38 #[I a, I b] w fun e w' => e = .returned (I (stretchE a b)) ∧ w = w' := by
 rcases ilt a 0 with h1 | h1
 ·have hE : stretchE a b = 1 := by simp [stretchE, h1]
  rw [hE]
  go_enter Tryz.func38, Tryz.ntmps38
  go_wp2
  go_ret
  exact ⟨rfl, rfl⟩
 ·rcases ilt a b with h2 | h2
  ·rcases ilt 1048576 b with h3 | h3
   ·have hE : stretchE a b = 1 := by simp [stretchE, h3]
    rw [hE]
    have h4 : ¬ a < 0 := by omega
    go_enter Tryz.func38, Tryz.ntmps38
    go_wp2
    go_ret
    exact ⟨rfl, rfl⟩
   ·have h4 : ¬ a < 0 := by omega
    have h5 : ¬ b ≤ a := by omega
    have h6 : ¬ 1048576 < b := by omega
    have k1 : IntKind.i64.wrap (b - a) = b - a := IntWalk.i64_in _ (by omega)
    rcases ilt 512 (b - a) with h7 | h7
    ·have hE : stretchE a b = 2 := by simp [stretchE, h4, h5, h6, h7]
     rw [hE]
     go_enter Tryz.func38, Tryz.ntmps38
     go_wp2
     go_ret
     exact ⟨rfl, rfl⟩
    ·have h8 : ¬ 512 < b - a := by omega
     have hE : stretchE a b = 0 := by simp [stretchE, h4, h5, h6, h8]
     rw [hE]
     go_enter Tryz.func38, Tryz.ntmps38
     go_wp2
     go_ret
     exact ⟨rfl, rfl⟩
  ·have hE : stretchE a b = 1 := by simp [stretchE, h2]
   rw [hE]
   have h4 : ¬ a < 0 := by omega
   go_enter Tryz.func38, Tryz.ntmps38
   go_wp2
   go_ret
   exact ⟨rfl, rfl⟩
theorem stretch_ok {a b : Int} (h : stretchE a b = 0) : 0 ≤ a ∧ a < b ∧ b ≤ 1048576 ∧ b - a ≤ 512 := by
 unfold stretchE at h
 split at h
 ·cases h
 split at h
 ·cases h
 omega

def changeE (c : Climate) (l : List Weather) (h a b : Int) : Int := if loggedE c l [heightB h] = 0 then stretchE a b else loggedE c l [heightB h]
def changeV (c : Climate) (l : List Weather) (h a b : Int) : Int × Int := if changeE c l h a b = 0 then changeF c l h a b else (0, 0)
theorem changeF_eq {c : Climate} {l : List Weather} {h a : Int} {n : Nat} (hc : ClimOk c) (hl : ∀ x ∈ l, WeaOk c x) : changeF c l h a (a + n) = (clipF (lowA c h (fillA c l a true hc hl n)), clipF (highA c h (fillA c l a false hc hl n))) := by
 have e : (a + (n : Int) - a).toNat = n := by omega
 simp only [changeF, e, ← fillA_val (hc := hc) (hl := hl), List.foldl_map, lowA, highA]
theorem blk32f (w : World) (t : TypeId) (cs : Array Value) (o o' : Obj) : Blk (((w.alloc o).alloc o').alloc (.cells cs t)).drew (w.heap.size + 2) t cs := blk32 w t cs o o'

theorem spring_Change (c : Climate) (v : Value) (l : List Weather) (h a b : Int) (w : World) (hv : Sl w 3 Weather.cells v l) :
  Calls Tryz.prog 12 #[c.v, v, I h, I a, I b] w fun e w' => e = .returned (.tuple #[.agg #[I (changeV c l h a b).1, I (changeV c l h a b).2], I (changeE c l h a b)]) ∧ Below w.heap.size w w' := by
 rcases logged_cases c l [heightB h] with ⟨h1, h2, h3⟩ | h1
 ·have hh : 0 ≤ h ∧ h ≤ 9000 := by simp at h3; exact heightB_bd h3
  have hE : changeE c l h a b = stretchE a b := by simp [changeE, h1]
  by_cases hs : stretchE a b = 0
  ·obtain ⟨s1, s2, s3, s4⟩ := stretch_ok hs
   obtain ⟨n, hn⟩ := Int.eq_ofNat_of_zero_le (show 0 ≤ b - a by omega)
   obtain rfl : b = a + (n : Int) := by omega
   have hV : changeV c l h a (a + n) = (clipF (lowA c h (fillA c l a true h2.clim h2.mem n)), clipF (highA c h (fillA c l a false h2.clim h2.mem n))) := by rw [changeV, if_pos (hE.trans hs), changeF_eq h2.clim h2.mem]
   have H1 := fun w hv => spring_change c v l h a n w h2.clim h2.mem hh s1 (by omega) s3 hv
   have H2 := fun w => spring_stretch a (a + n) w
   rw [hs] at H2
   rw [hE, hs, hV]
   simp only []
   obtain ⟨lo, hlo⟩ : ∃ lo, clipF (lowA c h (fillA c l a true h2.clim h2.mem n)) = lo := ⟨_, rfl⟩
   obtain ⟨hi, hhi⟩ : ∃ hi, clipF (highA c h (fillA c l a false h2.clim h2.mem n)) = hi := ⟨_, rfl⟩
   rw [hlo, hhi]
   simp only [hlo, hhi] at H1
   replace H1 := hide H1
   replace H2 := hide H2
   replace h1 := hide h1
   replace hv := hide hv
   clear hE hV h2 h3 hh hlo hhi hs hn s1 s2 s3 s4
   unfold Climate.v at *
   go_enter Tryz.func12, Tryz.ntmps12
   go_wp2_with fail
   go_region_held3 (fun W => W.cell? ⟨w.heap.size, 0, none⟩ = some (I c.base) ∧ W.cell? ⟨w.heap.size, 1, none⟩ = some (I c.lapse) ∧ W.cell? ⟨w.heap.size, 2, none⟩ = some (I c.swing) ∧ W.cell? ⟨w.heap.size, 3, none⟩ = some (I c.wettest) ∧ W.cell? ⟨w.heap.size, 4, none⟩ = some (I c.coldest) ∧ W.cell? ⟨w.heap.size, 5, none⟩ = some (I c.warmest) ∧ W.cell? ⟨w.heap.size, 6, none⟩ = some (I c.flo) ∧ W.cell? ⟨w.heap.size, 7, none⟩ = some (I c.fhi)) (go_keep) (first | (go_at_call 37; refine (spring_height _ _).mono ?_; rintro e w' ⟨rfl, rfl⟩) | (go_at_call 34; refine (spring_logged_lit c _ l [heightB h] _ _ (hv.out.mono (below_drewN (below3 _ _ _ _) 1)) (blk32f _ _ _ _ _) (by simp)).mono ?_; rw [h1.out]; rintro e w1 ⟨rfl, hb1⟩; have hc1 := fun o => (bcell hb1).1 w.heap.size o (by simp <;> omega)))
   have hB1 := below_drew' hb1
   have kR : Blk w1 (w.heap.size + 1) 23 #[I 0, I 0] := (((blk21 w _ _ _).alloc _)).grow hB1
   have kC : Blk w1 w.heap.size 25 (c8 c) := (((Blk.new w _ _).alloc _).alloc _).grow hB1
   have kB := hide (bup (below3 _ _ _ _) hB1)
   replace kR := hide kR
   rename_i hS
   clear hS hc1 hb1 hB1
   obtain ⟨_, q0, q1, q2, q3, q4, q5, q6, q7⟩ := kC.clim
   clear kC
   go_upto_region 7 with (first | (go_at_call 38; refine (H2.out _).mono ?_; clear H2; rintro e w' ⟨rfl, rfl⟩))
   go_wp2_with (go_at_call 39; refine (H1.out _ (hv.out.mono kB.out)).mono ?_; clear H1; rintro e w2 ⟨rfl, hb2⟩; have kR2 := kR.out.grow hb2; obtain ⟨zr, r0, r1, r2, r3⟩ := blk_box kR2; clear q0 q1 q2 q3 q4 q5 q6 q7)
   refine bodyPost_ret (v := .tuple #[.agg #[I lo, I hi], I 0]) (by simp [results, Tryz.results12, go_sem, r0, r1]) rfl ⟨rfl, ?_⟩
   exact gap_below2 (bup kB.out hb2) (by omega)
  ·have hV : changeV c l h a b = (0, 0) := by rw [changeV, if_neg (by rw [hE]; exact hs)]
   have H2 := fun w => spring_stretch a b w
   rw [hE, hV]
   obtain ⟨x, hx⟩ : ∃ x, stretchE a b = x := ⟨_, rfl⟩
   rw [hx] at hs ⊢
   simp only [hx] at H2
   have hx0 : (x != 0) = true := by simpa using hs
   replace H2 := hide H2
   replace h1 := hide h1
   replace hv := hide hv
   clear hE hV h2 h3 hh hx
   unfold Climate.v at *
   go_enter Tryz.func12, Tryz.ntmps12
   go_wp2_with fail
   go_region_held3 (fun W => W.cell? ⟨w.heap.size, 0, none⟩ = some (I c.base) ∧ W.cell? ⟨w.heap.size, 1, none⟩ = some (I c.lapse) ∧ W.cell? ⟨w.heap.size, 2, none⟩ = some (I c.swing) ∧ W.cell? ⟨w.heap.size, 3, none⟩ = some (I c.wettest) ∧ W.cell? ⟨w.heap.size, 4, none⟩ = some (I c.coldest) ∧ W.cell? ⟨w.heap.size, 5, none⟩ = some (I c.warmest) ∧ W.cell? ⟨w.heap.size, 6, none⟩ = some (I c.flo) ∧ W.cell? ⟨w.heap.size, 7, none⟩ = some (I c.fhi)) (go_keep) (first | (go_at_call 37; refine (spring_height _ _).mono ?_; rintro e w' ⟨rfl, rfl⟩) | (go_at_call 34; refine (spring_logged_lit c _ l [heightB h] _ _ (hv.out.mono (below_drewN (below3 _ _ _ _) 1)) (blk32f _ _ _ _ _) (by simp)).mono ?_; rw [h1.out]; rintro e w1 ⟨rfl, hb1⟩; have hc1 := fun o => (bcell hb1).1 w.heap.size o (by simp <;> omega)))
   have hB1 := below_drew' hb1
   have kR : Blk w1 (w.heap.size + 1) 23 #[I 0, I 0] := (((blk21 w _ _ _).alloc _)).grow hB1
   have kB := hide (bup (below3 _ _ _ _) hB1)
   obtain ⟨zr, r0, r1, r2, r3⟩ := blk_box kR
   rename_i hS
   clear hS hc1 hb1 hB1
   go_wp2_with (go_at_call 38; refine (H2.out _).mono ?_; clear H2; rintro e w' ⟨rfl, rfl⟩)
   refine bodyPost_ret (v := .tuple #[.agg #[I 0, I 0], I x]) (by simp [results, Tryz.results12, go_sem, r0, r1]) rfl ⟨rfl, ?_⟩
   exact gap_below2 kB.out (by omega)
 ·have hE : changeE c l h a b = loggedE c l [heightB h] := by simp [changeE, h1]
  have hV : changeV c l h a b = (0, 0) := by rw [changeV, if_neg (by rw [hE]; exact h1)]
  rw [hE, hV]
  obtain ⟨x, hx⟩ : ∃ x, loggedE c l [heightB h] = x := ⟨_, rfl⟩
  rw [hx] at h1 ⊢
  have hx0 : (x != 0) = true := by simpa using h1
  replace hx := hide hx
  replace hv := hide hv
  clear hE hV
  unfold Climate.v at *
  go_enter Tryz.func12, Tryz.ntmps12
  go_wp2_with fail
  go_region_held3 (fun W => W.cell? ⟨w.heap.size, 0, none⟩ = some (I c.base) ∧ W.cell? ⟨w.heap.size, 1, none⟩ = some (I c.lapse) ∧ W.cell? ⟨w.heap.size, 2, none⟩ = some (I c.swing) ∧ W.cell? ⟨w.heap.size, 3, none⟩ = some (I c.wettest) ∧ W.cell? ⟨w.heap.size, 4, none⟩ = some (I c.coldest) ∧ W.cell? ⟨w.heap.size, 5, none⟩ = some (I c.warmest) ∧ W.cell? ⟨w.heap.size, 6, none⟩ = some (I c.flo) ∧ W.cell? ⟨w.heap.size, 7, none⟩ = some (I c.fhi)) (go_keep) (first | (go_at_call 37; refine (spring_height _ _).mono ?_; rintro e w' ⟨rfl, rfl⟩) | (go_at_call 34; refine (spring_logged_lit c _ l [heightB h] _ _ (hv.out.mono (below_drewN (below3 _ _ _ _) 1)) (blk32f _ _ _ _ _) (by simp)).mono ?_; rw [hx.out]; rintro e w1 ⟨rfl, hb1⟩; have hc1 := fun o => (bcell hb1).1 w.heap.size o (by simp <;> omega)))
  have hB1 := below_drew' hb1
  have kR : Blk w1 (w.heap.size + 1) 23 #[I 0, I 0] := (((blk21 w _ _ _).alloc _)).grow hB1
  have kB := hide (bup (below3 _ _ _ _) hB1)
  obtain ⟨zr, r0, r1, r2, r3⟩ := blk_box kR
  rename_i hS
  clear hS hc1 hb1 hB1
  go_wp2_with fail
  refine bodyPost_ret (v := .tuple #[.agg #[I 0, I 0], I x]) (by simp [results, Tryz.results12, go_sem, r0, r1]) rfl ⟨rfl, ?_⟩
  exact gap_below2 kB.out (by omega)
end Go.Proofs.YtifeniiefhpadaaGreatDoor
