/- The program of this seat, and the words that the contracts are said in. No condition. -/
import Derived.Test.YtgbbljfmngmjeaaGreatChecked
import Derived.Test.YtgbbljfmngmjeaaGreatBasePack
import Derived.Test.YtgbbljfmngmjeaaGreatBasinDefsPack
set_option linter.all false

/- The program's slice types, of which elements each is made. No condition. -/
namespace Go.Proofs.YtgbbljfmngmjeaaGreat
open Go.RowKit
theorem el_int : ElemOk Tryz.prog 38 3 1 8 (.int .i64 0) := ⟨Tryz.underlying38, by kernel_rfl, rfl, by omega⟩
theorem el_bool : ElemOk Tryz.prog 238 4 1 1 (.bool false) := ⟨Tryz.underlying238, by kernel_rfl, rfl, by omega⟩
theorem el_pair : ElemOk Tryz.prog 35 203 2 16 (.agg #[I 0, I 0]) := ⟨Tryz.underlying35, by kernel_rfl, rfl, by omega⟩
theorem el_Track : ElemOk Tryz.prog 23 74 6 48 (.agg #[I 0, I 0, I 0, I 0, I 0, I 0]) := ⟨Tryz.underlying23, by kernel_rfl, rfl, by omega⟩
theorem el_Cell : ElemOk Tryz.prog 34 101 4 32 (.agg #[I 0, I 0, I 0, I 0]) := ⟨Tryz.underlying34, by kernel_rfl, rfl, by omega⟩
theorem el_Sight : ElemOk Tryz.prog 39 83 5 40 (.agg #[I 0, I 0, I 0, I 0, I 0]) := ⟨Tryz.underlying39, by kernel_rfl, rfl, by omega⟩
theorem el_Change : ElemOk Tryz.prog 40 171 5 40 (.agg #[I 0, I 0, I 0, I 0, I 0]) := ⟨Tryz.underlying40, by kernel_rfl, rfl, by omega⟩
theorem el_Diff : ElemOk Tryz.prog 187 245 3 24 (.agg #[I 0, I 0, I 0]) := ⟨Tryz.underlying187, by kernel_rfl, rfl, by omega⟩

def kP (p : Int × Int) : Value := .agg #[I p.1, I p.2]
theorem kP_eq {p q : Int × Int} : kP p = kP q ↔ p = q := by
 obtain ⟨a, b⟩ := p
 obtain ⟨c, d⟩ := q
 simp [kP]
def SetP (w : World) (b : Nat) (L : List (Int × Int)) : Prop :=
 ∃ es clock, w.heap[b]? = some (.map es clock) ∧ es.toList.map (fun e => (e.key, e.val)) = L.map fun p => (kP p, Value.bool true)

@[go_sem] theorem eqPair (a b c d : Int) (w : World) : (Op.equalIn 10000 203 (.agg #[.int .i64 a, .int .i64 b]) (.agg #[.int .i64 c, .int .i64 d])).run Tryz.prog w = .ok (a == c && b == d) w := by
 have u3 := Tryz.underlying3
 have a3 := Tryz.isAgg3
 have z3 := Tryz.sizeOf3
 rw [show (10000 : Nat) = 9999 + 1 from rfl, Op.equalIn]
 simp only [Sem.run_bind, run_underlying Tryz.underlying203, Result.andThen_ok]
 simp only [Std.Legacy.Range.forIn_eq_forIn_range', Std.Legacy.Range.size, Nat.sub_zero, Nat.add_sub_cancel, Nat.div_one, List.range'_succ, List.range'_zero, List.forIn_cons, List.forIn_nil]
 go_simp
 by_cases h1 : a = c <;> by_cases h2 : b = d <;> simp [h1, h2]
theorem equal_pair (p q : Int × Int) (w : World) : (Op.equal 203 (kP p) (kP q)).run Tryz.prog w = .ok (decide (p = q)) w := by
 obtain ⟨a, b⟩ := p
 obtain ⟨c, d⟩ := q
 refine (eqPair a b c d w).trans ?_
 by_cases h1 : a = c <;> by_cases h2 : b = d <;> simp [h1, h2]
theorem check_int (em : Bool) (d : Nat) (n : Int) (w : World) : (Instr.checkKey em (d + 1) 3 (I n)).run Tryz.prog w = .ok () w := by
 simp [Instr.checkKey, run_underlying Tryz.underlying3]
theorem check_pair (em : Bool) (p : Int × Int) (w : World) : (Instr.checkKey em 10000 203 (kP p)).run Tryz.prog w = .ok () w := by
 have u3 := Tryz.underlying3
 have a3 := Tryz.isAgg3
 have z3 := Tryz.sizeOf3
 rw [show (10000 : Nat) = 9998 + 1 + 1 from rfl, Instr.checkKey]
 simp only [kP, Sem.run_bind, run_underlying Tryz.underlying203, Result.andThen_ok]
 simp only [Std.Legacy.Range.forIn_eq_forIn_range', Std.Legacy.Range.size, Nat.sub_zero, Nat.add_sub_cancel, Nat.div_one, List.range'_succ, List.range'_zero, List.forIn_cons, List.forIn_nil]
 go_simp
 have e := fun n w => check_int em 9998 n w
 simp only [show (9998 : Nat) + 1 = 9999 from rfl] at e
 simp only [e, Result.andThen_ok]
theorem stays_pair (p : Int × Int) (w : World) : (Instr.keyThatStays (kP p) (kP p)).run Tryz.prog w = .ok (kP p) w := by
 have hs : Instr.sameBits 10000 (kP p) (kP p) = true := by
  show Instr.sameBits (9998 + 1 + 1) (kP p) (kP p) = true
  simp [Instr.sameBits, kP]
 simp [Instr.keyThatStays, hs]

theorem asking (p : Int × Int) (w : World) : ∀ (es : List MapEntry) (L : List (Int × Int)) (i : Nat), es.map (fun e => (e.key, e.val)) = L.map (fun p => (kP p, Value.bool true)) →
  (L.any (fun q => q == p) = false ∧ (Instr.findAsking 203 (kP p) es i).run Tryz.prog w = .ok none w) ∨ (L.any (fun q => q == p) = true ∧ ∃ j, (Instr.findAsking 203 (kP p) es i).run Tryz.prog w = .ok (some (j, .bool true)) w)
 | [], L, i, h => by
  cases L with
  | nil => exact .inl ⟨rfl, by simp [Instr.findAsking]⟩
  | cons => simp at h
 | e :: es, L, i, h => by
  cases L with
  | nil => simp at h
  | cons q qs =>
   simp only [List.map_cons, List.cons.injEq, Prod.mk.injEq] at h
   obtain ⟨⟨hk, hv⟩, ht⟩ := h
   by_cases e1 : p = q
   ·exact .inr ⟨by simp [e1], i, by simp [Instr.findAsking, hk, equal_pair, e1, hv]⟩
   ·have hb : (q == p) = false := by simp [Ne.symm e1]
    rcases asking p w es qs (i + 1) ht with ⟨h1, h2⟩ | ⟨h1, j, h2⟩
    ·exact .inl ⟨by simp only [List.any_cons, hb, h1, Bool.or_false], by simp [Instr.findAsking, hk, equal_pair, e1, h2]⟩
    ·exact .inr ⟨by simp only [List.any_cons, h1, Bool.or_true], j, by simp [Instr.findAsking, hk, equal_pair, e1, h2]⟩
theorem findKey_pair (p : Int × Int) (w : World) (es : List MapEntry) (L : List (Int × Int)) (h : es.map (fun e => (e.key, e.val)) = L.map (fun p => (kP p, Value.bool true))) :
  (L.any (fun q => q == p) = false ∧ (Instr.findKey 203 (kP p) es).run Tryz.prog w = .ok none w) ∨ (L.any (fun q => q == p) = true ∧ ∃ j, (Instr.findKey 203 (kP p) es).run Tryz.prog w = .ok (some (j, .bool true)) w) := by
 cases es with
 | nil =>
  cases L with
  | nil => exact .inl ⟨rfl, by simp [Instr.findKey, run_underlying Tryz.underlying203, Instr.findNow]⟩
  | cons => simp at h
 | cons e es =>
  have hn : Instr.findNow (.array 2 3) (kP p) (e :: es) 0 = none := by
   simp [Instr.findNow, Instr.sameNow, kP]
  have hr : (Instr.findKey 203 (kP p) (e :: es)).run Tryz.prog w = (Instr.findAsking 203 (kP p) (e :: es) 0).run Tryz.prog w := by
   simp [Instr.findKey, run_underlying Tryz.underlying203, hn]
  rw [hr]
  exact asking p w _ L 0 h

section
variable {w : World} {b t e : Nat} {L : List (Int × Int)}
theorem SetP.lt (h : SetP w b L) : b < w.heap.size := by
 obtain ⟨es, clock, hb, _⟩ := h
 exact (Array.getElem?_eq_some_iff.1 hb).1
theorem SetP.new (w : World) : SetP (w.alloc (.map #[] 0)) w.heap.size [] := ⟨#[], 0, (MapKept.heap_alloc w _).1, rfl⟩
theorem SetP.below {B : Nat} {w' : World} (h : SetP w b L) (hb : Below B w w') (hg : b < B) : SetP w' b L := by
 obtain ⟨es, clock, h1, h2⟩ := h
 exact ⟨es, clock, (hb.block b hg).trans h1, h2⟩
theorem SetP.lookup (h : SetP w b L) (ht : (Tryz.prog).underlying t = some (.map 203 4)) (p : Int × Int) :
  (Instr.lookup t (.map (some b)) (kP p) false).run Tryz.prog w = .ok (.bool (L.any fun q => q == p)) w := by
 obtain ⟨es, clock, hb, hL⟩ := h
 have hz : (zeroValue 4).run Tryz.prog w = .ok (.bool false) w := by kernel_rfl
 rcases findKey_pair p w es.toList L hL with ⟨h1, h2⟩ | ⟨h1, j, h2⟩
 ·simp [Instr.lookup, run_underlying ht, MapKept.run_getObj_map hb, check_pair, h2, hz, Result.andThen, h1]
 ·simp [Instr.lookup, run_underlying ht, MapKept.run_getObj_map hb, check_pair, h2, Result.andThen, h1]
theorem SetP.put (h : SetP w b L) (ht : (Tryz.prog).underlying t = some (.map 203 4)) (p : Int × Int) (hp : L.any (fun q => q == p) = false) :
  ∃ o, (Instr.mapUpdate t (.map (some b)) (kP p) (.bool true)).run Tryz.prog w = .ok () { w with heap := w.heap.setIfInBounds b o } ∧ SetP { w with heap := w.heap.setIfInBounds b o } b (L ++ [p]) := by
 obtain ⟨es, clock, hb, hL⟩ := h
 rcases findKey_pair p w es.toList L hL with ⟨h1, h2⟩ | ⟨h1, j, h2⟩
 ·refine ⟨.map (es.push { key := kP p, val := .bool true, born := clock }) (clock + 1), ?_, ?_⟩
  ·simp [Instr.mapUpdate, run_underlying ht, MapKept.run_getObj_map hb, check_pair, h2, MapKept.run_setObj_map _ hb, Result.andThen]
  ·refine ⟨_, _, (MapKept.heap_set hb).1, ?_⟩
   simp [hL]
 ·rw [hp] at h1; cases h1
end
end Go.Proofs.YtgbbljfmngmjeaaGreat
