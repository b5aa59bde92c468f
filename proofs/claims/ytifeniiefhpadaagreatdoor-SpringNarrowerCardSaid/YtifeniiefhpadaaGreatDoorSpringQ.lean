/- What lies in the memory of a call of Volume or When. No condition. -/
import Derived.Test.YtifeniiefhpadaaGreatDoorSpring6Pack
set_option linter.all false
namespace Go.Proofs.YtifeniiefhpadaaGreatDoor
open Go.RowKit

theorem Blk.two0 {w : World} {g : Nat} {t : TypeId} {a b : Value} (h : Blk w g t #[a, b]) (u : Value) : Blk (w.setCell ⟨g, 0, none⟩ u) g t #[u, b] := by simpa using h.set_ 0 u
theorem Blk.two1 {w : World} {g : Nat} {t : TypeId} {a b : Value} (h : Blk w g t #[a, b]) (u : Value) : Blk (w.setCell ⟨g, 1, none⟩ u) g t #[a, u] := by simpa using h.set_ 1 u
structure QAt (c : Climate) (n : Int) (va : Value) (sc : Array Value) (w0 : World) (w : World) : Prop where
 clim : Blk w w0.heap.size 25 (c8 c)
 spr : Blk w (w0.heap.size + 1) 58 #[I n, va]
 scn : Blk w (w0.heap.size + 1 + 1) 77 sc
 res : Blk w (w0.heap.size + 1 + 1 + 1) 23 #[I 0, I 0]
 below : Below w0.heap.size w0 w
theorem QAt.new (c : Climate) (n : Int) (va : Value) (sc : Array Value) (w : World) : QAt c n va sc w ((((w.alloc (.cells (c8 c) 25)).alloc (.cells #[I n, va] 58)).alloc (.cells sc 77)).alloc (.cells #[I 0, I 0] 23)) := by
 refine ⟨(((Blk.new w _ _).alloc _).alloc _).alloc _, ((blk21 w _ _ _).alloc _).alloc _, (blk32 w _ _ _ _).alloc _, ?_, below4 _ _ _ _ _⟩
 have h := Blk.new (((w.alloc (.cells (c8 c) 25)).alloc (.cells #[I n, va] 58)).alloc (.cells sc 77)) 23 #[I 0, I 0]
 simpa only [World.size_alloc] using h
section
variable {c : Climate} {n : Int} {va : Value} {sc : Array Value} {w0 w : World}
theorem QAt.grow {W : World} (h : QAt c n va sc w0 w) (hb : Below w.heap.size w W) : QAt c n va sc w0 W :=
 ⟨h.clim.grow hb, h.spr.grow hb, h.scn.grow hb, h.res.grow hb, bup h.below hb⟩
theorem QAt.facts {x0 x1 x2 x3 x4 x5 x6 x7 : Value} (h : QAt c n va #[x0, x1, x2, x3, x4, x5, x6, x7] w0 w) : w0.heap.size < w.heap.size ∧ w.cell? ⟨w0.heap.size, 0, none⟩ = some (I c.base) ∧ w.cell? ⟨w0.heap.size, 1, none⟩ = some (I c.lapse) ∧ w.cell? ⟨w0.heap.size, 2, none⟩ = some (I c.swing) ∧ w.cell? ⟨w0.heap.size, 3, none⟩ = some (I c.wettest) ∧ w.cell? ⟨w0.heap.size, 4, none⟩ = some (I c.coldest) ∧ w.cell? ⟨w0.heap.size, 5, none⟩ = some (I c.warmest) ∧ w.cell? ⟨w0.heap.size, 6, none⟩ = some (I c.flo) ∧ w.cell? ⟨w0.heap.size, 7, none⟩ = some (I c.fhi) ∧ w0.heap.size + 1 < w.heap.size ∧ w.cell? ⟨w0.heap.size + 1, 0, none⟩ = some (I n) ∧ w.cell? ⟨w0.heap.size + 1, 1, none⟩ = some va ∧ w.cell? ⟨w0.heap.size + 1 + 1, 0, none⟩ = some x0 ∧ w.cell? ⟨w0.heap.size + 1 + 1, 1, none⟩ = some x1 ∧ w.cell? ⟨w0.heap.size + 1 + 1, 2, none⟩ = some x2 ∧ w.cell? ⟨w0.heap.size + 1 + 1, 3, none⟩ = some x3 ∧ w.cell? ⟨w0.heap.size + 1 + 1, 4, none⟩ = some x4 ∧ w.cell? ⟨w0.heap.size + 1 + 1, 5, none⟩ = some x5 ∧ w.cell? ⟨w0.heap.size + 1 + 1, 6, none⟩ = some x6 ∧ w.cell? ⟨w0.heap.size + 1 + 1, 7, none⟩ = some x7 ∧ w0.heap.size + 1 + 1 < w.heap.size ∧ w0.heap.size + 1 + 1 + 1 < w.heap.size ∧ w.cell? ⟨w0.heap.size + 1 + 1 + 1, 0, none⟩ = some (I 0) ∧ w.cell? ⟨w0.heap.size + 1 + 1 + 1, 1, none⟩ = some (I 0) ∧ w.frozen? ⟨w0.heap.size + 1 + 1 + 1, 0, none⟩ = false ∧ w.frozen? ⟨w0.heap.size + 1 + 1 + 1, 1, none⟩ = false :=
 ⟨h.clim.lt, h.clim.cell 0, h.clim.cell 1, h.clim.cell 2, h.clim.cell 3, h.clim.cell 4, h.clim.cell 5, h.clim.cell 6, h.clim.cell 7, h.spr.lt, h.spr.cell 0, h.spr.cell 1, h.scn.cell 0, h.scn.cell 1, h.scn.cell 2, h.scn.cell 3, h.scn.cell 4, h.scn.cell 5, h.scn.cell 6, h.scn.cell 7, h.scn.lt, h.res.lt, h.res.cell 0, h.res.cell 1, h.res.frozen 0, h.res.frozen 1⟩
theorem QAt.ret (h : QAt c n va sc w0 w) (u v : Value) : ((w.setCell ⟨w0.heap.size + 1 + 1 + 1, 0, none⟩ u).setCell ⟨w0.heap.size + 1 + 1 + 1, 1, none⟩ v).cell? ⟨w0.heap.size + 1 + 1 + 1, 0, none⟩ = some u ∧
  ((w.setCell ⟨w0.heap.size + 1 + 1 + 1, 0, none⟩ u).setCell ⟨w0.heap.size + 1 + 1 + 1, 1, none⟩ v).cell? ⟨w0.heap.size + 1 + 1 + 1, 1, none⟩ = some v ∧
  Below w0.heap.size w0 ((w.setCell ⟨w0.heap.size + 1 + 1 + 1, 0, none⟩ u).setCell ⟨w0.heap.size + 1 + 1 + 1, 1, none⟩ v) := by
 have k := (h.res.two0 u).two1 v
 exact ⟨k.cell 0, k.cell 1, bset (bset h.below _ _ (by omega) _) _ _ (by omega) _⟩
end
end Go.Proofs.YtifeniiefhpadaaGreatDoor
