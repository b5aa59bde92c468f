/- A region that draws its order, whose operations only read old memory and whose callees only make memory: one walk in the order of the text serves every order. No condition. -/
import Derived.Test.YtgbbljfmngmjeaaGreatBasePack
import Derived.Shelf.Abstract
set_option linter.all false
namespace Go.Proofs.YtgbbljfmngmjeaaGreat
open Go.RowKit

def Grew (w : World) : Type := { W : World // Below w.heap.size w W }
def Grew.w {w : World} (g : Grew w) : World := g.1
instance (w : World) : Nonempty (Grew w) := ⟨⟨w, Below.refl _ _⟩⟩
theorem Grew.below {w : World} (g : Grew w) : Below w.heap.size w g.w := g.2
@[go_sem] theorem Grew.cell {w : World} (g : Grew w) {b o : Nat} (h : b < w.heap.size) : g.w.cell? ⟨b, o, none⟩ = w.cell? ⟨b, o, none⟩ := g.2.cell (p := ⟨b, o, none⟩) h

theorem wp_region_grow {P : Program} {id : Nat} {Q : Exit → Act → World → Prop} {a : Act} {w : World} {l : List Oper} (hm : P.follows .mixedOrders = true) (hB : Region.lexB .any l.toArray = true)
  (h : wpQuiet P l.toArray (fun W => ∃ g : Grew w, W = g.w) (fun a' => ∀ W, (∃ g : Grew w, W = g.w) → Q .normal a' W) l a) : (Code.region id l.toArray true).wp P Q a w :=
 wp_region_quiet (C := fun W => ∃ g : Grew w, W = g.w) hm hB ⟨⟨_, (Below.refl _ _).drew⟩, rfl⟩ (by simpa using h)
theorem wp_grow {P : Program} {id : Nat} {Q : Exit → Act → World → Prop} {a : Act} {w : World} {l : List Oper}
  (h : wpQuiet P l.toArray (fun W => ∃ g : Grew w, W = g.w) (fun a' => ∀ W, (∃ g : Grew w, W = g.w) → Q .normal a' W) l a) (hm : P.follows .mixedOrders = true := by kernel_rfl) (hB : Region.lexB .any l.toArray = true := by kernel_rfl) : (Code.region id l.toArray true).wp P Q a w := wp_region_grow hm hB h
theorem wp_grow0 {P : Program} {ops : Array Oper} {Q : Act → World → Prop} {a : Act} {w : World} (h : ∀ W, Below w.heap.size w W → Q a W) : wpQuiet P ops (fun W => ∃ g : Grew w, W = g.w) (fun a' => ∀ W, (∃ g : Grew w, W = g.w) → Q a' W) [] a :=
 wpQuiet_nil (by rintro W ⟨⟨_, hW⟩, rfl⟩; exact h _ hW)

theorem calls_grew {P : Program} {f : FuncId} {args : Array Value} {w : World} {g : Grew w} {v : Value}
  (h : Calls P f args g.w fun e w' => e = .returned v ∧ Below g.w.heap.size g.w w') : Calls P f args g.w fun e w'' => e = .returned v ∧ ∃ g' : Grew w, w'' = g'.w :=
 h.mono fun _ w' ⟨he, hb⟩ => ⟨he, ⟨w', bup g.2 hb⟩, rfl⟩
theorem calls_grew_same {P : Program} {f : FuncId} {args : Array Value} {w : World} {g : Grew w} {v : Value}
  (h : Calls P f args g.w fun e w' => e = .returned v ∧ g.w = w') : Calls P f args g.w fun e w'' => e = .returned v ∧ ∃ g' : Grew w, w'' = g'.w :=
 h.mono fun _ _ ⟨he, hb⟩ => ⟨he, g, hb.symm⟩
end Go.Proofs.YtgbbljfmngmjeaaGreat
