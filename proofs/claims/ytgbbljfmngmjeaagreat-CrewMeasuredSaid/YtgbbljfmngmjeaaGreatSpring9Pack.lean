/- The package spring: agrees, Allowed. Conditions stand in the theorems. -/
import Derived.Test.YtgbbljfmngmjeaaGreatSpring2Pack
import Derived.Test.YtgbbljfmngmjeaaGreatRound
set_option linter.all false
namespace Go.Proofs.YtgbbljfmngmjeaaGreat
open Go.RowKit

theorem succB_ok {l : List Weather} (h : succB l = true) : ∀ (i : Nat) (x y : Weather), l[i]? = some x → l[0]? = some y → (0 ≤ x.day ∧ x.day ≤ 1048576) ∧ x.day = y.day + i := by
 intro i x y hx hy
 have := List.all_eq_true.1 h i (List.mem_range.2 (List.getElem?_eq_some_iff.1 hx).1)
 rw [succAt_of hx hy] at this
 simp only [Bool.and_eq_true, decide_eq_true_eq] at this
 exact ⟨inB_true.1 this.1, this.2⟩
def allowE (c : Climate) (l days : List Weather) : Int := loggedE c l [inB days.length 1 512 && succB days]
def allowV (c : Climate) (l days : List Weather) : Bool := decide (allowE c l days = 0) && agreesB c l days
theorem retBI' {a c : Bool} {b d : Int} (h1 : a = c) (h2 : b = d) : Ending.returned (.tuple #[.bool a, I b]) = .returned (.tuple #[.bool c, I d]) := by rw [h1, h2]
theorem zg_start {P : Program} {ops : Array Oper} {Q : Exit → Act → World → Prop} {md : Region.Mode} {S : World → Prop} {n fuel : Nat} {listed : Array Bool} {a : Act} {w : World} (hS : S w) (h : S w → ZG P md ops Q S n fuel listed a w) : ZG P md ops Q S n fuel listed a w := h hS

theorem relF_stop {c : Climate} {h f e : Int} {x : Weather} {xs : List Weather} {p : Int × Int} (g : e ≤ x.day) : relF c h f e (x :: xs) p = p := by simp [relF, g]
theorem relF_go {c : Climate} {h f e : Int} {x : Weather} {xs : List Weather} {a b : Int} (g : x.day < e) :
  relF c h f e (x :: xs) (a, b) = relF c h f e xs (a + ((fallF c x h).2 + b + (fallF c x h).1 - max 0 (b + (fallF c x h).1 - meltF c x h f)), max 0 (b + (fallF c x h).1 - meltF c x h f)) := by
 have : ¬ e ≤ x.day := by omega
 simp only [relF, this, if_false]
 congr 1
 rw [Prod.mk.injEq]
 omega
theorem drop_at {α : Type} {l : List α} {k : Nat} {x : α} (h : l[k]? = some x) : l.drop k = x :: l.drop (k + 1) := by
 obtain ⟨hk, hx⟩ := List.getElem?_eq_some_iff.1 h
 rw [List.drop_eq_getElem_cons hk, hx]
theorem fall_sum {c : Climate} {x : Weather} {h : Int} (hx : 0 ≤ x.rain) : (0 ≤ (fallF c x h).1 ∧ 0 ≤ (fallF c x h).2) ∧ (fallF c x h).1 + (fallF c x h).2 = x.rain := by
 unfold fallF
 split <;> simp <;> omega

structure SprOk (c : Climate) (s : Spring) : Prop where
 clim : ClimOk c
 n1 : 1 ≤ s.days.length
 n2 : s.days.length ≤ 512
 mem : ∀ x ∈ s.days, WeaOk c x
 succ : succB s.days = true
 beg : 0 ≤ beginF s ∧ beginF s ≤ 1048576
theorem SprOk.of {c : Climate} {s : Spring} (h : springE c s = 0) : SprOk c s := by
 unfold springE at h
 cases h1 : climateOk c with
 | false => rw [h1] at h; simp at h
 | true =>
  rw [h1] at h
  cases h2 : springOk c s with
  | false => rw [h2] at h; simp at h
  | true =>
   simp only [springOk, Bool.and_eq_true, inB_true] at h2
   obtain ⟨⟨⟨_, h3, h4⟩, h5⟩, h6⟩ := h2
   have hm := linkedB_ok h6
   obtain ⟨x, hx⟩ := getElem?_of_lt (xs := s.days) (k := 0) (by omega)
   have hb : beginF s = x.day := by simp only [beginF]; rw [getD_of hx]
   exact ⟨.of h1, by omega, by omega, hm, h5, by rw [hb]; exact (hm x (List.mem_of_getElem? hx)).day⟩
theorem blk32p (w : World) (t : TypeId) (cs : Array Value) (o o' : Obj) : Blk (((w.alloc o).alloc o').alloc (.cells cs t)) (w.heap.size + 2) t cs := blk32 w t cs o o'
def relE (c : Climate) (s : Spring) (h W f d : Int) : Int := if springE c s = 0 then askedE c [heightB h, inB W 0 65536, inB f 0 2000, inB d (beginF s) (endF s)] else springE c s
def relV (c : Climate) (s : Spring) (h W f d : Int) : Int × Int := if relE c s h W f d = 0 then relF c h f d s.days (0, W) else (0, 0)
end Go.Proofs.YtgbbljfmngmjeaaGreat
