/- Plain functions of the package crew: safe tracks, crews, sums. No condition. -/
import Derived.Test.YtgbbljfmngmjeaaGreatBasinDefsPack
import Derived.Test.YtgbbljfmngmjeaaGreatBasePack
set_option linter.all false
namespace Go.Proofs.YtgbbljfmngmjeaaGreat
open Go.RowKit

theorem idxBy_snoc {α : Type} (p : α → Bool) : ∀ (xs : List α) (x : α), idxBy p (xs ++ [x]) = if idxBy p xs < 0 then (if p x then (xs.length : Int) else -1) else idxBy p xs
 | [], x => by simp [idxBy]
 | y :: ys, x => by
  have ih := idxBy_snoc p ys x
  simp only [List.cons_append, idxBy]
  split
  ·simp
  ·rw [ih]
   split <;> rename_i h1
   ·split <;> simp_all [idxBy] <;> omega
   ·simp_all <;> omega

def safeB (m : Int → Option Int) (t : Track) : Bool := decide (t.steep ≤ 25) || (match m t.cell with | none => false | some u => !breaksB u t.steep)
def hwF (s : Scene) (day : Int) (no : Int) : Option Int :=
 if placeC s.basin.cells no < 0 then none else some (((greatF s).getD (placeD s.days day).toNat []).getD (placeC s.basin.cells no).toNat 0)
def seenE (ss : List Site) (ts : List Track) (s : Scene) (day : Int) (ok : Bool) : Int :=
 if rangeE ss ts ≠ 0 then rangeE ss ts else if sceneE s ≠ 0 then sceneE s else if placeD s.days day < 0 ∨ ok = false then 1 else greatE s
def siteAt (ss : List Site) (no : Int) : Site := ss.getD (placeS ss no).toNat default
def trackAt (ts : List Track) (no : Int) : Track := ts.getD (placeT ts no).toNat default
def openF (m : Int → Option Int) (ts : List Track) : List Track := ts.filter (safeB m)
def hiredB (ss : List Site) (c : Crew) : Bool := decide (0 ≤ placeS ss c.hut) && ((siteAt ss c.hut).kind == 1) && inB c.work 0 1440 && inB c.load 0 200
def visitGood (ss : List Site) (l : List Int) (i : Nat) : Bool :=
 decide (0 ≤ placeS ss (l.getD i 0)) && ((siteAt ss (l.getD i 0)).kind == 2) && (i == 0 || decide (l.getD (i - 1) 0 < l.getD i 0))
def visitsB (ss : List Site) (l : List Int) : Bool := decide (l.length ≤ 8) && (List.range l.length).all (visitGood ss l)
def walkedB (ts : List Track) (l : List Int) : Bool := decide (l.length ≤ 64) && !l.any fun no => decide (placeT ts no < 0)
def sumF (ts : List Track) (l : List Int) : Int := l.foldl (fun n no => n + (trackAt ts no).minutes) 0
def clockF (c : Crew) (m n : Int) : Int := (m * (100 + c.load) + 99) / 100 + n * c.work
def minutesE (ss : List Site) (ts : List Track) (c : Crew) (l k : List Int) : Int :=
 if rangeE ss ts ≠ 0 then rangeE ss ts else if hiredB ss c && walkedB ts l && visitsB ss k then 0 else 1
def minutesV (ss : List Site) (ts : List Track) (c : Crew) (l k : List Int) : Int := if minutesE ss ts c l k = 0 then clockF c (sumF ts l) k.length else 0
def openE (ss : List Site) (ts : List Track) (s : Scene) (day : Int) : Int := seenE ss ts s day true
def openV (ss : List Site) (ts : List Track) (s : Scene) (day : Int) : List Int := if openE ss ts s day = 0 then (openF (hwF s day) ts).map Track.no else []
def sitesB (ss : List Site) (l : List Int) : Bool := !l.any fun no => decide (placeS ss no < 0)

theorem step_push {P : Program} {α : Type} {t e k bytes : Nat} {z : Value} (E : ElemOk P t e k bytes z) {enc : α → List Value} (hlen : ∀ x, (enc x).length = k) (hone : ∀ x, ∀ u ∈ enc x, u.oneCell' = true)
  {w : World} {ops : Array Oper} {o : Oper} {a : Act} {K : Act → World → Prop} {Q : Exit → Act → World → Prop} {F : Prop} (hgd : o.guard = none) (s x : Operand)
  (ho : o.op = .call { callee := .builtin .append, args := #[s, x], argTypes := #[t, t] })
  (base : Nat) {v : Value} {xs : List α} (hs : a.eval s = v) (hown : Own w base e k enc v xs) (y : α) {g c : Nat} (hx : a.eval x = .slice (some ⟨g, 0, none⟩) 1 c)
  (hy : ∀ j u, (enc y)[j]? = some u → w.cell? ⟨g, j, none⟩ = some u) (hlb : (xs.length + 1) * bytes ≤ 140737488355328) (hl : xs.length ≤ 140737488355328) (hbase : base ≤ w.heap.size)
  (h : ∀ v' w', Own w' base e k enc v' (xs ++ [y]) → Below base w w' → v' ≠ .slice none 0 0 → K (a.put o.dst v') w') : if Region.wanted o (yielded ops a.tmps) = true then Oper.wp P o a w K Q else F := by
 obtain ⟨i0, hi, hz0, hz1, hz2⟩ := info_parts E.hi
 have hc : ∀ j u, (enc y)[j]? = some u → w.cell? ((⟨g, 0, none⟩ : Addr).add j) = some u := by
  intro j u hu
  have := hy j u hu
  unfold Addr.add
  split
  ·rename_i h0; subst h0; exact this
  ·simpa using this
 obtain ⟨v', w', hrun, r1, r2, r3⟩ := run_append_own (P := P) w base t o.type e i0 z k bytes E.ht hi hz0 hz1 hz2 E.hzs E.hk v xs.length (xs.flatMap enc) hown ⟨g, 0, none⟩ 1 c (enc y) (by rw [hlen, Nat.one_mul]) hc (hone y) (by unfold maxLen; omega) hlb hbase
 rw [if_pos (by simp [Region.wanted, hgd])]
 unfold Oper.wp
 simp [execOp, ho, resolve, invoke, builtin, hs, hx, hrun, Result.andThen]
 refine h v' w' ?_ ((Below.refl _ _).grown r2 hbase fun g' hg' => (ownBlock_lt hown g' hg').1) ?_
 ·unfold Own
  simpa using r1
 ·intro hv; have := (r3.1 hv).2; omega
end Go.Proofs.YtgbbljfmngmjeaaGreat
