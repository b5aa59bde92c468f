/- The package basin as plain functions: when a scene is valid, and the net of a valid one. No condition. -/
import Derived.Test.YtgbbljfmngmjeaaGreatBasePack
import Derived.MapKept
set_option linter.all false
namespace Go.Proofs.YtgbbljfmngmjeaaGreat
open Go.RowKit

structure Basin where
 cells : List Cell
 pairs : List (Int × Int)
 gain : Int
 slack : Int
 deep : Int
structure Scene where
 basin : Basin
 days : List Int
 sights : List Sight
 changes : List Change

def cellOk (c : Cell) : Bool := inB c.no 0 4095 && inB c.height 0 9000 && inB c.aspect 0 7 && inB c.area 1 4096
def cellGood (cs : List Cell) (i : Nat) : Bool := cellOk (cs.getD i default) && (i == 0 || decide ((cs.getD (i - 1) default).no < (cs.getD i default).no))
def bothP (p : Int × Int) : Int × Int := (min p.1 p.2, max p.1 p.2)
def pairOk (cs : List Cell) (p : Int × Int) : Bool :=
 inB p.1 0 (cs.length - 1) && inB p.2 0 (cs.length - 1) && (p.1 != p.2) && decide ((cs.getD p.1.toNat default).height ≤ (cs.getD p.2.toNat default).height)
def pairGood (cs : List Cell) (ps : List (Int × Int)) (i : Nat) : Bool := pairOk cs (ps.getD i default) && !(ps.take i).any (fun q => bothP q == bothP (ps.getD i default))
def basinOk (b : Basin) : Bool :=
 inB b.cells.length 1 12 && decide (b.pairs.length ≤ 24) && inB b.gain 0 65536 && inB b.slack 0 65536 && inB b.deep 0 65536 &&
 (List.range b.cells.length).all (cellGood b.cells) && (List.range b.pairs.length).all (pairGood b.cells b.pairs)
def basinE (b : Basin) : Int := if basinOk b then 0 else 50

def risesAt (l : List Int) (i : Nat) : Bool := i == 0 || decide (l.getD (i - 1) 0 < l.getD i 0)
def risingB (l : List Int) : Bool := (List.range l.length).all (risesAt l)
def placeC (cs : List Cell) (no : Int) : Int := idxBy (fun c => c.no == no) cs
def placeD (ds : List Int) (d : Int) : Int := idxBy (fun x => x == d) ds
def hasD (ds : List Int) (d : Int) : Bool := ds.any fun x => x == d
def sightOk (s : Scene) (x : Sight) : Bool :=
 inB x.no 0 8191 && decide (0 ≤ placeC s.basin.cells x.cell) && hasD s.days x.day && decide (0 ≤ x.lo) && decide (x.lo ≤ x.hi) && decide (x.hi ≤ 65536)
def changeOk (s : Scene) (x : Change) : Bool :=
 decide (x.frm < x.to) && hasD s.days x.frm && hasD s.days x.to && decide (0 ≤ placeC s.basin.cells x.cell) && decide (-65536 ≤ x.lo) && decide (x.lo ≤ x.hi) && decide (x.hi ≤ 65536)
def daysOk (l : List Int) : Bool := inB l.length 1 16 && risingB l && decide (0 ≤ l.getD 0 0) && decide (l.getD (l.length - 1) 0 ≤ 1048576)
def sceneE (s : Scene) : Int :=
 if basinOk s.basin = false then 50 else if daysOk s.days = false then 1 else if 256 < s.sights.length ∨ 256 < s.changes.length then 2
 else if s.sights.all (sightOk s) = false then 51 else if s.changes.all (changeOk s) = false then 52 else 0

def likeB (a b : Cell) : Bool := decide ((a.aspect - b.aspect + 8) % 8 ≤ 1) || decide ((a.aspect - b.aspect + 8) % 8 = 7)
def moreF (b : Basin) (p : Int × Int) : Int := b.slack + b.gain * ((b.cells.getD p.2.toNat default).height - (b.cells.getD p.1.toNat default).height) / 100
def nodeF (n : Nat) (c d : Int) : Int := 1 + d * n + c
def cellD (b : Basin) (d : Nat) (c : Nat) : List Diff := [⟨0, nodeF b.cells.length c d, b.deep⟩, ⟨nodeF b.cells.length c d, 0, 0⟩]
def pairD (b : Basin) (d : Nat) (p : Int × Int) : List Diff :=
 if likeB (b.cells.getD p.1.toNat default) (b.cells.getD p.2.toNat default) then
  [⟨nodeF b.cells.length p.1 d, nodeF b.cells.length p.2 d, moreF b p⟩,
    ⟨nodeF b.cells.length p.2 d, nodeF b.cells.length p.1 d, if (b.cells.getD p.1.toNat default).height = (b.cells.getD p.2.toNat default).height then b.slack else 0⟩]
 else []
def dayD (b : Basin) (d : Nat) : List Diff := (List.range b.cells.length).flatMap (cellD b d) ++ b.pairs.flatMap (pairD b d)
def placeN (s : Scene) (cell day : Int) : Int := nodeF s.basin.cells.length (placeC s.basin.cells cell) (placeD s.days day)
def sightD (s : Scene) (y : Sight) : List Diff := [⟨0, placeN s y.cell y.day, y.hi⟩, ⟨placeN s y.cell y.day, 0, -y.lo⟩]
def changeD (s : Scene) (y : Change) : List Diff := [⟨placeN s y.cell y.frm, placeN s y.cell y.to, y.hi⟩, ⟨placeN s y.cell y.to, placeN s y.cell y.frm, -y.lo⟩]
def layD (s : Scene) : List Diff := (List.range s.days.length).flatMap (dayD s.basin) ++ s.sights.flatMap (sightD s) ++ s.changes.flatMap (changeD s)
def nodesN (s : Scene) : Nat := 1 + s.days.length * s.basin.cells.length

def allF (n : Nat) : List Int := (List.range n).map fun (i : Nat) => (i : Int)
def endsE (n : Nat) (ds : List Diff) : Int := if 0 ≤ (growF n ds (allF n)).2 then 41 else if (growF n ds [0]).1.has.any (fun x => x == false) then 42 else 0
def endsL (n : Nat) (ds : List Diff) : List Int := (growF n ds [0]).1.long
def botL (n : Nat) (ds : List Diff) : List Int := (endsL n (ds.map turnD)).map fun x => -x
def rowsF (n m : Nat) (l : List Int) : List (List Int) := (List.range m).map fun d => (l.drop (1 + d * n)).take n
def greatE (s : Scene) : Int := if sceneE s ≠ 0 then sceneE s else endsE (nodesN s) (layD s)
def greatF (s : Scene) : List (List Int) := rowsF s.basin.cells.length s.days.length (endsL (nodesN s) (layD s))
def leastE (s : Scene) : Int := if sceneE s ≠ 0 then sceneE s else endsE (nodesN s) ((layD s).map turnD)
def leastF (s : Scene) : List (List Int) := rowsF s.basin.cells.length s.days.length (botL (nodesN s) (layD s))
section
variable {w w' : World} {g : Nat} {t : TypeId} {cs : Array Value}
theorem Blk.grow (h : Blk w g t cs) (hb : Below w.heap.size w w') : Blk w' g t cs := h.below hb h.lt
theorem blk20 (w : World) (t : TypeId) (cs : Array Value) (o : Obj) : Blk ((w.alloc (.cells cs t)).alloc o) w.heap.size t cs := (Blk.new w t cs).alloc o
theorem blk21 (w : World) (t : TypeId) (cs : Array Value) (o : Obj) : Blk ((w.alloc o).alloc (.cells cs t)) (w.heap.size + 1) t cs := by
 have := Blk.new (w.alloc o) t cs; simpa using this
theorem blk30 (w : World) (t : TypeId) (cs : Array Value) (o o' : Obj) : Blk (((w.alloc (.cells cs t)).alloc o).alloc o') w.heap.size t cs := (blk20 w t cs o).alloc o'
theorem blk31 (w : World) (t : TypeId) (cs : Array Value) (o o' : Obj) : Blk (((w.alloc o).alloc (.cells cs t)).alloc o') (w.heap.size + 1) t cs := (blk21 w t cs o).alloc o'
theorem blk32 (w : World) (t : TypeId) (cs : Array Value) (o o' : Obj) : Blk (((w.alloc o).alloc o').alloc (.cells cs t)) (w.heap.size + 2) t cs := by
 have := Blk.new ((w.alloc o).alloc o') t cs; simpa using this
theorem bset {B : Nat} {a w : World} (h : Below B a w) (g i : Nat) (hg : B ≤ g) (u : Value) : Below B a (w.setCell ⟨g, i, none⟩ u) := h.setCell (p := ⟨g, i, none⟩) hg u
end

structure Climate where
 base : Int
 lapse : Int
 swing : Int
 wettest : Int
 coldest : Int
 warmest : Int
 flo : Int
 fhi : Int
deriving DecidableEq, Inhabited
structure Spring where
 no : Int
 days : List Weather
deriving DecidableEq, Inhabited
def Weather.v (x : Weather) : Value := .agg #[I x.day, I x.temp, I x.rain]
def Climate.v (c : Climate) : Value := .agg #[I c.base, I c.lapse, I c.swing, I c.wettest, I c.coldest, I c.warmest, I c.flo, I c.fhi]
abbrev c8 (c : Climate) : Array Value := #[I c.base, I c.lapse, I c.swing, I c.wettest, I c.coldest, I c.warmest, I c.flo, I c.fhi]
def climateOk (c : Climate) : Bool :=
 inB c.base 0 9000 && inB c.lapse 0 20 && inB c.swing 0 600 && inB c.wettest 0 1000 && inB c.coldest (-600) 600 && inB c.warmest c.coldest 600 && inB c.flo 0 2000 && inB c.fhi c.flo (min 2000 (c.flo + 50))
def climateE (c : Climate) : Int := if climateOk c then 0 else 61
def weatherOk (c : Climate) (w : Weather) : Bool := inB w.day 0 1048576 && inB w.temp c.coldest c.warmest && inB w.rain 0 c.wettest
def sizeF (n : Int) : Int := max n (-n)
def nearB (c : Climate) (v w : Weather) : Bool := decide (sizeF (v.temp - w.temp) ≤ c.swing * sizeF (v.day - w.day))
def linkedAt (c : Climate) (l : List Weather) (i : Nat) : Bool :=
 weatherOk c (l.getD i default) && (i == 0 || (decide ((l.getD (i - 1) default).day < (l.getD i default).day) && nearB c (l.getD (i - 1) default) (l.getD i default)))
def linkedB (c : Climate) (l : List Weather) : Bool := (List.range l.length).all (linkedAt c l)
def logE (c : Climate) (l : List Weather) : Int := if climateOk c = false then 61 else if 512 < l.length ∨ linkedB c l = false then 60 else 0
def succAt (l : List Weather) (i : Nat) : Bool := inB (l.getD i default).day 0 1048576 && decide ((l.getD i default).day = (l.getD 0 default).day + i)
def succB (l : List Weather) : Bool := (List.range l.length).all (succAt l)
def springOk (c : Climate) (s : Spring) : Bool := inB s.no 0 4095 && inB s.days.length 1 512 && succB s.days && linkedB c s.days
def springE (c : Climate) (s : Spring) : Int := if climateOk c = false then 61 else if springOk c s = false then 62 else 0
def atF (c : Climate) (t h : Int) : Int := t - c.lapse * (h - c.base) / 100
def tempB (t : Int) : Bool := inB t (-600) 600
def heightB (h : Int) : Bool := inB h 0 9000
def askedE (c : Climate) (l : List Bool) : Int := if climateOk c = false then 61 else if l.any (fun x => x == false) then 1 else 0
def fallF (c : Climate) (w : Weather) (h : Int) : Int × Int := if atF c w.temp h ≤ 0 then (w.rain, 0) else (0, w.rain)
def meltF (c : Climate) (w : Weather) (h f : Int) : Int := f * max 0 (atF c w.temp h) / 1000
def dayE1 (c : Climate) (w : Weather) (l : List Bool) : Int := if climateOk c = false then 61 else if weatherOk c w = false then 60 else askedE c l
def frostF (c : Climate) (t : Int) : Nat → Nat → Option Nat
 | 0, _ => none
 | n + 1, h => if atF c t h ≤ 0 then some h else frostF c t n (h + 1)
structure Gap where
 tlo : Int
 thi : Int
 rlo : Int
 rhi : Int
deriving DecidableEq, Inhabited
def gapStep (c : Climate) (d : Int) (g : Gap) (w : Weather) : Gap :=
 ⟨max g.tlo (w.temp - c.swing * sizeF (w.day - d)), min g.thi (w.temp + c.swing * sizeF (w.day - d)), if w.day = d then w.rain else g.rlo, if w.day = d then w.rain else g.rhi⟩
def gapF (c : Climate) (l : List Weather) (d : Int) : Gap := l.foldl (gapStep c d) ⟨c.coldest, c.warmest, 0, c.wettest⟩
def agreesAt (c : Climate) (days : List Weather) (w : Weather) : Bool :=
 let x := days.getD (min (max (w.day - (days.getD 0 default).day) 0) (days.length - 1)).toNat default
 nearB c w x && (decide (w.day ≠ x.day) || decide (w = x))
def agreesB (c : Climate) (l days : List Weather) : Bool := linkedB c days && l.all (agreesAt c days)
def allowedE (c : Climate) (l days : List Weather) : Int := if logE c l ≠ 0 then logE c l else askedE c [inB days.length 1 512 && succB days]
def warmW (c : Climate) (l : List Weather) (warm : Bool) (d : Int) : Weather := let g := gapF c l d; if warm then ⟨d, g.thi, g.rlo⟩ else ⟨d, g.tlo, g.rhi⟩
def fillF (c : Climate) (l : List Weather) (a : Int) (n : Nat) (warm : Bool) : List Weather := (List.range n).map fun (i : Nat) => warmW c l warm (a + i)
def stretchE (a b : Int) : Int := if a < 0 ∨ b ≤ a ∨ 1048576 < b then 1 else if 512 < b - a then 2 else 0
def lowStep (c : Climate) (h : Int) (n : Int) (w : Weather) : Int := n + ((fallF c w h).1 - meltF c w h c.fhi)
def highStep (c : Climate) (h : Int) (n : Int) (w : Weather) : Int := max 0 (n + (fallF c w h).1 - meltF c w h c.flo)
def clipF (n : Int) : Int := min (max n (-65536)) 65536
def changeF (c : Climate) (l : List Weather) (h a b : Int) : Int × Int :=
 (clipF ((fillF c l a (b - a).toNat true).foldl (lowStep c h) 0), clipF ((fillF c l a (b - a).toNat false).foldl (highStep c h) 0))
def relF (c : Climate) (h f e : Int) : List Weather → Int × Int → Int × Int
 | [], p => p
 | w :: ws, p => if e ≤ w.day then p else
  let left := max 0 (p.2 + (fallF c w h).1 - meltF c w h f)
  relF c h f e ws (p.1 + (fallF c w h).2 + p.2 + (fallF c w h).1 - left, left)
def beginF (s : Spring) : Int := (s.days.getD 0 default).day
def endF (s : Spring) : Int := beginF s + s.days.length

def MapI (w : World) (b : Nat) (L : List (Int × Value)) : Prop :=
 ∃ es clock, w.heap[b]? = some (.map es clock) ∧ es.toList.map (fun e => (e.key, e.val)) = L.map fun p => (I p.1, p.2)
def getI (L : List (Int × Value)) (k : Int) : Option Value := match L with
 | [] => none
 | p :: ps => if k = p.1 then some p.2 else getI ps k
def setI (L : List (Int × Value)) (k : Int) (v : Value) : List (Int × Value) := match L with
 | [] => [(k, v)]
 | p :: ps => if k = p.1 then (p.1, v) :: ps else p :: setI ps k v
theorem getI_setI (L : List (Int × Value)) (k : Int) (v : Value) (j : Int) : getI (setI L k v) j = if j = k then some v else getI L j := by
 induction L with
 | nil => simp [setI, getI]
 | cons p ps ih =>
  unfold setI
  by_cases h : k = p.1
  ·simp only [h, if_true, getI]
   by_cases hj : j = p.1 <;> simp [hj]
  ·rw [if_neg h]
   simp only [getI, ih]
   by_cases hj : j = p.1
   ·have : ¬ j = k := fun e => h (e.symm.trans hj)
    simp [hj]; intro e; exact absurd e.symm h
   ·simp [hj]

theorem findNow_int (k : Int) : ∀ (es : List MapEntry) (L : List (Int × Value)) (i : Nat), es.map (fun e => (e.key, e.val)) = L.map (fun p => (I p.1, p.2)) →
  (Instr.findNow (.int .i64) (I k) es i = some none ∧ getI L k = none ∧ setI L k = fun v => L ++ [(k, v)]) ∨
  ∃ j e v, Instr.findNow (.int .i64) (I k) es i = some (some (i + j, v)) ∧ getI L k = some v ∧ es[j]? = some e ∧ e.key = I k ∧
   ∀ u, (es.modify j fun e => { e with key := I k, val := u }).map (fun e => (e.key, e.val)) = (setI L k u).map (fun p => (I p.1, p.2))
 | [], L, i, h => by
  cases L with
  | nil => exact .inl ⟨rfl, rfl, rfl⟩
  | cons => simp at h
 | e :: es, L, i, h => by
  cases L with
  | nil => simp at h
  | cons p ps =>
   simp only [List.map_cons, List.cons.injEq, Prod.mk.injEq] at h
   obtain ⟨⟨hk, hv⟩, ht⟩ := h
   by_cases e1 : k = p.1
   ·refine .inr ⟨0, e, e.val, ?_, ?_, rfl, by rw [hk, e1], fun u => ?_⟩
    ·simp [Instr.findNow, Instr.sameNow, hk, e1]
    ·simp [getI, e1, hv]
    ·simp [setI, e1, ht]
   ·have hs : Instr.sameNow (.int .i64) (I k) e.key = some false := by rw [hk]; simp [Instr.sameNow, e1]
    rcases findNow_int k es ps (i + 1) ht with ⟨h1, h2, h3⟩ | ⟨j, e', v, h1, h2, h3, h4, h5⟩
    ·refine .inl ⟨by simp [Instr.findNow, hs, h1], by simp [getI, e1, h2], ?_⟩
     funext v
     simp [setI, e1, h3]
    ·refine .inr ⟨j + 1, e', v, ?_, by simp [getI, e1, h2], by simpa using h3, h4, fun u => ?_⟩
     ·simp [Instr.findNow, hs, h1]; omega
     ·simp [setI, e1, h5 u, hk, hv]

section
variable {P : Program} {w : World} {b t k e : Nat} {L : List (Int × Value)}
theorem MapI.lt (h : MapI w b L) : b < w.heap.size := by
 obtain ⟨es, clock, hb, _⟩ := h
 exact (Array.getElem?_eq_some_iff.1 hb).1
theorem MapI.new (w : World) : MapI (w.alloc (.map #[] 0)) w.heap.size [] := ⟨#[], 0, (MapKept.heap_alloc w _).1, rfl⟩
theorem MapI.below {B : Nat} {w' : World} (h : MapI w b L) (hb : Below B w w') (hg : b < B) : MapI w' b L := by
 obtain ⟨es, clock, h1, h2⟩ := h
 exact ⟨es, clock, (hb.block b hg).trans h1, h2⟩
theorem MapI.lookup (h : MapI w b L) (ht : P.underlying t = some (.map k e)) (hk : P.underlying k = some (.int .i64)) {z : Value} (hz : (zeroValue e).run P w = .ok z w) (x : Int) (ok : Bool) :
  (Instr.lookup t (.map (some b)) (I x) ok).run P w = .ok (if ok then .tuple #[(getI L x).getD z, .bool (getI L x).isSome] else (getI L x).getD z) w := by
 obtain ⟨es, clock, hb, hL⟩ := h
 have hkey : MapKept.IsKey (.int .i64) (I x) := by simp [MapKept.IsKey]
 rcases findNow_int x es.toList L 0 hL with ⟨h1, h2, _⟩ | ⟨j, e', v, h1, h2, _⟩
 ·simp [Instr.lookup, run_underlying ht, MapKept.run_getObj_map hb, MapKept.run_checkKey hk hkey, MapKept.run_findKey hk h1, hz, Result.andThen, h2]
 ·simp [Instr.lookup, run_underlying ht, MapKept.run_getObj_map hb, MapKept.run_checkKey hk hkey, MapKept.run_findKey hk h1, Result.andThen, h2]
theorem MapI.put (h : MapI w b L) (ht : P.underlying t = some (.map k e)) (hk : P.underlying k = some (.int .i64)) (x : Int) (v : Value) :
  ∃ o, (Instr.mapUpdate t (.map (some b)) (I x) v).run P w = .ok () { w with heap := w.heap.setIfInBounds b o } ∧ MapI { w with heap := w.heap.setIfInBounds b o } b (setI L x v) := by
 obtain ⟨es, clock, hb, hL⟩ := h
 have hkey : MapKept.IsKey (.int .i64) (I x) := by simp [MapKept.IsKey]
 rcases findNow_int x es.toList L 0 hL with ⟨h1, h2, h3⟩ | ⟨j, e', u, h1, h2, h4, h5, h6⟩
 ·refine ⟨.map (es.push { key := I x, val := v, born := clock }) (clock + 1), ?_, ?_⟩
  ·simp [Instr.mapUpdate, run_underlying ht, MapKept.run_getObj_map hb, MapKept.run_checkKey hk hkey, MapKept.run_findKey hk h1, MapKept.run_setObj_map _ hb, Result.andThen]
  ·refine ⟨_, _, (MapKept.heap_set hb).1, ?_⟩
   rw [h3]; simp [hL]
 ·refine ⟨.map (es.modify j fun e => { e with key := I x, val := v }) clock, ?_, ?_⟩
  ·have h4' : es[j]? = some e' := by simpa using h4
   simp [Instr.mapUpdate, run_underlying ht, MapKept.run_getObj_map hb, MapKept.run_checkKey hk hkey, MapKept.run_findKey hk h1, h4', h5, MapKept.run_keyThatStays hkey, MapKept.run_setObj_map _ hb, Result.andThen]
  ·refine ⟨_, _, (MapKept.heap_set hb).1, ?_⟩
   rw [Array.toList_modify]; exact h6 v
theorem Below.mapped {B : Nat} {w w' : World} (h : Below B w w') {b : Nat} (hb : B ≤ b) (o : Obj) : Below B w { w' with heap := w'.heap.setIfInBounds b o } :=
 ⟨h.os, h.tape, h.output, by simpa using h.size, fun k hk => by
  have : ¬ b = k := by omega
  simp [this, h.block k hk]⟩
end
end Go.Proofs.YtgbbljfmngmjeaaGreat
