/- The package spring as plain functions of plain data. No condition. -/
import Derived.Test.YtifeniiefhpadaaGreatDoorBasePack
import Derived.MapKept
set_option linter.all false
namespace Go.Proofs.YtifeniiefhpadaaGreatDoor
open Go.RowKit

structure Climate where
 base : Int
 lapse : Int
 swing : Int
 wettest : Int
 coldest : Int
 warmest : Int
 flo : Int
 fhi : Int
deriving DecidableEq, Inhabited
structure Spring where
 no : Int
 days : List Weather
deriving DecidableEq, Inhabited
def Weather.v (x : Weather) : Value := .agg #[I x.day, I x.temp, I x.rain]
def Climate.v (c : Climate) : Value := .agg #[I c.base, I c.lapse, I c.swing, I c.wettest, I c.coldest, I c.warmest, I c.flo, I c.fhi]
abbrev c8 (c : Climate) : Array Value := #[I c.base, I c.lapse, I c.swing, I c.wettest, I c.coldest, I c.warmest, I c.flo, I c.fhi]
def climateOk (c : Climate) : Bool :=
 inB c.base 0 9000 && inB c.lapse 0 20 && inB c.swing 0 600 && inB c.wettest 0 1000 && inB c.coldest (-600) 600 && inB c.warmest c.coldest 600 && inB c.flo 0 2000 && inB c.fhi c.flo (min 2000 (c.flo + 50))
def climateE (c : Climate) : Int := if climateOk c then 0 else 61
def weatherOk (c : Climate) (w : Weather) : Bool := inB w.day 0 1048576 && inB w.temp c.coldest c.warmest && inB w.rain 0 c.wettest
def sizeF (n : Int) : Int := max n (-n)
def nearB (c : Climate) (v w : Weather) : Bool := decide (sizeF (v.temp - w.temp) ≤ c.swing * sizeF (v.day - w.day))
def linkedAt (c : Climate) (l : List Weather) (i : Nat) : Bool :=
 weatherOk c (l.getD i default) && (i == 0 || (decide ((l.getD (i - 1) default).day < (l.getD i default).day) && nearB c (l.getD (i - 1) default) (l.getD i default)))
def linkedB (c : Climate) (l : List Weather) : Bool := (List.range l.length).all (linkedAt c l)
def logE (c : Climate) (l : List Weather) : Int := if climateOk c = false then 61 else if 512 < l.length ∨ linkedB c l = false then 60 else 0
def succAt (l : List Weather) (i : Nat) : Bool := inB (l.getD i default).day 0 1048576 && decide ((l.getD i default).day = (l.getD 0 default).day + i)
def succB (l : List Weather) : Bool := (List.range l.length).all (succAt l)
def springOk (c : Climate) (s : Spring) : Bool := inB s.no 0 4095 && inB s.days.length 1 512 && succB s.days && linkedB c s.days
def springE (c : Climate) (s : Spring) : Int := if climateOk c = false then 61 else if springOk c s = false then 62 else 0
def atF (c : Climate) (t h : Int) : Int := t - c.lapse * (h - c.base) / 100
def tempB (t : Int) : Bool := inB t (-600) 600
def heightB (h : Int) : Bool := inB h 0 9000
def askedE (c : Climate) (l : List Bool) : Int := if climateOk c = false then 61 else if l.any (fun x => x == false) then 1 else 0
def fallF (c : Climate) (w : Weather) (h : Int) : Int × Int := if atF c w.temp h ≤ 0 then (w.rain, 0) else (0, w.rain)
def meltF (c : Climate) (w : Weather) (h f : Int) : Int := f * max 0 (atF c w.temp h) / 1000
def dayE1 (c : Climate) (w : Weather) (l : List Bool) : Int := if climateOk c = false then 61 else if weatherOk c w = false then 60 else askedE c l
def frostF (c : Climate) (t : Int) : Nat → Nat → Option Nat
 | 0, _ => none
 | n + 1, h => if atF c t h ≤ 0 then some h else frostF c t n (h + 1)
structure Gap where
 tlo : Int
 thi : Int
 rlo : Int
 rhi : Int
deriving DecidableEq, Inhabited
def gapStep (c : Climate) (d : Int) (g : Gap) (w : Weather) : Gap :=
 ⟨max g.tlo (w.temp - c.swing * sizeF (w.day - d)), min g.thi (w.temp + c.swing * sizeF (w.day - d)), if w.day = d then w.rain else g.rlo, if w.day = d then w.rain else g.rhi⟩
def gapF (c : Climate) (l : List Weather) (d : Int) : Gap := l.foldl (gapStep c d) ⟨c.coldest, c.warmest, 0, c.wettest⟩
def agreesAt (c : Climate) (days : List Weather) (w : Weather) : Bool :=
 let x := days.getD (min (max (w.day - (days.getD 0 default).day) 0) (days.length - 1)).toNat default
 nearB c w x && (decide (w.day ≠ x.day) || decide (w = x))
def agreesB (c : Climate) (l days : List Weather) : Bool := linkedB c days && l.all (agreesAt c days)
def allowedE (c : Climate) (l days : List Weather) : Int := if logE c l ≠ 0 then logE c l else askedE c [inB days.length 1 512 && succB days]
def warmW (c : Climate) (l : List Weather) (warm : Bool) (d : Int) : Weather := let g := gapF c l d; if warm then ⟨d, g.thi, g.rlo⟩ else ⟨d, g.tlo, g.rhi⟩
def fillF (c : Climate) (l : List Weather) (a : Int) (n : Nat) (warm : Bool) : List Weather := (List.range n).map fun (i : Nat) => warmW c l warm (a + i)
def stretchE (a b : Int) : Int := if a < 0 ∨ b ≤ a ∨ 1048576 < b then 1 else if 512 < b - a then 2 else 0
def lowStep (c : Climate) (h : Int) (n : Int) (w : Weather) : Int := n + ((fallF c w h).1 - meltF c w h c.fhi)
def highStep (c : Climate) (h : Int) (n : Int) (w : Weather) : Int := max 0 (n + (fallF c w h).1 - meltF c w h c.flo)
def clipF (n : Int) : Int := min (max n (-65536)) 65536
def changeF (c : Climate) (l : List Weather) (h a b : Int) : Int × Int :=
 (clipF ((fillF c l a (b - a).toNat true).foldl (lowStep c h) 0), clipF ((fillF c l a (b - a).toNat false).foldl (highStep c h) 0))
def relF (c : Climate) (h f e : Int) : List Weather → Int × Int → Int × Int
 | [], p => p
 | w :: ws, p => if e ≤ w.day then p else
  let left := max 0 (p.2 + (fallF c w h).1 - meltF c w h f)
  relF c h f e ws (p.1 + (fallF c w h).2 + p.2 + (fallF c w h).1 - left, left)
def beginF (s : Spring) : Int := (s.days.getD 0 default).day
def endF (s : Spring) : Int := beginF s + s.days.length

def MapI (w : World) (b : Nat) (L : List (Int × Value)) : Prop :=
 ∃ es clock, w.heap[b]? = some (.map es clock) ∧ es.toList.map (fun e => (e.key, e.val)) = L.map fun p => (I p.1, p.2)
def getI (L : List (Int × Value)) (k : Int) : Option Value := match L with
 | [] => none
 | p :: ps => if k = p.1 then some p.2 else getI ps k
def setI (L : List (Int × Value)) (k : Int) (v : Value) : List (Int × Value) := match L with
 | [] => [(k, v)]
 | p :: ps => if k = p.1 then (p.1, v) :: ps else p :: setI ps k v
theorem findNow_int (k : Int) : ∀ (es : List MapEntry) (L : List (Int × Value)) (i : Nat), es.map (fun e => (e.key, e.val)) = L.map (fun p => (I p.1, p.2)) →
  (Instr.findNow (.int .i64) (I k) es i = some none ∧ getI L k = none ∧ setI L k = fun v => L ++ [(k, v)]) ∨
  ∃ j e v, Instr.findNow (.int .i64) (I k) es i = some (some (i + j, v)) ∧ getI L k = some v ∧ es[j]? = some e ∧ e.key = I k ∧
   ∀ u, (es.modify j fun e => { e with key := I k, val := u }).map (fun e => (e.key, e.val)) = (setI L k u).map (fun p => (I p.1, p.2))
 | [], L, i, h => by
  cases L with
  | nil => exact .inl ⟨rfl, rfl, rfl⟩
  | cons => simp at h
 | e :: es, L, i, h => by
  cases L with
  | nil => simp at h
  | cons p ps =>
   simp only [List.map_cons, List.cons.injEq, Prod.mk.injEq] at h
   obtain ⟨⟨hk, hv⟩, ht⟩ := h
   by_cases e1 : k = p.1
   ·refine .inr ⟨0, e, e.val, ?_, ?_, rfl, by rw [hk, e1], fun u => ?_⟩
    ·simp [Instr.findNow, Instr.sameNow, hk, e1]
    ·simp [getI, e1, hv]
    ·simp [setI, e1, ht]
   ·have hs : Instr.sameNow (.int .i64) (I k) e.key = some false := by rw [hk]; simp [Instr.sameNow, e1]
    rcases findNow_int k es ps (i + 1) ht with ⟨h1, h2, h3⟩ | ⟨j, e', v, h1, h2, h3, h4, h5⟩
    ·refine .inl ⟨by simp [Instr.findNow, hs, h1], by simp [getI, e1, h2], ?_⟩
     funext v
     simp [setI, e1, h3]
    ·refine .inr ⟨j + 1, e', v, ?_, by simp [getI, e1, h2], by simpa using h3, h4, fun u => ?_⟩
     ·simp [Instr.findNow, hs, h1]; omega
     ·simp [setI, e1, h5 u, hk, hv]

section
variable {P : Program} {w : World} {b t k e : Nat} {L : List (Int × Value)}
theorem MapI.lt (h : MapI w b L) : b < w.heap.size := by
 obtain ⟨es, clock, hb, _⟩ := h
 exact (Array.getElem?_eq_some_iff.1 hb).1
theorem MapI.new (w : World) : MapI (w.alloc (.map #[] 0)) w.heap.size [] := ⟨#[], 0, (MapKept.heap_alloc w _).1, rfl⟩
theorem MapI.below {B : Nat} {w' : World} (h : MapI w b L) (hb : Below B w w') (hg : b < B) : MapI w' b L := by
 obtain ⟨es, clock, h1, h2⟩ := h
 exact ⟨es, clock, (hb.block b hg).trans h1, h2⟩
theorem MapI.lookup (h : MapI w b L) (ht : P.underlying t = some (.map k e)) (hk : P.underlying k = some (.int .i64)) {z : Value} (hz : (zeroValue e).run P w = .ok z w) (x : Int) (ok : Bool) :
  (Instr.lookup t (.map (some b)) (I x) ok).run P w = .ok (if ok then .tuple #[(getI L x).getD z, .bool (getI L x).isSome] else (getI L x).getD z) w := by
 obtain ⟨es, clock, hb, hL⟩ := h
 have hkey : MapKept.IsKey (.int .i64) (I x) := by simp [MapKept.IsKey]
 rcases findNow_int x es.toList L 0 hL with ⟨h1, h2, _⟩ | ⟨j, e', v, h1, h2, _⟩
 ·simp [Instr.lookup, run_underlying ht, MapKept.run_getObj_map hb, MapKept.run_checkKey hk hkey, MapKept.run_findKey hk h1, hz, Result.andThen, h2]
 ·simp [Instr.lookup, run_underlying ht, MapKept.run_getObj_map hb, MapKept.run_checkKey hk hkey, MapKept.run_findKey hk h1, Result.andThen, h2]
theorem MapI.put (h : MapI w b L) (ht : P.underlying t = some (.map k e)) (hk : P.underlying k = some (.int .i64)) (x : Int) (v : Value) :
  ∃ o, (Instr.mapUpdate t (.map (some b)) (I x) v).run P w = .ok () { w with heap := w.heap.setIfInBounds b o } ∧ MapI { w with heap := w.heap.setIfInBounds b o } b (setI L x v) := by
 obtain ⟨es, clock, hb, hL⟩ := h
 have hkey : MapKept.IsKey (.int .i64) (I x) := by simp [MapKept.IsKey]
 rcases findNow_int x es.toList L 0 hL with ⟨h1, h2, h3⟩ | ⟨j, e', u, h1, h2, h4, h5, h6⟩
 ·refine ⟨.map (es.push { key := I x, val := v, born := clock }) (clock + 1), ?_, ?_⟩
  ·simp [Instr.mapUpdate, run_underlying ht, MapKept.run_getObj_map hb, MapKept.run_checkKey hk hkey, MapKept.run_findKey hk h1, MapKept.run_setObj_map _ hb, Result.andThen]
  ·refine ⟨_, _, (MapKept.heap_set hb).1, ?_⟩
   rw [h3]; simp [hL]
 ·refine ⟨.map (es.modify j fun e => { e with key := I x, val := v }) clock, ?_, ?_⟩
  ·have h4' : es[j]? = some e' := by simpa using h4
   simp [Instr.mapUpdate, run_underlying ht, MapKept.run_getObj_map hb, MapKept.run_checkKey hk hkey, MapKept.run_findKey hk h1, h4', h5, MapKept.run_keyThatStays hkey, MapKept.run_setObj_map _ hb, Result.andThen]
  ·refine ⟨_, _, (MapKept.heap_set hb).1, ?_⟩
   rw [Array.toList_modify]; exact h6 v
theorem Below.mapped {B : Nat} {w w' : World} (h : Below B w w') {b : Nat} (hb : B ≤ b) (o : Obj) : Below B w { w' with heap := w'.heap.setIfInBounds b o } :=
 ⟨h.os, h.tape, h.output, by simpa using h.size, fun k hk => by
  have : ¬ b = k := by omega
  simp [this, h.block k hk]⟩
end
end Go.Proofs.YtifeniiefhpadaaGreatDoor
