/- The package crew: what Trip and best ask of a crew, its sites and its cells (the closures Trip$1, best$1). Conditions stand in the theorems. -/
import Derived.Test.YtgbbljfmngmjeaaGreatCrew14Pack
import Derived.Test.YtgbbljfmngmjeaaGreatCrew2Pack
import Derived.Test.YtgbbljfmngmjeaaGreatCrew12Pack
import Derived.Test.YtgbbljfmngmjeaaGreatWat5Pack
set_option linter.all false
set_option maxRecDepth 20000
namespace Go.Proofs.YtgbbljfmngmjeaaGreat
open Go.RowKit

def tripA (ss : List Site) (c : Crew) (cs : List Int) : Bool := hiredB ss c && visitsB ss cs
theorem eg_trip1 : ∀ args w, (callFunc 112 args).run Tryz.prog w = .ok (.enter 112 args) w := enters_of Tryz.func112 (by kernel_rfl) rfl
theorem crew_trip1 (gr gc gk : Nat) (vs vt vk : Value) (ss : List Site) (ts : List Track) (c : Crew) (cs : List Int) (w : World) (hs : Sl w 3 Site.cells vs ss) (ht : Sl w 6 Track.cells vt ts) (hk : Sl w 1 intC vk cs)
  (hR : Blk w gr 25 #[vs, vt]) (hC : Blk w gc 44 #[I c.hut, I c.work, I c.load]) (hK : w.cell? ⟨gk, 0, none⟩ = some vk) :
  Calls Tryz.prog 112 #[.pointer (some ⟨gr, 0, none⟩), .pointer (some ⟨gc, 0, none⟩), .pointer (some ⟨gk, 0, none⟩)] w fun e w' => e = .returned (.bool (tripA ss c cs)) ∧ Below w.heap.size w w' := by
 have JH := hide (fun w' (hb : Below w.heap.size w w') => crew_hired vs vt ss c w' (hs.mono hb))
 have JV := hide (fun w' (hb : Below w.heap.size w w') => crew_visits vs vt vk ss cs w' (hs.mono hb) (hk.mono hb))
 have zK := World.block_lt_of_cell? _ _ hK
 have kF := hide (fun (W : World) (hW : Below w.heap.size w W) => (show (W.cell? ⟨gr, 0, none⟩ = some vs ∧ W.cell? ⟨gr, 1, none⟩ = some vt) ∧ (W.cell? ⟨gc, 0, none⟩ = some (I c.hut) ∧ W.cell? ⟨gc, 1, none⟩ = some (I c.work) ∧ W.cell? ⟨gc, 2, none⟩ = some (I c.load)) ∧ W.cell? ⟨gk, 0, none⟩ = some vk from ⟨(hR.grow hW).cells2, (hC.grow hW).cells3, (hW.cell (p := ⟨gk, 0, none⟩) zK).trans hK⟩))
 have zF := hide (fun (W : World) (hW : Below w.heap.size w W) => (show gr < W.heap.size ∧ gc < W.heap.size ∧ gk < W.heap.size from ⟨(hR.grow hW).lt, (hC.grow hW).lt, Nat.lt_of_lt_of_le zK hW.size⟩))
 obtain ⟨A, n, rfl, _⟩ := hs.open_
 obtain ⟨A', n', rfl, _⟩ := ht.open_
 obtain ⟨Ak, nk, rfl, _⟩ := hk.open_
 have hQ := hide (show tripA ss c cs = (hiredB ss c && visitsB ss cs) from rfl)
 obtain ⟨Q, hQQ⟩ : ∃ q, tripA ss c cs = q := ⟨_, rfl⟩
 obtain ⟨a, ha⟩ : ∃ q, hiredB ss c = q := ⟨_, rfl⟩
 obtain ⟨d, hd⟩ : ∃ q, visitsB ss cs = q := ⟨_, rfl⟩
 rw [hQQ, ha, hd] at hQ
 rw [ha] at JH
 rw [hd] at JV
 rw [hQQ]
 clear hs ht hk hR hC hK zK ha hd hQQ
 obtain ⟨⟨r0, r1⟩, ⟨c0, c1, c2⟩, k0⟩ := kF.out w (Below.refl _ _)
 obtain ⟨z1, z2, z4⟩ := zF.out w (Below.refl _ _)
 rcases a with _ | _
 ·go_enter Tryz.func112, Tryz.ntmps112
  go_wp2_with (go_at_call 92; refine (JH.out _ (Below.refl _ _)).mono ?_; rintro e w2 ⟨rfl, hb2⟩)
  go_ret
  exact ⟨ret_bool (by rw [hQ.out]; rfl), hb2⟩
 ·go_enter Tryz.func112, Tryz.ntmps112
  go_wp2_with (first | (go_at_call 92; refine (JH.out _ (Below.refl _ _)).mono ?_; clear r0 r1 c0 c1 c2 k0 z1 z2 z4; rintro e w2 ⟨rfl, hb2⟩; obtain ⟨⟨r0, r1⟩, ⟨c0, c1, c2⟩, k0⟩ := kF.out _ hb2; obtain ⟨z1, z2, z4⟩ := zF.out _ hb2) | (go_at_call 103; refine (JV.out _ hb2).mono ?_; rintro e w4 ⟨rfl, hb4⟩))
  go_ret
  exact ⟨ret_bool (by rw [hQ.out]; rfl), bup hb2 hb4⟩
def bestA (ss : List Site) (c : Crew) (s : Scene) (cs : List Int) (width : Int) : Bool := hiredB ss c && measB s cs width
theorem eg_best1 : ∀ args w, (callFunc 175 args).run Tryz.prog w = .ok (.enter 175 args) w := enters_of Tryz.func175 (by kernel_rfl) rfl
theorem crew_best1 (gr gc gs gk gw : Nat) (vs vt vk : Value) (ss : List Site) (ts : List Track) (c : Crew) (s : Scene) (V : SceneV) (cs : List Int) (width : Int) (w : World) (hs : Sl w 3 Site.cells vs ss) (ht : Sl w 6 Track.cells vt ts) (hS : SceneAt w s V) (hk : Sl w 1 intC vk cs)
  (hR : Blk w gr 25 #[vs, vt]) (hC : Blk w gc 44 #[I c.hut, I c.work, I c.load]) (hB : Blk w gs 42 #[V.cells, V.pairs, I s.basin.gain, I s.basin.slack, I s.basin.deep, V.days, V.sights, V.changes]) (hK : w.cell? ⟨gk, 0, none⟩ = some vk) (hW : w.cell? ⟨gw, 0, none⟩ = some (I width)) :
  Calls Tryz.prog 175 #[.pointer (some ⟨gr, 0, none⟩), .pointer (some ⟨gc, 0, none⟩), .pointer (some ⟨gs, 0, none⟩), .pointer (some ⟨gk, 0, none⟩), .pointer (some ⟨gw, 0, none⟩)] w fun e w' => e = .returned (.bool (bestA ss c s cs width)) ∧ Below w.heap.size w w' := by
 have JH := hide (fun w' (hb : Below w.heap.size w w') => crew_hired vs vt ss c w' (hs.mono hb))
 have JV := fun w' (hb : Below w.heap.size w w') => crew_measured s V vk cs width w' (hS.mono hb) (hk.mono hb)
 have zK := World.block_lt_of_cell? _ _ hK
 have zW := World.block_lt_of_cell? _ _ hW
 obtain ⟨Ac, nc, hcc, _⟩ := hS.cells.open_
 obtain ⟨Ap, np, hpp, _⟩ := hS.pairs.open_
 obtain ⟨Ad, nd, hdd, _⟩ := hS.days.open_
 obtain ⟨As, ns, hsi, _⟩ := hS.sights.open_
 obtain ⟨Ah, nh, hch, _⟩ := hS.changes.open_
 unfold Scene.v at JV
 rw [hcc, hpp, hdd, hsi, hch] at JV hB
 clear hcc hpp hdd hsi hch
 replace JV := hide JV
 have kF := hide (fun (W : World) (hb : Below w.heap.size w W) => (show (W.cell? ⟨gr, 0, none⟩ = some vs ∧ W.cell? ⟨gr, 1, none⟩ = some vt) ∧ (W.cell? ⟨gc, 0, none⟩ = some (I c.hut) ∧ W.cell? ⟨gc, 1, none⟩ = some (I c.work) ∧ W.cell? ⟨gc, 2, none⟩ = some (I c.load)) ∧ (W.cell? ⟨gs, 0, none⟩ = some (.slice Ac s.basin.cells.length nc) ∧ W.cell? ⟨gs, 1, none⟩ = some (.slice Ap s.basin.pairs.length np) ∧ W.cell? ⟨gs, 2, none⟩ = some (I s.basin.gain) ∧ W.cell? ⟨gs, 3, none⟩ = some (I s.basin.slack) ∧ W.cell? ⟨gs, 4, none⟩ = some (I s.basin.deep) ∧ W.cell? ⟨gs, 5, none⟩ = some (.slice Ad s.days.length nd) ∧ W.cell? ⟨gs, 6, none⟩ = some (.slice As s.sights.length ns) ∧ W.cell? ⟨gs, 7, none⟩ = some (.slice Ah s.changes.length nh)) ∧ W.cell? ⟨gk, 0, none⟩ = some vk ∧ W.cell? ⟨gw, 0, none⟩ = some (I width) from ⟨(hR.grow hb).cells2, (hC.grow hb).cells3, (hB.grow hb).cells8, (hb.cell (p := ⟨gk, 0, none⟩) zK).trans hK, (hb.cell (p := ⟨gw, 0, none⟩) zW).trans hW⟩))
 have zF := hide (fun (W : World) (hb : Below w.heap.size w W) => (show gr < W.heap.size ∧ gc < W.heap.size ∧ gs < W.heap.size ∧ gk < W.heap.size ∧ gw < W.heap.size from ⟨(hR.grow hb).lt, (hC.grow hb).lt, (hB.grow hb).lt, Nat.lt_of_lt_of_le zK hb.size, Nat.lt_of_lt_of_le zW hb.size⟩))
 obtain ⟨A, n, rfl, _⟩ := hs.open_
 obtain ⟨A', n', rfl, _⟩ := ht.open_
 obtain ⟨Ak, nk, rfl, _⟩ := hk.open_
 have hQ := hide (show bestA ss c s cs width = (hiredB ss c && measB s cs width) from rfl)
 obtain ⟨Q, hQQ⟩ : ∃ q, bestA ss c s cs width = q := ⟨_, rfl⟩
 obtain ⟨a, ha⟩ : ∃ q, hiredB ss c = q := ⟨_, rfl⟩
 obtain ⟨d, hd⟩ : ∃ q, measB s cs width = q := ⟨_, rfl⟩
 rw [hQQ, ha, hd] at hQ
 rw [ha] at JH
 rw [hd] at JV
 rw [hQQ]
 clear hs ht hS hk hR hC hB hK hW zK zW ha hd hQQ
 obtain ⟨⟨r0, r1⟩, ⟨c0, c1, c2⟩, ⟨q0, q1, q2, q3, q4, q5, q6, q7⟩, k0, m0⟩ := kF.out w (Below.refl _ _)
 obtain ⟨z1, z2, z3, z4, z5⟩ := zF.out w (Below.refl _ _)
 rcases a with _ | _
 ·go_enter Tryz.func175, Tryz.ntmps175
  go_wp2_with (go_at_call 92; refine (JH.out _ (Below.refl _ _)).mono ?_; rintro e w2 ⟨rfl, hb2⟩)
  go_ret
  exact ⟨ret_bool (by rw [hQ.out]; rfl), hb2⟩
 ·go_enter Tryz.func175, Tryz.ntmps175
  go_wp2_with (first | (go_at_call 92; refine (JH.out _ (Below.refl _ _)).mono ?_; clear r0 r1 c0 c1 c2 q0 q1 q2 q3 q4 q5 q6 q7 k0 m0 z1 z2 z3 z4 z5; rintro e w2 ⟨rfl, hb2⟩; obtain ⟨⟨r0, r1⟩, ⟨c0, c1, c2⟩, ⟨q0, q1, q2, q3, q4, q5, q6, q7⟩, k0, m0⟩ := kF.out _ hb2; obtain ⟨z1, z2, z3, z4, z5⟩ := zF.out _ hb2) | (go_at_call 163; refine (JV.out _ hb2).mono ?_; rintro e w4 ⟨rfl, hb4⟩))
  go_ret
  exact ⟨ret_bool (by rw [hQ.out]; rfl), bup hb2 hb4⟩

def tripRow (ss : List Site) (ts : List Track) (s : Scene) (c : Crew) (day : Int) (cs : List Int) (k : Nat) : List Stp :=
 rowT ss (openF (hwF s day) ts) (bitF ss cs) (ss.length * 2 ^ cs.length) (placeS ss c.hut).toNat k
def tripF (ss : List Site) (ts : List Track) (s : Scene) (c : Crew) (day : Int) (cs : List Int) : Option (Nat × Nat) := tripP ss (tripRow ss ts s c day cs) c day cs
def tripT (ss : List Site) (ts : List Track) (s : Scene) (c : Crew) (day : Int) (cs : List Int) : List Int := tripL (tripRow ss ts s c day cs) (tripF ss ts s c day cs)
def tripE (ss : List Site) (ts : List Track) (s : Scene) (c : Crew) (day : Int) (cs : List Int) : Int := seenE ss ts s day (tripA ss c cs)
def tripB (ss : List Site) (ts : List Track) (s : Scene) (c : Crew) (day : Int) (cs : List Int) : Bool := (tripE ss ts s c day cs == 0) && (tripF ss ts s c day cs).isSome
def tripV (ss : List Site) (ts : List Track) (s : Scene) (c : Crew) (day : Int) (cs : List Int) : List Int := if tripE ss ts s c day cs = 0 then tripT ss ts s c day cs else []

structure Bst where
 no : Int
 wide : Int
 list : List Int
deriving DecidableEq, Inhabited
def bestS (ss : List Site) (ts : List Track) (s : Scene) (c : Crew) (day : Int) (cs : List Int) (width : Int) (b : Bst) (x : Site) : Int ⊕ Bst :=
 if x.kind ≠ 2 ∨ measB s [x.cell] width = false then .inr b
 else if (tripF ss ts s c day [x.no]).isSome = false then .inr b
 else if outE (worstR s cs day x.cell width) ≠ 0 then .inl (outE (worstR s cs day x.cell width))
 else if b.no < 0 ∨ (outV (worstR s cs day x.cell width)).wide < b.wide then .inr ⟨x.no, (outV (worstR s cs day x.cell width)).wide, tripT ss ts s c day [x.no]⟩
 else .inr b
def bestK (ss : List Site) (ts : List Track) (s : Scene) (c : Crew) (day : Int) (cs : List Int) (width : Int) : Nat → Int ⊕ Bst
 | 0 => .inr ⟨-1, 0, []⟩
 | k + 1 => match bestK ss ts s c day cs width k with
  | .inl e => .inl e
  | .inr b => bestS ss ts s c day cs width b (ss.getD k default)
theorem best_stop {ss : List Site} {ts : List Track} {s : Scene} {c : Crew} {day : Int} {cs : List Int} {width : Int} {k : Nat} {e : Int} (h : bestK ss ts s c day cs width k = .inl e) : ∀ n, k ≤ n → bestK ss ts s c day cs width n = .inl e
 | 0, hn => by
  obtain rfl : k = 0 := by omega
  exact h
 | n + 1, hn => by
  rcases Nat.lt_or_ge k (n + 1) with h1 | h1
  ·have ih := best_stop h n (by omega)
   simp only [bestK, ih]
  ·obtain rfl : k = n + 1 := by omega
   exact h
def bestR (ss : List Site) (ts : List Track) (s : Scene) (c : Crew) (day : Int) (cs : List Int) (width : Int) : Int ⊕ Bst :=
 if seenE ss ts s day (bestA ss c s cs width) ≠ 0 then .inl (seenE ss ts s day (bestA ss c s cs width)) else bestK ss ts s c day cs width ss.length
def bestE (R : Int ⊕ Bst) : Int := match R with | .inl e => e | .inr _ => 0
def bestNo (R : Int ⊕ Bst) : Int := match R with | .inl _ => 0 | .inr b => if b.no < 0 then 0 else b.no
def bestB (R : Int ⊕ Bst) : Bool := match R with | .inl _ => false | .inr b => decide (0 ≤ b.no)
def bestL (R : Int ⊕ Bst) : List Int := match R with | .inl _ => [] | .inr b => if b.no < 0 then [] else b.list

def hillsS : List Site := [⟨1, 1, 0⟩, ⟨2, 2, 7⟩, ⟨3, 3, 0⟩, ⟨4, 1, 0⟩]
def hillsT : List Track := [⟨1, 1, 2, 100, 7, 35⟩, ⟨2, 2, 4, 150, 0, 0⟩, ⟨3, 1, 3, 80, 0, 0⟩, ⟨4, 3, 2, 90, 0, 0⟩]
def snowS (lo hi : Int) : Scene := ⟨⟨[⟨7, 2000, 0, 10⟩], [], 0, 0, 3000⟩, [100], [⟨1, 7, 100, lo, hi⟩], []⟩
def crewC : Crew := ⟨1, 60, 50⟩
theorem ev_light : lightV 91 = 720 ∧ dayE 91 = 0 := ⟨by kernel_rfl, by kernel_rfl⟩
theorem ev_open : openV hillsS hillsT (snowS 900 1200) 100 = [2, 3, 4] := by kernel_rfl
theorem ev_openE : openE hillsS hillsT (snowS 900 1200) 100 = 0 := by kernel_rfl
theorem ev_way : wayP hillsS hillsT (snowS 900 1200) 100 1 2 = [3, 4] := by kernel_rfl
theorem ev_wayE : wayE hillsS hillsT (snowS 900 1200) 100 1 2 = 0 := by kernel_rfl
theorem ev_wayM : wayM hillsS hillsT (snowS 900 1200) 100 1 2 = 170 := by kernel_rfl
theorem ev_wayB : wayB hillsS hillsT (snowS 900 1200) 100 1 2 = true := by kernel_rfl
theorem ev_min : minutesV hillsS hillsT crewC [3, 4, 2] [2] = 540 := by kernel_rfl
theorem ev_minE : minutesE hillsS hillsT crewC [3, 4, 2] [2] = 0 := by kernel_rfl
theorem ev_reach : reachV hillsS hillsT (snowS 900 1200) crewC 100 = [1, 2, 3, 4] := by kernel_rfl
theorem ev_reachE : reachE hillsS hillsT (snowS 900 1200) 100 crewC = 0 := by kernel_rfl
theorem ev_check1 : checkE hillsS hillsT (snowS 900 1200) crewC 100 [1, 2] [2] = 72 := by kernel_rfl
theorem ev_check2 : checkE hillsS hillsT (snowS 900 1200) crewC 100 [3, 4] [2] = 71 := by kernel_rfl
theorem ev_check3 : checkE hillsS hillsT (snowS 900 1200) crewC 100 [3, 4, 2] [2] = 0 := by kernel_rfl
theorem ev_worst : (outV (worstR (snowS 100 160) [7] 100 7 20)).wide = 200 := by kernel_rfl
theorem ev_worstE : outE (worstR (snowS 100 160) [7] 100 7 20) = 0 := by kernel_rfl
theorem ev_told : toldV (snowS 100 160) [7] 100 7 20 = ⟨100, 120⟩ := by kernel_rfl
theorem ev_toldB : toldB (snowS 100 160) [7] 100 7 20 = true := by kernel_rfl
theorem ev_toldE : toldE (snowS 100 160) [7] 100 7 20 = 0 := by kernel_rfl
theorem ev_cut : cutV hillsS hillsT (snowS 100 160) 100 1 4 = [] := by kernel_rfl
theorem ev_cutB : cutB hillsS hillsT (snowS 100 160) 100 1 4 = false := by kernel_rfl
theorem ev_cutE : wayE hillsS hillsT (snowS 100 160) 100 1 4 = 0 := by kernel_rfl
theorem ev_trip : tripV hillsS hillsT (snowS 900 1200) crewC 100 [2] = [3, 4, 2] := by kernel_rfl
theorem ev_tripB : tripB hillsS hillsT (snowS 900 1200) crewC 100 [2] = true := by kernel_rfl
theorem ev_tripE : tripE hillsS hillsT (snowS 900 1200) crewC 100 [2] = 0 := by kernel_rfl
theorem ev_best : bestNo (bestR hillsS hillsT (snowS 100 160) crewC 100 [7] 20) = 2 := by kernel_rfl
theorem ev_bestB : bestB (bestR hillsS hillsT (snowS 100 160) crewC 100 [7] 20) = true := by kernel_rfl
theorem ev_bestE : bestE (bestR hillsS hillsT (snowS 100 160) crewC 100 [7] 20) = 0 := by kernel_rfl
theorem ev_range : rangeE [⟨0, 0, 0⟩] [] = 70 := by kernel_rfl

theorem sl_of {α : Type} {k : Nat} {enc : α → List Value} (hlen : ∀ x, (enc x).length = k) {w : World} {g n : Nat} {t : TypeId} {xs : List α} {cs : Array Value} (h : Blk w g t cs) (hc : cs = (xs.flatMap enc).toArray) (hn : xs.length = n) (hb : n ≤ 1048576) : Sl w k enc (.slice (some ⟨g, 0, none⟩) n n) xs := by
 subst hc
 refine Own.sl (base := 0) (e := t) ?_ hlen (by omega)
 subst hn
 have hl := flat_len hlen xs
 refine ⟨hl, .inr ⟨g, xs.length, (xs.flatMap enc).toArray, rfl, Nat.zero_le _, h, Nat.le_refl _, by unfold maxLen; omega, by simpa using hl, ?_⟩⟩
 rw [← hl, List.take_length]
def HillsAt (w : World) (a b : Nat) : Prop := Sl w 3 Site.cells (.slice (some ⟨a, 0, none⟩) 4 4) hillsS ∧ Sl w 6 Track.cells (.slice (some ⟨b, 0, none⟩) 4 4) hillsT
theorem HillsAt.mono {w w' : World} {a b : Nat} (h : HillsAt w a b) (hb : Below w.heap.size w w') : HillsAt w' a b := ⟨h.1.mono hb, h.2.mono hb⟩
def snowSV (a b c : Nat) : SceneV := ⟨.slice (some ⟨a, 0, none⟩) 1 1, .slice none 0 0, .slice (some ⟨b, 0, none⟩) 1 1, .slice (some ⟨c, 0, none⟩) 1 1, .slice none 0 0⟩
theorem law_hills (w : World) : Calls Tryz.prog 73 #[] w fun e w' => ∃ a b, e = .returned (.agg #[.slice (some ⟨a, 0, none⟩) 4 4, .slice (some ⟨b, 0, none⟩) 4 4]) ∧ HillsAt w' a b ∧ Below w.heap.size w w' := by
 obtain ⟨w2, hw2, hb, kR, kA, kB⟩ := al3 w #[.slice (some ⟨w.heap.size + 1, 0, none⟩) 4 4, .slice (some ⟨w.heap.size + 1 + 1, 0, none⟩) 4 4] 25 #[I 1, I 1, I 0, I 2, I 2, I 7, I 3, I 3, I 0, I 4, I 1, I 0] 80 #[I 1, I 1, I 2, I 100, I 7, I 35, I 2, I 2, I 4, I 150, I 0, I 0, I 3, I 1, I 3, I 80, I 0, I 0, I 4, I 3, I 2, I 90, I 0, I 0] 74
 have hF : HillsAt w2 (w.heap.size + 1) (w.heap.size + 1 + 1) := ⟨sl_of Site.cells_len kA rfl rfl (by omega), sl_of Track.cells_len kB rfl rfl (by omega)⟩
 replace hF := hide hF
 replace hb := hide hb
 replace kR := hide kR
 clear kA kB
 go_enter Tryz.func73, Tryz.ntmps73
 go_wp2_with fail
 rw [← hw2]
 clear hw2
 (try simp only [Exit.inBlock, Exit.then])
 refine bodyPost_ret (results_cell_row (P := Tryz.prog) rfl _ _ w.heap.size 25 _ (0, 0) _ rfl kR.out Tryz.underlying25 rfl (by kernel_rfl)) rfl ⟨_, _, rfl, hF.out, hb.out⟩
theorem law_snow (lo hi : Int) (w : World) : Calls Tryz.prog 74 #[I lo, I hi] w fun e w' => ∃ a b c, e = .returned (.agg #[.slice (some ⟨a, 0, none⟩) 1 1, .slice none 0 0, I 0, I 0, I 3000, .slice (some ⟨b, 0, none⟩) 1 1, .slice (some ⟨c, 0, none⟩) 1 1, .slice none 0 0]) ∧ SceneAt w' (snowS lo hi) (snowSV a b c) ∧ (w.heap.size ≤ a ∧ w.heap.size ≤ b ∧ w.heap.size ≤ c) ∧ Below w.heap.size w w' := by
 obtain ⟨w2, hw2, hb, kX, kA, kB, kC⟩ := al4 w #[.slice (some ⟨w.heap.size + 1, 0, none⟩) 1 1, .slice none 0 0, I 0, I 0, I 3000, .slice (some ⟨w.heap.size + 1 + 1, 0, none⟩) 1 1, .slice (some ⟨w.heap.size + 1 + 1 + 1, 0, none⟩) 1 1, .slice none 0 0] 42 #[I 7, I 2000, I 0, I 10] 101 #[I 100] 3 #[I 1, I 7, I 100, I lo, I hi] 83
 have hF : SceneAt w2 (snowS lo hi) (snowSV (w.heap.size + 1) (w.heap.size + 1 + 1) (w.heap.size + 1 + 1 + 1)) := ⟨sl_of (n := 1) Cell.cells_len kA rfl rfl (by omega), Sl.nil _ _ _, sl_of (n := 1) intC_len kB rfl rfl (by omega), sl_of (n := 1) Sight.cells_len kC rfl rfl (by omega), Sl.nil _ _ _⟩
 replace hF := hide hF
 replace hb := hide hb
 replace kX := hide kX
 clear kA kB kC
 go_enter Tryz.func74, Tryz.ntmps74
 go_wp2_with fail
 rw [← hw2]
 clear hw2
 (try simp only [Exit.inBlock, Exit.then])
 refine bodyPost_ret (results_cell_row (P := Tryz.prog) rfl _ _ w.heap.size 42 _ (0, 0) _ rfl kX.out Tryz.underlying42 rfl (by kernel_rfl)) rfl ⟨_, _, _, rfl, hF.out, ⟨by omega, by omega, by omega⟩, hb.out⟩
end Go.Proofs.YtgbbljfmngmjeaaGreat
