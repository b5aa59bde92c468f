/- The package spring: chosen, begins, spell. Conditions stand in the theorems. -/
import Derived.Test.YtifeniiefhpadaaGreatDoorSpring9Pack
import Derived.Test.YtifeniiefhpadaaGreatDoorReachPack
set_option linter.all false
set_option maxHeartbeats 4000000
set_option maxRecDepth 100000
namespace Go.Proofs.YtifeniiefhpadaaGreatDoor
open Go.RowKit

theorem chosen1_gives (no : Int) (B : Nat) (w : World) (hc : w.cell? ⟨B, 0, none⟩ = some (I no)) (hB : B < w.heap.size) (xs : List Cell) :
  Gives Tryz.prog 92 #[.pointer (some ⟨B, 0, none⟩)] (fun x => .agg #[I x.no, I x.height, I x.aspect, I x.area]) (fun s => s.no == no) w xs := by
 intro W x _ hb
 have hc' := (hb.cell (p := ⟨B, 0, none⟩) hB).trans hc
 have hB' : B < W.heap.size := Nat.lt_of_lt_of_le hB hb.size
 clear hc hb hB
 go_enter Tryz.func92, Tryz.ntmps92
 go_wp2
 go_ret
 exact ⟨rfl, below1 _ _⟩
def chosenAt (cs : List Cell) (l : List Int) (i : Nat) : Bool := risesAt l i && cs.any fun c => c.no == l.getD i 0
def chosenB (s : Scene) (l : List Int) : Bool := (List.range l.length).all (chosenAt s.basin.cells l) && decide (0 < l.length)

theorem spring_chosen (s : Scene) (V : SceneV) (vl : Value) (l : List Int) (w : World) (hs : SceneAt w s V) (hl : Sl w 1 intC vl l) :
  Calls Tryz.prog 59 #[s.v V, vl] w fun e w' => e = .returned (.bool (chosenB s l)) ∧ Below w.heap.size w w' := by
 obtain ⟨Ac, nc, hc, _⟩ := hs.cells.open_
 obtain ⟨Ap, np, hp, _⟩ := hs.pairs.open_
 obtain ⟨Ad, nd, hd, _⟩ := hs.days.open_
 obtain ⟨As, ns, hsi, _⟩ := hs.sights.open_
 obtain ⟨Ah, nh, hch, _⟩ := hs.changes.open_
 have hcs := hide hs.cells
 unfold Scene.v
 rw [hc] at hcs
 rw [hc, hp, hd, hsi, hch]
 obtain ⟨A, n, rfl, _, _, hlen, hA⟩ := hl.open_
 replace hl := hide hl
 replace hA := hide hA
 have hbad : ∀ k, k < l.length → chosenAt s.basin.cells l k = false → chosenB s l = false := fun k hk h => by
  have : (List.range l.length).all (chosenAt s.basin.cells l) = false := all_of_not hk h
  simp [chosenB, this]
 replace hbad := hide hbad
 clear hs hc hp hd hsi hch
 go_enter Tryz.func59, Tryz.ntmps59
 go_wp2_with fail
 obtain ⟨W0, hW0⟩ : ∃ W0, W0 = w.alloc (.cells (s8 s Ac nc Ap np Ad nd As ns Ah nh) 77) := ⟨_, rfl⟩
 have hc0 : W0.cell? ⟨w.heap.size, 0, none⟩ = some (.slice Ac s.basin.cells.length nc) := by rw [hW0]; simp [go_sem]
 have hz0 : w.heap.size < W0.heap.size := by rw [hW0]; simp
 have hbl : Below w.heap.size w W0 := by rw [hW0]; exact below1 _ _
 rw [← hW0]
 clear hW0
 go_loopw [9] (fun i wr => ∃ k : Nat, k ≤ l.length ∧ i = I k ∧ Hid (AllTo (chosenAt s.basin.cells l) k) ∧ Below W0.heap.size W0 wr) (fun i _ => l.length - (intOf i).toNat)
 case atStart => exact ⟨0, Nat.zero_le _, rfl, hide (fun i hi => absurd hi (Nat.not_lt_zero _)), Below.refl _ _⟩
 case round =>
  obtain ⟨k, hk, rfl, hn, hb⟩ := hrel
  have c0 := (hb.cell (p := ⟨w.heap.size, 0, none⟩) hz0).trans hc0
  have hz1 : w.heap.size < wr.heap.size := Nat.lt_of_lt_of_le hz0 hb.size
  by_cases hlt : k < l.length
  ·obtain ⟨b, off, rfl, hbw⟩ := hA.out k hlt
   obtain ⟨x, hx⟩ := getElem?_of_lt hlt
   have hlw := hide ((unhide hl).mono (bup hbl hb))
   obtain ⟨_, e0⟩ := hlw.out.int_at hx
   have hbw1 : b < wr.heap.size := Nat.lt_of_lt_of_le hbw (bup hbl hb).size
   have hcw := hide (hcs.out.mono (bup hbl hb))
   have hat : chosenAt s.basin.cells l k = (risesAt l k && s.basin.cells.any fun c => c.no == x) := by simp [chosenAt, hx]
   clear hA hcs hl
   rcases Nat.lt_or_ge k 1 with h0 | h0
   ·have hkd : decide (0 < k) = false := by simp; omega
    rw [show risesAt l k = true by (have h00 : k = 0 := by omega); subst h00; rfl, Bool.true_and] at hat
    cases hq : (s.basin.cells.any fun c => c.no == x) with
    | true =>
     have hg := hide (hn.out.succ (show chosenAt s.basin.cells l k = true by rw [hat, hq]))
     clear hbad hx hn hat
     have H := hide (fun W (hW : Below (wr.alloc (.cells #[I x] 3)).heap.size (wr.alloc (.cells #[I x] 3)) W) => containsFunc_Cell _ s.basin.cells _ _ _ W (hcw.out.mono (bup (below1 _ _) hW)) (enters_of Tryz.func92 (by kernel_rfl) rfl) (chosen1_gives x wr.heap.size W ((hW.cell (p := ⟨wr.heap.size, 0, none⟩) (by simp)).trans (by simp [go_sem])) (Nat.lt_of_lt_of_le (by simp) hW.size) _))
     simp only [hq] at H
     clear hq
     go_wp2_with fail
     (refine wp_grow ?_; (repeat go_big_quiet_step ((go_at_call 91; exact calls_grew (H.out _ (Grew.below _))))); refine wp_grow0 ?_; intro W1 hW1)
     go_wp2_with fail
     go_roundw
     case rel => exact ⟨k + 1, by omega, by go_num, hg, bup hb (bup (below1 _ _) hW1)⟩
     case measure => simp [intOf]; omega
    | false =>
     have hfin := hide (hbad.out k hlt (by rw [hat, hq]))
     clear hbad hx hn hat
     have H := hide (fun W (hW : Below (wr.alloc (.cells #[I x] 3)).heap.size (wr.alloc (.cells #[I x] 3)) W) => containsFunc_Cell _ s.basin.cells _ _ _ W (hcw.out.mono (bup (below1 _ _) hW)) (enters_of Tryz.func92 (by kernel_rfl) rfl) (chosen1_gives x wr.heap.size W ((hW.cell (p := ⟨wr.heap.size, 0, none⟩) (by simp)).trans (by simp [go_sem])) (Nat.lt_of_lt_of_le (by simp) hW.size) _))
     simp only [hq] at H
     clear hq
     go_wp2_with fail
     (refine wp_grow ?_; (repeat go_big_quiet_step ((go_at_call 91; exact calls_grew (H.out _ (Grew.below _))))); refine wp_grow0 ?_; intro W1 hW1)
     go_wp2_with fail
     go_ret
     exact ⟨ret_bool hfin.out.symm, bup hbl (bup hb (bup (below1 _ _) hW1))⟩
   ·obtain ⟨y, hy⟩ := getElem?_of_lt (xs := l) (k := k - 1) (by omega)
    obtain ⟨_, p0⟩ := hlw.out.int_at hy
    have hpos := risesAt_pos h0 hx hy
    have hk0 : decide (0 < k) = true := by simp; omega
    have hkw : IntKind.i64.wrap ((k : Int) - 1) = ((k - 1 : Nat) : Int) := by rw [IntWalk.i64_in _ (by omega)]; omega
    have hkl : k - 1 < l.length := by omega
    rcases ilt y x with hd | hd
    ·have hyd : decide (x ≤ y) = false := by simp; omega
     rw [hpos, show decide (y < x) = true by simpa using hd, Bool.true_and] at hat
     cases hq : (s.basin.cells.any fun c => c.no == x) with
     | true =>
      have hg := hide (hn.out.succ (show chosenAt s.basin.cells l k = true by rw [hat, hq]))
      clear hbad hx hn hat hpos hy
      have H := hide (fun W (hW : Below (wr.alloc (.cells #[I x] 3)).heap.size (wr.alloc (.cells #[I x] 3)) W) => containsFunc_Cell _ s.basin.cells _ _ _ W (hcw.out.mono (bup (below1 _ _) hW)) (enters_of Tryz.func92 (by kernel_rfl) rfl) (chosen1_gives x wr.heap.size W ((hW.cell (p := ⟨wr.heap.size, 0, none⟩) (by simp)).trans (by simp [go_sem])) (Nat.lt_of_lt_of_le (by simp) hW.size) _))
      simp only [hq] at H
      clear hq
      go_wp2_with fail
      (refine wp_grow ?_; (repeat go_big_quiet_step ((go_at_call 91; exact calls_grew (H.out _ (Grew.below _))))); refine wp_grow0 ?_; intro W1 hW1)
      go_wp2_with fail
      go_roundw
      case rel => exact ⟨k + 1, by omega, by go_num, hg, bup hb (bup (below1 _ _) hW1)⟩
      case measure => simp [intOf]; omega
     | false =>
      have hfin := hide (hbad.out k hlt (by rw [hat, hq]))
      clear hbad hx hn hat hpos hy
      have H := hide (fun W (hW : Below (wr.alloc (.cells #[I x] 3)).heap.size (wr.alloc (.cells #[I x] 3)) W) => containsFunc_Cell _ s.basin.cells _ _ _ W (hcw.out.mono (bup (below1 _ _) hW)) (enters_of Tryz.func92 (by kernel_rfl) rfl) (chosen1_gives x wr.heap.size W ((hW.cell (p := ⟨wr.heap.size, 0, none⟩) (by simp)).trans (by simp [go_sem])) (Nat.lt_of_lt_of_le (by simp) hW.size) _))
      simp only [hq] at H
      clear hq
      go_wp2_with fail
      (refine wp_grow ?_; (repeat go_big_quiet_step ((go_at_call 91; exact calls_grew (H.out _ (Grew.below _))))); refine wp_grow0 ?_; intro W1 hW1)
      go_wp2_with fail
      go_ret
      exact ⟨ret_bool hfin.out.symm, bup hbl (bup hb (bup (below1 _ _) hW1))⟩
    ·have hyd : decide (x ≤ y) = true := by simp; omega
     have hfin := hide (hbad.out k hlt (by rw [hat, hpos, show decide (y < x) = false by simp; omega, Bool.false_and]))
     clear hbad hx hn hat hpos hy
     go_wp2_with fail
     (refine wp_grow ?_; (repeat go_big_quiet_step (fail)); refine wp_grow0 ?_; intro W1 hW1)
     go_wp2_with fail
     go_ret
     exact ⟨ret_bool hfin.out.symm, bup hbl (bup hb (bup (below1 _ _) hW1))⟩
  ·have he : k = l.length := by omega
   subst he
   have hfin := hide (show chosenB s l = decide (0 < l.length) by
    have : (List.range l.length).all (chosenAt s.basin.cells l) = true := AllTo.all hn.out
    simp [chosenB, this])
   clear hbad hA hn
   rcases Nat.eq_zero_or_pos l.length with h0 | h0
   ·go_wp2_with fail
    go_ret
    exact ⟨ret_bool (by rw [hfin.out]; simp [h0]), bup hbl hb⟩
   ·have h0' : (0 : Int) < l.length := by omega
    go_wp2_with fail
    go_ret
    exact ⟨ret_bool (by rw [hfin.out]; simp [h0]), bup hbl hb⟩

def poolV (c : Climate) (no : Int) (vd vc vw : Value) : Value := .agg #[I c.base, I c.lapse, I c.swing, I c.wettest, I c.coldest, I c.warmest, I c.flo, I c.fhi, I no, vd, vc, vw]
def poolC (c : Climate) (no : Int) (vd vc vw : Value) : Array Value := #[I c.base, I c.lapse, I c.swing, I c.wettest, I c.coldest, I c.warmest, I c.flo, I c.fhi, I no, vd, vc, vw]
def cameF (c : Climate) (l : List Weather) (f d : Int) : List Cell → List Int → Int
 | x :: cs, u :: ws => x.area * (relF c x.height f d l (0, u)).1 + cameF c l f d cs ws
 | _, _ => 0
theorem relF_bd {c : Climate} {h f e : Int} (hc : ClimOk c) (hh : 0 ≤ h ∧ h ≤ 9000) (hf : 0 ≤ f ∧ f ≤ 2000) : ∀ (l : List Weather) (a b : Int), (∀ x ∈ l, WeaOk c x) → 0 ≤ b →
  a ≤ (relF c h f e l (a, b)).1 ∧ (relF c h f e l (a, b)).1 ≤ a + b + 1000 * l.length ∧ 0 ≤ (relF c h f e l (a, b)).2
 | [], a, b, _, hb => by simp [relF]; omega
 | x :: xs, a, b, hl, hb => by
  rcases ilt x.day e with g | g
  ·have hx := hl x (List.mem_cons_self ..)
   have h1 := fall_sum (c := c) (h := h) hx.rain.1
   have h2 := (meltF_bd (f := f) hc (hx.t600 hc) hh hf).2
   have h3 := hx.rain.2
   have h4 := hc.wettest
   rw [relF_go g]
   have ih := relF_bd (e := e) hc hh hf xs (a + ((fallF c x h).2 + b + (fallF c x h).1 - max 0 (b + (fallF c x h).1 - meltF c x h f))) (max 0 (b + (fallF c x h).1 - meltF c x h f)) (fun y hy => hl y (List.mem_cons_of_mem _ hy)) (by omega)
   rw [List.length_cons]
   push_cast
   omega
  ·rw [relF_stop g]
   simp only [List.length_cons]
   push_cast
   omega
theorem came_nil (c : Climate) (l : List Weather) (f d : Int) : cameF c l f d [] [] = 0 := rfl
theorem cellOk_bd {x : Cell} (h : cellOk x = true) : (0 ≤ x.height ∧ x.height ≤ 9000) ∧ 1 ≤ x.area ∧ x.area ≤ 4096 := by
 simp only [cellOk, Bool.and_eq_true, inB_true] at h
 omega

theorem pool_came (c : Climate) (no f d : Int) (vd vc vw : Value) (l : List Weather) (cs : List Cell) (ws : List Int) (w : World) (hc : ClimOk c) (hl : ∀ x ∈ l, WeaOk c x) (hn : l.length ≤ 512) (hf : 0 ≤ f ∧ f ≤ 2000)
  (hcs : ∀ x ∈ cs, cellOk x = true) (hlen : ws.length = cs.length) (hws : ∀ u ∈ ws, 0 ≤ u ∧ u ≤ 65536) (hn12 : cs.length ≤ 12) (hd : Sl w 3 Weather.cells vd l) (hvc : Sl w 4 Cell.cells vc cs) (hvw : Sl w 1 intC vw ws) :
  Calls Tryz.prog 94 #[poolV c no vd vc vw, I f, I d] w fun e w' => e = .returned (I (cameF c l f d cs ws)) ∧ Below w.heap.size w w' := by
 obtain ⟨Ac, nc, rfl, _, _, _, hAc⟩ := hvc.open_
 obtain ⟨Aw, nw, rfl, _, _, _, hAw⟩ := hvw.open_
 obtain ⟨Ad, nd, rfl, _, _, _, _⟩ := hd.open_
 have HR := hide (fun (x : Cell) (hx : cellOk x = true) (u : Int) (hu : 0 ≤ u ∧ u ≤ 65536) (w' : World) (hb : Below w.heap.size w w') => spring_release c no (.slice Ad l.length nd) l x.height u f d w' hc hl hn (cellOk_bd hx).1 hf (by omega) (hd.mono hb))
 have HB := hide (fun (x : Cell) (hx : cellOk x = true) (u : Int) (hu : 0 ≤ u ∧ u ≤ 65536) => relF_bd (e := d) hc (cellOk_bd hx).1 hf l 0 u hl hu.1)
 obtain ⟨R, hR⟩ : ∃ R, cameF c l f d cs ws = R := ⟨_, rfl⟩
 rw [hR]
 replace hR := hide hR
 rw [hlen] at hAw
 replace hvc := hide hvc
 replace hvw := hide hvw
 replace hAc := hide hAc
 replace hAw := hide hAw
 replace hcs := hide hcs
 replace hws := hide hws
 clear hd hc hl hf
 unfold Climate.v at HR
 unfold poolV
 rw [hlen]
 go_enter Tryz.func94, Tryz.ntmps94
 go_wp2_with fail
 obtain ⟨W0, hW0⟩ : ∃ W0, W0 = w.alloc (.cells #[I c.base, I c.lapse, I c.swing, I c.wettest, I c.coldest, I c.warmest, I c.flo, I c.fhi, I no, .slice Ad l.length nd, .slice Ac cs.length nc, .slice Aw cs.length nw] 114) := ⟨_, rfl⟩
 have hk0 : Blk W0 w.heap.size 114 (poolC c no (.slice Ad l.length nd) (.slice Ac cs.length nc) (.slice Aw cs.length nw)) := by rw [hW0]; exact Blk.new _ _ _
 have hbl : Below w.heap.size w W0 := by rw [hW0]; exact below1 _ _
 rw [← hW0]
 clear hW0
 replace hk0 := hide hk0
 go_loopw [7, 15] (fun sv i wr => ∃ (k : Nat) (s : Int), k ≤ cs.length ∧ i = I k ∧ sv = I s ∧ 0 ≤ s ∧ s ≤ k * 4000000000 ∧ Hid (s + cameF c l f d (cs.drop k) (ws.drop k) = R) ∧ Below W0.heap.size W0 wr) (fun _ i _ => cs.length - (intOf i).toNat)
 case atStart => exact ⟨0, 0, Nat.zero_le _, rfl, rfl, Int.le_refl _, by omega, hide (by simpa using hR.out), Below.refl _ _⟩
 case round =>
  obtain ⟨k, s, hk, rfl, rfl, hs1, hs2, hr, hb⟩ := hrel
  clear hR
  by_cases hlt : k < cs.length
  ·obtain ⟨g, off, rfl, hgw⟩ := hAc.out k hlt
   obtain ⟨gw, ow, rfl, hgw2⟩ := hAw.out k (by omega)
   obtain ⟨x, hx⟩ := getElem?_of_lt hlt
   obtain ⟨u, hu⟩ := getElem?_of_lt (xs := ws) (k := k) (by omega)
   have hxo := hcs.out x (List.mem_of_getElem? hx)
   have huo := hws.out u (List.mem_of_getElem? hu)
   have hB := bup hbl hb
   obtain ⟨_, e0, e1, e2, e3⟩ := ((unhide hvc).mono hB).cell_at hx
   obtain ⟨_, u0⟩ := ((unhide hvw).mono hB).int_at hu
   have hkW := (hk0.out.grow hb)
   have z0 := hkW.lt
   obtain ⟨p0, p1, p2, p3, p4, p5, p6, p7, p8, p9, p10, p11⟩ := hkW.cells12
   clear hkW
   have hs := hr.out
   rw [drop_at hx, drop_at hu] at hs
   simp only [cameF] at hs
   obtain ⟨n, hnn⟩ : ∃ n, (relF c x.height f d l (0, u)).1 = n := ⟨_, rfl⟩
   obtain ⟨lf, hlf⟩ : ∃ lf, (relF c x.height f d l (0, u)).2 = lf := ⟨_, rfl⟩
   have hbd := HB.out x hxo u huo
   have H1 := HR.out x hxo u huo
   rw [hnn] at hs hbd
   rw [hnn, hlf] at H1
   have H := hide (fun W (hW : Below (wr.alloc (.cells #[I x.no, I x.height, I x.aspect, I x.area] 67)).heap.size (wr.alloc (.cells #[I x.no, I x.height, I x.aspect, I x.area] 67)) W) => H1 W (bup (bup hB (below1 _ _)) hW))
   have hn0 : 0 ≤ n ∧ n ≤ 600000 := by omega
   obtain ⟨_, ha1, ha2⟩ := cellOk_bd hxo
   have hm : 0 ≤ x.area * n ∧ x.area * n ≤ 2457600000 := ⟨Int.mul_nonneg (by omega) hn0.1, by
    have := Int.mul_le_mul (a := x.area) (b := n) (c := 4096) (d := 600000) ha2 hn0.2 hn0.1 (by omega)
    omega⟩
   have km : IntKind.i64.wrap (x.area * n) = x.area * n := IntWalk.i64_in _ (by omega)
   have ks : IntKind.i64.wrap (s + x.area * n) = s + x.area * n := IntWalk.i64_in _ (by omega)
   obtain ⟨m, hmm⟩ : ∃ m, x.area * n = m := ⟨_, rfl⟩
   rw [hmm] at km ks hm hs
   replace hs := hide hs
   clear hAc hAw hcs hws HR HB H1 hr hx hu hnn hlf hbd hxo huo hvc hvw hk0 ha1 ha2
   go_wp2_with fail
   (refine wp_grow ?_; (repeat go_big_quiet_step ((go_at_call 53; exact calls_grew (H.out _ (Grew.below _))))); refine wp_grow0 ?_; intro W1 hW1)
   have q3 := (hW1.cell (p := ⟨wr.heap.size, 3, none⟩) (by simp)).trans (by simp [go_sem] : _ = some (I x.area))
   go_wp2_with fail
   go_roundw
   case rel => exact ⟨k + 1, s + m, by omega, by go_num, rfl, by omega, by push_cast; omega, hide (by rw [← hs.out]; omega), bup hb (bup (below1 _ _) hW1)⟩
   case measure => simp [intOf]; omega
  ·have he : k = cs.length := by omega
   subst he
   have hs := hr.out
   rw [List.drop_length, ← hlen, List.drop_length, came_nil, Int.add_zero] at hs
   subst hs
   clear hAc hAw HR HB hr
   go_wp2_with fail
   go_ret
   exact ⟨rfl, bup hbl hb⟩

def beginsB (s : Scene) (p : Spring) : Bool := s.days.getD (s.days.length - 1) 0 == beginF p
def spellB (p : Spring) (frm to : Int) : Bool := decide (beginF p ≤ frm) && decide (frm ≤ to) && decide (to ≤ endF p)

theorem spring_begins (s : Scene) (V : SceneV) (no : Int) (v : Value) (l : List Weather) (w : World) (hs : SceneAt w s V) (hd1 : 0 < s.days.length) (hd2 : s.days.length ≤ 16) (h0 : 0 < l.length) (hv : Sl w 3 Weather.cells v l) :
  Calls Tryz.prog 58 #[s.v V, .agg #[I no, v]] w fun e w' => e = .returned (.bool (beginsB s ⟨no, l⟩)) ∧ Below w.heap.size w w' := by
 obtain ⟨Ac, nc, hc, _⟩ := hs.cells.open_
 obtain ⟨Ap, np, hp, _⟩ := hs.pairs.open_
 have hsd := hs.days
 obtain ⟨Ad, nd, hd, _, _, _, hAd⟩ := hs.days.open_
 obtain ⟨As, ns, hsi, _⟩ := hs.sights.open_
 obtain ⟨Ah, nh, hch, _⟩ := hs.changes.open_
 obtain ⟨m, hm⟩ : ∃ m, s.days.length - 1 = m := ⟨_, rfl⟩
 have hml : m < s.days.length := by omega
 obtain ⟨g, off, hAd', hgw⟩ := hAd m hml
 have hg1 : g < w.heap.size + 1 := by omega
 have hg2 : g < w.heap.size + 1 + 1 := by omega
 obtain ⟨x, hx⟩ := getElem?_of_lt (xs := s.days) (k := m) hml
 rw [hAd'] at hd
 rw [hd] at hsd
 obtain ⟨_, e0⟩ := hsd.int_at hx
 have H := fun w hv => spring_begin no v l w h0 hv
 have hB : beginsB s ⟨no, l⟩ = (x == beginF ⟨no, l⟩) := by
  have := getD_of hx
  simp only [beginsB, hm]
  rw [show s.days.getD m 0 = x from this]
 rw [hB]
 obtain ⟨b, hb⟩ : ∃ b, beginF ⟨no, l⟩ = b := ⟨_, rfl⟩
 rw [hb] at H ⊢
 unfold Scene.v
 rw [hc, hp, hd, hsi, hch]
 clear hc hp hd hsi hch hB hb hx hAd hAd' hsd hs h0
 obtain ⟨A, n, hvv, _⟩ := hv.open_
 rw [hvv] at hv H ⊢
 clear hvv
 have HH := hide (fun W (hW : Below w.heap.size w W) => H W (hv.mono hW))
 clear H hv
 have hk : IntKind.i64.wrap ((s.days.length : Int) - 1) = (m : Int) := by rw [IntWalk.i64_in _ (by omega)]; omega
 clear hm
 have HG := hide (fun W (hW : Below ((w.alloc (.cells #[.slice Ac s.basin.cells.length nc, .slice Ap s.basin.pairs.length np, I s.basin.gain, I s.basin.slack, I s.basin.deep, .slice (some ⟨g, off, none⟩) s.days.length nd, .slice As s.sights.length ns, .slice Ah s.changes.length nh] 77)).alloc (.cells #[I no, .slice A l.length n] 58)).heap.size ((w.alloc (.cells #[.slice Ac s.basin.cells.length nc, .slice Ap s.basin.pairs.length np, I s.basin.gain, I s.basin.slack, I s.basin.deep, .slice (some ⟨g, off, none⟩) s.days.length nd, .slice As s.sights.length ns, .slice Ah s.changes.length nh] 77)).alloc (.cells #[I no, .slice A l.length n] 58)) W) => HH.out W (bup (below2 _ _ _) hW))
 clear HH
 cases hq : (x == b) with
 | true =>
  go_enter Tryz.func58, Tryz.ntmps58
  go_wp2_with fail
  (refine wp_grow ?_; (repeat go_big_quiet_step ((go_at_call 51; exact calls_grew (HG.out _ (Grew.below _))))); refine wp_grow0 ?_; intro W1 hW1)
  go_wp2_with fail
  go_ret
  exact ⟨rfl, bup (below2 _ _ _) hW1⟩
 | false =>
  go_enter Tryz.func58, Tryz.ntmps58
  go_wp2_with fail
  (refine wp_grow ?_; (repeat go_big_quiet_step ((go_at_call 51; exact calls_grew (HG.out _ (Grew.below _))))); refine wp_grow0 ?_; intro W1 hW1)
  go_wp2_with fail
  go_ret
  exact ⟨rfl, bup (below2 _ _ _) hW1⟩

theorem spring_spell (no : Int) (v : Value) (l : List Weather) (frm to : Int) (w : World) (h0 : 0 < l.length) (hb : 0 ≤ beginF ⟨no, l⟩ ∧ beginF ⟨no, l⟩ ≤ 1048576) (hn : l.length ≤ 512) (hv : Sl w 3 Weather.cells v l) :
  Calls Tryz.prog 60 #[.agg #[I no, v], I frm, I to] w fun e w' => e = .returned (.bool (spellB ⟨no, l⟩ frm to)) ∧ Below w.heap.size w w' := by
 have HB := hide (fun w hv => spring_begin no v l w h0 hv)
 have HE := hide (fun w hv => spring_end no v l w h0 hb hn hv)
 have hS : spellB ⟨no, l⟩ frm to = (decide (beginF ⟨no, l⟩ ≤ frm) && decide (frm ≤ to) && decide (to ≤ endF ⟨no, l⟩)) := rfl
 rw [hS]
 obtain ⟨b, hbb⟩ : ∃ b, beginF ⟨no, l⟩ = b := ⟨_, rfl⟩
 obtain ⟨n, hnn⟩ : ∃ n, endF ⟨no, l⟩ = n := ⟨_, rfl⟩
 rw [hbb] at HB ⊢
 rw [hnn] at HE ⊢
 obtain ⟨A, m, rfl, _⟩ := hv.open_
 replace hv := hide hv
 clear hb hbb hnn hS h0 hn
 go_enter Tryz.func60, Tryz.ntmps60
 go_wp2_with (first | (go_at_call 51; refine (HB.out _ (hv.out.mono (below1 _ _))).mono ?_; rintro e w1 ⟨rfl, hb1⟩; have hc1 := fun o => (bcell hb1).1 w.heap.size o (by simp)) | (go_at_call 52; refine (HE.out _ (hv.out.mono (bup (below1 _ _) hb1))).mono ?_; rintro e w2 ⟨rfl, hb2⟩))
 all_goals (go_ret; first | exact ⟨ret_bool (by simp_all <;> omega), bup (below1 _ _) hb1⟩ | exact ⟨ret_bool (by simp_all <;> omega), bup (bup (below1 _ _) hb1) hb2⟩)

def firstF (c : Climate) (p : Spring) (cs : List Cell) (ws : List Int) (f v : Int) : Int :=
 match (List.range (p.days.length + 1)).find? (fun k => decide (v ≤ cameF c p.days f (beginF p + (k : Nat)) cs ws)) with
 | some k => beginF p + k
 | none => 1048578
theorem find_at {p : Nat → Bool} {n k : Nat} (hk : k < n) (h : ∀ j, j < k → p j = false) (hp : p k = true) : (List.range n).find? p = some k := by
 rw [List.find?_range_eq_some]
 exact ⟨hp, List.mem_range.2 hk, fun j hj => by rw [h j hj]; rfl⟩
theorem find_none {p : Nat → Bool} {n : Nat} (h : ∀ j, j < n → p j = false) : (List.range n).find? p = none := by
 rw [List.find?_eq_none]
 intro x hx
 rw [h x (List.mem_range.1 hx)]
 simp

theorem pool_first (c : Climate) (no f v : Int) (vd vc vw : Value) (l : List Weather) (cs : List Cell) (ws : List Int) (w : World) (hc : ClimOk c) (hl : ∀ x ∈ l, WeaOk c x) (h0 : 0 < l.length) (hbg : 0 ≤ beginF ⟨no, l⟩ ∧ beginF ⟨no, l⟩ ≤ 1048576) (hn : l.length ≤ 512) (hf : 0 ≤ f ∧ f ≤ 2000)
  (hcs : ∀ x ∈ cs, cellOk x = true) (hlen : ws.length = cs.length) (hws : ∀ u ∈ ws, 0 ≤ u ∧ u ≤ 65536) (hn12 : cs.length ≤ 12) (hd : Sl w 3 Weather.cells vd l) (hvc : Sl w 4 Cell.cells vc cs) (hvw : Sl w 1 intC vw ws) :
  Calls Tryz.prog 63 #[poolV c no vd vc vw, I f, I v] w fun e w' => e = .returned (I (firstF c ⟨no, l⟩ cs ws f v)) ∧ Below w.heap.size w w' := by
 obtain ⟨Ac, nc, rfl, _, _, _, _⟩ := hvc.open_
 obtain ⟨Aw, nw, rfl, _, _, _, _⟩ := hvw.open_
 obtain ⟨Ad, nd, rfl, _, _, _, _⟩ := hd.open_
 have HC := hide (fun (d : Int) (w' : World) (hb : Below w.heap.size w w') => pool_came c no f d _ _ _ l cs ws w' hc hl hn hf hcs hlen hws hn12 (hd.mono hb) (hvc.mono hb) (hvw.mono hb))
 have HB := hide (fun (w' : World) (hb : Below w.heap.size w w') => spring_begin no _ l w' h0 (hd.mono hb))
 have HE := hide (fun (w' : World) (hb : Below w.heap.size w w') => spring_end no _ l w' h0 hbg hn (hd.mono hb))
 have hend : endF ⟨no, l⟩ = beginF ⟨no, l⟩ + l.length := rfl
 rw [hend] at HE
 have hF1 : ∀ k, k < l.length + 1 → (∀ j, j < k → cameF c l f (beginF ⟨no, l⟩ + (j : Nat)) cs ws < v) → v ≤ cameF c l f (beginF ⟨no, l⟩ + (k : Nat)) cs ws → firstF c ⟨no, l⟩ cs ws f v = beginF ⟨no, l⟩ + k := fun k hk h1 h2 => by
  unfold firstF
  rw [find_at hk (fun j hj => by simpa using h1 j hj) (by simpa using h2)]
 have hF2 : (∀ j, j < l.length + 1 → cameF c l f (beginF ⟨no, l⟩ + (j : Nat)) cs ws < v) → firstF c ⟨no, l⟩ cs ws f v = 1048578 := fun h1 => by
  unfold firstF
  rw [find_none (fun j hj => by simpa using h1 j hj)]
 obtain ⟨b, hbb⟩ : ∃ b, beginF ⟨no, l⟩ = b := ⟨_, rfl⟩
 rw [hbb] at HB HE hF1 hF2 hbg
 obtain ⟨C, hC⟩ : ∃ C : Int → Int, (fun d => cameF c l f d cs ws) = C := ⟨_, rfl⟩
 have hCa : ∀ d, cameF c l f d cs ws = C d := fun d => by rw [← hC]
 simp only [hCa] at HC hF1 hF2
 obtain ⟨F, hFF⟩ : ∃ F, firstF c ⟨no, l⟩ cs ws f v = F := ⟨_, rfl⟩
 rw [hFF] at hF1 hF2 ⊢
 clear hFF hC hCa hbb hend hd hvc hvw hc hl hcs hws hf
 replace hF1 := hide hF1
 replace hF2 := hide hF2
 unfold poolV at *
 simp only [hlen] at *
 go_enter Tryz.func63, Tryz.ntmps63
 obtain ⟨W0, hW0⟩ : ∃ W0, W0 = w.alloc (.cells #[I c.base, I c.lapse, I c.swing, I c.wettest, I c.coldest, I c.warmest, I c.flo, I c.fhi, I no, .slice Ad l.length nd, .slice Ac cs.length nc, .slice Aw cs.length nw] 114) := ⟨_, rfl⟩
 have hk0 : Blk W0 w.heap.size 114 (poolC c no (.slice Ad l.length nd) (.slice Ac cs.length nc) (.slice Aw cs.length nw)) := by rw [hW0]; exact Blk.new _ _ _
 have hbl : Below w.heap.size w W0 := by rw [hW0]; exact below1 _ _
 go_wp2_with (go_at_call 51; refine (HB.out _ (below1 _ _)).mono ?_; rintro e w1 ⟨rfl, hb1⟩)
 rw [← hW0] at hb1
 clear hW0
 have hk1 := hide (hk0.grow hb1)
 have hb0 := bup hbl hb1
 clear hk0 hb1 hbl HB
 go_loopw [7] (fun dv wr => ∃ k : Nat, k ≤ l.length + 1 ∧ dv = I (b + k) ∧ Hid (∀ j, j < k → C (b + (j : Nat)) < v) ∧ Below w1.heap.size w1 wr) (fun dv _ => l.length + 1 - (intOf dv - b).toNat)
 case atStart => exact ⟨0, Nat.zero_le _, by simp, hide (fun j hj => absurd hj (Nat.not_lt_zero _)), Below.refl _ _⟩
 case round =>
  obtain ⟨k, hk, rfl, hno, hb⟩ := hrel
  have hkW := hk1.out.grow hb
  have z0 := hkW.lt
  obtain ⟨p0, p1, p2, p3, p4, p5, p6, p7, p8, p9, p10, p11⟩ := hkW.cells12
  clear hkW
  have hB := bup hb0 hb
  rcases Nat.lt_or_ge l.length k with hlt | hlt
  ·have he : k = l.length + 1 := by omega
   have hle : ¬ (b + (k : Int) ≤ b + (l.length : Int)) := by omega
   have hfin := hide (hF2.out (by rw [← he]; exact hno.out))
   clear hF1 hF2 HC hno
   go_wp2_with (go_at_call 52; refine (HE.out _ hB).mono ?_; rintro e w2 ⟨rfl, hb2⟩)
   go_ret
   exact ⟨ret_int hfin.out.symm, bup hB hb2⟩
  ·have hle : b + (k : Int) ≤ b + (l.length : Int) := by omega
   have H1 := hide (HC.out (b + k))
   have hF := hF1.out k (by omega) hno.out
   obtain ⟨q, hq⟩ : ∃ q, C (b + k) = q := ⟨_, rfl⟩
   rw [hq] at H1 hF
   rcases ilt q v with hqv | hqv
   ·have hno2 := hide (show ∀ j, j < k + 1 → C (b + (j : Nat)) < v from fun j hj => by
     rcases Nat.lt_or_ge j k with h | h
     ·exact hno.out j h
     ·have : j = k := by omega
      subst this
      rw [hq]; omega)
    replace hq := hide hq
    clear hF hF1 hF2 HC hno
    go_wp2_with (first | (go_at_call 52; refine (HE.out _ hB).mono ?_; rintro e w2 ⟨rfl, hb2⟩; have hc2 := fun o => (bcell hb2).1 w.heap.size o z0) | (go_at_call 94; refine (H1.out _ (bup hB hb2)).mono ?_; rintro e w3 ⟨rfl, hb3⟩))
    go_roundw
    case rel => exact ⟨k + 1, by omega, by go_num, hno2, bup (bup hb hb2) hb3⟩
    case measure => simp [intOf]; omega
   ·have hfin := hide (hF hqv)
    replace hq := hide hq
    clear hF hF1 hF2 HC hno
    go_wp2_with (first | (go_at_call 52; refine (HE.out _ hB).mono ?_; rintro e w2 ⟨rfl, hb2⟩; have hc2 := fun o => (bcell hb2).1 w.heap.size o z0) | (go_at_call 94; refine (H1.out _ (bup hB hb2)).mono ?_; rintro e w3 ⟨rfl, hb3⟩))
    go_ret
    exact ⟨ret_int hfin.out.symm, bup (bup hB hb2) hb3⟩
end Go.Proofs.YtifeniiefhpadaaGreatDoor
