/- The package spring: Fill. Conditions stand in the theorems. -/
import Derived.Test.YtifeniiefhpadaaGreatDoorSpring11Pack
import Derived.Test.YtifeniiefhpadaaGreatDoorPlugPack
import Derived.Deep.RegionLawGrows
set_option linter.all false
set_option maxHeartbeats 4000000
set_option maxRecDepth 100000
namespace Go.Proofs.YtifeniiefhpadaaGreatDoor
open Go.RowKit Go.Shelf
attribute [local go_sem] Oper.semAt_some

theorem Own.form {α : Type} {w : World} {base e k : Nat} {enc : α → List Value} {v : Value} {xs : List α} (h : Own w base e k enc v xs) :
  ∃ A cap, v = .slice A xs.length cap ∧ xs.length ≤ cap ∧ (A = none → xs.length = 0) ∧ cap ≤ maxLen ∧ (∀ b, A = some b → b.block < w.heap.size ∧ ∀ j u, (xs.flatMap enc)[j]? = some u → w.cell? (b.add j) = some u) := by
 have h0 := h
 rcases h.2 with ⟨rfl, hn⟩ | ⟨g, cap, cur, rfl, hg, hh, hnc, hcap, hsz, ht⟩
 ·exact ⟨none, 0, by rw [hn], by omega, fun _ => hn, by unfold maxLen; omega, fun b hb => by cases hb⟩
 ·refine ⟨some ⟨g, 0, none⟩, cap, rfl, hnc, (fun hA => by cases hA), hcap, fun b hb => ?_⟩
  cases hb
  refine ⟨(Array.getElem?_eq_some_iff.1 hh).1, fun j u hj => ?_⟩
  have hjl := (List.getElem?_eq_some_iff.1 hj).1
  rw [h.1] at hjl
  have := h0.cellAt j hjl
  rw [hj] at this
  rw [Addr.add_lit, Nat.zero_add]
  exact this
theorem own_stays {β α : Type} {m base e k : Nat} {enc : α → List Value} {xs : β → List α} {B : Nat} {t : TypeId} :
  OwnFrom m (fun (s : β) W => ∃ v, Blk W B t #[v] ∧ Own W base e k enc v (xs s)) := fun s A Y row hs h hr => by
 obtain ⟨v, h1, h2⟩ := hs
 refine ⟨v, blk_stays (cs := fun _ : Unit => #[v]) () A Y row h1 h hr, World.ownsRow.kept h2 h ?_⟩
 rcases h2.2 with ⟨rfl, _⟩ | ⟨g, cap, cur, rfl, _, hgb, _⟩
 ·exact .inl rfl
 ·refine .inr fun e' => ?_
  obtain ⟨_, o, ho, hc⟩ := hr g (by simpa [Value.ownBlock] using e'.symm)
  rw [hgb] at ho; cases ho; cases hc

theorem add_block (b : Addr) (j : Nat) : (b.add j).block = b.block := by unfold Addr.add; split <;> rfl
theorem below_of_grown {A B : World} (h : A.grownBy B none) : Below A.heap.size A B := ⟨h.os, h.tape, h.output, h.size, fun k hk => h.block k hk (by simp)⟩
theorem spring_Fill_ok (c : Climate) (v : Value) (l : List Weather) (a : Int) (n : Nat) (t : Bool) (w : World) (hE : loggedE c l [] = 0) (hok : LogOk c l) (ha : 0 ≤ a) (hn0 : 0 < n) (hn : n ≤ 512) (hb : a + n ≤ 1048576) (hv : Sl w 3 Weather.cells v l) :
  Calls Tryz.prog 25 #[c.v, v, I a, I (a + n), .bool t] w fun e w' => ∃ vr, e = .returned (.tuple #[vr, I 0]) ∧ Own w' w.heap.size 28 3 Weather.cells vr (fillF c l a n t) ∧ Below w.heap.size w w' := by
 obtain ⟨A, m, rfl, _, _, hlen, hA⟩ := hv.open_
 clear hA
 have hc := hok.clim
 have hl := hok.mem
 have hs : stretchE a (a + n) = 0 := by
  unfold stretchE
  rw [if_neg (by omega), if_neg (by omega)]
 have HS := fun w => spring_stretch a (a + n) w
 simp only [hs] at HS
 have HG := fun w hv => spring_logged c (.slice A l.length m) l (.slice none 0 0) [] w hv (Sl.nil _ _ _)
 simp only [hE] at HG
 have HL := hide (fun w => spring_fill c A l.length m a (a + n) t w)
 replace HS := hide HS
 replace HG := hide HG
 replace hv := hide hv
 clear hs hE
 unfold Climate.v at *
 refine (callsIn_wide (n := 4)).1 ?_
 refine callsIn_of_wp_marks Tryz.func25 rfl trivial ?_ rfl
 simp only [Tryz.ntmps25, List.size_toArray, List.length_cons, List.length_nil, Nat.reduceAdd, Nat.reduceSub, Array.replicate_succ, Array.replicate_zero, List.push_toArray, List.append_toArray, List.nil_append, List.cons_append]
 refine wpIn_wide.2 ?_
 go_wp2_with (first | (go_at_call 34; refine (HG.out _ (hv.out.mono (below1 _ _))).mono ?_; clear HG; rintro e w1 ⟨rfl, hb1⟩; have hc1 := fun o => (bcell hb1).1 w.heap.size o (by simp <;> omega); have hz1 := hb1.size; simp at hz1; have hz2 : w.heap.size < w1.heap.size := hz1) | (go_at_call 38; refine (HS.out _).mono ?_; clear HS; rintro e w' ⟨rfl, rfl⟩) | (go_at_call 55; refine (HL.out _).mono ?_; clear HL; rintro e w2 ⟨rfl, j0, j1, j2, j3, j4, js, hb2⟩))
 simp only [World.size_alloc] at j0 j1 j2 j3 j4 js
 have kO := hide ((Blk.new w1 26 #[.slice none 0 0]).grow hb2)
 have kB := hide (bup (bup (bup (below1 _ _) hb1) (below1 _ _)) hb2)
 clear hb2 hc1
 refine (wpIn_wide (n := 4)).1 ?_
 refine wpIn_rangeFunc_ownH (α := WeaC c) rfl (by omega) (gf := 84) (lb := #[.pointer (some ⟨w1.heap.size + 4, 0, none⟩), .pointer (some ⟨w1.heap.size + 3, 0, none⟩), .pointer (some ⟨w1.heap.size + 1, 0, none⟩), .pointer (some ⟨w1.heap.size + 2, 0, none⟩), .pointer (some ⟨w1.heap.size + 5, 0, none⟩)]) (by simp [Act.eval]) trivial (enters_of Tryz.func84 (by kernel_rfl) rfl)
  (fill1_stops c (.slice A l.length m) l a n t (w1.heap.size + 1) (w1.heap.size + 2) (w1.heap.size + 3) (w1.heap.size + 4) (w1.heap.size + 5) w2.heap.size (fun b => b = w1.heap.size) w2 hc hl ha (by omega) hb (Nat.le_refl _) ?reads) keep_t (keep_b (Nat.le_refl _)) (Below.refl _ _) (fun _ => rfl)
  (fun pre W => Keep w2.heap.size (fun b => b = w1.heap.size) w2 W ∧ ∃ vo, Blk W w1.heap.size 26 #[vo] ∧ Own W w2.heap.size 28 3 Weather.cells vo (pre.map (fun x : WeaC c => x.1)))
  (fun _ _ _ => False)
  (OwnFrom.and (keep_own (Nat.le_refl _) (Nat.le_refl _)) own_stays)
  (fun _ _ _ _ _ hs _ _ => hs)
  ⟨Keep.refl _ _ _, _, kO.out, Own.nil_ _ _ _ _ _⟩
  (fun x a' W => ∃ Bx, w2.heap.size ≤ Bx ∧ Blk W Bx 28 #[I x.1.day, I x.1.temp, I x.1.rain] ∧ a' = { tmps := #[.agg (c8 c), .slice A l.length m, I a, I (a + n), .bool t, .pointer (some ⟨w.heap.size, 0, none⟩), undef, undef, undef, undef, .slice none 0 0, I 0, I 0, I 0, .pointer (some ⟨w1.heap.size, 0, none⟩), .pointer (some ⟨Bx, 0, none⟩), undef, .agg (c8 c), .slice A l.length m, I 0, I 0, .bool false, undef, I a, I (a + n), I 0, I 0, .bool false, undef, .agg (c8 c), .slice A l.length m, I a, I (a + n), .bool t, .func (.func 84) #[] #[.pointer (some ⟨w1.heap.size + 1 + 3, 0, none⟩), .pointer (some ⟨w1.heap.size + 1 + 2, 0, none⟩), .pointer (some ⟨w1.heap.size + 1, 0, none⟩), .pointer (some ⟨w1.heap.size + 1 + 1, 0, none⟩), .pointer (some ⟨w1.heap.size + 1 + 4, 0, none⟩)], .agg #[I x.1.day, I x.1.temp, I x.1.rain], undef, undef, undef, undef, undef, undef, undef, undef, undef, undef], defers := [] })
  (fun x a' s X Y row hs hg hr => by obtain ⟨Bx, h1, h2, h3⟩ := hs; exact ⟨Bx, h1, blk_stays (β := Unit) (cs := fun _ => #[I x.1.day, I x.1.temp, I x.1.rain]) () X Y row h2 hg hr, h3⟩)
  ?assign ?body ?done ?stop
 case reads =>
  intro W hk
  exact ⟨hk.clim j0 (by omega) (by omega), (hk.cell (by omega) (by omega)).trans j1, (hk.cell (by omega) (by omega)).trans j2, (hk.cell (by omega) (by omega)).trans j3, (hk.cell (by omega) (by omega)).trans j4, hk.sl hv.out kB.out (Nat.le_refl _) (by omega) (fun b hb => by omega)⟩
 case assign =>
  rintro lr pre x W K ⟨hk, vo, hb', ho⟩ hK
  gi_wp2
  exact hK _ _ ((KeepsOthers.alloc _ _).from _) (Keep.of_below (below1 _ _) hk.size) ⟨hk.trans (Keep.of_below (below1 _ _) hk.size), vo, hb'.alloc _, ho.alloc _⟩ ⟨W.heap.size, hk.size, Blk.new _ _ _, rfl⟩
 case body =>
  rintro lr pre x a' W hlr _ ⟨hk, vo, hbl, ho⟩ ⟨Bx, hBx, hbx, rfl⟩ hlt
  obtain ⟨Ao, cap, hvo, hcap, hnone, hcm, hcells⟩ := ho.form
  rw [List.length_map] at hvo hcap hnone
  subst hvo
  have b0 := hbx.cell 0
  have b1 := hbx.cell 1
  have b2 := hbx.cell 2
  have zx := hbx.lt
  have zl := hbl.lt
  have l0 := hbl.cell 0
  have l1 := hbl.frozen 0
  have c1 : (0 : Int) ≤ (pre.length : Int) := by omega
  have c2 : (pre.length : Int) ≤ (cap : Int) := by omega
  replace hk := hide hk
  replace hbl := hide hbl
  replace ho := hide ho
  replace hcells := hide hcells
  replace hbx := hide hbx
  clear j0 j1 j2 j3 j4
  gi_wp2
  obtain ⟨i0, hi, hz0, hz1, hz2⟩ := info_parts el_Weather.hi
  refine wpIn_round_zg (S := fun W => W.cell? ⟨w1.heap.size, 0, none⟩ = some (.slice Ao pre.length cap) ∧ W.frozen? ⟨w1.heap.size, 0, none⟩ = false ∧ W.cell? ⟨Bx, 0, none⟩ = some (I x.1.day) ∧ W.cell? ⟨Bx, 1, none⟩ = some (I x.1.temp) ∧ W.cell? ⟨Bx, 2, none⟩ = some (I x.1.rain)) 7 (by kernel_rfl) (by kernel_rfl) (by rintro ⟨_, _, h⟩; exact h) (by kernel_rfl) ?_
  have hS0 : (fun W : World => W.cell? ⟨w1.heap.size, 0, none⟩ = some (.slice Ao pre.length cap) ∧ W.frozen? ⟨w1.heap.size, 0, none⟩ = false ∧ W.cell? ⟨Bx, 0, none⟩ = some (I x.1.day) ∧ W.cell? ⟨Bx, 1, none⟩ = some (I x.1.temp) ∧ W.cell? ⟨Bx, 2, none⟩ = some (I x.1.rain)) W.drew := by
   dsimp only
   go_keep
  (refine zg_tk 0 ?_; refine zg_tk 1 ?_; refine zg_tk 2 ?_; refine zg_tk 3 ?_; refine zg_tk 4 ?_; (try go_frame))
  (refine zg_rd 5 fun K_ hK_ => ?_; go_simp; skip; refine hK_.out _ _ ?_ (fun hHeld => ?_); rotate_left; clear hK_ K_; (try go_frame); rotate_left)
  ·refine ⟨?_, ?_, ?_, ?_, ?_⟩
   all_goals first | (go_keep; done) | exact ((below1 W _).frozen (p := ⟨w1.heap.size, 0, none⟩) zl).trans l1
  refine zg_ready (i := 6) (by decide) rfl (by kernel_rfl) (fun K_ hK_ => ?_)
  refine step_append_grows rfl (.tmp 41) (.tmp 43) 26 rfl 28 i0 (.agg #[I 0, I 0, I 0]) 3 24 Tryz.underlying26 hi hz0 hz1 hz2 rfl (by decide) Ao pre.length pre.length ((pre.map (fun x : WeaC c => x.1)).flatMap Weather.cells) rfl (fun hA => ⟨hnone hA, hnone hA⟩) (by rw [flat_len Weather.cells_len, List.length_map]) (fun b hb j u hj => ?_) ⟨W.heap.size, 0, none⟩ 1 1 (Weather.cells x.1) rfl rfl (fun j u hj => ?_) (Weather.cells_one x.1) (by omega) (by unfold maxLen; omega) (by omega) ?_
  ·exact ((below1 W _).cell (p := b.add j) (by rw [add_block]; exact (hcells.out b hb).1)).trans ((hcells.out b hb).2 j u hj)
  ·rw [Addr.add_lit, Nat.zero_add]
   exact new_cells rfl _ (Weather.cells x.1) j u hj
  intro v' w' hown hgrow
  have wB : Below W.heap.size W w' := bup (below_drewN (below1 W _) 1) (below_of_grown hgrow)
  obtain ⟨g', cap', rfl⟩ := ownsRow_succ hown
  have y0 := (wB.cell (p := ⟨w1.heap.size, 0, none⟩) zl).trans l0
  have y1 := (wB.frozen (p := ⟨w1.heap.size, 0, none⟩) zl).trans l1
  have y2 := (wB.cell (p := ⟨Bx, 0, none⟩) zx).trans b0
  have y3 := (wB.cell (p := ⟨Bx, 1, none⟩) zx).trans b1
  have y4 := (wB.cell (p := ⟨Bx, 2, none⟩) zx).trans b2
  refine hK_.out _ _ ⟨y0, y1, y2, y3, y4⟩ (fun hHeld => ?_)
  clear hK_ K_ hgrow
  simp only [Act.put, List.setIfInBounds_toArray]
  try simp only [List.set_cons_zero, List.set_cons_succ]
  replace hown := hide hown
  (refine zg_ls 7 fun K_ hK_ => ?_; go_simp; skip; refine hK_.out _ _ ?_; clear hK_ K_; (try go_frame))
  have ho2 : Own w' (W.heap.size + 1) 28 3 Weather.cells (.slice (some ⟨g', 0, none⟩) (pre.length + 1) cap') ((pre ++ [x]).map (fun x : WeaC c => x.1)) := by
   have := hown.out
   unfold Own
   simp only [List.map_append, List.map_cons, List.map_nil, List.flatMap_append, List.flatMap_cons, List.flatMap_nil, List.append_nil, List.length_append, List.length_map, List.length_cons, List.length_nil]
   simpa using this
  refine (show _ ∧ _ ∧ _ ∧ _ from ⟨((keeps_of_below wB).trans (KeepsOthers.setCell _ _ _)).from _, Keep.set (X := fun b => b = w1.heap.size) (g := w1.heap.size) (Keep.of_below wB hk.out.size) rfl _, Keep.set (X := fun b => b = w1.heap.size) (g := w1.heap.size) (hk.out.trans (Keep.of_below wB hk.out.size)) rfl _, _, (hbl.out.grow wB).set1 _, ?_⟩)
  exact (ho2.mono (Nat.le_succ_of_le hk.out.size)).set_below (by show w1.heap.size < w2.heap.size; omega) _
 case done =>
  rintro D ys V hD rfl ⟨hk, vo, hbl, ho⟩ hK
  rw [fillA_val] at ho
  have kV : Below w.heap.size w V := kB.out.trans (hk.below (by omega) (fun b hb => by omega))
  have l0 := hbl.cell 0
  replace hk := hide hk
  replace hbl := hide hbl
  replace ho := hide ho
  replace hK := hide hK
  replace kV := hide kV
  go_wp2_with fail
  refine ⟨by simp, .inl ⟨_, _, rfl, run_takeDeferred hK.out, ?_⟩⟩
  exact ⟨.tuple #[vo, I 0], by simp [results, Tryz.results25, go_sem], vo, rfl, Own.mono (ownsRow_putObj ho.out _ hK.out rfl) (by omega), below_putObj kV.out (by omega) _⟩
 case stop =>
  rintro D c' pre W _ _ h _
  exact h.elim

def fillE (c : Climate) (l : List Weather) (a b : Int) : Int := if loggedE c l [] = 0 then stretchE a b else loggedE c l []
def fillV (c : Climate) (l : List Weather) (a b : Int) (t : Bool) : List Weather := if fillE c l a b = 0 then fillF c l a (b - a).toNat t else []
theorem spring_Fill (c : Climate) (v : Value) (l : List Weather) (a b : Int) (t : Bool) (w : World) (hv : Sl w 3 Weather.cells v l) :
  Calls Tryz.prog 25 #[c.v, v, I a, I b, .bool t] w fun e w' => ∃ vr, e = .returned (.tuple #[vr, I (fillE c l a b)]) ∧ Own w' w.heap.size 28 3 Weather.cells vr (fillV c l a b t) ∧ Below w.heap.size w w' := by
 rcases logged_cases c l [] with ⟨h1, h2, _⟩ | h1
 ·have hE : fillE c l a b = stretchE a b := by simp [fillE, h1]
  by_cases hs : stretchE a b = 0
  ·obtain ⟨s1, s2, s3, s4⟩ := stretch_ok hs
   obtain ⟨n, hn⟩ := Int.eq_ofNat_of_zero_le (show 0 ≤ b - a by omega)
   obtain rfl : b = a + (n : Int) := by omega
   have hV : fillV c l a (a + n) t = fillF c l a n t := by
    rw [fillV, if_pos (hE.trans hs), show (a + (n : Int) - a).toNat = n by omega]
   rw [hE, hs, hV]
   exact spring_Fill_ok c v l a n t w h1 h2 s1 (by omega) (by omega) s3 hv
  ·have hV : fillV c l a b t = [] := by rw [fillV, if_neg (by rw [hE]; exact hs)]
   rw [hE, hV]
   have HS := fun w => spring_stretch a b w
   have HG := fun w hv => spring_logged c v l (.slice none 0 0) [] w hv (Sl.nil _ _ _)
   obtain ⟨x, hx⟩ : ∃ x, stretchE a b = x := ⟨_, rfl⟩
   rw [hx] at hs ⊢
   simp only [hx] at HS
   simp only [h1] at HG
   have hx0 : (x != 0) = true := by simpa using hs
   replace HS := hide HS
   replace HG := hide HG
   replace hv := hide hv
   replace h1 := hide h1
   clear hE hV hx
   unfold Climate.v at *
   go_enter Tryz.func25, Tryz.ntmps25
   go_wp2_with (first | (go_at_call 34; refine (HG.out _ (hv.out.mono (below1 _ _))).mono ?_; clear HG; rintro e w1 ⟨rfl, hb1⟩) | (go_at_call 38; refine (HS.out _).mono ?_; clear HS; rintro e w' ⟨rfl, rfl⟩))
   go_ret2
   exact ⟨_, rfl, Own.nil_ _ _ _ _ _, bup (below1 _ _) hb1⟩
 ·have hE : fillE c l a b = loggedE c l [] := by simp [fillE, h1]
  have hV : fillV c l a b t = [] := by rw [fillV, if_neg (by rw [hE]; exact h1)]
  rw [hE, hV]
  have HG := fun w hv => spring_logged c v l (.slice none 0 0) [] w hv (Sl.nil _ _ _)
  obtain ⟨x, hx⟩ : ∃ x, loggedE c l [] = x := ⟨_, rfl⟩
  rw [hx] at h1 ⊢
  simp only [hx] at HG
  have hx0 : (x != 0) = true := by simpa using h1
  replace HG := hide HG
  replace hv := hide hv
  clear hE hV hx
  unfold Climate.v at *
  go_enter Tryz.func25, Tryz.ntmps25
  go_wp2_with (first | (go_at_call 34; refine (HG.out _ (hv.out.mono (below1 _ _))).mono ?_; clear HG; rintro e w1 ⟨rfl, hb1⟩))
  go_ret2
  exact ⟨_, rfl, Own.nil_ _ _ _ _ _, bup (below1 _ _) hb1⟩
end Go.Proofs.YtifeniiefhpadaaGreatDoor
