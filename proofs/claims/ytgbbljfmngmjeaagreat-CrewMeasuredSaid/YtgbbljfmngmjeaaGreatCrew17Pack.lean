/- slices.Clone at []crew.step. Conditions stand in the theorem. -/
import Derived.Test.YtgbbljfmngmjeaaGreatCrew2Pack
import Derived.Test.YtgbbljfmngmjeaaGreatBasin7Pack
import Derived.Test.YtgbbljfmngmjeaaGreatIndexFuncPack
set_option linter.all false
set_option maxRecDepth 20000
namespace Go.Proofs.YtgbbljfmngmjeaaGreat
open Go.RowKit
theorem clone_step (v : Value) (xs : List Stp) (w : World) (hv : Sl w 3 Stp.cells v xs) (hb : xs.length ≤ 1099511627776) :
  Calls Tryz.prog 161 #[v] w fun e w' => ∃ v', e = .returned v' ∧ Own w' w.heap.size 130 3 Stp.cells v' xs ∧ (0 < xs.length → v' ≠ .slice none 0 0) ∧ Below w.heap.size w w' := by
 obtain ⟨A, c, rfl, _, _, hlen, hA⟩ := hv.open_
 rcases A with _ | ad
 ·have he := Lib.run_eql_slice_nil (P := Tryz.prog) w 127 130 none 0 c 0 0 Tryz.underlying127
  have h0 : xs = [] := by
   rcases xs with _ | ⟨x, xs⟩
   ·rfl
   ·obtain ⟨b, off, h, _⟩ := hA 0 (by simp)
    cases h
  subst h0
  clear hv hA hlen
  go_enter Tryz.func161, Tryz.ntmps161
  go_wp2_with fail
  go_ret
  exact ⟨_, rfl, Own.nil_ _ _ _ _ _, fun h => absurd h (by simp), Below.refl _ _⟩
 ·have he := Lib.run_eql_slice_nil (P := Tryz.prog) w 127 130 (some ad) xs.length c 0 0 Tryz.underlying127
  have hv1 := hide (hv.mono (below1 w (.cells #[] 130)))
  clear hv hA
  go_enter Tryz.func161, Tryz.ntmps161
  go_wp2_with (at_builtin; refine wp_append_all el_step Stp.cells_len Stp.cells_one rfl (.tmp 5) (.tmp 6) rfl w.heap.size rfl (Own.empty w _ _ _ Stp.cells (Nat.le_refl _)) rfl hv1.out ?c1 ?c2 ?c3 ?c4 ?_)
  case c1 => simp; omega
  case c2 => simp
  case c3 => omega
  case c4 => simp
  intro v' w1 hown hbel hnil
  go_wp2_with fail
  go_ret
  refine ⟨_, rfl, by simpa using hown, fun h hn => ?_, (below1 _ _).trans hbel⟩
  exact hnil hn
theorem Own.set_stp {w : World} {base e g n cap : Nat} {xs : List Stp} (h : Own w base e 3 Stp.cells (.slice (some ⟨g, 0, none⟩) n cap) xs) (hn : xs.length = n) (i : Nat) (a b c : Int) :
  Own (((w.setCell ⟨g, i * 3, none⟩ (I a)).setCell ⟨g, i * 3 + 1, none⟩ (I b)).setCell ⟨g, i * 3 + 2, none⟩ (I c)) base e 3 Stp.cells (.slice (some ⟨g, 0, none⟩) n cap) (xs.set i ⟨a, b, c⟩) := by
 subst hn
 have h1 := (World.ownsRow.stored h (i * 3) (I a)).1
 have h2 := (World.ownsRow.stored h1 (i * 3 + 1) (I b)).1
 have h3 := (World.ownsRow.stored h2 (i * 3 + 2) (I c)).1
 unfold Own
 rw [← flat_set, List.length_set]
 exact h3
theorem Own.set_stp0 {w : World} {base e g n cap : Nat} {xs : List Stp} (h : Own w base e 3 Stp.cells (.slice (some ⟨g, 0, none⟩) n cap) xs) (hn : xs.length = n) (i : Nat) (a : Int) :
  Own (w.setCell ⟨g, i * 3, none⟩ (I a)) base e 3 Stp.cells (.slice (some ⟨g, 0, none⟩) n cap) (xs.modify i fun s => ⟨a, s.before, s.track⟩) := by
 subst hn
 have h1 := (World.ownsRow.stored h (i * 3) (I a)).1
 unfold Own
 rw [← flat_set0, List.length_modify]
 exact h1
theorem Own.stp_at {w : World} {base e g n cap : Nat} {xs : List Stp} (h : Own w base e 3 Stp.cells (.slice (some ⟨g, 0, none⟩) n cap) xs) (hn : xs.length = n) {i : Nat} {s : Stp} (hx : xs[i]? = some s) :
  (w.cell? ⟨g, i * 3, none⟩ = some (I s.minutes) ∧ w.cell? ⟨g, i * 3 + 1, none⟩ = some (I s.before) ∧ w.cell? ⟨g, i * 3 + 2, none⟩ = some (I s.track)) ∧ (∀ j, w.frozen? ⟨g, j, none⟩ = false) ∧ base ≤ g ∧ g < w.heap.size := by
 subst hn
 have hi : i < xs.length := (List.getElem?_eq_some_iff.1 hx).1
 refine ⟨⟨?_, ?_, ?_⟩, fun j => World.ownsRow.frozenAt h j, ownBlock_lt h g rfl⟩
 ·rw [World.ownsRow.cellAt h (i * 3) (by omega)]
  exact flat_at Stp.cells_len xs i s hx 0 _ rfl
 ·rw [World.ownsRow.cellAt h (i * 3 + 1) (by omega)]
  exact flat_at Stp.cells_len xs i s hx 1 _ rfl
 ·rw [World.ownsRow.cellAt h (i * 3 + 2) (by omega)]
  exact flat_at Stp.cells_len xs i s hx 2 _ rfl

structure StV where
 addr : Option Addr
 n : Nat
 c : Nat
def StV.v (s : StV) : Value := .slice s.addr s.n s.c
def stC (s : StV) : List Value := [s.v]
theorem stC_len (s : StV) : (stC s).length = 1 := rfl
theorem stC_one (s : StV) : ∀ u ∈ stC s, u.oneCell' = true := by intro u hu; simp [stC] at hu; subst hu; rfl
def markL (b : Nat → Nat) (n k : Nat) : List Int := (List.range k).map (fun i => ((b i : Nat) : Int)) ++ List.replicate (n - k) 0
def ints (l : List Int) : Array Value := (l.map I).toArray
theorem ints_set (l : List Int) (i : Nat) (a : Int) : (ints l).setIfInBounds i (I a) = ints (l.set i a) := by
 unfold ints
 simp [List.map_set]
theorem ints_get {l : List Int} {i : Nat} {a : Int} (h : l[i]? = some a) : (ints l)[i]? = some (I a) := by
 unfold ints
 simp [h]
theorem markL_zero (b : Nat → Nat) (n : Nat) : rowN n (I 0) = ints (markL b n 0) := by
 unfold rowN ints markL
 simp
theorem markL_at (b : Nat → Nat) {n i : Nat} (hi : i < n) : (markL b n n)[i]? = some ((b i : Nat) : Int) := by
 unfold markL
 rw [List.getElem?_append_left (by simpa using hi)]
 simp [hi]
theorem markL_old (b : Nat → Nat) {n k : Nat} (hi : k < n) : (markL b n k)[k]? = some 0 := by
 unfold markL
 rw [List.getElem?_append_right (by simp), List.length_map, List.length_range, Nat.sub_self, List.getElem?_replicate, if_pos (by omega)]
theorem markL_set (b : Nat → Nat) {n k : Nat} (h : k < n) : (markL b n k).set k ((b k : Nat) : Int) = markL b n (k + 1) := by
 unfold markL
 rw [List.set_append_right _ _ (by simp), List.range_succ, List.map_append, List.append_assoc]
 congr 1
 rw [List.length_map, List.length_range, Nat.sub_self, show n - k = (n - (k + 1)) + 1 by omega, List.replicate_succ]
 rfl
theorem markL_skip {b : Nat → Nat} {n k : Nat} (h : k < n) (hb : b k = 0) : markL b n k = markL b n (k + 1) := by
 rw [← markL_set b h, hb]
 refine List.ext_getElem? fun i => ?_
 rw [List.getElem?_set]
 split
 ·rename_i hi
  subst hi
  have h1 := markL_old b h
  rw [h1]
  split
  ·rfl
  ·rename_i h2
   have := (List.getElem?_eq_some_iff.1 h1).1
   omega
 ·rfl
theorem Blk.far3 {w : World} {g g2 : Nat} {t : TypeId} {cs : Array Value} (h : Blk w g t cs) (hne : g ≠ g2) (i : Nat) (a b c : Value) : Blk (((w.setCell ⟨g2, i, none⟩ a).setCell ⟨g2, i + 1, none⟩ b).setCell ⟨g2, i + 2, none⟩ c) g t cs :=
 ((h.far (p := ⟨g2, i, none⟩) hne a).far (p := ⟨g2, i + 1, none⟩) hne b).far (p := ⟨g2, i + 2, none⟩) hne c
theorem bset3 {B : Nat} {a w : World} (h : Below B a w) (g i : Nat) (hg : B ≤ g) (x y z : Value) : Below B a (((w.setCell ⟨g, i, none⟩ x).setCell ⟨g, i + 1, none⟩ y).setCell ⟨g, i + 2, none⟩ z) := bset (bset (bset h g i hg x) g (i + 1) hg y) g (i + 2) hg z

theorem el_Steps : ElemOk Tryz.prog 209 127 1 24 (.slice none 0 0) := ⟨Tryz.underlying209, by kernel_rfl, rfl, by omega⟩
theorem Own.full {α : Type} {w : World} {base e k : Nat} {enc : α → List Value} {v : Value} {xs : List α} (h : Own w base e k enc v xs) (h0 : 0 < xs.length) : ∃ g c, v = .slice (some ⟨g, 0, none⟩) xs.length c ∧ base ≤ g ∧ g < w.heap.size := by
 have hb := ownBlock_lt h
 rcases h.2 with ⟨_, h1⟩ | ⟨g, cap, cur, rfl, _⟩
 ·omega
 ·exact ⟨g, cap, rfl, hb g rfl⟩
def StRows (w : World) (base : Nat) (v : Value) (xss : List (List Stp)) : Prop :=
 ∃ vs : List StV, vs.length = xss.length ∧ Own w base 127 1 stC v vs ∧ ∀ (i : Nat) (l : List Stp), xss[i]? = some l → ∃ u : StV, vs[i]? = some u ∧ Own w base 130 3 Stp.cells u.v l
theorem StRows.below {w w' : World} {base : Nat} {v : Value} {xss : List (List Stp)} (h : StRows w base v xss) (hb : Below w.heap.size w w') : StRows w' base v xss := by
 obtain ⟨vs, h1, h2, h3⟩ := h
 refine ⟨vs, h1, h2.below hb, fun i l hl => ?_⟩
 obtain ⟨u, hu, ho⟩ := h3 i l hl
 exact ⟨u, hu, ho.below hb⟩
theorem StRows.push {w w' : World} {base : Nat} {v v' : Value} {u : StV} {xss : List (List Stp)} {l : List Stp} {vs : List StV} (h1 : vs.length = xss.length) (h2 : Own w base 127 1 stC v vs)
  (h3 : ∀ (i : Nat) (l : List Stp), xss[i]? = some l → ∃ u : StV, vs[i]? = some u ∧ Own w base 130 3 Stp.cells u.v l) (hu : Own w base 130 3 Stp.cells u.v l) (hg : w.grownBy w' v.ownBlock) (hn : Own w' base 127 1 stC v' (vs ++ [u])) : StRows w' base v' (xss ++ [l]) := by
 refine ⟨vs ++ [u], by simp [h1], hn, fun i l' hl => ?_⟩
 rcases Nat.lt_trichotomy i xss.length with hi | hi | hi
 ·rw [List.getElem?_append_left hi] at hl
  obtain ⟨u', hu', ho⟩ := h3 i l' hl
  exact ⟨u', by rw [List.getElem?_append_left (by omega)]; exact hu', Own.other ho h2 (by decide) hg⟩
 ·subst hi
  rw [List.getElem?_append_right (Nat.le_refl _)] at hl
  simp at hl
  subst hl
  exact ⟨u, by rw [List.getElem?_append_right (by omega)]; simp [h1], Own.other hu h2 (by decide) hg⟩
 ·rw [List.getElem?_eq_none (by simp; omega)] at hl
  cases hl
theorem StRows.one {w : World} {base g gr N c : Nat} {l : List Stp} (hg : Blk w gr 127 #[.slice (some ⟨g, 0, none⟩) N c]) (hb : base ≤ gr) (hu : Own w base 130 3 Stp.cells (.slice (some ⟨g, 0, none⟩) N c) l) : StRows w base (.slice (some ⟨gr, 0, none⟩) 1 1) [l] := by
 refine ⟨[⟨some ⟨g, 0, none⟩, N, c⟩], rfl, own_row (n := 1) (cap := 1) (enc := stC) (xs := [⟨some ⟨g, 0, none⟩, N, c⟩]) stC_len hg hb (by unfold maxLen; omega) (Nat.le_refl _) rfl rfl, fun i l' hl => ?_⟩
 rcases i with _ | i
 ·simp at hl
  subst hl
  exact ⟨_, rfl, hu⟩
 ·simp at hl
theorem StRows.at_ {w : World} {base : Nat} {v : Value} {xss : List (List Stp)} (h : StRows w base v xss) {i : Nat} {l : List Stp} (hl : xss[i]? = some l) (h0 : 0 < l.length) :
  ∃ gr cr g c, v = .slice (some ⟨gr, 0, none⟩) xss.length cr ∧ base ≤ gr ∧ gr < w.heap.size ∧ w.cell? ⟨gr, i, none⟩ = some (.slice (some ⟨g, 0, none⟩) l.length c) ∧ base ≤ g ∧ g < w.heap.size ∧ Own w base 130 3 Stp.cells (.slice (some ⟨g, 0, none⟩) l.length c) l := by
 obtain ⟨vs, h1, h2, h3⟩ := h
 have hi := (List.getElem?_eq_some_iff.1 hl).1
 obtain ⟨gr, cr, hv, hb1, hb2⟩ := h2.full (by omega)
 obtain ⟨u, hu, ho⟩ := h3 i l hl
 obtain ⟨g, c, hv2, hb3, hb4⟩ := ho.full h0
 subst hv
 refine ⟨gr, cr, g, c, by rw [← h1], hb1, hb2, ?_, hb3, hb4, hv2 ▸ ho⟩
 rw [World.ownsRow.cellAt h2 i (by omega)]
 have h5 := flat_at stC_len vs i u hu 0 _ rfl
 rw [Nat.mul_one] at h5
 rw [← hv2]
 exact h5
structure TrQ (w : World) (gc gm gb : Nat) (C M K : Array Value) (vo : Value) (O : List Track) (v : Value) (xss : List (List Stp)) (W : World) : Prop where
 below : Below w.heap.size w W
 kC : Blk W gc 44 C
 kM : Blk W gm 3 M
 kB : Blk W gb 130 K
 tr : Own W w.heap.size 74 6 Track.cells vo O
 rows : StRows W w.heap.size v xss
theorem TrQ.grow {w : World} {gc gm gb : Nat} {C M K : Array Value} {vo : Value} {O : List Track} {v : Value} {xss : List (List Stp)} {W W' : World} (h : TrQ w gc gm gb C M K vo O v xss W) (hb : Below W.heap.size W W') : TrQ w gc gm gb C M K vo O v xss W' :=
 ⟨bup h.below hb, h.kC.grow hb, h.kM.grow hb, h.kB.grow hb, h.tr.below hb, h.rows.below hb⟩
theorem TrQ.push {w : World} {gc gm gb : Nat} {C M K : Array Value} {vo : Value} {O : List Track} {v v' : Value} {xss : List (List Stp)} {W W' : World} {vs : List StV} {u : StV} {l : List Stp} (h : TrQ w gc gm gb C M K vo O v xss W)
  (h1 : vs.length = xss.length) (h2 : Own W w.heap.size 127 1 stC v vs) (h3 : ∀ (i : Nat) (l : List Stp), xss[i]? = some l → ∃ u : StV, vs[i]? = some u ∧ Own W w.heap.size 130 3 Stp.cells u.v l)
  (hu : Own W w.heap.size 130 3 Stp.cells u.v l) (hg : W.grownBy W' v.ownBlock) (hn : Own W' w.heap.size 127 1 stC v' (vs ++ [u])) : TrQ w gc gm gb C M K vo O v' (xss ++ [l]) W' :=
 ⟨h.below.grown hg h.below.size (fun g e => (ownBlock_lt h2 g e).1), (hg.block gc h.kC.lt (own_ne h2 h.kC (by decide))).trans h.kC, (hg.block gm h.kM.lt (own_ne h2 h.kM (by decide))).trans h.kM, (hg.block gb h.kB.lt (own_ne h2 h.kB (by decide))).trans h.kB, Own.other h.tr h2 (by decide) hg, StRows.push h1 h2 h3 hu hg hn⟩
theorem StRows.get {w : World} {base gv n cv : Nat} {xss : List (List Stp)} (h : StRows w base (.slice (some ⟨gv, 0, none⟩) n cv) xss) {i : Nat} {l : List Stp} (hl : xss[i]? = some l) (h0 : 0 < l.length) :
  ∃ g c, w.cell? ⟨gv, i, none⟩ = some (.slice (some ⟨g, 0, none⟩) l.length c) ∧ Own w base 130 3 Stp.cells (.slice (some ⟨g, 0, none⟩) l.length c) l ∧ gv < w.heap.size := by
 obtain ⟨gr, cr, g, c, hv, -, h2, h3, -, -, h4⟩ := h.at_ hl h0
 cases hv
 exact ⟨g, c, h3, h4, h2⟩
def pv1 : Option (Nat × Nat) → Int
 | none => -1
 | some p => (p.1 : Nat)
def pv2 : Option (Nat × Nat) → Int
 | none => -1
 | some p => (p.2 : Nat)
section
variable {ss : List Site} {R : Nat → List Stp} {full k i a jj : Nat} {b : Option (Nat × Nat)} {x : Site} {s sb : Stp}
theorem pickS_1 (hx : ss.getD i default = x) (h : ¬ x.kind = 1) : pickS ss R full k b i = b := by
 unfold pickS
 rw [hx, if_neg (fun hh => h hh.1)]
theorem pickS_2 (hs : (R k).getD (i + ss.length * full) default = s) (h : ¬ s.minutes < farN) : pickS ss R full k b i = b := by
 unfold pickS
 rw [hs, if_neg (fun hh => h hh.2.1)]
theorem pickS_3 (hx : ss.getD i default = x) (hs : (R k).getD (i + ss.length * full) default = s) (h1 : x.kind = 1) (h2 : s.minutes < farN) : pickS ss R full k none i = some (k, i + ss.length * full) := by
 unfold pickS
 rw [hx, hs, if_pos ⟨h1, h2, rfl⟩]
theorem pickS_4 (hs : (R k).getD (i + ss.length * full) default = s) (hb : (R a).getD jj default = sb) (h : ¬ s.minutes < sb.minutes) : pickS ss R full k (some (a, jj)) i = some (a, jj) := by
 unfold pickS
 rw [if_neg]
 rintro ⟨-, -, h3⟩
 rw [Option.all_some, decide_eq_true_eq, hs, hb] at h3
 exact h h3
theorem pickS_5 (hx : ss.getD i default = x) (hs : (R k).getD (i + ss.length * full) default = s) (hb : (R a).getD jj default = sb) (h1 : x.kind = 1) (h2 : s.minutes < farN) (h : s.minutes < sb.minutes) : pickS ss R full k (some (a, jj)) i = some (k, i + ss.length * full) := by
 unfold pickS
 rw [if_pos]
 rw [hx, hs, Option.all_some, decide_eq_true_eq, hb]
 exact ⟨h1, h2, h⟩
end
end Go.Proofs.YtgbbljfmngmjeaaGreat
