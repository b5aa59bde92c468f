/- The package diffs: solve, reach, ends. Conditions stand in the theorems. -/
import Derived.Test.YtmjfdobjnnfafaaGreatDoorGrow1
import Derived.Test.YtmjfdobjnnfafaaGreatDoorBasePack
set_option linter.all false
namespace Go.Proofs.YtmjfdobjnnfafaaGreatDoor
open Go.RowKit

theorem wkRun_within {ds : List Diff} (hd : ∀ d ∈ ds, -1073741824 ≤ d.most ∧ d.most ≤ 1073741824) (hl : ds.length ≤ 4096) : ∀ (f : Nat) (s : Wk) (b : Int), 0 ≤ b → Within b s.long → Within (b + 4398046511104 * f) (wkRun ds f s).1.long
  | 0, s, b, _, h => by simpa [wkRun] using h
  | f + 1, s, b, hb, h => by
    have h1 : Within (b + 4398046511104) (wkPass ds s).long := (wkTo_within hd h ds.length (Nat.le_refl _)).mono (by omega)
    simp only [wkRun]
    split
    · exact h1.mono (by omega)
    · split
      · exact h1.mono (by omega)
      · exact (wkRun_within hd hl f _ _ (by omega) h1).mono (by omega)
theorem growF_within {n : Nat} {ds : List Diff} (frm : List Int) (hd : ∀ d ∈ ds, -1073741824 ≤ d.most ∧ d.most ≤ 1073741824) (hl : ds.length ≤ 4096) (hn : n ≤ 256) : Within 1125899906842624 (growF n ds frm).1.long := by
  have h := wkRun_within hd hl n (wkInit n frm) 0 (Int.le_refl _) (wkIter_within (n := n) (frm := frm) hd hl 0)
  exact h.mono (by omega)
theorem wkRun_len {ds : List Diff} : ∀ (f : Nat) (s : Wk), (wkRun ds f s).1.long.length = s.long.length ∧ (wkRun ds f s).1.has.length = s.has.length
  | 0, s => ⟨rfl, rfl⟩
  | f + 1, s => by
    have h := wkTo_len ds s ds.length
    have h1 : (wkPass ds s).long.length = s.long.length := h.1
    have h2 : (wkPass ds s).has.length = s.has.length := h.2.1
    simp only [wkRun]
    split
    · exact ⟨h1, h2⟩
    · split
      · exact ⟨h1, h2⟩
      · have := wkRun_len (ds := ds) f (wkPass ds s)
        exact ⟨this.1.trans h1, this.2.trans h2⟩
theorem growF_len (n : Nat) (ds : List Diff) (frm : List Int) : (growF n ds frm).1.long.length = n ∧ (growF n ds frm).1.has.length = n := by
  have h := wkRun_len (ds := ds) n (wkInit n frm)
  have h2 := wkInit_len n frm
  exact ⟨h.1.trans h2.1, h.2.trans h2.2.1⟩

theorem wkRun_neg {ds : List Diff} : ∀ (f : Nat) (s : Wk), (wkRun ds f s).2 < 0 → (wkRun ds f s).2 = -1
  | 0, _, _ => rfl
  | f + 1, s, h => by
    simp only [wkRun] at h ⊢
    split at h
    · rename_i h1; rw [if_pos h1]
    · rename_i h1
      rw [if_neg h1]
      split at h
      · rename_i h2; simp only at h; omega
      · rename_i h2; rw [if_neg h2]; exact wkRun_neg f _ h
theorem getD0 {l : List Int} {i : Nat} {x : Int} (h : l[i]? = some x) : l.getD i 0 = x := by simp [h]
theorem Own.pos {α : Type} {w : World} {base e k : Nat} {enc : α → List Value} {v : Value} {xs : List α} (h : Own w base e k enc v xs) (hp : 0 < xs.length) :
    ∃ g cap, v = .slice (some ⟨g, 0, none⟩) xs.length cap ∧ base ≤ g ∧ g < w.heap.size := by
  rcases h.2 with ⟨_, hn⟩ | ⟨g, cap, cur, rfl, hg, hh, _⟩
  · omega
  · refine ⟨g, cap, rfl, hg, ?_⟩
    rcases Nat.lt_or_ge g w.heap.size with h | h
    · exact h
    · rw [Array.getElem?_eq_none h] at hh; cases hh
/-- What is asked of a net of which walks are sought. -/
structure NetOk (n : Nat) (ds : List Diff) : Prop where
  hn : n ≤ 256
  h1 : 1 ≤ n
  hdl : ds.length ≤ 4096
  hds : ∀ d ∈ ds, 0 ≤ d.frm ∧ d.frm < n ∧ 0 ≤ d.to ∧ d.to < n
  hdm : ∀ d ∈ ds, -1073741824 ≤ d.most ∧ d.most ≤ 1073741824
  hne : ∀ d ∈ ds, d.frm ≠ d.to

set_option maxRecDepth 100000 in
set_option maxHeartbeats 2000000 in
theorem diffs_solve (vd : Value) (n : Nat) (ds : List Diff) (w : World) (N : NetOk n ds) (hd : Sl w 3 Diff.cells vd ds) :
    Calls Tryz.prog 256 #[.iface 267 (.agg #[I n, vd])] w fun e w' => ∃ v gl gh gt, e = .returned (.tuple #[v, treeV gl gh gt n, I (growF n ds (allF n)).2]) ∧ Below w.heap.size w w' := by
  have hn := N.hn
  have h1 := N.h1
  have hin := hide (growF_within (n := n) (allF n) N.hdm N.hdl N.hn)
  have hgl := hide (growF_len n ds (allF n))
  replace hd := hide hd
  replace N := hide N
  have hall : ∀ x ∈ allF n, 0 ≤ x ∧ x < (n : Int) := by intro x hx; simp only [allF, List.mem_map, List.mem_range] at hx; obtain ⟨i, hi, rfl⟩ := hx; omega
  have hal : (allF n).length = n := by simp [allF]
  replace hall := hide hall
  obtain ⟨r, hr⟩ : ∃ r, growF n ds (allF n) = r := ⟨_, rfl⟩
  rw [hr] at hin hgl ⊢
  replace hr := hide hr
  rcases ilt r.2 0 with h0 | h0
  · have hdc : decide (0 ≤ r.2) = false := by simp; omega
    have hm1 := hide (show I (-1) = I r.2 by rw [← hr.out] at h0 ⊢; exact congrArg I (wkRun_neg n _ h0).symm)
    go_enter Tryz.func256, Tryz.ntmps256
    go_wp2_with (first
      | (go_at_call 268; refine (diffs_all _ n _ (by omega)).mono ?_; rintro e w1 ⟨va, rfl, ho1, hb1⟩; replace ho1 := hide ho1; replace hb1 := hide hb1)
      | (go_at_call 257; refine (diffs_grow _ _ n ds (allF n) _ N.out.hn N.out.h1 N.out.hdl N.out.hds N.out.hdm hall.out N.out.hne (hd.out.mono (bup (below1 _ _) hb1.out)) (ho1.out.sl intC_len (by simp; omega))).mono ?_; rw [hr.out]; rintro e w2 ⟨gl, gh, gt, rfl, hgt, hb2⟩; simp only [treeV]; replace hgt := hide hgt; replace hb2 := hide hb2))
    have hb12 : Below w.heap.size w w2 := bup (bup (below1 _ _) hb1.out) hb2.out
    have hs12 : w.heap.size + 1 ≤ w2.heap.size := by have h3 := hb1.out.size; have h4 := hb2.out.size; simp at h3; omega
    have hT := Blk.new w2 242 #[Value.slice (some ⟨gl, 0, none⟩) n n, Value.slice (some ⟨gh, 0, none⟩) n n, Value.slice (some ⟨gt, 0, none⟩) n n]
    have hres := (((Blk.new w 242 #[Value.slice none 0 0, Value.slice none 0 0, Value.slice none 0 0]).below hb1.out (by simp)).below hb2.out (by have h3 := hb1.out.size; simp at h3; omega)).alloc (Obj.cells #[Value.slice (some ⟨gl, 0, none⟩) n n, Value.slice (some ⟨gh, 0, none⟩) n n, Value.slice (some ⟨gt, 0, none⟩) n n] 242)
    have hb3 := hb12.alloc (by omega) (Obj.cells #[Value.slice (some ⟨gl, 0, none⟩) n n, Value.slice (some ⟨gh, 0, none⟩) n n, Value.slice (some ⟨gt, 0, none⟩) n n] 242)
    have hlo := hgt.out.long.alloc (Obj.cells #[Value.slice (some ⟨gl, 0, none⟩) n n, Value.slice (some ⟨gh, 0, none⟩) n n, Value.slice (some ⟨gt, 0, none⟩) n n] 242)
    have hgs := hgt.out.b1
    obtain ⟨T, hTe⟩ : ∃ T, T = w2.heap.size := ⟨_, rfl⟩
    obtain ⟨W3, hW3⟩ : ∃ W3, W3 = w2.alloc (Obj.cells #[Value.slice (some ⟨gl, 0, none⟩) n n, Value.slice (some ⟨gh, 0, none⟩) n n, Value.slice (some ⟨gt, 0, none⟩) n n] 242) := ⟨_, rfl⟩
    rw [← hW3] at hT hres hb3 hlo ⊢
    rw [← hTe] at hT hs12 ⊢
    replace hgs : w.heap.size + 1 ≤ gl := by have h3 := hb1.out.size; simp at h3; omega
    clear hW3 hTe hb12 hb1 hb2 ho1
    obtain ⟨c0, c1, c2⟩ := hT.cells3
    go_wp2_with (go_at_call 232; refine (clone_int _ r.1.long _ (hlo.sl_int hgl.out.1 (by omega)) (by rw [hgl.out.1]; omega)).mono ?_; rintro e w4 ⟨vx, rfl, hox, _, hb4⟩; obtain ⟨g, cap, rfl, _⟩ := hox.pos (by rw [hgl.out.1]; omega); rw [hgl.out.1] at hox ⊢; replace hox := hide hox; replace hb4 := hide hb4)
    obtain ⟨l0, hl0⟩ := getElem?_of_lt (xs := r.1.long) (k := 0) (by rw [hgl.out.1]; omega)
    have hq0 := hin.out 0
    rw [getD0 hl0] at hq0
    have hl0c : W3.cell? ⟨gl, 0, none⟩ = some (I l0) := by
      rw [hlo.cell 0]; simp [hl0]
    have hgls := hlo.lt
    have hTs := hT.lt
    have hres1 := hide hres
    clear hlo hres
    go_loopw [25] (fun i wr => ∃ k : Nat, k ≤ n ∧ i = I k ∧ (∃ xs : List Int, Hid (Own wr W3.heap.size 3 1 intC (.slice (some ⟨g, 0, none⟩) n cap) xs) ∧ xs.length = n ∧ Hid (∀ j, k ≤ j → xs[j]? = r.1.long[j]?)) ∧ Hid (Below W3.heap.size W3 wr)) (fun i _ => n - (intOf i).toNat)
    case atStart => exact ⟨0, Nat.zero_le _, rfl, ⟨r.1.long, hox, hgl.out.1, hide fun _ _ => rfl⟩, hb4⟩
    case round =>
      obtain ⟨k, hk, rfl, ⟨xs, ho, hxn, hxj⟩, hbr⟩ := hrel
      by_cases hlt : k < n
      · obtain ⟨x, hx⟩ := getElem?_of_lt (xs := xs) (k := k) (by omega)
        have hxl : r.1.long[k]? = some x := by rw [← hxj.out k (Nat.le_refl _)]; exact hx
        have hqx := hin.out k
        rw [getD0 hxl] at hqx
        obtain ⟨e0, e1, hgb, hgw⟩ := ho.out.int_at hxn hx
        have t0 := (hbr.out.cell (p := ⟨T, 0, none⟩) hTs).trans c0
        have t1 := (hbr.out.cell (p := ⟨gl, 0, none⟩) hgls).trans hl0c
        have hnew := hide (ho.out.drew.set_int hxn k (x - l0))
        have hb5 := hide (hbr.out.drew.setCell (p := ⟨g, k, none⟩) (by show _ ≤ g; omega) (I (x - l0)))
        have hn0 : (0 : Int) < (n : Int) := by omega
        have hkn : (k : Int) < (n : Int) := by omega
        have hk0 : (0 : Int) ≤ (k : Int) := by omega
        have hgT : ¬ g = T := by omega
        have hTg : ¬ T = g := by omega
        have hggl : ¬ g = gl := by omega
        have hglg : ¬ gl = g := by omega
        replace hx := hide hx
        replace hxl := hide hxl
        clear c0 c1 c2 hl0c ho hbr
        go_wp2_with fail
        have hwr : IntKind.i64.wrap (x - l0) = x - l0 := IntWalk.i64_in _ (by omega)
        go_region
        go_wp2_with fail
        go_roundw
        case rel =>
          refine ⟨k + 1, by omega, by go_num, ⟨_, hnew, by simpa using hxn, hide fun j hj => ?_⟩, hb5⟩
          rw [List.getElem?_set_ne (by omega)]; exact hxj.out j (by omega)
        case measure => simp [intOf]; omega
      · have he : n = k := by omega
        subst he
        have t0 := (hbr.out.cell (p := ⟨T, 0, none⟩) hTs).trans c0
        have t1 := (hbr.out.cell (p := ⟨T, 1, none⟩) hTs).trans c1
        have t2 := (hbr.out.cell (p := ⟨T, 2, none⟩) hTs).trans c2
        have hres := hres1.out.below hbr.out hres1.out.lt
        have hb3 := bup hb3 hbr.out
        clear hres1 hbr ho c0 c1 c2 hT hgt hox hb4
        have d0 := hres.cell 0
        have d1 := hres.cell 1
        have d2 := hres.cell 2
        have r0 := hres.frozen 0
        have r1 := hres.frozen 1
        have r2 := hres.frozen 2
        have hRs := hres.lt
        have hTR : ¬ T = w.heap.size := by omega
        have hRT : ¬ w.heap.size = T := by omega
        have hfin := hide (((hres.set_ 0 (.slice (some ⟨gl, 0, none⟩) n n)).set_ 1 (.slice (some ⟨gh, 0, none⟩) n n)).set_ 2 (.slice (some ⟨gt, 0, none⟩) n n)).drew
        have hbf := hide (((hb3.drew.setCell (p := ⟨w.heap.size, 0, none⟩) (Nat.le_refl _) (.slice (some ⟨gl, 0, none⟩) n n)).setCell (p := ⟨w.heap.size, 1, none⟩) (Nat.le_refl _) (.slice (some ⟨gh, 0, none⟩) n n)).setCell (p := ⟨w.heap.size, 2, none⟩) (Nat.le_refl _) (.slice (some ⟨gt, 0, none⟩) n n))
        clear hres hb3
        go_wp2_with fail
        go_region_held3 (fun W => W.cell? ⟨T, 0, none⟩ = some (.slice (some ⟨gl, 0, none⟩) n n) ∧ W.cell? ⟨T, 1, none⟩ = some (.slice (some ⟨gh, 0, none⟩) n n) ∧ W.cell? ⟨T, 2, none⟩ = some (.slice (some ⟨gt, 0, none⟩) n n)) (go_keep) ((fail))
        go_wp2_with fail
        have x0 := hfin.out.cell 0
        have x1 := hfin.out.cell 1
        have x2 := hfin.out.cell 2
        refine bodyPost_ret (v := .tuple #[.slice (some ⟨g, 0, none⟩) n cap, treeV gl gh gt n, I r.2]) (by rw [← hm1.out]; simp at x0 x1 x2; simp [results, Tryz.results256, go_sem, x0, x1, x2, treeV]) rfl ⟨_, gl, gh, gt, rfl, hbf.out⟩
  · have hdc : decide (0 ≤ r.2) = true := by simpa using h0
    go_enter Tryz.func256, Tryz.ntmps256
    go_wp2_with (first
      | (go_at_call 268; refine (diffs_all _ n _ (by omega)).mono ?_; rintro e w1 ⟨va, rfl, ho1, hb1⟩; replace ho1 := hide ho1; replace hb1 := hide hb1)
      | (go_at_call 257; refine (diffs_grow _ _ n ds (allF n) _ N.out.hn N.out.h1 N.out.hdl N.out.hds N.out.hdm hall.out N.out.hne (hd.out.mono (bup (below1 _ _) hb1.out)) (ho1.out.sl intC_len (by simp; omega))).mono ?_; rw [hr.out]; rintro e w2 ⟨gl, gh, gt, rfl, hgt, hb2⟩; simp only [treeV]; replace hgt := hide hgt; replace hb2 := hide hb2))
    have hb12 : Below w.heap.size w w2 := bup (bup (below1 _ _) hb1.out) hb2.out
    have hs12 : w.heap.size + 1 ≤ w2.heap.size := by have h3 := hb1.out.size; have h4 := hb2.out.size; simp at h3; omega
    have hT := Blk.new w2 242 #[Value.slice (some ⟨gl, 0, none⟩) n n, Value.slice (some ⟨gh, 0, none⟩) n n, Value.slice (some ⟨gt, 0, none⟩) n n]
    have hres := (((Blk.new w 242 #[Value.slice none 0 0, Value.slice none 0 0, Value.slice none 0 0]).below hb1.out (by simp)).below hb2.out (by have h3 := hb1.out.size; simp at h3; omega)).alloc (Obj.cells #[Value.slice (some ⟨gl, 0, none⟩) n n, Value.slice (some ⟨gh, 0, none⟩) n n, Value.slice (some ⟨gt, 0, none⟩) n n] 242)
    have hb3 := hb12.alloc (by omega) (Obj.cells #[Value.slice (some ⟨gl, 0, none⟩) n n, Value.slice (some ⟨gh, 0, none⟩) n n, Value.slice (some ⟨gt, 0, none⟩) n n] 242)
    have hlo := hgt.out.long.alloc (Obj.cells #[Value.slice (some ⟨gl, 0, none⟩) n n, Value.slice (some ⟨gh, 0, none⟩) n n, Value.slice (some ⟨gt, 0, none⟩) n n] 242)
    have hgs := hgt.out.b1
    obtain ⟨T, hTe⟩ : ∃ T, T = w2.heap.size := ⟨_, rfl⟩
    obtain ⟨W3, hW3⟩ : ∃ W3, W3 = w2.alloc (Obj.cells #[Value.slice (some ⟨gl, 0, none⟩) n n, Value.slice (some ⟨gh, 0, none⟩) n n, Value.slice (some ⟨gt, 0, none⟩) n n] 242) := ⟨_, rfl⟩
    rw [← hW3] at hT hres hb3 hlo ⊢
    rw [← hTe] at hT hs12 ⊢
    replace hgs : w.heap.size + 1 ≤ gl := by have h3 := hb1.out.size; simp at h3; omega
    clear hW3 hTe hb12 hb1 hb2 ho1
    obtain ⟨c0, c1, c2⟩ := hT.cells3
    have d0 := hres.cell 0
    have d1 := hres.cell 1
    have d2 := hres.cell 2
    have r0 := hres.frozen 0
    have r1 := hres.frozen 1
    have r2 := hres.frozen 2
    have hRs := hres.lt
    have hTR : ¬ T = w.heap.size := by omega
    have hRT : ¬ w.heap.size = T := by omega
    have hfin := hide (((hres.set_ 0 (.slice (some ⟨gl, 0, none⟩) n n)).set_ 1 (.slice (some ⟨gh, 0, none⟩) n n)).set_ 2 (.slice (some ⟨gt, 0, none⟩) n n)).drew
    have hbf := hide (((hb3.drew.setCell (p := ⟨w.heap.size, 0, none⟩) (Nat.le_refl _) (.slice (some ⟨gl, 0, none⟩) n n)).setCell (p := ⟨w.heap.size, 1, none⟩) (Nat.le_refl _) (.slice (some ⟨gh, 0, none⟩) n n)).setCell (p := ⟨w.heap.size, 2, none⟩) (Nat.le_refl _) (.slice (some ⟨gt, 0, none⟩) n n))
    clear hT hres hb3 hlo hgt
    go_region_held3 (fun W => W.cell? ⟨T, 0, none⟩ = some (.slice (some ⟨gl, 0, none⟩) n n) ∧ W.cell? ⟨T, 1, none⟩ = some (.slice (some ⟨gh, 0, none⟩) n n) ∧ W.cell? ⟨T, 2, none⟩ = some (.slice (some ⟨gt, 0, none⟩) n n)) (go_keep) ((fail))
    go_wp2_with fail
    have x0 := hfin.out.cell 0
    have x1 := hfin.out.cell 1
    have x2 := hfin.out.cell 2
    refine bodyPost_ret (v := .tuple #[.slice none 0 0, treeV gl gh gt n, I r.2]) (by simp at x0 x1 x2; simp [results, Tryz.results256, go_sem, x0, x1, x2, treeV]) rfl ⟨_, gl, gh, gt, rfl, hbf.out⟩
end Go.Proofs.YtmjfdobjnnfafaaGreatDoor
/- The package diffs: reach. Conditions stand in the theorems. -/
namespace Go.Proofs.YtmjfdobjnnfafaaGreatDoor
open Go.RowKit

section
variable {wr w' : World} {base gl gh gt n : Nat} {s : Wk}
theorem GT.far (h : GT wr base gl gh gt n s) {p : Addr} (hp : p.block < base) (v : Value) : GT (wr.setCell p v) base gl gh gt n s :=
  ⟨h.long.far (by have := h.b1; omega) v, h.has.far (by have := h.b2; omega) v, h.last.far (by have := h.b3; omega) v, h.ll, h.lh, h.lt, h.b1, h.b2, h.b3⟩
theorem GT.alloc (h : GT wr base gl gh gt n s) (o : Obj) : GT (wr.alloc o) base gl gh gt n s := ⟨h.long.alloc o, h.has.alloc o, h.last.alloc o, h.ll, h.lh, h.lt, h.b1, h.b2, h.b3⟩
theorem GT.mono {base' : Nat} (h : GT wr base gl gh gt n s) (hb : base' ≤ base) : GT wr base' gl gh gt n s := ⟨h.long, h.has, h.last, h.ll, h.lh, h.lt, Nat.le_trans hb h.b1, Nat.le_trans hb h.b2, Nat.le_trans hb h.b3⟩
theorem GT.grow (h : GT wr base gl gh gt n s) (hb : Below wr.heap.size wr w') : GT w' base gl gh gt n s := ⟨h.long.grow hb, h.has.grow hb, h.last.grow hb, h.ll, h.lh, h.lt, h.b1, h.b2, h.b3⟩
end

set_option maxRecDepth 100000 in
set_option maxHeartbeats 2000000 in
theorem diffs_reach_bad (vd : Value) (n m : Nat) (ds : List Diff) (w : World) (N : NetOk n ds) (hd : Sl w 3 Diff.cells vd ds) (hg : 0 ≤ (growF n ds (allF n)).2) :
    Calls Tryz.prog 234 #[.agg #[I n, vd], I m] w fun e w' => e = .returned (.tuple #[.agg #[.slice none 0 0, .slice none 0 0, .slice none 0 0], I 41]) ∧ Below w.heap.size w w' := by
  obtain ⟨A, c, rfl, _, _, hlen, hA⟩ := hd.open_
  replace hd := hide hd
  replace N := hide N
  clear hA
  obtain ⟨b, hb⟩ : ∃ b, (growF n ds (allF n)).2 = b := ⟨_, rfl⟩
  rw [hb] at hg
  replace hb := hide hb
  have hdc : decide (0 ≤ b) = true := by simpa using hg
  go_enter Tryz.func234, Tryz.ntmps234
  go_wp2_with (go_at_call 256; refine (diffs_solve _ n ds _ N.out (hd.out.mono (below2 _ _ _))).mono ?_; rw [hb.out]; rintro e w1 ⟨v, gl, gh, gt, rfl, hb1⟩; simp only [treeV]; have k1 := (blk21 w 242 #[Value.slice none 0 0, Value.slice none 0 0, Value.slice none 0 0] _).grow hb1; have c0 := k1.cell 0; have c1 := k1.cell 1; have c2 := k1.cell 2; have f0 := k1.frozen 0; have f1 := k1.frozen 1; have f2 := k1.frozen 2; have hlt := k1.lt; replace k1 := hide k1; replace hb1 := hide hb1)
  have hb2 := bup (below2 _ _ _) hb1.out
  have hsz := hb1.out.size
  have hk := ((((k1.out.set_ 0 (.slice none 0 0)).set_ 1 (.slice none 0 0)).set_ 2 (.slice none 0 0)).alloc (Obj.cells #[Value.slice (some ⟨gl, 0, none⟩) n n, Value.slice (some ⟨gh, 0, none⟩) n n, Value.slice (some ⟨gt, 0, none⟩) n n] 242))
  have x0 := hk.cell 0
  have x1 := hk.cell 1
  have x2 := hk.cell 2
  refine bodyPost_ret (v := .tuple #[.agg #[.slice none 0 0, .slice none 0 0, .slice none 0 0], I 41]) (by simp at x0 x1 x2; simp [results, Tryz.results234, go_sem, x0, x1, x2]) rfl ⟨rfl, ?_⟩
  exact (bset (bset (bset hb2 (w.heap.size + 1) 0 (Nat.le_succ _) _) (w.heap.size + 1) 1 (Nat.le_succ _) _) (w.heap.size + 1) 2 (Nat.le_succ _) _).alloc (by simp at hsz ⊢; omega) _

set_option maxRecDepth 100000 in
set_option maxHeartbeats 2000000 in
theorem diffs_reach_ok (vd : Value) (n m : Nat) (ds : List Diff) (w : World) (N : NetOk n ds) (hm : m < n) (hd : Sl w 3 Diff.cells vd ds) (hg : (growF n ds (allF n)).2 < 0) :
    Calls Tryz.prog 234 #[.agg #[I n, vd], I m] w fun e w' => ∃ gl gh gt, e = .returned (.tuple #[treeV gl gh gt n, I 0]) ∧ GT w' w.heap.size gl gh gt n (growF n ds [(m : Int)]).1 ∧ Below w.heap.size w w' := by
  obtain ⟨A, c, rfl, _, _, hlen, hA⟩ := hd.open_
  replace hd := hide hd
  replace N := hide N
  clear hA
  obtain ⟨b, hb⟩ : ∃ b, (growF n ds (allF n)).2 = b := ⟨_, rfl⟩
  rw [hb] at hg
  replace hb := hide hb
  have hdc : decide (0 ≤ b) = false := by simp; omega
  go_enter Tryz.func234, Tryz.ntmps234
  go_wp2_with (first
    | (go_at_call 256; refine (diffs_solve _ n ds _ N.out (hd.out.mono (below2 _ _ _))).mono ?_; rw [hb.out]; rintro e w1 ⟨v, gl, gh, gt, rfl, hb1⟩; simp only [treeV]; have k1 := (blk21 w 242 #[Value.slice none 0 0, Value.slice none 0 0, Value.slice none 0 0] _).grow hb1; have k0 := (blk20 w 169 #[I n, .slice A ds.length c] _).grow hb1; have a0 := k0.cell 0; have a1 := k0.cell 1; have hlt0 := k0.lt; have hlt := k1.lt; replace k1 := hide k1; replace k0 := hide k0; replace hb1 := hide hb1))
  go_at_call 257
  refine (diffs_grow _ _ n ds [(m : Int)] _ N.out.hn N.out.h1 N.out.hdl N.out.hds N.out.hdm (by intro x hx; simp at hx; subst hx; omega) N.out.hne (hd.out.mono (((bup (below2 _ _ _) hb1.out).alloc (by omega) _).alloc (by simp; omega) _)) ((blk21 w1 3 #[I m] _).sl_int (n := 1) (xs := [(m : Int)]) rfl (by omega))).mono ?_
  rintro e w2 ⟨hl, hh, ht, rfl, hgt, hb2⟩
  simp only [treeV]
  have k2 := ((k1.out.alloc _).alloc _).grow hb2
  have c0 := k2.cell 0
  have c1 := k2.cell 1
  have c2 := k2.cell 2
  have f0 := k2.frozen 0
  have f1 := k2.frozen 1
  have f2 := k2.frozen 2
  have hlt2 := k2.lt
  replace k2 := hide k2
  replace hb2 := hide hb2
  replace hgt := hide hgt
  clear a0 a1
  go_wp2_with fail
  have hsz := hb1.out.size
  have hsz2 := hb2.out.size
  simp at hsz hsz2
  have hb3 := bup (((bup (below2 _ _ _) hb1.out).alloc (by omega) _).alloc (by simp; omega) _) hb2.out
  have hk := ((((k2.out.set_ 0 (.slice (some ⟨hl, 0, none⟩) n n)).set_ 1 (.slice (some ⟨hh, 0, none⟩) n n)).set_ 2 (.slice (some ⟨ht, 0, none⟩) n n)).alloc (Obj.cells #[Value.slice (some ⟨hl, 0, none⟩) n n, Value.slice (some ⟨hh, 0, none⟩) n n, Value.slice (some ⟨ht, 0, none⟩) n n] 242))
  have x0 := hk.cell 0
  have x1 := hk.cell 1
  have x2 := hk.cell 2
  refine bodyPost_ret (v := .tuple #[treeV hl hh ht n, I 0]) (by simp at x0 x1 x2; simp [results, Tryz.results234, go_sem, x0, x1, x2, treeV]) rfl ⟨hl, hh, ht, rfl, ?_, ?_⟩
  · have hW : w.heap.size + 1 < ((w1.alloc (Obj.cells #[Value.slice (some ⟨gl, 0, none⟩) n n, Value.slice (some ⟨gh, 0, none⟩) n n, Value.slice (some ⟨gt, 0, none⟩) n n] 242)).alloc (Obj.cells #[I m] 3)).heap.size := by simp; omega
    exact ((((hgt.out.far (p := ⟨w.heap.size + 1, 0, none⟩) hW _).far (p := ⟨w.heap.size + 1, 1, none⟩) hW _).far (p := ⟨w.heap.size + 1, 2, none⟩) hW _).alloc _).mono (by omega)
  · exact (bset (bset (bset hb3 (w.heap.size + 1) 0 (Nat.le_succ _) _) (w.heap.size + 1) 1 (Nat.le_succ _) _) (w.heap.size + 1) 2 (Nat.le_succ _) _).alloc (by simp; omega) _
end Go.Proofs.YtmjfdobjnnfafaaGreatDoor
/- The package diffs: ends, Top, Bottom. Conditions stand in the theorems. -/
namespace Go.Proofs.YtmjfdobjnnfafaaGreatDoor
open Go.RowKit

theorem Blk.sl_bool {w : World} {g n : Nat} {xs : List Bool} (h : Blk w g 4 (xs.map Value.bool).toArray) (hn : xs.length = n) (hb : n ≤ 65536) : Sl w 1 boolC (.slice (some ⟨g, 0, none⟩) n n) xs :=
  (own_row (base := 0) boolC_len h (Nat.zero_le _) (by unfold maxLen; omega) (Nat.le_refl _) (by simp [hn]) (by rw [flat_bool, List.take_of_length_le (by simp [hn])])).sl boolC_len (by omega)

set_option maxRecDepth 100000 in
set_option maxHeartbeats 2000000 in
theorem diffs_ends (vd : Value) (n : Nat) (ds : List Diff) (w : World) (N : NetOk n ds) (hd : Sl w 3 Diff.cells vd ds) :
    Calls Tryz.prog 201 #[.agg #[I n, vd]] w fun e w' => ∃ v, e = .returned (.tuple #[v, I (endsE n ds)]) ∧ (endsE n ds = 0 → ∃ g, v = .slice (some ⟨g, 0, none⟩) n n ∧ w.heap.size ≤ g ∧ Blk w' g 3 ((endsL n ds).map I).toArray) ∧
      (endsE n ds ≠ 0 → v = .slice none 0 0) ∧ Below w.heap.size w w' := by
  obtain ⟨A, c, rfl, _, _, hlen, hA⟩ := hd.open_
  replace hd := hide hd
  replace N := hide N
  clear hA
  rcases ilt (growF n ds (allF n)).2 0 with hg | hg
  · have hel : endsL n ds = (growF n ds [0]).1.long := rfl
    have hlen2 := growF_len n ds [0]
    cases hh : (growF n ds [0]).1.has.any (fun x => x == false) with
    | true =>
      have hE : endsE n ds = 42 := by simp only [endsE]; rw [if_neg (by omega), if_pos hh]
      rw [hE]
      replace hE := hide hE
      go_enter Tryz.func201, Tryz.ntmps201
      go_wp2_with fail
      go_at_call 234
      refine (diffs_reach_ok _ n 0 ds _ N.out (by have := N.out.h1; omega) (hd.out.mono (below1 _ _)) hg).mono ?_
      rintro e w1 ⟨gl, gh, gt, rfl, hgt, hb1⟩
      simp only [treeV]
      have hsz := hb1.size
      simp at hsz
      go_wp2_with fail
      go_at_call 166
      refine (contains_bool _ (growF n ds [0]).1.has false _ ((hgt.alloc _).has.sl_bool hlen2.2 (by have := N.out.hn; omega))).mono ?_
      rw [hh]
      rintro e w2 ⟨rfl, rfl⟩
      go_wp2_with fail
      go_ret2
      exact ⟨_, rfl, fun h => absurd h (by omega), fun _ => rfl, (bup (below1 _ _) hb1).alloc (by omega) _⟩
    | false =>
      have hE : endsE n ds = 0 := by simp only [endsE]; rw [if_neg (by omega), if_neg (by rw [hh]; simp)]
      rw [hE]
      replace hE := hide hE
      go_enter Tryz.func201, Tryz.ntmps201
      go_wp2_with fail
      go_at_call 234
      refine (diffs_reach_ok _ n 0 ds _ N.out (by have := N.out.h1; omega) (hd.out.mono (below1 _ _)) hg).mono ?_
      rintro e w1 ⟨gl, gh, gt, rfl, hgt, hb1⟩
      simp only [treeV]
      have hsz := hb1.size
      simp at hsz
      go_wp2_with fail
      go_at_call 166
      refine (contains_bool _ (growF n ds [0]).1.has false _ ((hgt.alloc _).has.sl_bool hlen2.2 (by have := N.out.hn; omega))).mono ?_
      rw [hh]
      rintro e w2 ⟨rfl, rfl⟩
      go_wp2_with fail
      go_ret2
      exact ⟨_, rfl, fun _ => ⟨gl, rfl, by have := hgt.b1; simp at this; omega, (hgt.alloc _).long⟩, fun h => absurd rfl h, (bup (below1 _ _) hb1).alloc (by omega) _⟩
  · have hE : endsE n ds = 41 := by simp only [endsE]; rw [if_pos hg]
    rw [hE]
    go_enter Tryz.func201, Tryz.ntmps201
    go_wp2_with fail
    go_at_call 234
    refine (diffs_reach_bad _ n 0 ds _ N.out (hd.out.mono (below1 _ _)) hg).mono ?_
    rintro e w1 ⟨rfl, hb1⟩
    have hsz := hb1.size
    simp at hsz
    go_wp2_with fail
    go_ret2
    exact ⟨_, rfl, fun h => absurd h (by omega), fun _ => rfl, (bup (below1 _ _) hb1).alloc (by omega) _⟩
end Go.Proofs.YtmjfdobjnnfafaaGreatDoor
/- The package diffs: Top and Bottom of a net that is right. Conditions stand in the theorems. -/
namespace Go.Proofs.YtmjfdobjnnfafaaGreatDoor
open Go.RowKit

theorem NetOk.netE {n : Nat} {ds : List Diff} (N : NetOk n ds) : netE n ds = 0 := by
  have h1 := N.h1
  have hn := N.hn
  have hall : ds.all (diffOk n) = true := by
    rw [List.all_eq_true]; intro d hd
    have a := N.hds d hd
    have b := N.hdm d hd
    simp only [diffOk, Bool.and_eq_true, inB_true]
    omega
  simp only [Proofs.YtmjfdobjnnfafaaGreatDoor.netE, netOk, hall, decide_eq_true N.hdl, inB_true.2 (show (1 : Int) ≤ n ∧ (n : Int) ≤ 256 by omega)]
  rfl
theorem NetOk.turn {n : Nat} {ds : List Diff} (N : NetOk n ds) : NetOk n (ds.map turnD) := by
  refine ⟨N.hn, N.h1, by simpa using N.hdl, ?_, ?_, ?_⟩
  all_goals
    intro d hd
    obtain ⟨x, hx, rfl⟩ := List.mem_map.1 hd
  · have := N.hds x hx; simp only [turnD]; omega
  · exact N.hdm x hx
  · exact fun h => N.hne x hx h.symm

set_option maxRecDepth 100000 in
set_option maxHeartbeats 1000000 in
theorem diffs_Top (vd : Value) (n : Nat) (ds : List Diff) (w : World) (N : NetOk n ds) (hd : Sl w 3 Diff.cells vd ds) :
    Calls Tryz.prog 153 #[.agg #[I n, vd]] w fun e w' => ∃ v, e = .returned (.tuple #[v, I (endsE n ds)]) ∧ (endsE n ds = 0 → ∃ g, v = .slice (some ⟨g, 0, none⟩) n n ∧ w.heap.size ≤ g ∧ Blk w' g 3 ((endsL n ds).map I).toArray) ∧
      (endsE n ds ≠ 0 → v = .slice none 0 0) ∧ Below w.heap.size w w' := by
  obtain ⟨A, c, rfl, _, _, hlen, hA⟩ := hd.open_
  have hE := N.netE
  replace hd := hide hd
  replace N := hide N
  clear hA
  go_enter Tryz.func153, Tryz.ntmps153
  go_wp2_with fail
  go_at_call 200
  refine (diffs_Check _ n ds _ (hd.out.mono (below1 _ _))).mono ?_
  rw [hE]
  rintro e w1 ⟨rfl, hb1⟩
  have k0 := (Blk.new w 169 #[I n, .slice A ds.length c]).grow hb1
  have a0 := k0.cell 0
  have a1 := k0.cell 1
  have hlt := k0.lt
  clear k0
  go_wp2_with fail
  go_at_call 201
  refine (diffs_ends _ n ds _ N.out (hd.out.mono (bup (below1 _ _) hb1))).mono ?_
  rintro e w2 ⟨v, rfl, h1, h2, hb2⟩
  go_wp2_with fail
  go_ret2
  refine ⟨v, rfl, fun h => ?_, h2, bup (bup (below1 _ _) hb1) hb2⟩
  obtain ⟨g, q1, q2, q3⟩ := h1 h
  exact ⟨g, q1, by omega, q3⟩

theorem Blk.set_int {w : World} {g : Nat} {xs : List Int} (h : Blk w g 3 (xs.map I).toArray) (i : Nat) (x : Int) : Blk (w.setCell ⟨g, i, none⟩ (I x)) g 3 ((xs.set i x).map I).toArray := by
  have := h.set_ i (I x)
  rw [List.map_set]; simpa using this

set_option maxRecDepth 100000 in
set_option maxHeartbeats 1000000 in
theorem diffs_Bottom (vd : Value) (n : Nat) (ds : List Diff) (w : World) (N : NetOk n ds) (hd : Sl w 3 Diff.cells vd ds) :
    Calls Tryz.prog 152 #[.agg #[I n, vd]] w fun e w' => ∃ v, e = .returned (.tuple #[v, I (endsE n (ds.map turnD))]) ∧ (endsE n (ds.map turnD) = 0 → ∃ g, v = .slice (some ⟨g, 0, none⟩) n n ∧ w.heap.size ≤ g ∧ Blk w' g 3 ((botL n ds).map I).toArray) ∧
      (endsE n (ds.map turnD) ≠ 0 → v = .slice none 0 0) ∧ Below w.heap.size w w' := by
  obtain ⟨A, c, rfl, _, _, hlen, hA⟩ := hd.open_
  have hE := N.netE
  have hn := N.hn
  have hwi := growF_within (n := n) [0] N.turn.hdm N.turn.hdl N.hn
  have hln := (growF_len n (ds.map turnD) [0]).1
  obtain ⟨b, hb⟩ : ∃ b, endsE n (ds.map turnD) = b := ⟨_, rfl⟩
  obtain ⟨L, hL⟩ : ∃ L, endsL n (ds.map turnD) = L := ⟨_, rfl⟩
  have hbl : botL n ds = L.map fun x => -x := by rw [botL, hL]
  rw [hb, hbl]
  have hwi : Within 1125899906842624 L := by rw [← hL]; exact hwi
  have hln : L.length = n := by rw [← hL]; exact hln
  replace hb := hide hb
  replace hL := hide hL
  replace hwi := hide hwi
  replace hd := hide hd
  replace N := hide N
  clear hA hbl
  go_enter Tryz.func152, Tryz.ntmps152
  go_wp2_with fail
  go_at_call 200
  refine (diffs_Check _ n ds _ (hd.out.mono (below1 _ _))).mono ?_
  rw [hE]
  rintro e w1 ⟨rfl, hb1⟩
  have k0 := (Blk.new w 169 #[I n, .slice A ds.length c]).grow hb1
  have a0 := k0.cell 0
  have a1 := k0.cell 1
  have hlt := k0.lt
  clear k0
  go_wp2_with fail
  go_at_call 202
  refine (diffs_turned _ n ds _ (hd.out.mono (bup (below1 _ _) hb1)) (by have := N.out.hdl; omega)).mono ?_
  rintro e w2 ⟨vt, rfl, hot, hb2⟩
  go_wp2_with fail
  go_at_call 201
  refine (diffs_ends _ n (ds.map turnD) _ N.out.turn (hot.sl Diff.cells_len (by have := N.out.hdl; simp; omega))).mono ?_
  rw [hb.out, hL.out]
  rintro e w3 ⟨v, rfl, h1, h2, hb3⟩
  have hb4 := bup (bup (bup (below1 _ _) hb1) hb2) hb3
  have hsz1 := hb1.size
  have hsz2 := hb2.size
  simp at hsz1
  by_cases hb0 : b = 0
  · obtain ⟨g, rfl, hg, hblk⟩ := h1 hb0
    subst hb0
    replace hblk := hide hblk
    replace hb4 := hide hb4
    clear h1 h2 hot hb1 hb2 hb3 a0 a1
    go_wp2_with fail
    go_loopw [21] (fun i wr => ∃ k : Nat, k ≤ n ∧ i = I k ∧ (∃ xs : List Int, Hid (Blk wr g 3 (xs.map I).toArray) ∧ xs.length = n ∧ Hid (∀ j, xs[j]? = if j < k then (L[j]?).map (fun x => -x) else L[j]?)) ∧ Hid (Below w.heap.size w wr)) (fun i _ => n - (intOf i).toNat)
    case atStart => exact ⟨0, Nat.zero_le _, rfl, ⟨L, hblk, hln, hide fun j => by simp⟩, hb4⟩
    case round =>
      obtain ⟨k, hk, rfl, ⟨xs, ho, hxn, hxj⟩, hbr⟩ := hrel
      clear hblk hb4
      by_cases hlt2 : k < n
      · obtain ⟨x, hx⟩ := getElem?_of_lt (xs := xs) (k := k) (by omega)
        have hxl : L[k]? = some x := by rw [← hx, hxj.out k, if_neg (by omega)]
        have hqx := hwi.out k
        rw [getD0 hxl] at hqx
        have hc : wr.cell? ⟨g, k, none⟩ = some (I x) := by rw [ho.out.cell k]; simp [hx]
        have hf := ho.out.frozen k
        have hgw := ho.out.lt
        have hnew := hide (ho.out.set_int k (-x))
        have hb5 := hide (bset hbr.out g k (by omega) (I (-x)))
        have hwr : IntKind.i64.wrap (-x) = -x := IntWalk.i64_in _ (by omega)
        replace hx := hide hx
        replace hxl := hide hxl
        clear ho hbr
        go_wp2_with fail
        go_roundw
        case rel =>
          refine ⟨k + 1, by omega, by go_num, ⟨_, hnew, by simpa using hxn, hide fun j => ?_⟩, hb5⟩
          rw [List.getElem?_set]
          by_cases e : k = j
          · subst e; simp [hxl.out, hxn, hlt2]
          · rw [if_neg e, hxj.out j]
            by_cases e2 : j < k
            · rw [if_pos e2, if_pos (by omega)]
            · rw [if_neg e2, if_neg (by omega)]
        case measure => simp [intOf]; omega
      · have he : n = k := by omega
        subst he
        have hxe : xs = L.map fun x => -x := by
          refine List.ext_getElem? fun j => ?_
          rw [hxj.out j, List.getElem?_map]
          by_cases e : j < n
          · rw [if_pos e]
          · rw [if_neg e, List.getElem?_eq_none (by omega)]; rfl
        replace hxe := hide hxe
        go_wp2_with fail
        go_ret2
        exact ⟨_, rfl, ⟨g, rfl, by omega, by have := ho.out; rw [hxe.out] at this; simpa using this⟩, hbr.out⟩
  · obtain rfl := h2 hb0
    clear h1 h2 hot hb1 hb2 hb3 a0 a1
    go_wp2_with fail
    go_loop [21] (fun i => i = I 0) (fun _ => 0)
    case atStart => rfl
    case round =>
      subst hrel
      go_wp2_with fail
      go_ret2
      exact ⟨_, rfl, rfl, hb4⟩
end Go.Proofs.YtmjfdobjnnfafaaGreatDoor
/- Basins as plain data: what a valid one grants, and that its net is right. No condition. -/
namespace Go.Proofs.YtmjfdobjnnfafaaGreatDoor
open Go.RowKit

theorem idxBy_at {α : Type} (p : α → Bool) : ∀ (xs : List α), 0 ≤ idxBy p xs → ∃ x, xs[(idxBy p xs).toNat]? = some x ∧ p x = true
  | [], h => by simp [idxBy] at h
  | x :: xs, h => by
    by_cases hp : p x = true
    · exact ⟨x, by simp [idxBy, hp], hp⟩
    · by_cases h0 : idxBy p xs < 0
      · simp [idxBy, hp, h0] at h
      · obtain ⟨y, hy, hpy⟩ := idxBy_at p xs (by omega)
        refine ⟨y, ?_, hpy⟩
        simp only [idxBy, hp, h0]
        have : (idxBy p xs + 1).toNat = (idxBy p xs).toNat + 1 := by omega
        simp [this, hy]
theorem idxBy_lt {α : Type} {p : α → Bool} {xs : List α} (h : 0 ≤ idxBy p xs) : idxBy p xs < xs.length := by
  obtain ⟨x, hx, _⟩ := idxBy_at p xs h
  have := (List.getElem?_eq_some_iff.1 hx).1
  omega
theorem placeD_inj {ds : List Int} {a b : Int} (ha : 0 ≤ placeD ds a) (h : placeD ds a = placeD ds b) : a = b := by
  obtain ⟨x, hx, hpx⟩ := idxBy_at _ ds ha
  obtain ⟨y, hy, hpy⟩ := idxBy_at (fun x => x == b) ds (by rw [h] at ha; exact ha)
  have e : (idxBy (fun x => x == a) ds).toNat = (idxBy (fun x => x == b) ds).toNat := by
    have : idxBy (fun x => x == a) ds = idxBy (fun x => x == b) ds := h
    rw [this]
  rw [e, hy] at hx
  cases hx
  rw [← beq_iff_eq.1 hpx, ← beq_iff_eq.1 hpy]
theorem hasD_place {ds : List Int} {a : Int} (h : hasD ds a = true) : 0 ≤ placeD ds a := by
  have := idxBy_nonneg (fun x => x == a) ds
  rw [show ds.any (fun x => x == a) = true from h] at this
  exact of_decide_eq_true this

theorem node_lt {n m : Nat} {c d : Int} (hc0 : 0 ≤ c) (hc : c < n) (hd0 : 0 ≤ d) (hd : d < m) : 1 ≤ nodeF n c d ∧ nodeF n c d < ((1 + m * n : Nat) : Int) := by
  have h1 : (d + 1) * (n : Int) ≤ (m : Int) * n := Int.mul_le_mul_of_nonneg_right (by omega) (by omega)
  have h2 : 0 ≤ d * (n : Int) := Int.mul_nonneg hd0 (by omega)
  rw [Int.add_mul] at h1
  simp only [nodeF]
  push_cast
  omega
theorem node_inj {n : Nat} {c d d' : Int} (hn : 1 ≤ n) (h : nodeF n c d = nodeF n c d') : d = d' := by
  simp only [nodeF] at h
  exact Int.eq_of_mul_eq_mul_right (show (n : Int) ≠ 0 by omega) (by omega)

theorem getD_some {α : Type} [Inhabited α] {l : List α} {i : Nat} (h : i < l.length) : l[i]? = some (l.getD i default) := by simp [h]
/-- What a valid basin grants. -/
structure BasinOk (b : Basin) : Prop where
  hc1 : 1 ≤ b.cells.length
  hc2 : b.cells.length ≤ 12
  hp : b.pairs.length ≤ 24
  gain : 0 ≤ b.gain ∧ b.gain ≤ 65536
  slack : 0 ≤ b.slack ∧ b.slack ≤ 65536
  deep : 0 ≤ b.deep ∧ b.deep ≤ 65536
  cell : ∀ (i : Nat) (x : Cell), b.cells[i]? = some x → cellOk x = true
  pair : ∀ (i : Nat) (p : Int × Int), b.pairs[i]? = some p → pairOk b.cells p = true
theorem BasinOk.of {b : Basin} (h : basinOk b = true) : BasinOk b := by
  simp only [basinOk, Bool.and_eq_true, inB_true, decide_eq_true_eq, List.all_eq_true, List.mem_range] at h
  obtain ⟨⟨⟨⟨⟨⟨h1, h2⟩, h3⟩, h4⟩, h5⟩, h6⟩, h7⟩ := h
  refine ⟨by omega, by omega, h2, h3, h4, h5, fun i x hx => ?_, fun i p hp => ?_⟩
  · have := h6 i (List.getElem?_eq_some_iff.1 hx).1
    simp only [cellGood, Bool.and_eq_true, getD_of hx] at this
    exact this.1
  · have := h7 i (List.getElem?_eq_some_iff.1 hp).1
    simp only [pairGood, Bool.and_eq_true, getD_of hp] at this
    exact this.1
structure CellOk (c : Cell) : Prop where
  no : 0 ≤ c.no ∧ c.no ≤ 4095
  height : 0 ≤ c.height ∧ c.height ≤ 9000
  aspect : 0 ≤ c.aspect ∧ c.aspect ≤ 7
  area : 1 ≤ c.area ∧ c.area ≤ 4096
theorem CellOk.of {c : Cell} (h : cellOk c = true) : CellOk c := by
  simp only [cellOk, Bool.and_eq_true, inB_true] at h
  exact ⟨h.1.1.1, h.1.1.2, h.1.2, h.2⟩
/-- A pair of a valid basin: its two cells. -/
theorem BasinOk.cells {b : Basin} (h : BasinOk b) {i : Nat} {p : Int × Int} (hp : b.pairs[i]? = some p) :
    ∃ (j k : Nat) (x y : Cell), p = ((j : Int), (k : Int)) ∧ j < b.cells.length ∧ k < b.cells.length ∧ j ≠ k ∧ b.cells[j]? = some x ∧ b.cells[k]? = some y ∧ x.height ≤ y.height ∧ CellOk x ∧ CellOk y := by
  have h1 := h.pair i p hp
  simp only [pairOk, Bool.and_eq_true, inB_true, decide_eq_true_eq, bne_iff_ne] at h1
  obtain ⟨⟨⟨⟨a1, a2⟩, ⟨a3, a4⟩⟩, hne⟩, hh⟩ := h1
  have hx : b.cells[p.1.toNat]? = some (b.cells.getD p.1.toNat default) := getD_some (by omega)
  have hy : b.cells[p.2.toNat]? = some (b.cells.getD p.2.toNat default) := getD_some (by omega)
  refine ⟨p.1.toNat, p.2.toNat, _, _, ?_, by omega, by omega, by omega, hx, hy, hh, .of (h.cell _ _ hx), .of (h.cell _ _ hy)⟩
  rw [Int.toNat_of_nonneg a1, Int.toNat_of_nonneg a3]
theorem more_bounds {g a b : Int} (hg : 0 ≤ g ∧ g ≤ 65536) (hab : a ≤ b) (ha : 0 ≤ a) (hb : b ≤ 9000) : 0 ≤ g * (b - a) ∧ g * (b - a) ≤ 589824000 := by
  have h1 : 0 ≤ g * (b - a) := Int.mul_nonneg hg.1 (by omega)
  have h2 : g * (b - a) ≤ 65536 * (b - a) := Int.mul_le_mul_of_nonneg_right hg.2 (by omega)
  omega

/-- What a valid scene grants. -/
structure SceneOk (s : Scene) : Prop where
  basin : BasinOk s.basin
  hd1 : 1 ≤ s.days.length
  hd2 : s.days.length ≤ 16
  hsl : s.sights.length ≤ 256
  hcl : s.changes.length ≤ 256
  sight : ∀ x ∈ s.sights, sightOk s x = true
  change : ∀ x ∈ s.changes, changeOk s x = true
theorem SceneOk.of {s : Scene} (h : sceneE s = 0) : SceneOk s := by
  unfold sceneE at h
  split at h
  · cases h
  split at h
  · cases h
  split at h
  · cases h
  split at h
  · cases h
  split at h
  · cases h
  rename_i h1 h2 h3 h4 h5
  rw [Bool.not_eq_false] at h1 h2 h4 h5
  simp only [daysOk, Bool.and_eq_true, inB_true] at h2
  exact ⟨.of h1, by omega, by omega, by omega, by omega, fun x hx => List.all_eq_true.1 h4 x hx, fun x hx => List.all_eq_true.1 h5 x hx⟩

theorem flatMap_len {α β : Type} {f : α → List β} {c : Nat} : ∀ (xs : List α), (∀ x ∈ xs, (f x).length ≤ c) → (xs.flatMap f).length ≤ xs.length * c
  | [], _ => by simp
  | x :: xs, h => by
    have h1 := h x (List.mem_cons_self ..)
    have h2 := flatMap_len xs fun y hy => h y (List.mem_cons_of_mem _ hy)
    simp only [List.flatMap_cons, List.length_append, List.length_cons, Nat.add_mul, Nat.one_mul]
    omega
theorem pairD_len (b : Basin) (d : Nat) (p : Int × Int) : (pairD b d p).length ≤ 2 := by
  unfold pairD; split <;> simp
theorem dayD_len (b : Basin) (d : Nat) : (dayD b d).length ≤ b.cells.length * 2 + b.pairs.length * 2 := by
  have h1 := flatMap_len (f := cellD b d) (c := 2) (List.range b.cells.length) fun _ _ => by simp [cellD]
  have h2 := flatMap_len (f := pairD b d) (c := 2) b.pairs fun p _ => pairD_len b d p
  simp only [dayD, List.length_append]
  simp only [List.length_range] at h1
  omega
theorem SceneOk.lay_len {s : Scene} (h : SceneOk s) : (layD s).length ≤ 2176 := by
  have h1 := flatMap_len (f := dayD s.basin) (c := 72) (List.range s.days.length) fun d _ => by
    have := dayD_len s.basin d
    have := h.basin.hc2
    have := h.basin.hp
    omega
  have h2 := flatMap_len (f := sightD s) (c := 2) s.sights fun _ _ => by simp [sightD]
  have h3 := flatMap_len (f := changeD s) (c := 2) s.changes fun _ _ => by simp [changeD]
  simp only [List.length_range] at h1
  have := h.hd2
  have := h.hsl
  have := h.hcl
  simp only [layD, List.length_append]
  omega

/-- A difference is right in a net of so many nodes. -/
def DiffFits (n : Nat) (d : Diff) : Prop := (0 ≤ d.frm ∧ d.frm < n ∧ 0 ≤ d.to ∧ d.to < n) ∧ (-1073741824 ≤ d.most ∧ d.most ≤ 1073741824) ∧ d.frm ≠ d.to
theorem cellD_fits {s : Scene} (h : SceneOk s) {d c : Nat} (hd : d < s.days.length) (hc : c < s.basin.cells.length) : ∀ x ∈ cellD s.basin d c, DiffFits (nodesN s) x := by
  have h1 := node_lt (n := s.basin.cells.length) (m := s.days.length) (c := c) (d := d) (by omega) (by omega) (by omega) (by omega)
  have h2 := h.basin.deep
  intro x hx
  simp only [cellD, List.mem_cons, List.not_mem_nil, or_false] at hx
  rcases hx with rfl | rfl
  all_goals (simp only [DiffFits, nodesN]; omega)
theorem moreF_bounds {b : Basin} (h : BasinOk b) {i : Nat} {p : Int × Int} (hp : b.pairs[i]? = some p) : 0 ≤ moreF b p ∧ moreF b p ≤ 6000000 := by
  obtain ⟨j, k, x, y, rfl, hj, hk, hne, hx, hy, hh, ox, oy⟩ := h.cells hp
  have h1 := more_bounds h.gain hh ox.height.1 oy.height.2
  have h2 := h.slack
  simp only [moreF, Int.toNat_natCast, getD_of hx, getD_of hy]
  omega
theorem pairD_fits {s : Scene} (h : SceneOk s) {d i : Nat} (hd : d < s.days.length) {p : Int × Int} (hp : s.basin.pairs[i]? = some p) : ∀ x ∈ pairD s.basin d p, DiffFits (nodesN s) x := by
  have hm := moreF_bounds h.basin hp
  obtain ⟨j, k, x, y, rfl, hj, hk, hne, hx, hy, hh, ox, oy⟩ := h.basin.cells hp
  have h1 := node_lt (n := s.basin.cells.length) (m := s.days.length) (c := j) (d := d) (by omega) (by omega) (by omega) (by omega)
  have h2 := node_lt (n := s.basin.cells.length) (m := s.days.length) (c := k) (d := d) (by omega) (by omega) (by omega) (by omega)
  have h3 : nodeF s.basin.cells.length j d ≠ nodeF s.basin.cells.length k d := by simp only [nodeF]; omega
  have h4 := h.basin.slack
  intro z hz
  unfold pairD at hz
  split at hz
  · simp only [List.mem_cons, List.not_mem_nil, or_false] at hz
    rcases hz with rfl | rfl
    · simp only [DiffFits, nodesN]; omega
    · simp only [DiffFits, nodesN]
      refine ⟨by omega, ?_, by omega⟩
      split <;> omega
  · cases hz
theorem placeC_lt {s : Scene} {no : Int} (h : 0 ≤ placeC s.basin.cells no) : placeC s.basin.cells no < s.basin.cells.length := idxBy_lt h
theorem placeD_lt {s : Scene} {d : Int} (h : 0 ≤ placeD s.days d) : placeD s.days d < s.days.length := idxBy_lt h
structure SightOk (s : Scene) (x : Sight) : Prop where
  no : 0 ≤ x.no ∧ x.no ≤ 8191
  cell : 0 ≤ placeC s.basin.cells x.cell
  day : 0 ≤ placeD s.days x.day
  lo : 0 ≤ x.lo
  le : x.lo ≤ x.hi
  hi : x.hi ≤ 65536
theorem SightOk.of {s : Scene} {x : Sight} (h : sightOk s x = true) : SightOk s x := by
  simp only [sightOk, Bool.and_eq_true, inB_true, decide_eq_true_eq] at h
  exact ⟨h.1.1.1.1.1, h.1.1.1.1.2, hasD_place h.1.1.1.2, h.1.1.2, h.1.2, h.2⟩
structure ChangeOk (s : Scene) (x : Change) : Prop where
  lt : x.frm < x.to
  cell : 0 ≤ placeC s.basin.cells x.cell
  frm : 0 ≤ placeD s.days x.frm
  to : 0 ≤ placeD s.days x.to
  lo : -65536 ≤ x.lo
  le : x.lo ≤ x.hi
  hi : x.hi ≤ 65536
theorem ChangeOk.of {s : Scene} {x : Change} (h : changeOk s x = true) : ChangeOk s x := by
  simp only [changeOk, Bool.and_eq_true, decide_eq_true_eq] at h
  obtain ⟨⟨⟨⟨⟨⟨a, b⟩, c⟩, d⟩, e⟩, f⟩, g⟩ := h
  exact ⟨a, d, hasD_place b, hasD_place c, e, f, g⟩
theorem sightD_fits {s : Scene} {x : Sight} (h : SightOk s x) : ∀ z ∈ sightD s x, DiffFits (nodesN s) z := by
  have h1 := node_lt h.cell (placeC_lt h.cell) h.day (placeD_lt h.day)
  have := h.lo
  have := h.le
  have := h.hi
  intro z hz
  simp only [sightD, placeN, List.mem_cons, List.not_mem_nil, or_false] at hz
  rcases hz with rfl | rfl
  all_goals (simp only [DiffFits, nodesN]; omega)
theorem changeD_fits {s : Scene} (hs : SceneOk s) {x : Change} (h : ChangeOk s x) : ∀ z ∈ changeD s x, DiffFits (nodesN s) z := by
  have h1 := node_lt h.cell (placeC_lt h.cell) h.frm (placeD_lt h.frm)
  have h2 := node_lt h.cell (placeC_lt h.cell) h.to (placeD_lt h.to)
  have h3 : nodeF s.basin.cells.length (placeC s.basin.cells x.cell) (placeD s.days x.frm) ≠ nodeF s.basin.cells.length (placeC s.basin.cells x.cell) (placeD s.days x.to) := fun e => by
    have := placeD_inj h.frm (node_inj hs.basin.hc1 e)
    have := h.lt
    omega
  have := h.lo
  have := h.le
  have := h.hi
  intro z hz
  simp only [changeD, placeN, List.mem_cons, List.not_mem_nil, or_false] at hz
  rcases hz with rfl | rfl
  all_goals (simp only [DiffFits, nodesN]; omega)
theorem SceneOk.fits {s : Scene} (h : SceneOk s) : ∀ z ∈ layD s, DiffFits (nodesN s) z := by
  intro z hz
  simp only [layD, dayD, List.mem_append, List.mem_flatMap, List.mem_range] at hz
  rcases hz with (⟨d, hd, ⟨c, hc, hz⟩ | ⟨p, hp, hz⟩⟩ | ⟨x, hx, hz⟩) | ⟨x, hx, hz⟩
  · exact cellD_fits h hd hc z hz
  · obtain ⟨i, hi⟩ := List.getElem?_of_mem hp
    exact pairD_fits h hd hi z hz
  · exact sightD_fits (.of (h.sight x hx)) z hz
  · exact changeD_fits h (.of (h.change x hx)) z hz
theorem SceneOk.nodes {s : Scene} (h : SceneOk s) : 1 ≤ nodesN s ∧ nodesN s ≤ 193 := by
  have h1 : s.days.length * s.basin.cells.length ≤ 16 * 12 := Nat.mul_le_mul h.hd2 h.basin.hc2
  simp only [nodesN]; omega
theorem SceneOk.net {s : Scene} (h : SceneOk s) : NetOk (nodesN s) (layD s) := by
  have hn := h.nodes
  have hl := h.lay_len
  exact ⟨by omega, hn.1, by omega, fun d hd => (h.fits d hd).1, fun d hd => (h.fits d hd).2.1, fun d hd => (h.fits d hd).2.2⟩
end Go.Proofs.YtmjfdobjnnfafaaGreatDoor
