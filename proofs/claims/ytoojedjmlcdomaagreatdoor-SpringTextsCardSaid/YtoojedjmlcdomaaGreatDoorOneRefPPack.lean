/- The reference's PrintWeather and words. Conditions stand in the theorems. -/
import Derived.Test.YtoojedjmlcdomaaGreatDoorOneParse
import Derived.Test.YtoojedjmlcdomaaGreatDoorRef1
import Derived.Test.YtoojedjmlcdomaaGreatDoorGrowTail
set_option linter.all false
set_option maxHeartbeats 4000000
set_option maxRecDepth 100000
namespace Go.Proofs.YtoojedjmlcdomaaGreatDoor
open Go.RowKit

theorem ref_PrintWeather (x : Weather) (w : World) (hp : Pow10 w) :
  Calls Tryz.prog 21 #[.agg #[I x.day, I x.temp, I x.rain]] w fun e w' => e = .returned (.tuple #[.string ⟨(printV x).toArray⟩, I (printE x)]) ∧ Below w.heap.size w w' := by
 cases ho : printOk x with
 | false =>
  have hE : printE x = 60 := by simp [printE, ho]
  have hV : printV x = [] := by simp [printV, ho]
  rw [hE, hV]
  simp only [printOk, tempB] at ho
  cases h1 : inB x.day 0 1048576 with
  | false =>
   clear ho
   go_enter Tryz.func21, Tryz.ntmps21
   go_wp2_with (first | (go_at_call 77; refine (ref_within _ _ _ _).mono ?_; (try simp only [h1]); rintro e w' ⟨rfl, rfl⟩))
   go_ret2
   exact ⟨rfl, below1 _ _⟩
  | true =>
   cases h2 : inB x.temp (-600) 600 with
   | false =>
    clear ho
    go_enter Tryz.func21, Tryz.ntmps21
    go_wp2_with (first | (go_at_call 77; refine (ref_within _ _ _ _).mono ?_; (try simp only [h1, h2]); rintro e w' ⟨rfl, rfl⟩))
    go_ret2
    exact ⟨rfl, below1 _ _⟩
   | true =>
    rw [h1, h2] at ho
    simp only [Bool.true_and] at ho
    go_enter Tryz.func21, Tryz.ntmps21
    go_wp2_with (first | (go_at_call 77; refine (ref_within _ _ _ _).mono ?_; (try simp only [h1, h2, ho]); rintro e w' ⟨rfl, rfl⟩))
    go_ret2
    exact ⟨rfl, below1 _ _⟩
 | true =>
  have hE : printE x = 0 := by simp [printE, ho]
  have hV : printV x = printL x := by simp [printV, ho]
  rw [hE, hV]
  simp only [printOk, tempB, Bool.and_eq_true] at ho
  obtain ⟨⟨h1, h2⟩, h3⟩ := ho
  have b1 := inB_true.1 h1
  have b2 := inB_true.1 h2
  have b3 := inB_true.1 h3
  have hI := fun (n : Int) (h0 : -1048576 ≤ n) (h1 : n ≤ 1048576) (W : World) (hb : Below (w.alloc (.cells #[I x.day, I x.temp, I x.rain] 57)).heap.size (w.alloc (.cells #[I x.day, I x.temp, I x.rain] 57)) W) => itoa_of n h0 h1 W (hp.mono (bup (below1 _ _) hb))
  have i1 := hI x.day (by omega) (by omega)
  have i2 := hI x.temp (by omega) (by omega)
  have i3 := hI x.rain (by omega) (by omega)
  unfold printL
  obtain ⟨l1, e1⟩ : ∃ l, Lib.itoa x.day = l := ⟨_, rfl⟩
  obtain ⟨l2, e2⟩ : ∃ l, Lib.itoa x.temp = l := ⟨_, rfl⟩
  obtain ⟨l3, e3⟩ : ∃ l, Lib.itoa x.rain = l := ⟨_, rfl⟩
  rw [e1] at i1 ⊢
  rw [e2] at i2 ⊢
  rw [e3] at i3 ⊢
  replace i1 := hide i1
  replace i2 := hide i2
  replace i3 := hide i3
  have n1 : l1.length ≤ 21 := by rw [← e1]; exact Lib.itoa_length_le _ (by omega) (by omega)
  have n2 : l2.length ≤ 21 := by rw [← e2]; exact Lib.itoa_length_le _ (by omega) (by omega)
  have n3 : l3.length ≤ 21 := by rw [← e3]; exact Lib.itoa_length_le _ (by omega) (by omega)
  have s1 : ¬ 9223372036854775807 < 8 + l1.length := by omega
  have s2 : ¬ 9223372036854775807 < 8 + l1.length + 1 := by omega
  have s3 : ¬ 9223372036854775807 < 8 + l1.length + 1 + l2.length := by omega
  have s4 : ¬ 9223372036854775807 < 8 + l1.length + 1 + l2.length + 1 := by omega
  have s5 : ¬ 9223372036854775807 < 8 + l1.length + 1 + l2.length + 1 + l3.length := by omega
  clear hI b1 b2 b3 hp e1 e2 e3 n1 n2 n3
  go_enter Tryz.func21, Tryz.ntmps21
  go_wp2_with (first | (go_at_call 77; refine (ref_within _ _ _ _).mono ?_; (try simp only [h1, h2, h3]); rintro e w' ⟨rfl, rfl⟩))
  (refine wp_grow ?_; (repeat go_big_quiet_step ((go_at_call 76; first | exact calls_grew (i1.out _ (Grew.below _)) | exact calls_grew (i2.out _ (Grew.below _)) | exact calls_grew (i3.out _ (Grew.below _))))); refine wp_grow0 ?_; intro W1 hW1)
  go_wp2_with fail
  go_ret2
  exact ⟨rfl, bup (below1 _ _) hW1⟩

theorem el_str : ElemOk Tryz.prog 124 9 1 16 (.string ByteArray.empty) := ⟨Tryz.underlying124, by kernel_rfl, rfl, by omega⟩
theorem flat_put {α : Type} {enc : α → List Value} {y : α} {u : Value} (hlen : ∀ x, (enc x).length = 1) (hu : enc y = [u]) : ∀ (xs : List α) (i : Nat), (xs.set i y).flatMap enc = (xs.flatMap enc).set i u
 | [], i => by simp
 | x :: xs, 0 => by
  obtain ⟨a, ha⟩ : ∃ a, enc x = [a] := List.length_eq_one_iff.1 (hlen x)
  simp [hu, ha]
 | x :: xs, i + 1 => by
  obtain ⟨a, ha⟩ : ∃ a, enc x = [a] := List.length_eq_one_iff.1 (hlen x)
  simp [ha, flat_put hlen hu xs i]
theorem Own.put_at {α : Type} {w : World} {base e g n cap i : Nat} {enc : α → List Value} {xs : List α} (hlen : ∀ x, (enc x).length = 1) (h : Own w base e 1 enc (.slice (some ⟨g, 0, none⟩) n cap) xs) (hi : i < xs.length) {y : α} {u : Value} (hu : enc y = [u]) :
  Own (w.setCell ⟨g, i, none⟩ u) base e 1 enc (.slice (some ⟨g, 0, none⟩) n cap) (xs.set i y) := by
 obtain ⟨h1, h2⟩ := h
 rcases h2 with ⟨hv, _⟩ | ⟨g', cap', cur, hv, hb, hh, hn, hc, hs, ht⟩
 ·cases hv
 ·injection hv with hv1 hv2 hv3
  injection hv1 with hv1
  injection hv1 with hv1
  subst hv1 hv3
  refine ⟨by simp [flat_len hlen], .inr ⟨g, cap, cur.setIfInBounds i u, by rw [hv2, List.length_set], hb, (show Blk w g e cur from hh).set_ i u, by simpa using hn, hc, by simpa using hs, ?_⟩⟩
  rw [flat_put hlen hu, List.length_set, ← ht, Array.toList_setIfInBounds, List.take_set]

theorem data_at (s : ByteArray) (k : Nat) (h : k < s.size) : s.data.toList[k]? = some (s[k]'h) := by
 rw [List.getElem?_eq_getElem (by simpa using h)]
 rfl
def bytesOf (xs : List ByteArray) : List (List UInt8) := xs.map fun p => p.data.toList

theorem wFold_item (l : List UInt8) : ∀ y ∈ wFold l, y.length ≤ l.length := by
 suffices h : ∀ (l : List UInt8) (xs : List (List UInt8)) (n : Nat), (∀ y ∈ xs, y.length ≤ n) → ∀ y ∈ l.foldl wStep xs, y.length ≤ n + l.length from by
  intro y hy
  have := h l [[]] 0 (by simp) y hy
  omega
 intro l
 induction l with
 | nil => intro xs n h y hy; simpa using h y hy
 | cons c l ih =>
  intro xs n h y hy
  have := ih (wStep xs c) (n + 1) (fun z hz => by
   unfold wStep at hz
   split at hz
   ·rcases List.mem_append.1 hz with hz | hz
    ·have := h z hz; omega
    ·simp at hz; subst hz; simp
   ·rcases List.mem_append.1 hz with hz | hz
    ·have := h z ((List.dropLast_sublist xs).subset hz); omega
    ·simp at hz
     subst hz
     rw [List.length_append, List.length_singleton]
     cases hl : xs.getLast? with
     | none => simp
     | some u => have := h u (List.mem_of_getLast? hl); simp; omega) y hy
  rw [List.length_cons]
  omega
theorem byte_ne {c : UInt8} (h : ¬ c = 32) : ((c.toNat : Int) == 32) = false := by
 refine beq_eq_false_iff_ne.2 fun e => h ?_
 refine UInt8.toNat_inj.1 ?_
 have : (32 : UInt8).toNat = 32 := rfl
 omega
theorem w_short (s : ByteArray) (k : Nat) (xs : List ByteArray) (h : bytesOf xs = wFold (s.data.toList.take k)) : xs.length ≤ k + 1 := by
 have h1 := congrArg List.length h
 have h2 := wFold_len (s.data.toList.take k)
 have h3 := List.length_take_le k s.data.toList
 simp only [bytesOf, List.length_map] at h1
 omega
theorem w_last (s : ByteArray) (k : Nat) (xs : List ByteArray) (h : bytesOf xs = wFold (s.data.toList.take k)) : ∃ ys p, xs = ys ++ [p] ∧ p.size ≤ k := by
 obtain ⟨bs, y, hy⟩ := wFold_ne (s.data.toList.take k)
 have h0 : xs ≠ [] := fun e => by rw [e, hy] at h; simp [bytesOf] at h
 refine ⟨xs.dropLast, xs.getLast h0, (List.dropLast_concat_getLast h0).symm, ?_⟩
 have h1 := wFold_item (s.data.toList.take k) (xs.getLast h0).data.toList (by rw [← h]; exact List.mem_map_of_mem (List.getLast_mem h0))
 have h3 := List.length_take_le k s.data.toList
 have h4 : (xs.getLast h0).data.toList.length = (xs.getLast h0).size := by simp
 omega
theorem own_last {w : World} {base e : Nat} {v : Value} {ys : List ByteArray} {p : ByteArray} (h : Own w base e 1 strC v (ys ++ [p])) : ∃ g c, v = .slice (some ⟨g, 0, none⟩) (ys.length + 1) c ∧ base ≤ g ∧ g < w.heap.size ∧ w.frozen? ⟨g, ys.length, none⟩ = false ∧ w.cell? ⟨g, ys.length, none⟩ = some (.string p) := by
 obtain ⟨h1, h2⟩ := id h
 rcases h2 with ⟨rfl, hn⟩ | ⟨g, cap, cur, rfl, hb, hh, hn, hc, hs, ht⟩
 ·simp at hn
 ·have hlt := (show Blk w g e cur from hh).lt
  refine ⟨g, cap, by simp, hb, hlt, ?_, ?_⟩
  ·exact (show Blk w g e cur from hh).frozen _
  ·rw [(show Blk w g e cur from hh).cell, ← Array.getElem?_toList]
   have h5 : (cur.toList.take ((ys ++ [p]).length * 1))[ys.length]? = some (.string p) := by
    rw [ht, flat_str]
    simp
   rw [List.getElem?_take_of_lt (by simp)] at h5
   exact h5

theorem own_at {w : World} {base e g c m : Nat} {ys : List ByteArray} {p : ByteArray} (hm : ys.length = m) (h : Own w base e 1 strC (.slice (some ⟨g, 0, none⟩) (m + 1) c) (ys ++ [p])) : g < w.heap.size ∧ w.frozen? ⟨g, m, none⟩ = false ∧ w.cell? ⟨g, m, none⟩ = some (.string p) := by
 subst hm
 obtain ⟨g', c', hv, _, h1, h2, h3⟩ := own_last h
 injection hv with hv1 _ _
 injection hv1 with hv1
 injection hv1 with hv1
 subst hv1
 exact ⟨h1, h2, h3⟩
theorem one_byte (s : ByteArray) (k : Nat) (h : k < s.size) : (s.extract k (k + 1)).data.toList = [s[k]'h] := by
 rw [ByteArray.data_extract, Array.toList_extract]
 have h1 : k < s.data.toList.length := by simpa using h
 simp only [List.extract_eq_take_drop, Nat.add_sub_cancel_left]
 rw [List.drop_eq_getElem_cons h1]
 rfl
theorem bytes_add (ys : List ByteArray) (p q : ByteArray) : bytesOf (ys ++ [p ++ q]) = bytesOf ys ++ [p.data.toList ++ q.data.toList] := by simp [bytesOf]
theorem ref_words (s : ByteArray) (w : World) (hs : s.size ≤ 1000) :
  Calls Tryz.prog 80 #[.string s] w fun e w' => ∃ v xs, e = .returned v ∧ Own w' w.heap.size 9 1 strC v xs ∧ bytesOf xs = wFold s.data.toList ∧ Below w.heap.size w w' := by
 go_enter Tryz.func80, Tryz.ntmps80
 go_wp2_with fail
 have hO := Own.nil_ w w.heap.size 9 1 strC
 have hI : Own (w.alloc (.cells #[.string ⟨#[]⟩] 9)) w.heap.size 9 1 strC (.slice (some ⟨w.heap.size, 0, none⟩) 1 1) [ByteArray.empty] := own_row strC_len (Blk.new w 9 #[.string ⟨#[]⟩]) (Nat.le_refl _) (by unfold maxLen; omega) (Nat.le_refl _) rfl rfl
 go_loopw [3, 4] (fun v i wr => ∃ (k : Nat) (xs : List ByteArray), k ≤ s.size ∧ i = I k ∧ Hid (Own wr w.heap.size 9 1 strC v xs) ∧ Hid (bytesOf xs = wFold (s.data.toList.take k)) ∧ Hid (Below w.heap.size w wr)) (fun _ i _ => s.size - (intOf i).toNat)
 case atStart => exact ⟨0, [ByteArray.empty], Nat.zero_le _, rfl, hide hI, hide rfl, hide (below1 _ _)⟩
 case round =>
  obtain ⟨k, xs, hk, rfl, hx, hw, hb⟩ := hrel
  clear hO hI
  by_cases hlt : k < s.size
  case pos =>
   have hc := data_at s k hlt
   have hws := hide ((wFold_snoc (s.data.toList.take k) (s[k]'hlt)).symm.trans (congrArg wFold (take_succ_of hc).symm))
   rw [← hw.out] at hws
   have z1 : (0 : Int) ≤ (k : Int) := by omega
   have z2 : (k : Int) < (s.size : Int) := by omega
   by_cases hsp : s[k]'hlt = 32
   case pos =>
    have q1 : ((((s[k]'hlt).toNat : Int)) == 32) = true := by rw [hsp]; rfl
    rw [hsp, wStep_sp] at hws
    have hxl := w_short s k xs hw.out
    go_wp2_with (at_builtin; refine wp_push el_str strC_len strC_one rfl (.tmp 16) (.tmp 17) rfl w.heap.size rfl (hx.out.alloc _) ByteArray.empty rfl ?c1 ?c2 ?c3 ?c4 ?_)
    case c1 => exact new_cells rfl _ (strC ByteArray.empty)
    case c2 => omega
    case c3 => omega
    case c4 => have := hb.out.size; simp only [World.size_alloc]; omega
    intro v' w' hv' hb' _
    go_wp2_with fail
    go_roundw
    case rel => exact ⟨k + 1, xs ++ [ByteArray.empty], by omega, by go_num, hide hv', hide (by rw [← hws.out]; simp [bytesOf]), hide ((hb.out.trans ((below1 _ _).mono hb.out.size)).trans hb')⟩
    case measure => simp [intOf]; omega
   case neg =>
    have q1 : ((((s[k]'hlt).toNat : Int)) == 32) = false := byte_ne hsp
    obtain ⟨ys, p, rfl, hp⟩ := w_last s k xs hw.out
    have hw1 : bytesOf (ys ++ [p]) = bytesOf ys ++ [p.data.toList] := by simp [bytesOf]
    rw [hw1, wStep_in _ _ hsp] at hws
    obtain ⟨g, c, rfl, hg, hgl, hfz, hcl⟩ := own_last hx.out
    have hyl : ys.length ≤ 1000 := by have := w_short s k _ hw.out; simp at this; omega
    obtain ⟨m, hm⟩ : ∃ m, ys.length = m := ⟨_, rfl⟩
    rw [hm] at hfz hcl hyl hx ⊢
    have z3 : (0 : Int) ≤ (m : Int) := by omega
    have z4 : (m : Int) < (m : Int) + 1 := by omega
    have t2 : ¬ 9223372036854775807 < p.size + (k + 1 - k) := by omega
    have t1 : ¬ 9223372036854775807 < p.size + 1 := by omega
    go_wp2_with fail
    (refine wp_region_grow_tail 13 (by kernel_rfl) (by kernel_rfl) ?_; simp only [List.take_succ_cons, List.take_zero, List.drop_succ_cons, List.drop_zero]; (repeat go_big_quiet_step ((skip))); refine wpQuiet_nil ?_; rintro W1 ⟨⟨_, hW1⟩, rfl⟩)
    clear hfz hcl hgl
    have hx1 := hx.out.below hW1
    obtain ⟨hgl, hfz, hcl⟩ := own_at hm hx1
    have hx2 := Own.put_at strC_len hx1 (i := m) (y := p ++ s.extract k (k + 1)) (u := .string (p ++ s.extract k (k + 1))) (by simp; omega) rfl
    have hset : (ys ++ [p]).set m (p ++ s.extract k (k + 1)) = ys ++ [p ++ s.extract k (k + 1)] := by rw [← hm]; simp
    rw [hset] at hx2
    replace hx2 := hide hx2
    have hws2 := hide (show bytesOf (ys ++ [p ++ s.extract k (k + 1)]) = wFold (s.data.toList.take (k + 1)) by
     rw [← hws.out]
     rw [bytes_add, one_byte s k hlt])
    have hb2 := hide ((hb.out.trans (hW1.mono hb.out.size)).setCell (p := ⟨g, m, none⟩) hg (.string (p ++ s.extract k (k + 1))))
    clear hx hx1 hw hws hb hW1 hset hw1
    go_wp2_with fail
    go_roundw
    case rel => exact ⟨k + 1, _, by omega, by go_num, hx2, hws2, hb2⟩
    case measure => simp [intOf]; omega
  case neg =>
   have he : k = s.size := by omega
   subst he
   have hfin : bytesOf xs = wFold s.data.toList := by
    have := hw.out
    rwa [List.take_of_length_le (by simp)] at this
   go_wp2_with fail
   go_ret
   exact ⟨_, xs, rfl, hx.out, hfin, hb.out⟩

theorem empty_of {b : ByteArray} (h : b.size = 0) : b = ⟨#[]⟩ := by
 cases b with
 | mk d => simp at h; exact h
theorem tail_of (s : ByteArray) : (s.extract 1 s.size).data.toList = s.data.toList.tail := by
 rw [ByteArray.data_extract, Array.toList_extract]
 simp only [List.extract_eq_take_drop]
 rw [List.take_of_length_le (by simp), List.drop_one]
theorem head_of (s : ByteArray) (h : 0 < s.size) : s.data.toList.head? = some (s[0]'h) := by
 rw [List.head?_eq_getElem?]
 exact data_at s 0 h
theorem byte_is {c d : UInt8} {n : Int} (h : ¬ c = d) (hd : (d.toNat : Int) = n := by rfl) : ((c.toNat : Int) == n) = false := by
 refine beq_eq_false_iff_ne.2 fun e => h ?_
 refine UInt8.toNat_inj.1 ?_
 have h1 := hd
 omega
theorem size_of (s : ByteArray) : s.data.toList.length = s.size := by simp
theorem bad_no {b : ByteArray} (p0 : 0 < b.size) (g : ¬ 14 < b.size) (neg : Bool) (h : ¬ b[0]'p0 = 48 ∨ (neg = false ∧ ¬ 1 < b.size)) : badB b.data.toList neg = false := by
 unfold badB
 rw [size_of, head_of b p0, decide_eq_false (show ¬ b.size = 0 by omega), decide_eq_false g]
 rcases h with h | ⟨rfl, h⟩
 ·simp [h]
 ·simp
  omega
theorem intF_go : ∀ (l : List UInt8) (n : Int) (j : Nat), 0 ≤ n → n < ((10 ^ j : Nat) : Int) → l.all digB = true → 0 ≤ l.foldl (fun n c => 10 * n + ((c.toNat : Int) - 48)) n ∧ l.foldl (fun n c => 10 * n + ((c.toNat : Int) - 48)) n < ((10 ^ (j + l.length) : Nat) : Int)
 | [], n, j, h0, h1, _ => ⟨h0, h1⟩
 | c :: l, n, j, h0, h1, h2 => by
  rw [List.all_cons, Bool.and_eq_true] at h2
  obtain ⟨h2, h3⟩ := h2
  simp only [digB, decide_eq_true_eq] at h2
  have h4 := intF_go l (10 * n + ((c.toNat : Int) - 48)) (j + 1) (by omega) (by rw [Nat.pow_succ]; omega) h3
  rw [show j + 1 + l.length = j + (c :: l).length from by rw [List.length_cons]; omega] at h4
  exact h4
theorem intF_bd {l : List UInt8} {N : Int} (hN : intF l = N) (h : l.all digB = true) (hl : l.length ≤ 14) : 0 ≤ N ∧ N < 100000000000000 := by
 have h1 := intF_go l 0 0 (by omega) (by decide) h
 have h2 : 10 ^ (0 + l.length) ≤ 10 ^ 14 := Nat.pow_le_pow_right (by omega) (by omega)
 rw [show (10 : Nat) ^ 14 = 100000000000000 from rfl] at h2
 unfold intF at hN
 rw [hN] at h1
 omega
theorem all_no {l : List UInt8} {k : Nat} {c : UInt8} (h : l[k]? = some c) (hc : digB c = false) : l.all digB = false := by
 rw [List.all_eq_false]
 exact ⟨c, List.mem_of_getElem? h, by rw [hc]; decide⟩
theorem digB_no {c : UInt8} (h : c.toNat < 48 ∨ 57 < c.toNat) : digB c = false := decide_eq_false (by omega)
theorem u8_wrap {x : Int} (h0 : 0 ≤ x) (h1 : x < 256) : IntKind.u8.wrap x = x := by simp [IntKind.wrap, IntKind.signed, IntKind.bits]; omega
theorem ref_Integer (s : ByteArray) (w : World) :
  Calls Tryz.prog 145 #[.string s] w fun e w' => e = .returned (.tuple #[I (intV s.data.toList).1, .bool (intV s.data.toList).2]) ∧ Below w.heap.size w w' := by
 obtain ⟨⟨vn, vo⟩, hV⟩ : ∃ v, intV s.data.toList = v := ⟨_, rfl⟩
 rw [hV]
 simp only []
 go_enter Tryz.func145, Tryz.ntmps145
 by_cases h0 : s.size = 0
 case pos =>
  have he := empty_of h0
  subst he
  go_wp2_with fail
  refine bodyPost_ret (v := .tuple #[I 0, .bool false]) (by simp [results, Tryz.results145, go_sem]) rfl ?_
  obtain ⟨rfl, rfl⟩ := Prod.mk.inj (hV.symm.trans rfl)
  exact ⟨rfl, Below.refl _ _⟩
 case neg =>
  have p0 : 0 < s.size := by omega
  by_cases hn0 : s[0]'p0 = 45
  case pos =>
   have hn : negB s.data.toList = true := by simp [negB, head_of s p0, hn0]
   have hb : bodyL s.data.toList = (s.extract 1 s.size).data.toList := by rw [bodyL, hn, tail_of]; rfl
   have y0 : (((s[0]'p0).toNat : Int) == 45) = true := by rw [hn0]; rfl
   have y1 : (1 : Int) ≤ (s.size : Int) := by omega
   go_upto_region 4 with fail
   obtain ⟨b, hbb⟩ : ∃ b, s.extract 1 s.size = b := ⟨_, rfl⟩
   rw [hbb] at hb ⊢
   clear hbb h0 p0 hn0 y0 y1
   by_cases h0 : b.size = 0
   case pos =>
    have hbad : intV s.data.toList = (0, false) := by simp [intV, hb, hn, badB, size_of, h0]
    have he := empty_of h0
    subst he
    go_wp2_with fail
    refine bodyPost_ret (v := .tuple #[I 0, .bool false]) (by simp [results, Tryz.results145, go_sem]) rfl ?_
    obtain ⟨rfl, rfl⟩ := Prod.mk.inj (hV.symm.trans hbad)
    exact ⟨rfl, Below.refl _ _⟩
   case neg =>
    have p0 : 0 < b.size := by omega
    have q0 : ((b.size : Int) == 0) = false := beq_eq_false_iff_ne.2 (by omega)
    by_cases g : 14 < b.size
    case pos =>
     have hbad : intV s.data.toList = (0, false) := by simp [intV, hb, hn, badB, size_of, g]
     have g1 : (14 : Int) < (b.size : Int) := by omega
     go_wp2_with fail
     refine bodyPost_ret (v := .tuple #[I 0, .bool false]) (by simp [results, Tryz.results145, go_sem]) rfl ?_
     obtain ⟨rfl, rfl⟩ := Prod.mk.inj (hV.symm.trans hbad)
     exact ⟨rfl, Below.refl _ _⟩
    case neg =>
     have g1 : ¬ (14 : Int) < (b.size : Int) := by omega
     by_cases z : b[0]'p0 = 48
     case pos =>
      have z1 : (((b[0]'p0).toNat : Int) == 48) = true := by rw [z]; rfl
      have hbad : intV s.data.toList = (0, false) := by simp [intV, hb, hn, badB, head_of b p0, z]
      go_wp2_with fail
      refine bodyPost_ret (v := .tuple #[I 0, .bool false]) (by simp [results, Tryz.results145, go_sem]) rfl ?_
      obtain ⟨rfl, rfl⟩ := Prod.mk.inj (hV.symm.trans hbad)
      exact ⟨rfl, Below.refl _ _⟩
     case neg =>
      have z1 : (((b[0]'p0).toNat : Int) == 48) = false := byte_is z
      have hbad : intV s.data.toList = if b.data.toList.all digB then (-intF b.data.toList, true) else (0, false) := by
       have : badB b.data.toList true = false := bad_no p0 g _ (.inl z)
       rw [intV, hb, hn, this]
       rfl
      have hfin := hide (hV.symm.trans hbad)
      clear hV hbad hn hb
      go_wp2_with fail
      go_loopw [5, 6] (fun n i wr => ∃ (k : Nat) (N : Int), k ≤ b.size ∧ n = I N ∧ i = I k ∧ wr = w ∧ Hid (intF (b.data.toList.take k) = N) ∧ Hid ((b.data.toList.take k).all digB = true)) (fun _ i _ => b.size - (intOf i).toNat)
      case atStart => exact ⟨0, 0, Nat.zero_le _, rfl, rfl, rfl, hide rfl, hide rfl⟩
      case round =>
       obtain ⟨k, N, hk, rfl, rfl, rfl, hN, hA⟩ := hrel
       obtain ⟨N0, N1⟩ := intF_bd hN.out hA.out (by simp; omega)
       by_cases hlt : k < b.size
       case pos =>
        have hc := data_at b k hlt
        have z5 : (0 : Int) ≤ (k : Int) := by omega
        have z6 : (k : Int) < (b.size : Int) := by omega
        by_cases g8 : (b[k]'hlt).toNat < 48
        case pos =>
         have d1 : decide (((b[k]'hlt).toNat : Int) < 48) = true := decide_eq_true (by omega)
         have hno := all_no hc (digB_no (.inl g8))
         go_wp2_with fail
         refine bodyPost_ret (v := .tuple #[I 0, .bool false]) (by simp [results, Tryz.results145, go_sem]) rfl ?_
         obtain ⟨rfl, rfl⟩ := Prod.mk.inj (hfin.out.trans (if_neg (by rw [hno]; decide)))
         exact ⟨rfl, Below.refl _ _⟩
        case neg =>
         have d1 : decide (((b[k]'hlt).toNat : Int) < 48) = false := decide_eq_false (by omega)
         by_cases g9 : 57 < (b[k]'hlt).toNat
         case pos =>
          have d2 : decide ((57 : Int) < ((b[k]'hlt).toNat : Int)) = true := decide_eq_true (by omega)
          have hno := all_no hc (digB_no (.inr g9))
          go_wp2_with fail
          refine bodyPost_ret (v := .tuple #[I 0, .bool false]) (by simp [results, Tryz.results145, go_sem]) rfl ?_
          obtain ⟨rfl, rfl⟩ := Prod.mk.inj (hfin.out.trans (if_neg (by rw [hno]; decide)))
          exact ⟨rfl, Below.refl _ _⟩
         case neg =>
          have d2 : decide ((57 : Int) < ((b[k]'hlt).toNat : Int)) = false := decide_eq_false (by omega)
          have hN2 := hide (show intF (b.data.toList.take (k + 1)) = 10 * N + (((b[k]'hlt).toNat : Int) - 48) by rw [take_succ_of hc, intF_snoc, hN.out])
          have hA2 := hide (show (b.data.toList.take (k + 1)).all digB = true by rw [take_succ_of hc, List.all_append, hA.out]; simp [digB]; omega)
          have d3 : IntKind.u8.wrap (((b[k]'hlt).toNat : Int) - 48) = ((b[k]'hlt).toNat : Int) - 48 := u8_wrap (by omega) (by omega)
          have d4 : IntKind.i64.wrap (10 * N) = 10 * N := IntWalk.i64_in _ (by omega)
          have d5 : IntKind.i64.wrap (10 * N + (((b[k]'hlt).toNat : Int) - 48)) = 10 * N + (((b[k]'hlt).toNat : Int) - 48) := IntWalk.i64_in _ (by omega)
          have d6 : IntKind.i64.wrap (((b[k]'hlt).toNat : Int) - 48) = ((b[k]'hlt).toNat : Int) - 48 := IntWalk.i64_in _ (by omega)
          clear hN hA
          go_wp2_with fail
          go_roundw
          case rel => exact ⟨k + 1, _, by omega, rfl, by go_num, trivial, hN2, hA2⟩
          case measure => simp [intOf]; omega
       case neg =>
        have he : k = b.size := by omega
        subst he
        rw [List.take_of_length_le (by simp)] at hN hA
        obtain ⟨rfl, rfl⟩ := Prod.mk.inj (hfin.out.trans (if_pos hA.out))
        go_wp2_with fail
        refine bodyPost_ret (v := .tuple #[I (-N), .bool true]) (by simp [results, Tryz.results145, go_sem]) rfl ?_
        rw [hN.out]
        exact ⟨rfl, Below.refl _ _⟩
  case neg =>
   have hn : negB s.data.toList = false := by simp [negB, head_of s p0, hn0]
   have hb : bodyL s.data.toList = s.data.toList := by rw [bodyL, hn]; rfl
   have y0 : (((s[0]'p0).toNat : Int) == 45) = false := byte_is hn0
   have q0 : ((s.size : Int) == 0) = false := beq_eq_false_iff_ne.2 (by omega)
 
   by_cases g : 14 < s.size
   case pos =>
    have hbad : intV s.data.toList = (0, false) := by simp [intV, hb, hn, badB, size_of, g]
    have g1 : (14 : Int) < (s.size : Int) := by omega
    go_wp2_with fail
    refine bodyPost_ret (v := .tuple #[I 0, .bool false]) (by simp [results, Tryz.results145, go_sem]) rfl ?_
    obtain ⟨rfl, rfl⟩ := Prod.mk.inj (hV.symm.trans hbad)
    exact ⟨rfl, Below.refl _ _⟩
   case neg =>
    have g1 : ¬ (14 : Int) < (s.size : Int) := by omega
    by_cases z : s[0]'p0 = 48
    case pos =>
     have z1 : (((s[0]'p0).toNat : Int) == 48) = true := by rw [z]; rfl
     by_cases g2 : 1 < s.size
     case pos =>
      have hbad : intV s.data.toList = (0, false) := by simp [intV, hb, hn, badB, size_of, head_of s p0, z, g2]
      have g3 : (1 : Int) < (s.size : Int) := by omega
      go_wp2_with fail
      refine bodyPost_ret (v := .tuple #[I 0, .bool false]) (by simp [results, Tryz.results145, go_sem]) rfl ?_
      obtain ⟨rfl, rfl⟩ := Prod.mk.inj (hV.symm.trans hbad)
      exact ⟨rfl, Below.refl _ _⟩
     case neg =>
      have g3 : ¬ (1 : Int) < (s.size : Int) := by omega
      have hbad : intV s.data.toList = if s.data.toList.all digB then (intF s.data.toList, true) else (0, false) := by
       have : badB s.data.toList false = false := bad_no p0 g _ (.inr ⟨rfl, g2⟩)
       rw [intV, hb, hn, this]
       rfl
      have hfin := hide (hV.symm.trans hbad)
      clear hV hbad hn hb
      go_wp2_with fail
      go_loopw [5, 6] (fun n i wr => ∃ (k : Nat) (N : Int), k ≤ s.size ∧ n = I N ∧ i = I k ∧ wr = w ∧ Hid (intF (s.data.toList.take k) = N) ∧ Hid ((s.data.toList.take k).all digB = true)) (fun _ i _ => s.size - (intOf i).toNat)
      case atStart => exact ⟨0, 0, Nat.zero_le _, rfl, rfl, rfl, hide rfl, hide rfl⟩
      case round =>
       obtain ⟨k, N, hk, rfl, rfl, rfl, hN, hA⟩ := hrel
       obtain ⟨N0, N1⟩ := intF_bd hN.out hA.out (by simp; omega)
       by_cases hlt : k < s.size
       case pos =>
        have hc := data_at s k hlt
        have z5 : (0 : Int) ≤ (k : Int) := by omega
        have z6 : (k : Int) < (s.size : Int) := by omega
        by_cases g8 : (s[k]'hlt).toNat < 48
        case pos =>
         have d1 : decide (((s[k]'hlt).toNat : Int) < 48) = true := decide_eq_true (by omega)
         have hno := all_no hc (digB_no (.inl g8))
         go_wp2_with fail
         refine bodyPost_ret (v := .tuple #[I 0, .bool false]) (by simp [results, Tryz.results145, go_sem]) rfl ?_
         obtain ⟨rfl, rfl⟩ := Prod.mk.inj (hfin.out.trans (if_neg (by rw [hno]; decide)))
         exact ⟨rfl, Below.refl _ _⟩
        case neg =>
         have d1 : decide (((s[k]'hlt).toNat : Int) < 48) = false := decide_eq_false (by omega)
         by_cases g9 : 57 < (s[k]'hlt).toNat
         case pos =>
          have d2 : decide ((57 : Int) < ((s[k]'hlt).toNat : Int)) = true := decide_eq_true (by omega)
          have hno := all_no hc (digB_no (.inr g9))
          go_wp2_with fail
          refine bodyPost_ret (v := .tuple #[I 0, .bool false]) (by simp [results, Tryz.results145, go_sem]) rfl ?_
          obtain ⟨rfl, rfl⟩ := Prod.mk.inj (hfin.out.trans (if_neg (by rw [hno]; decide)))
          exact ⟨rfl, Below.refl _ _⟩
         case neg =>
          have d2 : decide ((57 : Int) < ((s[k]'hlt).toNat : Int)) = false := decide_eq_false (by omega)
          have hN2 := hide (show intF (s.data.toList.take (k + 1)) = 10 * N + (((s[k]'hlt).toNat : Int) - 48) by rw [take_succ_of hc, intF_snoc, hN.out])
          have hA2 := hide (show (s.data.toList.take (k + 1)).all digB = true by rw [take_succ_of hc, List.all_append, hA.out]; simp [digB]; omega)
          have d3 : IntKind.u8.wrap (((s[k]'hlt).toNat : Int) - 48) = ((s[k]'hlt).toNat : Int) - 48 := u8_wrap (by omega) (by omega)
          have d4 : IntKind.i64.wrap (10 * N) = 10 * N := IntWalk.i64_in _ (by omega)
          have d5 : IntKind.i64.wrap (10 * N + (((s[k]'hlt).toNat : Int) - 48)) = 10 * N + (((s[k]'hlt).toNat : Int) - 48) := IntWalk.i64_in _ (by omega)
          have d6 : IntKind.i64.wrap (((s[k]'hlt).toNat : Int) - 48) = ((s[k]'hlt).toNat : Int) - 48 := IntWalk.i64_in _ (by omega)
          clear hN hA
          go_wp2_with fail
          go_roundw
          case rel => exact ⟨k + 1, _, by omega, rfl, by go_num, trivial, hN2, hA2⟩
          case measure => simp [intOf]; omega
       case neg =>
        have he : k = s.size := by omega
        subst he
        rw [List.take_of_length_le (by simp)] at hN hA
        obtain ⟨rfl, rfl⟩ := Prod.mk.inj (hfin.out.trans (if_pos hA.out))
        go_wp2_with fail
        refine bodyPost_ret (v := .tuple #[I (N), .bool true]) (by simp [results, Tryz.results145, go_sem]) rfl ?_
        rw [hN.out]
        exact ⟨rfl, Below.refl _ _⟩
    case neg =>
     have z1 : (((s[0]'p0).toNat : Int) == 48) = false := byte_is z
     have hbad : intV s.data.toList = if s.data.toList.all digB then (intF s.data.toList, true) else (0, false) := by
      have : badB s.data.toList false = false := bad_no p0 g _ (.inl z)
      rw [intV, hb, hn, this]
      rfl
     have hfin := hide (hV.symm.trans hbad)
     clear hV hbad hn hb
     go_wp2_with fail
     go_loopw [5, 6] (fun n i wr => ∃ (k : Nat) (N : Int), k ≤ s.size ∧ n = I N ∧ i = I k ∧ wr = w ∧ Hid (intF (s.data.toList.take k) = N) ∧ Hid ((s.data.toList.take k).all digB = true)) (fun _ i _ => s.size - (intOf i).toNat)
     case atStart => exact ⟨0, 0, Nat.zero_le _, rfl, rfl, rfl, hide rfl, hide rfl⟩
     case round =>
      obtain ⟨k, N, hk, rfl, rfl, rfl, hN, hA⟩ := hrel
      obtain ⟨N0, N1⟩ := intF_bd hN.out hA.out (by simp; omega)
      by_cases hlt : k < s.size
      case pos =>
       have hc := data_at s k hlt
       have z5 : (0 : Int) ≤ (k : Int) := by omega
       have z6 : (k : Int) < (s.size : Int) := by omega
       by_cases g8 : (s[k]'hlt).toNat < 48
       case pos =>
        have d1 : decide (((s[k]'hlt).toNat : Int) < 48) = true := decide_eq_true (by omega)
        have hno := all_no hc (digB_no (.inl g8))
        go_wp2_with fail
        refine bodyPost_ret (v := .tuple #[I 0, .bool false]) (by simp [results, Tryz.results145, go_sem]) rfl ?_
        obtain ⟨rfl, rfl⟩ := Prod.mk.inj (hfin.out.trans (if_neg (by rw [hno]; decide)))
        exact ⟨rfl, Below.refl _ _⟩
       case neg =>
        have d1 : decide (((s[k]'hlt).toNat : Int) < 48) = false := decide_eq_false (by omega)
        by_cases g9 : 57 < (s[k]'hlt).toNat
        case pos =>
         have d2 : decide ((57 : Int) < ((s[k]'hlt).toNat : Int)) = true := decide_eq_true (by omega)
         have hno := all_no hc (digB_no (.inr g9))
         go_wp2_with fail
         refine bodyPost_ret (v := .tuple #[I 0, .bool false]) (by simp [results, Tryz.results145, go_sem]) rfl ?_
         obtain ⟨rfl, rfl⟩ := Prod.mk.inj (hfin.out.trans (if_neg (by rw [hno]; decide)))
         exact ⟨rfl, Below.refl _ _⟩
        case neg =>
         have d2 : decide ((57 : Int) < ((s[k]'hlt).toNat : Int)) = false := decide_eq_false (by omega)
         have hN2 := hide (show intF (s.data.toList.take (k + 1)) = 10 * N + (((s[k]'hlt).toNat : Int) - 48) by rw [take_succ_of hc, intF_snoc, hN.out])
         have hA2 := hide (show (s.data.toList.take (k + 1)).all digB = true by rw [take_succ_of hc, List.all_append, hA.out]; simp [digB]; omega)
         have d3 : IntKind.u8.wrap (((s[k]'hlt).toNat : Int) - 48) = ((s[k]'hlt).toNat : Int) - 48 := u8_wrap (by omega) (by omega)
         have d4 : IntKind.i64.wrap (10 * N) = 10 * N := IntWalk.i64_in _ (by omega)
         have d5 : IntKind.i64.wrap (10 * N + (((s[k]'hlt).toNat : Int) - 48)) = 10 * N + (((s[k]'hlt).toNat : Int) - 48) := IntWalk.i64_in _ (by omega)
         have d6 : IntKind.i64.wrap (((s[k]'hlt).toNat : Int) - 48) = ((s[k]'hlt).toNat : Int) - 48 := IntWalk.i64_in _ (by omega)
         clear hN hA
         go_wp2_with fail
         go_roundw
         case rel => exact ⟨k + 1, _, by omega, rfl, by go_num, trivial, hN2, hA2⟩
         case measure => simp [intOf]; omega
      case neg =>
       have he : k = s.size := by omega
       subst he
       rw [List.take_of_length_le (by simp)] at hN hA
       obtain ⟨rfl, rfl⟩ := Prod.mk.inj (hfin.out.trans (if_pos hA.out))
       go_wp2_with fail
       refine bodyPost_ret (v := .tuple #[I (N), .bool true]) (by simp [results, Tryz.results145, go_sem]) rfl ?_
       rw [hN.out]
       exact ⟨rfl, Below.refl _ _⟩

def numI (p : ByteArray) : Int := (intV p.data.toList).1
def okI (p : ByteArray) : Bool := (intV p.data.toList).2

theorem ref_Integers (b off c : Nat) (xs : List ByteArray) (w : World) (hv : Sl w 1 strC (.slice (some ⟨b, off, none⟩) xs.length c) xs) (hl : xs.length = 3) :
  Calls Tryz.prog 81 #[.slice (some ⟨b, off, none⟩) xs.length c, I 3] w fun e w' => ∃ v, e = .returned (.tuple #[v, .bool (xs.all okI)]) ∧ (xs.all okI = true → Own w' w.heap.size 3 1 intC v (xs.map numI)) ∧ Below w.heap.size w w' := by
 obtain ⟨A, hA⟩ : ∃ A, xs.all okI = A := ⟨_, rfl⟩
 rw [hA]
 replace hA := hide hA
 replace hv := hide hv
 rw [hl]
 go_enter Tryz.func81, Tryz.ntmps81
 go_wp2_with fail
 go_loopw [6, 7] (fun l i wr => ∃ k : Nat, k ≤ 3 ∧ i = I k ∧ Hid (Own wr w.heap.size 3 1 intC l ((xs.take k).map numI)) ∧ Hid ((xs.take k).all okI = true) ∧ Hid (Below w.heap.size w wr)) (fun _ i _ => 3 - (intOf i).toNat)
 case atStart => exact ⟨0, by omega, rfl, hide (Own.nil_ _ _ _ _ _), hide rfl, hide (Below.refl _ _)⟩
 case round =>
  obtain ⟨k, hk, rfl, ho, hok, hbr⟩ := hrel
  by_cases hlt : k < 3
  case pos =>
   have z1 : (0 : Int) ≤ (k : Int) := by omega
   have z2 : (k : Int) < 3 := by omega
   obtain ⟨p, hp⟩ : ∃ p, xs[k]? = some p := ⟨xs[k]'(by omega), List.getElem?_eq_getElem (by omega)⟩
   obtain ⟨zb, cp⟩ := (hv.out.mono hbr.out).str_at hp
   have HI := ref_Integer p wr
   obtain ⟨⟨n, o⟩, hi⟩ : ∃ v, intV p.data.toList = v := ⟨_, rfl⟩
   rw [hi] at HI
   replace HI := hide HI
   cases o with
   | false =>
    have hA1 : A = false := by
     rw [← hA.out, List.all_eq_false]
     exact ⟨p, List.mem_of_getElem? hp, by simp [okI, hi]⟩
    subst hA1
    go_wp2_with (first | (go_at_call 145; refine HI.out.mono ?_; clear HI; rintro e w2 ⟨rfl, hb2⟩))
    refine bodyPost_ret (v := .tuple #[.slice none 0 0, .bool false]) (by simp [results, Tryz.results81, go_sem]) rfl ?_
    exact ⟨_, rfl, nofun, hbr.out.trans (hb2.mono hbr.out.size)⟩
   | true =>
    have hls : ((xs.take k).map numI).length = k := by simp; omega
    go_wp2_with (first | (go_at_call 145; refine HI.out.mono ?_; clear HI; rintro e w2 ⟨rfl, hb2⟩) | (at_builtin; refine wp_push el_int intC_len intC_one rfl (.tmp 30) (.tmp 32) rfl w.heap.size rfl ((ho.out.below hb2).alloc _) n rfl ?c1 ?c2 ?c3 ?c4 ?_))
    case c1 => exact new_cells (by simp) _ (intC n)
    case c2 => rw [hls]; omega
    case c3 => rw [hls]; omega
    case c4 => have h1 := hbr.out.size; have h2 := hb2.size; simp; omega
    intro v' w4 hown hbel _
    have hs1 := hbr.out.size
    have hs2 := hb2.size
    have hb4 := hide (((hbr.out.trans (hb2.mono hs1)).alloc (by omega) (.cells #[I n] 3)).trans hbel)
    have hok2 := hide (show (xs.take (k + 1)).all okI = true by rw [take_succ_of hp, List.all_append, hok.out]; simp [okI, hi])
    have ho2 := hide (show Own w4 w.heap.size 3 1 intC v' ((xs.take (k + 1)).map numI) by rw [take_succ_of hp, List.map_append]; simpa [numI, hi] using hown)
    clear hown hbel hb2 ho hok hbr hs1 hs2
    go_wp2_with fail
    go_roundw
    case rel => exact ⟨k + 1, by omega, by go_num, ho2, hok2, hb4⟩
    case measure => simp [intOf]; omega
  case neg =>
   have he : k = 3 := by omega
   subst he
   rw [List.take_of_length_le (by omega)] at ho hok
   have hA1 := hA.out.symm.trans hok.out
   subst hA1
   go_wp2_with fail
   refine bodyPost_ret (v := .tuple #[u6, .bool true]) (by simp [results, Tryz.results81, go_sem]) rfl ?_
   exact ⟨u6, rfl, ho.out, hbr.out⟩

theorem Sl.tail {w : World} {g n c : Nat} {p : ByteArray} {ps : List ByteArray} (h : Sl w 1 strC (.slice (some ⟨g, 0, none⟩) n c) (p :: ps)) : ps.length + 1 ≤ c ∧ Sl w 1 strC (.slice (some ⟨g, 1, none⟩) ps.length (c - 1)) ps := by
 obtain ⟨A', c0, hv, h1, ⟨h2, h3⟩, hr⟩ := h
 cases hv
 rw [List.length_cons] at h1 h3 hr
 obtain ⟨b, off, hA, hbw, hcell⟩ := hr (by omega)
 cases hA
 refine ⟨h1, _, c - 1, rfl, by omega, ⟨by unfold maxLen at h2 ⊢; omega, by omega⟩, fun h0 => ⟨g, 1, rfl, hbw, fun i x hx j u hu => ?_⟩⟩
 have := hcell (i + 1) x (by simpa using hx) j u hu
 rw [← this]
 congr 2
 omega
theorem own_three {w : World} {base e : Nat} {v : Value} {a b c : Int} (h : Own w base e 1 intC v [a, b, c]) : ∃ g k, v = .slice (some ⟨g, 0, none⟩) 3 k ∧ g < w.heap.size ∧ w.cell? ⟨g, 0, none⟩ = some (I a) ∧ w.cell? ⟨g, 1, none⟩ = some (I b) ∧ w.cell? ⟨g, 2, none⟩ = some (I c) := by
 obtain ⟨h1, h2⟩ := id h
 rcases h2 with ⟨rfl, hn⟩ | ⟨g, cap, cur, rfl, hb, hh, hn, hc, hs, ht⟩
 ·simp at hn
 ·have hk : Blk w g e cur := hh
  have h5 : ∀ (i : Nat) (u : Value), i < 3 → ([a, b, c].flatMap intC)[i]? = some u → w.cell? ⟨g, i, none⟩ = some u := fun i u hi hu => by
   rw [hk.cell, ← Array.getElem?_toList]
   rw [← ht, List.getElem?_take_of_lt (by simp; omega)] at hu
   exact hu
  exact ⟨g, cap, rfl, hk.lt, h5 0 _ (by omega) rfl, h5 1 _ (by omega) rfl, h5 2 _ (by omega) rfl⟩

theorem ref_ParseWeather (s : ByteArray) (w : World) (hp : Pow10 w) (hs : s.size ≤ 1000) :
  Calls Tryz.prog 23 #[.string s] w fun e w' => ∃ x f, e = .returned (.tuple #[.agg #[I x.day, I x.temp, I x.rain], I f]) ∧ Says s.data.toList x f ∧ Below w.heap.size w w' := by
 have HS := hide (fun w' => ref_words s w' hs)
 have HP := hide (fun x w' (hb : Below w.heap.size w w') => ref_PrintWeather x w' (hp.mono hb))
 go_enter Tryz.func23, Tryz.ntmps23
 go_wp2_with fail
 go_at_call 80
 refine (HS.out _).mono ?_
 rintro e w1 ⟨v, ps, rfl, hO, hsp, hb1⟩
 have hR := (Blk.new w 57 #[I 0, I 0, I 0]).grow hb1
 have B1 := bup (below1 w (.cells #[I 0, I 0, I 0] 57)) hb1
 clear HS hs
 by_cases hl : ps.length = 4
 case neg =>
  have hno : Says s.data.toList ⟨0, 0, 0⟩ 3 := .inr ⟨rfl, rfl, fun y hy he => hl (by
   have := congrArg List.length hsp
   rw [he, wFold_print] at this
   simpa [wordsL, bytesOf] using this)⟩
  obtain ⟨A, cap, rfl, _⟩ := hO.form
  replace hl := hide hl
  obtain ⟨r0, r1, r2⟩ := hR.cells3
  have f0 := hR.frozen 0
  have f1 := hR.frozen 1
  have f2 := hR.frozen 2
  have zR := hR.lt
  replace hno := hide hno
  clear hO hsp
  clear hb1
  replace B1 := hide B1
  have h2 : ((ps.length : Int) != 4) = true := by have := hl.out; simp; omega
  have hE := blk_set3 hR (I 0) (I 0) (I 0)
  replace hR := hide hR
  go_wp2_with fail
  obtain ⟨x0, x1, x2⟩ := hE.cells3
  refine bodyPost_ret (v := .tuple #[.agg #[I 0, I 0, I 0], I 3]) (by simp [results, Tryz.results23, go_sem, x0, x1, x2]) rfl ⟨⟨0, 0, 0⟩, 3, rfl, hno.out, bset (bset (bset B1.out _ _ (Nat.le_refl _) _) _ _ (Nat.le_refl _) _) _ _ (Nat.le_refl _) _⟩
 case pos =>
  obtain ⟨p0, p1, p2, p3, rfl⟩ : ∃ p0 p1 p2 p3, ps = [p0, p1, p2, p3] := by
   match ps, hl with
   | [p0, p1, p2, p3], _ => exact ⟨p0, p1, p2, p3, rfl⟩
  obtain ⟨g, c, rfl, hg, hgl, _, _⟩ := own_last (ys := [p0, p1, p2]) (p := p3) hO
  obtain ⟨hc4, hsl⟩ := (hO.sl strC_len (by simp)).tail
  simp only [List.length_cons, List.length_nil, Nat.zero_add, Nat.reduceAdd] at hsl hc4 ⊢
  have hc5 : (4 : Int) ≤ (c : Int) := by omega
  have hsays : (∀ y, printOk y = true → s.data.toList = printL y → intV p1.data.toList = (y.day, true) ∧ intV p2.data.toList = (y.temp, true) ∧ intV p3.data.toList = (y.rain, true)) := fun y hy he => by
   rw [he, wFold_print] at hsp
   simp only [wordsL, bytesOf, List.map_cons, List.map_nil, List.cons.injEq, and_true] at hsp
   have hb := printOk_bd hy
   exact ⟨hsp.2.1 ▸ intV_itoa hb.1, hsp.2.2.1 ▸ intV_itoa hb.2.1, hsp.2.2.2 ▸ intV_itoa hb.2.2⟩
  have HI := ref_Integers g 1 (c - 1) [p1, p2, p3] w1 hsl rfl
  replace hsays := hide hsays
  obtain ⟨gr, hgr⟩ : ∃ b, w.heap.size = b := ⟨_, rfl⟩
  rw [hgr] at hR ⊢
  have hgw := hgr
  replace hgw := hide hgw
  replace hR := hide hR
  replace B1 := hide B1
  clear hl hb1 hO hsp hsl
  obtain ⟨A, hA⟩ : ∃ A, [p1, p2, p3].all okI = A := ⟨_, rfl⟩
  rw [hA] at HI
  replace HI := hide HI
  go_wp2_with fail
  go_at_call 81
  refine HI.out.mono ?_
  clear HI
  rintro e w2 ⟨vI, rfl, hI, hb2⟩
  have hR2 := hR.out.grow hb2
  have B2 := bup B1.out hb2
  clear hR B1
  have hgw' := hgw.out
  obtain ⟨r0, r1, r2⟩ := hR2.cells3
  have f0 := hR2.frozen 0
  have f1 := hR2.frozen 1
  have f2 := hR2.frozen 2
  have zR := hR2.lt
  cases A with
  | false =>
   have hno : Says s.data.toList ⟨0, 0, 0⟩ 3 := .inr ⟨rfl, rfl, fun y hy he => by
    obtain ⟨e1, e2, e3⟩ := hsays.out y hy he
    simp [okI, e1, e2, e3] at hA⟩
   replace hno := hide hno
   have hEnd := hide (show ∀ x y z, Below w.heap.size w (((w2.setCell ⟨gr, 0, none⟩ x).setCell ⟨gr, 1, none⟩ y).setCell ⟨gr, 2, none⟩ z) from fun x y z => bset (bset (bset B2 _ _ (by omega) _) _ _ (by omega) _) _ _ (by omega) _)
   have hE0 := hide (blk_set3 hR2 (I 0) (I 0) (I 0))
   clear hsays hI hb2 hA hgw' B2 hR2 hgr
   go_wp2_with fail
   obtain ⟨x0, x1, x2⟩ := hE0.out.cells3
   refine bodyPost_ret (v := .tuple #[.agg #[I 0, I 0, I 0], I 3]) (by simp [results, Tryz.results23, go_sem, x0, x1, x2]) rfl ⟨⟨0, 0, 0⟩, 3, rfl, hno.out, hEnd.out _ _ _⟩
  | true =>
   have hI2 := hI rfl
   simp only [List.map_cons, List.map_nil] at hI2
   have hs2 : ∀ y, printOk y = true → s.data.toList = printL y → numI p1 = y.day ∧ numI p2 = y.temp ∧ numI p3 = y.rain := fun y hy he => by
    obtain ⟨e1, e2, e3⟩ := hsays.out y hy he
    simp [numI, e1, e2, e3]
   obtain ⟨n1, hn1⟩ : ∃ n, numI p1 = n := ⟨_, rfl⟩
   obtain ⟨n2, hn2⟩ : ∃ n, numI p2 = n := ⟨_, rfl⟩
   obtain ⟨n3, hn3⟩ : ∃ n, numI p3 = n := ⟨_, rfl⟩
   rw [hn1, hn2, hn3] at hI2
   simp only [hn1, hn2, hn3] at hs2
   obtain ⟨gI, kI, rfl, zI, i0, i1, i2⟩ := own_three hI2
   replace hs2 := hide hs2
   have hgw' := hgw.out
   clear hsays hI hI2 hA hn1 hn2 hn3 f0 f1 f2 r0 r1 r2
   replace hR2 := hide hR2
   replace B2 := hide B2
   go_wp2_with fail
   go_region_held3 (fun W => W.cell? ⟨gI, 0, none⟩ = some (I n1) ∧ W.cell? ⟨gI, 1, none⟩ = some (I n2) ∧ W.cell? ⟨gI, 2, none⟩ = some (I n3)) (go_keep) (fail)
   obtain ⟨Wz, hWz⟩ : ∃ Wz, Wz = (w2.alloc (Obj.cells #[Value.int .i64 n1, Value.int .i64 n2, Value.int .i64 n3] 57)).drew := ⟨_, rfl⟩
   rw [← hWz]
   have kz : Blk Wz w2.heap.size 57 #[I n1, I n2, I n3] := by rw [hWz]; exact (Blk.new w2 _ _).drew
   have hBz : Below w2.heap.size w2 Wz := by rw [hWz]; exact (below1 w2 _).drew
   clear hWz
   have BZ := bup B2.out hBz
   have hR2' := hide hR2
   have hR3' := hR2.out.grow hBz
   clear hR2 B2
   generalize w2.heap.size = gz at kz ⊢
   have HPx := HP.out ⟨n1, n2, n3⟩ Wz BZ
   obtain ⟨q0, q1, q2⟩ := kz.cells3
   have zg := kz.lt
   have hR2 := hide hR3'
   have kz' := hide kz
   replace BZ := hide BZ
   clear hBz kz HP hR2' i0 i1 i2 zI zR hc4 hc5 hg hgl hb2
   go_wp2_with fail
   go_at_call 21
   refine HPx.mono ?_
   rintro e w3 ⟨rfl, hb3⟩
   have kz3 := kz'.out.grow hb3
   have hR3 := hR2.out.grow hb3
   have B3 := bup BZ.out hb3
   clear kz' hR2 BZ hb3 HPx q0 q1 q2 zg
   obtain ⟨q0, q1, q2⟩ := kz3.cells3
   have zg := kz3.lt
   obtain ⟨r0, r1, r2⟩ := hR3.cells3
   have f0 := hR3.frozen 0
   have f1 := hR3.frozen 1
   have f2 := hR3.frozen 2
   have zR := hR3.lt
   have hgw' := hgw.out
   have hEnd : ∀ x y z, Below w.heap.size w (((w3.setCell ⟨gr, 0, none⟩ x).setCell ⟨gr, 1, none⟩ y).setCell ⟨gr, 2, none⟩ z) := fun x y z => bset (bset (bset B3 _ _ (by omega) _) _ _ (by omega) _) _ _ (by omega) _
   have hE0 := blk_set3 hR3 (I 0) (I 0) (I 0)
   have hE1 := blk_set3 hR3 (I n1) (I n2) (I n3)
   have hbad : (printOk ⟨n1, n2, n3⟩ = true → s.data.toList ≠ printL ⟨n1, n2, n3⟩) → Says s.data.toList ⟨0, 0, 0⟩ 3 := fun h => .inr ⟨rfl, rfl, fun y hy he => by
    obtain ⟨e1, e2, e3⟩ := hs2.out y hy he
    have : y = ⟨n1, n2, n3⟩ := by cases y; simp_all
    subst this
    exact h hy he⟩
   replace hE0 := hide hE0
   replace hE1 := hide hE1
   replace hEnd := hide hEnd
   replace hbad := hide hbad
   replace hgr := hide hgr
   clear hR3 kz3 hgw' hs2 B3
   cases ho : printOk ⟨n1, n2, n3⟩ with
   | false =>
    have h1 : printE ⟨n1, n2, n3⟩ = 60 := by simp [printE, ho]
    have hno := hide (hbad.out fun h => by rw [ho] at h; cases h)
    rw [h1]
    clear hbad ho h1
    obtain ⟨pv, hpv⟩ : ∃ v, printV ⟨n1, n2, n3⟩ = v := ⟨_, rfl⟩
    rw [hpv]
    clear hpv
    go_wp2_with fail
    obtain ⟨x0, x1, x2⟩ := hE0.out.cells3
    refine bodyPost_ret (v := .tuple #[.agg #[I 0, I 0, I 0], I 3]) (by simp [results, Tryz.results23, go_sem, x0, x1, x2]) rfl ⟨⟨0, 0, 0⟩, 3, rfl, hno.out, hEnd.out _ _ _⟩
   | true =>
    have h1 : printE ⟨n1, n2, n3⟩ = 0 := by simp [printE, ho]
    have h2 : printV ⟨n1, n2, n3⟩ = printL ⟨n1, n2, n3⟩ := by simp [printV, ho]
    rw [h1, h2]
    by_cases he : s.data.toList = printL ⟨n1, n2, n3⟩
    case neg =>
     obtain ⟨pv, hpv⟩ : ∃ pv : ByteArray, ⟨(printL ⟨n1, n2, n3⟩).toArray⟩ = pv := ⟨_, rfl⟩
     have hpl : pv.data.toList = printL ⟨n1, n2, n3⟩ := by rw [← hpv]
     have h3 : (pv.toList == s.toList) = false := by
      rw [ByteArray.toList_eq, ByteArray.toList_eq, hpl]
      exact beq_eq_false_iff_ne.2 fun h => he h.symm
     rw [hpv]
     clear hpv hpl
     have hno := hide (hbad.out fun _ => he)
     clear hbad ho h1 h2
     replace he := hide he
     go_wp2_with fail
     obtain ⟨x0, x1, x2⟩ := hE0.out.cells3
     refine bodyPost_ret (v := .tuple #[.agg #[I 0, I 0, I 0], I 3]) (by simp [results, Tryz.results23, go_sem, x0, x1, x2]) rfl ⟨⟨0, 0, 0⟩, 3, rfl, hno.out, hEnd.out _ _ _⟩
    case pos =>
     have h3 := (str_eq s _).2 he
     rw [← h3]
     have hyes : Says s.data.toList ⟨n1, n2, n3⟩ 0 := .inl ⟨rfl, ho, he⟩
     have h4 : (s.toList == s.toList) = true := by simp
     replace hyes := hide hyes
     clear hbad ho h1 h2 he h3
     go_wp2_with fail
     obtain ⟨x0, x1, x2⟩ := hE1.out.cells3
     refine bodyPost_ret (v := .tuple #[.agg #[I n1, I n2, I n3], I 0]) (by simp [results, Tryz.results23, go_sem, x0, x1, x2]) rfl ⟨⟨n1, n2, n3⟩, 0, rfl, hyes.out, hEnd.out _ _ _⟩
end Go.Proofs.YtoojedjmlcdomaaGreatDoor
