/- The package crew: walked, sites, sum, clock. Conditions stand in the theorems. -/
import Derived.Test.YtgbbljfmngmjeaaGreatCrew2Pack
import Derived.Deep.DeepCutAuto
import Derived.Laws.EntriesVeiled
set_option linter.all false
set_option maxHeartbeats 4000000
set_option maxRecDepth 20000
namespace Go.Proofs.YtgbbljfmngmjeaaGreat
open Go.RowKit

theorem walked_gives (g : Nat) (vs vt : Value) (ts : List Track) (w : World) (ht : Sl w 6 Track.cells vt ts) (hR : Blk w g 25 #[vs, vt]) (xs : List Int) :
  Gives Tryz.prog 159 #[.pointer (some ⟨g, 0, none⟩)] (I) (fun no => decide (placeT ts no < 0)) w xs := by
 intro W x _ hb
 have JT := hide (crew_track vs vt ts x W (ht.mono hb))
 have kR := hR.grow hb
 obtain ⟨r0, r1⟩ := kR.cells2
 have zR := kR.lt
 obtain ⟨A, n, rfl, _⟩ := ht.open_
 clear ht hb hR kR
 go_enter Tryz.func159, Tryz.ntmps159
 go_wp2_with (go_at_call 110; refine JT.out.mono ?_; rintro e w' ⟨rfl, hb⟩)
 go_ret
 exact ⟨rfl, hb⟩
theorem crew_walked (vs vt vl : Value) (ts : List Track) (l : List Int) (w : World) (ht : Sl w 6 Track.cells vt ts) (hl : Sl w 1 intC vl l) :
  Calls Tryz.prog 102 #[.agg #[vs, vt], vl] w fun e w' => e = .returned (.bool (walkedB ts l)) ∧ Below w.heap.size w w' := by
 obtain ⟨D, m, rfl, _⟩ := hl.open_
 obtain ⟨w1, hw1, hb1, kR⟩ := al1 w #[vs, vt] 25
 have JC := containsFunc_int _ l 159 #[.pointer (some ⟨w.heap.size, 0, none⟩)] _ w1 (hl.mono hb1) (enters_of Tryz.func159 (by kernel_rfl) rfl) (walked_gives _ vs vt ts w1 (ht.mono hb1) kR l)
 unfold walkedB
 obtain ⟨q, hq⟩ : ∃ q, (l.any fun no => decide (placeT ts no < 0)) = q := ⟨_, rfl⟩
 rw [hq] at JC ⊢
 replace JC := hide JC
 clear hq ht hl kR
 by_cases h : l.length ≤ 64
 ·have h' : (l.length : Int) ≤ 64 := by omega
  rw [decide_eq_true h]
  go_enter Tryz.func102, Tryz.ntmps102
  go_wp2_with fail
  rw [← hw1]
  clear hw1
  go_wp2_with (go_at_call 52; refine JC.out.mono ?_; rintro e w' ⟨rfl, hb⟩)
  go_ret
  exact ⟨ret_bool (by simp), bup hb1 hb⟩
 ·have h' : ¬ (l.length : Int) ≤ 64 := by omega
  rw [decide_eq_false h]
  go_enter Tryz.func102, Tryz.ntmps102
  go_wp2_with fail
  go_ret
  exact ⟨ret_bool (by simp), below1 _ _⟩

theorem sites_gives (g : Nat) (vs vt : Value) (ss : List Site) (w : World) (hs : Sl w 3 Site.cells vs ss) (hR : Blk w g 25 #[vs, vt]) (xs : List Int) :
  Gives Tryz.prog 153 #[.pointer (some ⟨g, 0, none⟩)] (I) (fun no => decide (placeS ss no < 0)) w xs := by
 intro W x _ hb
 have JT := hide (crew_site vs vt ss x W (hs.mono hb))
 have kR := hR.grow hb
 obtain ⟨r0, r1⟩ := kR.cells2
 have zR := kR.lt
 obtain ⟨A, n, rfl, _⟩ := hs.open_
 clear hs hb hR kR
 go_enter Tryz.func153, Tryz.ntmps153
 go_wp2_with (go_at_call 83; refine JT.out.mono ?_; rintro e w' ⟨rfl, hb⟩)
 go_ret
 exact ⟨rfl, hb⟩
theorem crew_sites1 (gr gl : Nat) (vs vt vl : Value) (ss : List Site) (l : List Int) (w : World) (hs : Sl w 3 Site.cells vs ss) (hl : Sl w 1 intC vl l) (hR : Blk w gr 25 #[vs, vt]) (hL : w.cell? ⟨gl, 0, none⟩ = some vl) :
  Calls Tryz.prog 152 #[.pointer (some ⟨gl, 0, none⟩), .pointer (some ⟨gr, 0, none⟩)] w fun e w' => e = .returned (.bool (sitesB ss l)) ∧ Below w.heap.size w w' := by
 obtain ⟨D, m, rfl, _⟩ := hl.open_
 have zL := World.block_lt_of_cell? _ _ hL
 have JC := containsFunc_int _ l 153 #[.pointer (some ⟨gr, 0, none⟩)] _ w hl (enters_of Tryz.func153 (by kernel_rfl) rfl) (sites_gives _ vs vt ss w hs hR l)
 unfold sitesB
 obtain ⟨q, hq⟩ : ∃ q, (l.any fun no => decide (placeS ss no < 0)) = q := ⟨_, rfl⟩
 rw [hq] at JC ⊢
 replace JC := hide JC
 clear hq hs hl hR
 go_enter Tryz.func152, Tryz.ntmps152
 go_wp2_with (go_at_call 52; refine JC.out.mono ?_; rintro e w' ⟨rfl, hb⟩)
 go_ret
 exact ⟨rfl, hb⟩
theorem crew_sites (vs vt : Value) (D : Option Addr) (n m : Nat) (w : World) :
  Calls Tryz.prog 87 #[.agg #[vs, vt], .slice D n m] w fun e w' => e = .returned (.func (.func 152) #[] #[.pointer (some ⟨w.heap.size + 1, 0, none⟩), .pointer (some ⟨w.heap.size, 0, none⟩)]) ∧ Blk w' w.heap.size 25 #[vs, vt] ∧ w'.cell? ⟨w.heap.size + 1, 0, none⟩ = some (.slice D n m) ∧ Below w.heap.size w w' := by
 go_enter Tryz.func87, Tryz.ntmps87
 go_wp2_with fail
 go_ret
 refine ⟨rfl, (Blk.new _ _ _).alloc _, ?_, below2 _ _ _⟩
 have h := Blk.new (w.alloc (.cells #[vs, vt] 25)) 38 #[.slice D n m]
 have h2 := h.cell 0
 simpa using h2

theorem sumF_snoc {ts : List Track} {l : List Int} {k : Nat} {no : Int} (h : l[k]? = some no) : sumF ts (l.take (k + 1)) = sumF ts (l.take k) + (trackAt ts no).minutes := by
 unfold sumF
 rw [List.take_succ_eq_append_getElem (List.getElem?_eq_some_iff.1 h).1, List.foldl_append, (List.getElem?_eq_some_iff.1 h).2]
 rfl
theorem sumF_bd {ss : List Site} {ts : List Track} (hr : RangeOk ss ts) : ∀ (l : List Int) (n : Int), (∀ no ∈ l, 0 ≤ placeT ts no) → n ≤ l.foldl (fun n no => n + (trackAt ts no).minutes) n ∧ l.foldl (fun n no => n + (trackAt ts no).minutes) n ≤ n + 1440 * l.length
 | [], n, _ => by simp
 | no :: l, n, h => by
  have ih := sumF_bd hr l (n + (trackAt ts no).minutes) fun x hx => h x (List.mem_cons_of_mem _ hx)
  obtain ⟨x, hx, hxa, -⟩ := trackAt_of (h no (List.mem_cons_self ..))
  have := (hr.tr (List.mem_of_getElem? hx)).minutes
  rw [hxa] at ih
  simp only [List.foldl_cons, List.length_cons, hxa]
  push_cast
  omega
theorem crew_sum (vs vt vl : Value) (ss : List Site) (ts : List Track) (l : List Int) (w : World) (ht : Sl w 6 Track.cells vt ts) (hl : Sl w 1 intC vl l) (hr : RangeOk ss ts) (h64 : l.length ≤ 64) (hp : ∀ no ∈ l, 0 ≤ placeT ts no) :
  Calls Tryz.prog 104 #[.agg #[vs, vt], vl] w fun e w' => e = .returned (I (sumF ts l)) ∧ Below w.heap.size w w' := by
 obtain ⟨A, n, rfl, _, _, hlen, hA⟩ := ht.open_
 obtain ⟨D, m, rfl, _, _, hlenl, hD⟩ := hl.open_
 have JT := hide (fun no w' (hb : Below w.heap.size w w') => crew_track vs (.slice A ts.length n) ts no w' (ht.mono hb))
 have HF := hide (fun (i : Nat) (x : Track) (hx : ts[i]? = some x) (b off : Nat) (hAb : A = some ⟨b, off, none⟩) w' (hb : Below w.heap.size w w') => (show Sl w' 6 Track.cells (.slice (some ⟨b, off, none⟩) ts.length n) ts from hAb ▸ ht.mono hb).track_at hx)
 have hbd := hide (fun k => sumF_bd hr (l.take k) 0 fun no hno => hp no (List.mem_of_mem_take hno))
 obtain ⟨w1, hw1, hb1, kR⟩ := al1 w #[vs, .slice A ts.length n] 25
 replace hl := hide hl
 replace hA := hide hA
 replace hD := hide hD
 replace kR := hide kR
 replace hr := hide hr
 replace hp := hide hp
 replace h64 := hide h64
 clear ht
 go_enter Tryz.func104, Tryz.ntmps104
 go_wp2_with fail
 rw [← hw1]
 clear hw1
 go_loopw [4, 9] (fun u i wr => ∃ k : Nat, k ≤ l.length ∧ i = I k ∧ u = I (sumF ts (l.take k)) ∧ Hid (Below w1.heap.size w1 wr)) (fun _ i _ => l.length - (intOf i).toNat)
 case atStart => exact ⟨0, Nat.zero_le _, rfl, rfl, hide (Below.refl _ _)⟩
 case round =>
  obtain ⟨k, hk, rfl, rfl, hb⟩ := hrel
  have kR2 := kR.out.grow hb.out
  obtain ⟨r0, r1⟩ := kR2.cells2
  have zR := kR2.lt
  have hbw := bup hb1 hb.out
  by_cases hlt : k < l.length
  ·obtain ⟨b2, off2, rfl, _⟩ := hD.out k hlt
   obtain ⟨no, hno⟩ := getElem?_of_lt hlt
   obtain ⟨zl, y0⟩ := ((unhide hl).mono hbw).int_at hno
   clear hD
   have hpn := hp.out no (List.mem_of_getElem? hno)
   obtain ⟨x, hx, hxa, -⟩ := trackAt_of hpn
   have hlt2 := placeT_lt hpn
   have hm := (hr.out.tr (List.mem_of_getElem? hx)).minutes
   have hsn := sumF_snoc (ts := ts) hno
   rw [hxa] at hsn
   have JX := JT.out no
   obtain ⟨p, hpp⟩ : ∃ p : Nat, placeT ts no = p := ⟨(placeT ts no).toNat, by omega⟩
   rw [hpp] at JX hx hlt2
   simp only [Int.toNat_natCast] at hx
   obtain ⟨b, off, hAb, hbb⟩ := hA.out p (by omega)
   obtain ⟨zS, f0, f1, f2, f3, f4, f5⟩ := HF.out p x hx b off hAb wr hbw
   subst hAb
   have hp0 : (0 : Int) ≤ (p : Int) := by omega
   have hS : 0 ≤ sumF ts (l.take k) ∧ sumF ts (l.take k) ≤ 92160 := by
    have h9 := hbd.out k
    have h8 := h64.out
    have h7 : (l.take k).length ≤ 64 := by rw [List.length_take]; omega
    simp only [sumF]
    omega
   obtain ⟨S, hSS⟩ : ∃ S, sumF ts (l.take k) = S := ⟨_, rfl⟩
   rw [hSS] at hsn hS ⊢
   obtain ⟨hS1, hS2⟩ := hS
   obtain ⟨hm1, hm2⟩ := hm
   replace JX := hide JX
   replace hpp := hide hpp
   replace hx := hide hx
   replace hxa := hide hxa
   replace hno := hide hno
   replace hpn := hide hpn
   replace kR2 := hide kR2
   replace hsn := hide hsn
   replace hSS := hide hSS
   clear hA HF JT hbd
   go_wp2_with fail
   (refine wp_grow ?_; (repeat go_big_quiet_step ((go_at_call 110; exact calls_grew (JX.out _ (bup hbw (Grew.below _)))))); refine wp_grow0 ?_; intro W1 hW1)
   go_wp2_with fail
   go_roundw
   case rel => exact ⟨k + 1, by omega, by go_num, by rw [hsn.out], hide (bup hb.out hW1)⟩
   case measure => simp [intOf]; omega
  ·have he : k = l.length := by omega
   subst he
   replace kR2 := hide kR2
   clear r0 r1 zR
   rw [List.take_length]
   go_wp2_with fail
   go_ret
   exact ⟨rfl, hbw⟩

theorem eg_clock : ∀ args w, (callFunc 155 args).run Tryz.prog w = .ok (.enter 155 args) w := enters_of Tryz.func155 (by kernel_rfl) rfl
theorem crew_clockOf (c : Crew) (w : World) :
  Calls Tryz.prog 93 #[.agg #[I c.hut, I c.work, I c.load]] w fun e w' => e = .returned (.agg #[.func (.func 155) #[] #[.pointer (some ⟨w.heap.size, 0, none⟩)]]) ∧ Blk w' w.heap.size 44 #[I c.hut, I c.work, I c.load] ∧ Below w.heap.size w w' := by
 obtain ⟨w2, hw2, hb, kC, kK⟩ := al2 w #[I c.hut, I c.work, I c.load] 44 #[.nilFunc] 137
 have r0 : w2.cell? ⟨w.heap.size + 1, 0, none⟩ = some .nilFunc := kK.cell 0
 have f0 : w2.frozen? ⟨w.heap.size + 1, 0, none⟩ = false := kK.frozen 0
 have z0 : w.heap.size + 1 < w2.heap.size := kK.lt
 have hl := kC.lt
 go_enter Tryz.func93, Tryz.ntmps93
 go_upto_region 1 with fail
 rw [← hw2]
 clear hw2
 have kK2 := kK.set_ 0 (.func (.func 155) #[] #[.pointer (some ⟨w.heap.size, 0, none⟩)])
 have kC2 := kC.far (p := ⟨w.heap.size + 1, 0, none⟩) (by show ¬ w.heap.size = w.heap.size + 1; omega) (.func (.func 155) #[] #[.pointer (some ⟨w.heap.size, 0, none⟩)])
 have hb2 := bset hb (w.heap.size + 1) 0 (by omega) (.func (.func 155) #[] #[.pointer (some ⟨w.heap.size, 0, none⟩)])
 clear hb kC kK
 go_wp2_with fail
 (try simp only [Exit.inBlock, Exit.then])
 refine bodyPost_ret (results_cell_row (P := Tryz.prog) rfl _ _ (w.heap.size + 1) 137 _ (0, 0) _ rfl kK2 Tryz.underlying137 rfl (by kernel_rfl)) rfl ⟨rfl, kC2, hb2⟩

theorem crew_clock (g : Nat) (c : Crew) (m n : Int) (w : World) (hC : Blk w g 44 #[I c.hut, I c.work, I c.load]) (hm : 0 ≤ m ∧ m ≤ 4398046511104) (hn : 0 ≤ n ∧ n ≤ 8) (hl : 0 ≤ c.load ∧ c.load ≤ 200) (hw : 0 ≤ c.work ∧ c.work ≤ 1440) :
  Calls Tryz.prog 155 #[I m, I n, .pointer (some ⟨g, 0, none⟩)] w fun e w' => e = .returned (I (clockF c m n)) ∧ w = w' := by
 obtain ⟨r0, r1, r2⟩ := hC.cells3
 have z := hC.lt
 have h1 : 0 ≤ m * (100 + c.load) := Int.mul_nonneg hm.1 (by omega)
 have h2 : m * (100 + c.load) ≤ 4398046511104 * 300 := Int.mul_le_mul hm.2 (by omega) (by omega) (by omega)
 have h3 : 0 ≤ n * c.work := Int.mul_nonneg hn.1 hw.1
 have h4 : n * c.work ≤ 8 * 1440 := Int.mul_le_mul hn.2 hw.2 hw.1 (by omega)
 have hfin := hide (show clockF c m n = (m * (100 + c.load) + 99) / 100 + n * c.work from rfl)
 obtain ⟨hl1, hl2⟩ := hl
 have h5 : 0 ≤ (m * (100 + c.load) + 99) / 100 := Int.ediv_nonneg (by omega) (by omega)
 have h6 : (m * (100 + c.load) + 99) / 100 ≤ 4398046511104 * 4 := by omega
 clear hC hm hn hw
 go_enter Tryz.func155, Tryz.ntmps155
 go_wp2_with fail
 go_ret
 exact ⟨ret_int hfin.out.symm, rfl⟩
end Go.Proofs.YtgbbljfmngmjeaaGreat
