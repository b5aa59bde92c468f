/- pdqsort's parts at weathers, by whatever order the comparison makes: each ends, and the row keeps its size. Conditions stand in the theorems. -/
import Derived.Test.YtifeniiefhpadaaGreatDoorSortCmp
import Derived.Test.YtifeniiefhpadaaGreatDoorSortWeak
import Derived.Test.YtifeniiefhpadaaGreatDoorSpring11Pack
import Derived.Shelf.SlSortCmp.InsertionK
import Derived.Shelf.SlSortCmp.HeapSortK
import Derived.Shelf.SlSortCmp.BreakPatternsK
import Derived.Shelf.SlSortCmp.PivotK
import Derived.Shelf.SlSortCmp.ReverseRangeK
import Derived.Shelf.SlSortCmp.PartitionEqualK
import Derived.Shelf.SlSortCmp.PartitionK
import Derived.Shelf.SlSortCmp.PartialInsertionK
import Derived.Test.YtifeniiefhpadaaGreatDoorRound
set_option linter.all false
set_option maxHeartbeats 8000000
set_option maxRecDepth 1000000
namespace Go.Proofs.YtifeniiefhpadaaGreatDoor
open Go.RowKit Go.Sort Go.Shelf Go.Lib

theorem wea_agg : ∀ w, (isAgg 28).run Tryz.prog w = .ok true w := Tryz.isAgg28
theorem wea_size : ∀ w, (Go.sizeOf 28).run Tryz.prog w = .ok 3 w := Tryz.sizeOf28
structure HS (w0 : World) (blk off n : Nat) (W : World) : Prop where
 row : ∃ d : Array Weather, d.size = n ∧ HoldsK Weather.cells 3 W blk off d
 lt : blk < W.heap.size
 keep : Keep w0.heap.size (fun b => b = blk) w0 W
theorem sort_keep {α : Type} [Inhabited α] {enc : α → List Value} {k : Nat} {W W' : World} {blk off : Nat} {d : Array α} (S : SWK enc k W blk off d W') : Keep W.heap.size (fun b => b = blk) W W' := by
 obtain ⟨m, os, rfl⟩ := S
 unfold sortWorldK putRowK putRow
 refine ⟨rfl, rfl, rfl, by simp [size_grow, mapBlock, Sort.ahead], fun b hb hx => ?_⟩
 have h1 : b < (mapBlock (Sort.ahead W m) blk (putCells id off (flatK enc k d))).heap.size := by simpa [mapBlock, Sort.ahead] using hb
 simp only [grow]
 rw [Array.getElem?_append_left h1]
 simp only [mapBlock, Sort.ahead]
 rw [Array.getElem?_modify, if_neg (fun e => hx e.symm)]
theorem HS.start {w0 : World} {blk off : Nat} {d : Array Weather} (h : HoldsK Weather.cells 3 w0 blk off d) (hb : blk < w0.heap.size) : HS w0 blk off d.size w0 := ⟨⟨d, rfl, h⟩, hb, .refl _ _ _⟩
theorem HS.grow {w0 W W1 : World} {blk off n : Nat} (h : HS w0 blk off n W) (hb : Below W.heap.size W W1) : HS w0 blk off n W1 := by
 obtain ⟨⟨d, hd, hr⟩, hl, hk⟩ := h
 have e := hb.block blk hl
 refine ⟨⟨d, hd, fun j hj => ?_⟩, Nat.lt_of_lt_of_le hl hb.size, hk.trans (.of_below hb hk.size)⟩
 have := hr j hj
 simpa [World.cell?, World.frozen?, e] using this
theorem wea_row {W : World} {blk off : Nat} {d : Array Weather} (h : HoldsK Weather.cells 3 W blk off d) (hb : blk < W.heap.size) : RowK Weather.cells 3 W blk off d := ⟨fun _ => rfl, fun x v hv => by simp [Weather.cells] at hv; rcases hv with rfl | rfl | rfl <;> rfl, h, hb⟩
theorem HS.step {w0 W W' : World} {blk off n : Nat} {d d' : Array Weather} (h : HS w0 blk off n W) (hd : d.size = n) (hr : HoldsK Weather.cells 3 W blk off d) (S : SWK Weather.cells 3 W blk off d' W') (hs : d'.size = n) : HS w0 blk off n W' :=
 ⟨⟨d', hs, S.holds h.lt hr (by omega)⟩, S.lt h.lt, h.keep.trans (by
  have k := sort_keep S
  exact ⟨k.os, k.tape, k.output, k.size, fun b h1 h2 => k.block b (Nat.lt_of_lt_of_le h1 h.keep.size) h2⟩)⟩
def cmpV : Value := .func (.func 8) #[] #[]
section
variable {w0 W : World} {blk off n cap a b p : Nat}

theorem hs_ins (hz : n < 4611686018427387904) (hab : a ≤ b) (hb : b ≤ n) (h : HS w0 blk off n W) :
  Calls Tryz.prog 64 #[.slice (some ⟨blk, off, none⟩) n cap, I a, I b, cmpV] W fun e w' => e = .returned (.tuple #[]) ∧ HS w0 blk off n w' := by
 obtain ⟨d, rfl, hr⟩ := h.row
 have R := wea_row hr h.lt
 refine (AnyQ.insertionSortCmpFunc (P := Tryz.prog) (ρ := Tryz.sortW_ren) { Tryz.sortW with } 3 wea_agg wea_size Weather.cells R.hk R.h1 cmpW 8 #[] blk off cap a b d W cmp_enters (cmp_lays _ _ _ _) hr h.lt hab hb hz).mono ?_
 rintro e w' ⟨rfl, m, os, rfl⟩
 exact ⟨rfl, h.step rfl hr ⟨m, os, rfl⟩ (weak_ins _ _ _ _)⟩
theorem hs_heap (hz : n < 4611686018427387904) (hab : a ≤ b) (hb : b ≤ n) (h : HS w0 blk off n W) :
  Calls Tryz.prog 65 #[.slice (some ⟨blk, off, none⟩) n cap, I a, I b, cmpV] W fun e w' => e = .returned (.tuple #[]) ∧ HS w0 blk off n w' := by
 obtain ⟨d, rfl, hr⟩ := h.row
 have R := wea_row hr h.lt
 refine (AnyQ.heapSortCmpFunc (P := Tryz.prog) (ρ := Tryz.sortW_ren) { Tryz.sortW with } 3 wea_agg wea_size Weather.cells cmpW 8 #[] blk off cap a b d d W W cmp_enters (cmp_lays _ _ _ _) R rfl (.start hr) hab hb hz).mono ?_
 rintro e w' ⟨rfl, S'⟩
 exact ⟨rfl, h.step rfl hr S' (weak_heap _ _ _ _)⟩
theorem hs_break (hz : n < 4611686018427387904) (hab : a ≤ b) (hb : b ≤ n) (h : HS w0 blk off n W) :
  Calls Tryz.prog 66 #[.slice (some ⟨blk, off, none⟩) n cap, I a, I b, cmpV] W fun e w' => e = .returned (.tuple #[]) ∧ HS w0 blk off n w' := by
 obtain ⟨d, rfl, hr⟩ := h.row
 have R := wea_row hr h.lt
 refine (AnyQ.breakPatternsCmpFunc (P := Tryz.prog) (ρ := Tryz.sortW_ren) { Tryz.sortW with } 3 wea_agg wea_size Weather.cells 8 #[] blk off cap a b d d W W R rfl (.start hr) hab hb hz).mono ?_
 rintro e w' ⟨rfl, S'⟩
 exact ⟨rfl, h.step rfl hr S' (weak_break _ _ _ hab hb)⟩
theorem hs_rev (hz : n < 4611686018427387904) (hab : a ≤ b) (hb : b ≤ n) (h : HS w0 blk off n W) :
  Calls Tryz.prog 68 #[.slice (some ⟨blk, off, none⟩) n cap, I a, I b, cmpV] W fun e w' => e = .returned (.tuple #[]) ∧ HS w0 blk off n w' := by
 obtain ⟨d, rfl, hr⟩ := h.row
 have R := wea_row hr h.lt
 refine (AnyQ.reverseRangeCmpFunc (P := Tryz.prog) (ρ := Tryz.sortW_ren) { Tryz.sortW with } 3 wea_agg wea_size Weather.cells 8 #[] blk off cap a b d d W W R rfl (.start hr) hab hb hz).mono ?_
 rintro e w' ⟨rfl, S'⟩
 exact ⟨rfl, h.step rfl hr S' (weak_rev _ _ _ hab hb)⟩
theorem hs_pivot (hz : n < 4611686018427387904) (hab : a < b) (hb : b ≤ n) (h : HS w0 blk off n W) :
  Calls Tryz.prog 67 #[.slice (some ⟨blk, off, none⟩) n cap, I a, I b, cmpV] W fun e w' => ∃ (p : Nat) (q : Int), e = .returned (.tuple #[I p, I q]) ∧ (a ≤ p ∧ p < b) ∧ HS w0 blk off n w' := by
 obtain ⟨d, rfl, hr⟩ := h.row
 have R := wea_row hr h.lt
 refine (AnyQ.choosePivotCmpFunc (P := Tryz.prog) (ρ := Tryz.sortW_ren) { Tryz.sortW with } 3 wea_agg wea_size Weather.cells cmpW 8 #[] blk off cap a b d d W W cmp_enters (cmp_lays _ _ _ _) R rfl (.start hr) hab hb hz).mono ?_
 rintro e w' ⟨rfl, S'⟩
 exact ⟨_, _, rfl, choosePivot_holds (ltOf cmpW) d a b hab, h.step rfl hr S' rfl⟩
theorem hs_partial (hz : n < 4611686018427387904) (hab : a < b) (hb : b ≤ n) (h : HS w0 blk off n W) :
  Calls Tryz.prog 69 #[.slice (some ⟨blk, off, none⟩) n cap, I a, I b, cmpV] W fun e w' => ∃ q : Bool, e = .returned (.bool q) ∧ HS w0 blk off n w' := by
 obtain ⟨d, rfl, hr⟩ := h.row
 have R := wea_row hr h.lt
 refine (AnyQ.partialInsertionSortCmpFunc (P := Tryz.prog) (ρ := Tryz.sortW_ren) { Tryz.sortW with } 3 wea_agg wea_size Weather.cells cmpW 8 #[] blk off cap a b d d W W cmp_enters (cmp_lays _ _ _ _) R rfl (.start hr) hab hb hz).mono ?_
 rintro e w' ⟨rfl, S'⟩
 exact ⟨_, rfl, h.step rfl hr S' (weak_partial _ _ _ _)⟩
theorem hs_equal (hz : n < 4611686018427387904) (hap : a ≤ p) (hpb : p < b) (hb : b ≤ n) (h : HS w0 blk off n W) :
  Calls Tryz.prog 70 #[.slice (some ⟨blk, off, none⟩) n cap, I a, I b, I p, cmpV] W fun e w' => ∃ m : Nat, e = .returned (I m) ∧ (a < m ∧ m ≤ b) ∧ HS w0 blk off n w' := by
 obtain ⟨d, rfl, hr⟩ := h.row
 have R := wea_row hr h.lt
 refine (AnyQ.partitionEqualCmpFunc (P := Tryz.prog) (ρ := Tryz.sortW_ren) { Tryz.sortW with } 3 wea_agg wea_size Weather.cells cmpW 8 #[] blk off cap a b p d d W W cmp_enters (cmp_lays _ _ _ _) R rfl (.start hr) hap hpb hb hz).mono ?_
 rintro e w' ⟨rfl, S'⟩
 obtain ⟨h1, h2, h3⟩ := weak_partEq (ltOf cmpW) d a b p hap hpb hb
 exact ⟨_, rfl, ⟨h1, h2⟩, h.step rfl hr S' h3⟩
theorem hs_part (hz : n < 4611686018427387904) (hap : a ≤ p) (hpb : p < b) (hb : b ≤ n) (h : HS w0 blk off n W) :
  Calls Tryz.prog 71 #[.slice (some ⟨blk, off, none⟩) n cap, I a, I b, I p, cmpV] W fun e w' => ∃ (m : Nat) (q : Bool), e = .returned (.tuple #[I m, .bool q]) ∧ (a ≤ m ∧ m < b) ∧ HS w0 blk off n w' := by
 obtain ⟨d, rfl, hr⟩ := h.row
 have R := wea_row hr h.lt
 refine (AnyQ.partitionCmpFunc (P := Tryz.prog) (ρ := Tryz.sortW_ren) { Tryz.sortW with } 3 wea_agg wea_size Weather.cells cmpW 8 #[] blk off cap a b p d d W W cmp_enters (cmp_lays _ _ _ _) R rfl (.start hr) hap hpb hb hz).mono ?_
 rintro e w' ⟨rfl, S'⟩
 obtain ⟨h1, h2, h3⟩ := weak_part (ltOf cmpW) d a b p hap hpb hb
 exact ⟨_, _, rfl, ⟨h1, h2⟩, h.step rfl hr S' h3⟩
end
end Go.Proofs.YtifeniiefhpadaaGreatDoor
/- pdqsort at weathers ends, whatever order the comparison makes. Conditions stand in the theorems. -/
namespace Go.Proofs.YtifeniiefhpadaaGreatDoor
open Go.RowKit Go.Sort Go.Shelf Go.Lib

theorem HS.at_ {w0 W : World} {blk off n : Nat} (h : HS w0 blk off n W) {i : Nat} (hi : i < n) : ∃ x : Weather, W.cell? ⟨blk, off + i * 3, none⟩ = some (I x.day) ∧ W.cell? ⟨blk, off + i * 3 + 1, none⟩ = some (I x.temp) ∧ W.cell? ⟨blk, off + i * 3 + 2, none⟩ = some (I x.rain) := by
 obtain ⟨d, rfl, hr⟩ := h.row
 have h0 := HoldsK.cell hr (c := 0) hi (by omega) |>.1
 have h1 := HoldsK.cell hr (c := 1) hi (by omega) |>.1
 have h2 := HoldsK.cell hr (c := 2) hi (by omega) |>.1
 refine ⟨d[i]!, ?_, ?_, ?_⟩
 ·simpa [Weather.cells, Nat.add_assoc] using h0
 ·simpa [Weather.cells, Nat.add_assoc] using h1
 ·simpa [Weather.cells, Nat.add_assoc] using h2
theorem cmp_below (x y : Weather) (W : World) : Calls Tryz.prog 8 #[.agg #[I x.day, I x.temp, I x.rain], .agg #[I y.day, I y.temp, I y.rain]] W fun e w' => e = .returned (I (cmpW x y)) ∧ Below W.heap.size W w' := by
 go_enter Tryz.func8, Tryz.ntmps8
 go_wp2_with fail
 go_ret
 exact ⟨rfl, below2 _ _ _⟩

theorem hs_pdq (w0 : World) (blk off n cap : Nat) (hz : n ≤ 1000) : ∀ (N a b lim : Nat) (W : World), b - a < N → a ≤ b → b ≤ n → lim ≤ 1000 → HS w0 blk off n W →
  Calls Tryz.prog 30 #[.slice (some ⟨blk, off, none⟩) n cap, I a, I b, I lim, cmpV] W fun e w' => e = .returned (.tuple #[]) ∧ HS w0 blk off n w' := by
 have H1 := fun (a b : Nat) (W : World) (hab : a ≤ b) (hb : b ≤ n) (h : HS w0 blk off n W) => hs_ins (cap := cap) (by omega) hab hb h
 have H2 := fun (a b : Nat) (W : World) (hab : a ≤ b) (hb : b ≤ n) (h : HS w0 blk off n W) => hs_heap (cap := cap) (by omega) hab hb h
 have H3 := fun (a b : Nat) (W : World) (hab : a ≤ b) (hb : b ≤ n) (h : HS w0 blk off n W) => hs_break (cap := cap) (by omega) hab hb h
 have H4 := fun (a b : Nat) (W : World) (hab : a < b) (hb : b ≤ n) (h : HS w0 blk off n W) => hs_pivot (cap := cap) (by omega) hab hb h
 have H5 := fun (a b : Nat) (W : World) (hab : a ≤ b) (hb : b ≤ n) (h : HS w0 blk off n W) => hs_rev (cap := cap) (by omega) hab hb h
 have H6 := fun (a b : Nat) (W : World) (hab : a < b) (hb : b ≤ n) (h : HS w0 blk off n W) => hs_partial (cap := cap) (by omega) hab hb h
 have H7 := fun (a b p : Nat) (W : World) (hap : a ≤ p) (hpb : p < b) (hb : b ≤ n) (h : HS w0 blk off n W) => hs_equal (cap := cap) (by omega) hap hpb hb h
 have H8 := fun (a b p : Nat) (W : World) (hap : a ≤ p) (hpb : p < b) (hb : b ≤ n) (h : HS w0 blk off n W) => hs_part (cap := cap) (by omega) hap hpb hb h
 unfold cmpV at *
 replace H1 := hide H1
 replace H2 := hide H2
 replace H3 := hide H3
 replace H4 := hide H4
 replace H5 := hide H5
 replace H6 := hide H6
 replace H7 := hide H7
 replace H8 := hide H8
 intro N
 induction N with
 | zero => intro _ _ _ _ h; exact absurd h (Nat.not_lt_zero _)
 | succ N ih =>
  intro a0 b0 lim0 W hN0 hab0 hb0 hl0 hS0
  replace ih := hide ih
  replace hS0 := hide hS0
  go_enter Tryz.func30, Tryz.ntmps30
  go_wp2_with fail
  go_loopw [1, 2, 3, 10, 11] (fun s1 s2 s3 s10 s11 wr => ∃ (a b lim : Nat) (wb wp : Bool), s1 = I a ∧ s2 = I b ∧ s3 = I lim ∧ s10 = .bool wb ∧ s11 = .bool wp ∧ a ≤ b ∧ b ≤ n ∧ lim ≤ 1000 ∧ b - a < N + 1 ∧ Hid (HS w0 blk off n wr)) (fun s1 s2 _ _ _ _ => (intOf s2 - intOf s1).toNat)
  case atStart => exact ⟨a0, b0, lim0, true, true, rfl, rfl, rfl, rfl, rfl, hab0, hb0, hl0, hN0, hS0⟩
  case round =>
   clear hS0 hN0 hab0 hb0 hl0
   obtain ⟨a, b, lim, wb, wp, rfl, rfl, rfl, rfl, rfl, hab, hb, hl, hN, hS⟩ := hrel
   by_cases c1 : b - a ≤ 12
   case pos =>
    have c2 : (b : Int) - (a : Int) ≤ 12 := by omega
    go_wp2_with fail
    go_at_call 64
    refine (H1.out a b wr hab hb hS.out).mono ?_
    rintro e w1 ⟨rfl, h1⟩
    replace h1 := hide h1
    go_wp2_with fail
    refine bodyPost_ret (v := .tuple #[]) (by simp [results, Tryz.results30, go_sem]) rfl ?_
    exact ⟨rfl, h1.out⟩
   case neg =>
    have c2 : ¬ (b : Int) - (a : Int) ≤ 12 := by omega
    by_cases c3 : lim = 0
    case pos =>
     have c4 : ((lim : Int) == 0) = true := by simp [c3]
     replace c3 := hide c3
     go_wp2_with fail
     go_at_call 65
     refine (H2.out a b wr hab hb hS.out).mono ?_
     rintro e w1 ⟨rfl, h1⟩
     replace h1 := hide h1
     go_wp2_with fail
     refine bodyPost_ret (v := .tuple #[]) (by simp [results, Tryz.results30, go_sem]) rfl ?_
     exact ⟨rfl, h1.out⟩
    case neg =>
     have c4 : ((lim : Int) == 0) = false := by simpa using c3
     go_upto_if 39 with fail
     go_cut [3] from 40 to 46 (fun s3 w_ => ∃ l : Nat, s3 = I l ∧ l ≤ 1000 ∧ Hid (HS w0 blk off n w_))
     case first =>
      cases wb with
      | true =>
       go_wp2_with fail
       go_meet
       exact ⟨lim, rfl, hl, hS⟩
      | false =>
       have c5 : (0 : Int) ≤ (lim : Int) - 1 := by omega
       go_wp2_with fail
       go_at_call 66
       refine (H3.out a b wr hab hb hS.out).mono ?_
       rintro e w1 ⟨rfl, h1⟩
       replace h1 := hide h1
       go_wp2_with fail
       go_meet
       refine ⟨lim - 1, ?_, by omega, h1⟩
       show I _ = I _
       congr 1
       omega
     case rest =>
     obtain ⟨l, rfl, hl2, hS1⟩ := hcut
     clear hS hl c4 c3
     obtain ⟨w2, hw2⟩ : ∃ W, wc = W := ⟨_, rfl⟩
     rw [hw2] at hS1 ⊢
     clear hw2
     go_wp2_with fail
     go_at_call 67
     refine (H4.out a b w2 (by omega) hb hS1.out).mono ?_
     rintro e w3 ⟨p, q, rfl, hp, h3⟩
     replace h3 := hide h3
     clear hS1
     go_upto_if 56 with fail
     go_cut [13, 14] from 56 to 67 (fun s13 s14 w_ => ∃ (p : Nat) (q : Int), s13 = I p ∧ s14 = I q ∧ a ≤ p ∧ p < b ∧ Hid (HS w0 blk off n w_))
     case first =>
      cases hq : (q == 2) with
      | false =>
       go_wp2_with fail
       go_meet
       exact ⟨p, q, rfl, rfl, hp.1, hp.2, h3⟩
      | true =>
       go_wp2_with fail
       go_at_call 68
       refine (H5.out a b w3 hab hb h3.out).mono ?_
       rintro e w4 ⟨rfl, h4⟩
       replace h4 := hide h4
       go_wp2_with fail
       go_meet
       refine ⟨b - 1 - (p - a), 1, ?_, rfl, by omega, by omega, h4⟩
       show I _ = I _
       congr 1
       omega
     case rest =>
     clear hp h3
     obtain ⟨p, q, rfl, rfl, hp1, hp2, hS2⟩ := hcut
     obtain ⟨w5, hw5⟩ : ∃ W, wc = W := ⟨_, rfl⟩
     rw [hw5] at hS2 ⊢
     clear hw5
     go_upto_region 15 with fail
     go_cut [75] from 68 to 75 (fun s75 w_ => ∃ r : Bool, s75 = .bool r ∧ w5 = w_)
     case first =>
      cases wb with
      | false =>
       go_wp2_with fail
       go_meet
       exact ⟨false, rfl, rfl⟩
      | true =>
       cases wp with
       | false =>
        go_wp2_with fail
        go_meet
        exact ⟨false, rfl, rfl⟩
       | true =>
        go_wp2_with fail
        go_meet
        exact ⟨_, rfl, rfl⟩
     case rest =>
     obtain ⟨r, rfl, rfl⟩ := hcut
     go_upto_if 75 with fail
     go_cut [13] from 76 to 80 (fun s13 w_ => s13 = I p ∧ Hid (HS w0 blk off n w_))
     case first =>
      cases r with
      | false =>
       go_wp2_with fail
       go_meet
       exact ⟨rfl, hS2⟩
      | true =>
       go_wp2_with fail
       go_at_call 69
       refine (H6.out a b w5 (by omega) hb hS2.out).mono ?_
       rintro e w6 ⟨r, rfl, h6⟩
       replace h6 := hide h6
       cases r with
       | true =>
        go_wp2_with fail
        refine bodyPost_ret (v := .tuple #[]) (by simp [results, Tryz.results30, go_sem]) rfl ?_
        exact ⟨rfl, h6.out⟩
       | false =>
        go_wp2_with fail
        go_meet
        exact ⟨rfl, h6⟩
     case rest =>
     clear hS2
     obtain ⟨rfl, hS3⟩ := hcut
     obtain ⟨w7, hw7⟩ : ∃ W, wc = W := ⟨_, rfl⟩
     rw [hw7] at hS3 ⊢
     clear hw7
     go_upto_region 17 with fail
     go_cut [97] from 81 to 97 (fun s97 w_ => ∃ r : Bool, s97 = .bool r ∧ Hid (HS w0 blk off n w_))
     case first =>
      by_cases ha : 0 < a
      case neg =>
       have d1 : decide ((0 : Int) < (a : Int)) = false := decide_eq_false (by omega)
       have d2 : decide (0 < a) = false := decide_eq_false ha
       replace ha := hide ha
       (refine wp_grow ?_; (repeat go_big_quiet_step (fail)); refine wp_grow0 ?_; intro W1 hW1)
       go_wp2_with fail
       go_meet
       exact ⟨false, rfl, hide (hS3.out.grow hW1)⟩
      case pos =>
       have d1 : decide ((0 : Int) < (a : Int)) = true := decide_eq_true (by omega)
       have d2 : decide (0 < a) = true := decide_eq_true ha
       obtain ⟨x, x0, x1, x2⟩ := hS3.out.at_ (i := a - 1) (by omega)
       obtain ⟨y, y0, y1, y2⟩ := hS3.out.at_ (i := p) (by omega)
       have zl := hS3.out.lt
       have z1 : (0 : Int) ≤ (a : Int) - 1 := by omega
       have z2 : (a : Int) - 1 < (n : Int) := by omega
       have z3 : (0 : Int) ≤ (p : Int) := by omega
       have z4 : (p : Int) < (n : Int) := by omega
       have z5 : IntKind.i64.wrap ((a : Int) - 1) = (a : Int) - 1 := IntWalk.i64_in _ (by omega)
       have z6 : ((a : Int) - 1).toNat = a - 1 := by omega
       (refine wp_grow ?_; (repeat go_big_quiet_step ((go_at_call 8; exact calls_grew (cmp_below x y _)))); refine wp_grow0 ?_; intro W1 hW1)
       go_wp2_with fail
       go_meet
       exact ⟨_, rfl, hide (hS3.out.grow hW1)⟩
     case rest =>
     clear hS3
     obtain ⟨r, rfl, hS3⟩ := hcut
     obtain ⟨w8, hw8⟩ : ∃ W, wc = W := ⟨_, rfl⟩
     rw [hw8] at hS3 ⊢
     clear hw8
     cases r with
     | true =>
      go_wp2_with fail
      go_at_call 70
      refine (H7.out a b p w8 hp1 hp2 hb hS3.out).mono ?_
      rintro e w9 ⟨m, rfl, hm, h9⟩
      replace h9 := hide h9
      go_wp2_with fail
      go_roundw
      case rel => exact ⟨m, b, l, wb, wp, rfl, rfl, rfl, rfl, rfl, hm.2, hb, hl2, by omega, h9⟩
      case measure => simp [intOf]; omega
     | false =>
      go_wp2_with fail
      go_at_call 71
      refine (H8.out a b p w8 hp1 hp2 hb hS3.out).mono ?_
      rintro e w9 ⟨m, q9, rfl, hm, h9⟩
      replace h9 := hide h9
      by_cases hlr : (m : Int) - (a : Int) < (b : Int) - (m : Int)
      case pos =>
       go_wp2_with fail
       go_at_call 30
       refine (ih.out a m l w9 (by omega) hm.1 (by omega) hl2 h9.out).mono ?_
       rintro e wx ⟨rfl, hx⟩
       replace hx := hide hx
       go_wp2_with fail
       go_roundw
       case rel => exact ⟨m + 1, b, l, _, q9, by go_num, rfl, rfl, rfl, rfl, by omega, hb, hl2, by omega, hx⟩
       case measure => simp [intOf]; omega
      case neg =>
       go_wp2_with fail
       go_at_call 30
       refine (ih.out (m + 1) b l w9 (by omega) (by omega) hb hl2 h9.out).mono ?_
       rintro e wx ⟨rfl, hx⟩
       replace hx := hide hx
       go_wp2_with fail
       go_roundw
       case rel => exact ⟨a, m, l, _, q9, rfl, rfl, rfl, rfl, rfl, hm.1, by omega, hl2, by omega, hx⟩
       case measure => simp [intOf]; omega
end Go.Proofs.YtifeniiefhpadaaGreatDoor
