/- slices.SortFunc at weathers ends, whatever order the comparison makes; where all days are days of the calendar the row is permuted. Conditions stand in the theorems. -/
import Derived.Test.YtifeniiefhpadaaGreatDoorSortOnePack
import Derived.Shelf.SlSortCmp.WholeK
set_option linter.all false
set_option maxHeartbeats 4000000
set_option maxRecDepth 100000
namespace Go.Proofs.YtifeniiefhpadaaGreatDoor
open Go.RowKit Go.Sort Go.Shelf Go.Lib

theorem sort_any (blk off cap : Nat) (d : Array Weather) (w : World) (hr : HoldsK Weather.cells 3 w blk off d) (hb : blk < w.heap.size) (hz : d.size ≤ 1000) :
  Calls Tryz.prog 7 #[.slice (some ⟨blk, off, none⟩) d.size cap, cmpV] w fun e w' => e = .returned (.tuple #[]) ∧ HS w blk off d.size w' := by
 have hS := hide (HS.start hr hb)
 obtain ⟨n, hn⟩ : ∃ n, d.size = n := ⟨_, rfl⟩
 rw [hn] at hS hz ⊢
 clear hr hb hn
 have hl1 : Lib.bitLen n ≤ 10 := Lib.bitLen_le n 10 (by omega) (by omega)
 have hl : Calls Tryz.prog 31 #[.int .u64 (n : Int)] w fun e w' => e = .returned (I (Lib.bitLen n : Nat)) ∧ w' = w := by
  have h := Any.bits_Len (SlLaysF0.n15.bits (P := Tryz.prog) (ρ := Tryz.sortW_ren) { Tryz.sortW with }) (n : Int) w (by omega) (by omega)
  rw [Int.toNat_natCast] at h
  exact h
 have hp := hs_pdq w blk off n cap hz (n + 1) 0 n (Lib.bitLen n) w (by omega) (Nat.zero_le _) (Nat.le_refl _) (by omega) hS.out
 obtain ⟨l, hl2⟩ : ∃ l, Lib.bitLen n = l := ⟨_, rfl⟩
 rw [hl2] at hl hp hl1
 clear hl2
 have hw : IntKind.u64.wrap (n : Int) = n := by simp [IntKind.wrap, IntKind.bits, IntKind.signed]; omega
 unfold cmpV at *
 replace hl := hide hl
 replace hp := hide hp
 go_enter Tryz.func7, Tryz.ntmps7
 go_wp2_with fail
 go_at_call 31
 refine hl.out.mono ?_
 rintro e w1 ⟨rfl, rfl⟩
 go_wp2_with fail
 go_at_call 30
 refine hp.out.mono ?_
 rintro e w2 ⟨rfl, h2⟩
 replace h2 := hide h2
 go_wp2_with fail
 go_end0
 exact ⟨rfl, h2.out⟩

def DayW : Type := { x : Weather // 0 ≤ x.day ∧ x.day ≤ 1048576 }
instance : Inhabited DayW := ⟨⟨⟨0, 0, 0⟩, Int.le_refl _, by decide⟩⟩
def DayW.wea (x : DayW) : Weather := x.1
def DayW.cells (x : DayW) : List Value := Weather.cells x.wea
theorem day_lt (x y : DayW) : ltOf (fun x y : DayW => cmpW x.wea y.wea) x y = decide (x.wea.day < y.wea.day) := by
 have h1 := x.2
 have h2 := y.2
 have h3 : wrap64 (x.wea.day - y.wea.day) = x.wea.day - y.wea.day := IntWalk.wrap64_in _ (by show -9223372036854775808 ≤ x.1.day - y.1.day ∧ x.1.day - y.1.day ≤ 9223372036854775807; omega)
 unfold ltOf
 refine decide_eq_decide.2 ?_
 show cmpW x.wea y.wea < 0 ↔ _
 unfold cmpW
 rw [h3]
 omega
theorem day_swo : SWO (ltOf fun x y : DayW => cmpW x.wea y.wea) where
 irrefl x := by rw [day_lt]; simp
 trans x y z h1 h2 := by rw [day_lt] at *; simp at *; omega
 ntrans x y z h1 h2 := by rw [day_lt] at *; simp at *; omega
theorem flat_day (e : Array DayW) : flatK DayW.cells 3 e = flatK Weather.cells 3 (e.map DayW.wea) := by
 unfold flatK
 rw [Array.size_map]
 refine Array.map_congr_left fun t ht => ?_
 have ht' : t / 3 < e.size := by
  have := Array.mem_range.1 ht
  omega
 have : (e.map DayW.wea)[t / 3]! = (e[t / 3]!).wea := by simp [ht']
 rw [this]
 rfl
theorem sort_good (blk off cap : Nat) (d : Array DayW) (w : World) (hr : HoldsK Weather.cells 3 w blk off (d.map DayW.wea)) (hb : blk < w.heap.size) (hz : d.size ≤ 1000) :
  Calls Tryz.prog 7 #[.slice (some ⟨blk, off, none⟩) d.size cap, cmpV] w fun e w' => e = .returned (.tuple #[]) ∧ ∃ d' : Array DayW, d'.toList.Perm d.toList ∧ HoldsK Weather.cells 3 w' blk off (d'.map DayW.wea) ∧ Keep w.heap.size (fun b => b = blk) w w' := by
 have hr' : HoldsK DayW.cells 3 w blk off d := by
  unfold HoldsK at hr ⊢
  rw [flat_day]
  exact hr
 refine (AnyQ.slices_SortFunc (P := Tryz.prog) (ρ := Tryz.sortW_ren) { Tryz.sortW with } 3 wea_agg wea_size DayW.cells (fun _ => rfl) (fun x v hv => by simp [DayW.cells, Weather.cells] at hv; rcases hv with rfl | rfl | rfl <;> rfl) (fun x y => cmpW x.wea y.wea) day_swo 8 #[] blk off cap d w cmp_enters (fun _ _ _ _ x y => cmp_closure x.wea y.wea _) hr' hb (by omega)).mono ?_
 rintro e w' ⟨rfl, d', n, os, hp, _, rfl⟩
 have S : SWK DayW.cells 3 w blk off d' (sortWorldK DayW.cells 3 w blk off n d' os) := ⟨n, os, rfl⟩
 have hs : d'.size = d.size := hp.1
 have hh := S.holds hb hr' hs
 refine ⟨rfl, d', ?_, ?_, sort_keep S⟩
 ·have h := hp.2.2
  rw [← hs, Array.extract_size, hs, Array.extract_size] at h
  exact h
 ·unfold HoldsK at hh ⊢
  rw [← flat_day]
  exact hh
end Go.Proofs.YtifeniiefhpadaaGreatDoor
/- A row of weathers of the call's own, as the sort reads it, and back. Conditions stand in the theorems. -/
namespace Go.Proofs.YtifeniiefhpadaaGreatDoor
open Go.RowKit Go.Sort Go.Shelf Go.Lib

theorem own_holds {w : World} {base e : Nat} {v : Value} {ys : List Weather} (h : Own w base e 3 Weather.cells v ys) (hn : 0 < ys.length) :
  ∃ g c, v = .slice (some ⟨g, 0, none⟩) ys.length c ∧ base ≤ g ∧ g < w.heap.size ∧ ys.length ≤ c ∧ c ≤ maxLen ∧ HoldsK Weather.cells 3 w g 0 ys.toArray := by
 obtain ⟨h1, h2⟩ := id h
 rcases h2 with ⟨rfl, h0⟩ | ⟨g, cap, cur, rfl, hb, hh, hnc, hc, hs, ht⟩
 ·omega
 ·have hk : Blk w g e cur := hh
  refine ⟨g, cap, rfl, hb, hk.lt, hnc, hc, fun j hj => ⟨?_, hk.frozen _⟩⟩
  rw [size_flatK] at hj
  have hj' : j < ys.length * 3 := by simpa using hj
  rw [get_flatK _ _ _ _ hj, Nat.zero_add, hk.cell, ← Array.getElem?_toList]
  have hi : j / 3 < ys.length := by omega
  have h5 := flat_at (enc := Weather.cells) (k := 3) Weather.cells_len ys (j / 3) (ys[j / 3]'hi) (List.getElem?_eq_getElem hi) (j % 3) ((Weather.cells (ys[j / 3]'hi))[j % 3]'(by rw [Weather.cells_len]; omega)) (List.getElem?_eq_getElem _)
  rw [show j / 3 * 3 + j % 3 = j by omega, ← ht, List.getElem?_take_of_lt hj'] at h5
  rw [h5]
  have hm : j % 3 < (Weather.cells (ys[j / 3]'hi)).length := by rw [Weather.cells_len]; omega
  simp [hi, List.getElem?_eq_getElem hm]
theorem holds_sl {w : World} {g c : Nat} {ys : List Weather} (h : HoldsK Weather.cells 3 w g 0 ys.toArray) (hg : g < w.heap.size) (hn : ys.length ≤ c) (hc : c ≤ maxLen) (hb : ys.length ≤ 100000) :
  Sl w 3 Weather.cells (.slice (some ⟨g, 0, none⟩) ys.length c) ys := by
 refine ⟨_, _, rfl, hn, ⟨hc, by omega⟩, fun _ => ⟨g, 0, rfl, hg, fun i x hx j u hu => ?_⟩⟩
 obtain ⟨hi, rfl⟩ := List.getElem?_eq_some_iff.1 hx
 have hj : j < 3 := by have := (List.getElem?_eq_some_iff.1 hu).1; rwa [Weather.cells_len] at this
 have := (HoldsK.cell h (i := i) (c := j) (by simpa using hi) hj).1
 rw [this]
 obtain ⟨hj2, rfl⟩ := List.getElem?_eq_some_iff.1 hu
 simp [hi, hj2]
theorem day_of : ∀ (ys : List Weather), (∀ y ∈ ys, 0 ≤ y.day ∧ y.day ≤ 1048576) → ∃ ds : List DayW, ds.map DayW.wea = ys
 | [], _ => ⟨[], rfl⟩
 | y :: ys, h => by
  obtain ⟨ds, hds⟩ := day_of ys fun z hz => h z (List.mem_cons_of_mem _ hz)
  exact ⟨(show DayW from ⟨y, h y (List.mem_cons_self ..)⟩) :: ds, (congrArg (List.cons y) hds : y :: ds.map DayW.wea = y :: ys)⟩
theorem sort_list (blk cap : Nat) (ys : List Weather) (w : World) (hd : ∀ y ∈ ys, 0 ≤ y.day ∧ y.day ≤ 1048576) (hr : HoldsK Weather.cells 3 w blk 0 ys.toArray) (hb : blk < w.heap.size) (hz : ys.length ≤ 1000) (hn : ys.length ≤ cap) (hc : cap ≤ maxLen) :
  Calls Tryz.prog 7 #[.slice (some ⟨blk, 0, none⟩) ys.length cap, cmpV] w fun e w' => e = .returned (.tuple #[]) ∧ ∃ zs : List Weather, zs.Perm ys ∧ Sl w' 3 Weather.cells (.slice (some ⟨blk, 0, none⟩) ys.length cap) zs ∧ Keep w.heap.size (fun b => b = blk) w w' := by
 obtain ⟨ds, rfl⟩ := day_of ys hd
 have hl : ds.toArray.size = (ds.map DayW.wea).length := by simp
 have H := sort_good blk 0 cap ds.toArray w (by simpa using hr) hb (by simp at hz ⊢; exact hz)
 rw [hl] at H
 refine H.mono ?_
 rintro e w' ⟨rfl, d', hp, hh, hk⟩
 have hp2 : (d'.toList.map DayW.wea).Perm (ds.map DayW.wea) := by simpa using hp.map DayW.wea
 have hlen := hp2.length_eq
 refine ⟨rfl, d'.toList.map DayW.wea, hp2, ?_, hk⟩
 rw [← hlen]
 have hh2 : HoldsK Weather.cells 3 w' blk 0 (d'.toList.map DayW.wea).toArray := by
  have e : (d'.toList.map DayW.wea).toArray = d'.map DayW.wea := by rw [← Array.toList_map]
  rw [e]
  exact hh
 refine holds_sl hh2 (Nat.lt_of_lt_of_le hb hk.size) (by omega) hc (by omega)
end Go.Proofs.YtifeniiefhpadaaGreatDoor
