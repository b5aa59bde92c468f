/- The package spring: PrintWeather. Conditions stand in the theorems. -/
import Derived.Test.YtifeniiefhpadaaGreatDoorItoa
import Derived.Test.YtifeniiefhpadaaGreatDoorSpring2Pack
import Derived.Lib.AppendIntMem
import Derived.Lib.ItoaLen
set_option linter.all false
set_option maxHeartbeats 4000000
set_option maxRecDepth 100000
namespace Go.Proofs.YtifeniiefhpadaaGreatDoor
open Go.RowKit

def Pow10 (w : World) : Prop := Lib.TabIs Tryz.prog w "internal/strconv.uint64pow10" .u64 Lib.pow10Tab
theorem Pow10.mono {w w' : World} (h : Pow10 w) (hb : Below w.heap.size w w') : Pow10 w' := by
 unfold Pow10 Lib.TabIs World.var? at h ⊢
 obtain ⟨g, hg⟩ : ∃ g, Tryz.prog.globalNamed "internal/strconv.uint64pow10" = some g := by
  cases hh : Tryz.prog.globalNamed "internal/strconv.uint64pow10" with
  | none => rw [hh] at h; cases h
  | some g => exact ⟨g, rfl⟩
 rw [hg] at h ⊢
 simp only [Option.bind_some] at h ⊢
 have hlt : g < w.heap.size := by
  rcases Nat.lt_or_ge g w.heap.size with h' | h'
  ·exact h'
  ·rw [Array.getElem?_eq_none h'] at h; cases h
 rw [hb.block g hlt]
 exact h
theorem itoa_of (n : Int) (h0 : -1048576 ≤ n) (h1 : n ≤ 1048576) (w : World) (hp : Pow10 w) : Calls Tryz.prog 56 #[I n] w fun e w' => e = .returned (.string ⟨(Lib.itoa n).toArray⟩) ∧ Below w.heap.size w w' := by
 refine (Tryz.strconv_Itoa n (by omega) (by omega) w hp).mono ?_
 rintro e w' ⟨h, k, os, rfl⟩
 exact ⟨h, Lib.below_grow _ w (Nat.le_refl _) k os⟩

def printOk (x : Weather) : Bool := inB x.day 0 1048576 && tempB x.temp && inB x.rain 0 1000
def printE (x : Weather) : Int := if printOk x then 0 else 60
def printL (x : Weather) : List UInt8 := [119, 101, 97, 116, 104, 101, 114, 32] ++ Lib.itoa x.day ++ [32] ++ Lib.itoa x.temp ++ [32] ++ Lib.itoa x.rain
def printV (x : Weather) : List UInt8 := if printOk x then printL x else []

theorem spring_PrintWeather (x : Weather) (w : World) (hp : Pow10 w) :
  Calls Tryz.prog 26 #[.agg #[I x.day, I x.temp, I x.rain]] w fun e w' => e = .returned (.tuple #[.string ⟨(printV x).toArray⟩, I (printE x)]) ∧ Below w.heap.size w w' := by
 cases ho : printOk x with
 | false =>
  have hE : printE x = 60 := by simp [printE, ho]
  have hV : printV x = [] := by simp [printV, ho]
  rw [hE, hV]
  have hd := fun w => spring_day x.day w
  have ht := fun w => spring_temp x.temp w
  have hr := fun w => spring_in x.rain 0 1000 w
  simp only [printOk] at ho
  cases h1 : inB x.day 0 1048576 with
  | false =>
   rw [h1] at hd
   replace hd := hide hd
   clear ho
   go_enter Tryz.func26, Tryz.ntmps26
   go_wp2_with (first | (go_at_call 35; refine (hd.out _).mono ?_; rintro e w' ⟨rfl, rfl⟩))
   go_ret2
   exact ⟨rfl, below1 _ _⟩
  | true =>
   cases h2 : tempB x.temp with
   | false =>
    rw [h1] at hd
    rw [h2] at ht
    replace hd := hide hd
    replace ht := hide ht
    clear ho
    go_enter Tryz.func26, Tryz.ntmps26
    go_wp2_with (first | (go_at_call 35; refine (hd.out _).mono ?_; rintro e w' ⟨rfl, rfl⟩) | (go_at_call 45; refine (ht.out _).mono ?_; rintro e w' ⟨rfl, rfl⟩))
    go_ret2
    exact ⟨rfl, below1 _ _⟩
   | true =>
    rw [h1, h2] at ho
    simp only [Bool.true_and] at ho
    rw [h1] at hd
    rw [h2] at ht
    rw [ho] at hr
    replace hd := hide hd
    replace ht := hide ht
    replace hr := hide hr
    clear ho
    go_enter Tryz.func26, Tryz.ntmps26
    go_wp2_with (first | (go_at_call 35; refine (hd.out _).mono ?_; rintro e w' ⟨rfl, rfl⟩) | (go_at_call 45; refine (ht.out _).mono ?_; rintro e w' ⟨rfl, rfl⟩) | (go_at_call 49; refine (hr.out _).mono ?_; rintro e w' ⟨rfl, rfl⟩))
    go_ret2
    exact ⟨rfl, below1 _ _⟩
 | true =>
  have hE : printE x = 0 := by simp [printE, ho]
  have hV : printV x = printL x := by simp [printV, ho]
  rw [hE, hV]
  have hd := fun w => spring_day x.day w
  have ht := fun w => spring_temp x.temp w
  have hr := fun w => spring_in x.rain 0 1000 w
  simp only [printOk, Bool.and_eq_true] at ho
  obtain ⟨⟨h1, h2⟩, h3⟩ := ho
  have b1 := inB_true.1 h1
  have b2 := tempB_bd h2
  have b3 := inB_true.1 h3
  rw [h1] at hd
  rw [h2] at ht
  rw [h3] at hr
  replace hd := hide hd
  replace ht := hide ht
  replace hr := hide hr
  have W0 := w.alloc (.cells #[I x.day, I x.temp, I x.rain] 28)
  have hI := fun (n : Int) (h0 : -1048576 ≤ n) (h1 : n ≤ 1048576) (W : World) (hb : Below (w.alloc (.cells #[I x.day, I x.temp, I x.rain] 28)).heap.size (w.alloc (.cells #[I x.day, I x.temp, I x.rain] 28)) W) => itoa_of n h0 h1 W (hp.mono (bup (below1 _ _) hb))
  have i1 := hI x.day (by omega) (by omega)
  have i2 := hI x.temp (by omega) (by omega)
  have i3 := hI x.rain (by omega) (by omega)
  unfold printL
  obtain ⟨l1, e1⟩ : ∃ l, Lib.itoa x.day = l := ⟨_, rfl⟩
  obtain ⟨l2, e2⟩ : ∃ l, Lib.itoa x.temp = l := ⟨_, rfl⟩
  obtain ⟨l3, e3⟩ : ∃ l, Lib.itoa x.rain = l := ⟨_, rfl⟩
  rw [e1] at i1 ⊢
  rw [e2] at i2 ⊢
  rw [e3] at i3 ⊢
  replace i1 := hide i1
  replace i2 := hide i2
  replace i3 := hide i3
  have n1 : l1.length ≤ 21 := by rw [← e1]; exact Lib.itoa_length_le _ (by omega) (by omega)
  have n2 : l2.length ≤ 21 := by rw [← e2]; exact Lib.itoa_length_le _ (by omega) (by omega)
  have n3 : l3.length ≤ 21 := by rw [← e3]; exact Lib.itoa_length_le _ (by omega) (by omega)
  have s1 : ¬ 9223372036854775807 < 8 + l1.length := by omega
  have s2 : ¬ 9223372036854775807 < 8 + l1.length + 1 := by omega
  have s3 : ¬ 9223372036854775807 < 8 + l1.length + 1 + l2.length := by omega
  have s4 : ¬ 9223372036854775807 < 8 + l1.length + 1 + l2.length + 1 := by omega
  have s5 : ¬ 9223372036854775807 < 8 + l1.length + 1 + l2.length + 1 + l3.length := by omega
  clear W0 hI h1 h2 h3 b1 b2 b3 hp e1 e2 e3 n1 n2 n3
  go_enter Tryz.func26, Tryz.ntmps26
  go_wp2_with (first | (go_at_call 35; refine (hd.out _).mono ?_; rintro e w' ⟨rfl, rfl⟩) | (go_at_call 45; refine (ht.out _).mono ?_; rintro e w' ⟨rfl, rfl⟩) | (go_at_call 49; refine (hr.out _).mono ?_; rintro e w' ⟨rfl, rfl⟩))
  (refine wp_grow ?_; (repeat go_big_quiet_step ((go_at_call 56; first | exact calls_grew (i1.out _ (Grew.below _)) | exact calls_grew (i2.out _ (Grew.below _)) | exact calls_grew (i3.out _ (Grew.below _))))); refine wp_grow0 ?_; intro W1 hW1)
  go_wp2_with fail
  go_ret2
  exact ⟨rfl, bup (below1 _ _) hW1⟩
end Go.Proofs.YtifeniiefhpadaaGreatDoor
