/- The package spring: numeral. Conditions stand in the theorems. -/
import Derived.Test.YtoojedjmlcdomaaGreatDoorOneTxt
import Derived.Test.YtoojedjmlcdomaaGreatDoorShSplit
import Derived.Laws.RangeAny
import Derived.Laws.RangeString
import Derived.Lib.OthersKept
set_option linter.all false
set_option maxHeartbeats 4000000
set_option maxRecDepth 1000000
namespace Go.Proofs.YtoojedjmlcdomaaGreatDoor
open Go.RowKit

theorem width_pos (s : ByteArray) (pos : Nat) (h : pos < s.size) : 1 ≤ (Utf8.decode s pos).2 := by
 by_cases ha : (s[pos]'h).toNat < 128
 ·rw [decode_ascii s pos h ha]
  exact Nat.le_refl _
 ·exact (decode_high s pos h (by omega)).2

def numGo (s : ByteArray) : Nat → Nat → Int → Int
 | 0, _, n => n
 | f + 1, pos, n => if pos < s.size then numGo s f (pos + (Utf8.decode s pos).2) (stepD n (Utf8.decode s pos).1) else n
theorem numGo_end (s : ByteArray) (b pos : Nat) (n : Int) (h : ¬ pos < s.size) : numGo s b pos n = n := by
 cases b with
 | zero => rfl
 | succ b => simp [numGo, h]
theorem numGo_ascii (s : ByteArray) (ha : ∀ c ∈ s.data.toList, c.toNat < 128) : ∀ (b pos : Nat) (n : Int), s.size ≤ pos + b → numGo s b pos n = (s.data.toList.drop pos).foldl (fun n c => stepD n c.toNat) n
 | 0, pos, n, h => by
  rw [List.drop_eq_nil_of_le (by simp; omega)]
  rfl
 | b + 1, pos, n, h => by
  by_cases hp : pos < s.size
  ·have hl : pos < s.data.toList.length := by simpa using hp
   have hc : s.data.toList[pos]? = some (s[pos]'hp) := by
    rw [List.getElem?_eq_getElem hl]
    rfl
   have hb := ha _ (List.mem_of_getElem? hc)
   have he : s.data.toList[pos] = s[pos]'hp := by
    rw [List.getElem?_eq_getElem hl] at hc
    exact Option.some.inj hc
   rw [numGo, if_pos hp, decode_ascii s pos hp hb, numGo_ascii s ha b (pos + 1) _ (by omega), List.drop_eq_getElem_cons hl, List.foldl_cons, he]
  ·rw [numGo_end s _ _ _ hp, List.drop_eq_nil_of_le (by simp; omega)]
   rfl
def numV (s : ByteArray) : Int := if Lib.hasPrefix s.data.toList [45] then -numGo s s.size 0 0 else numGo s s.size 0 0
theorem numV_itoa {s : ByteArray} {n : Int} (hn : -1048576 ≤ n ∧ n ≤ 1048576) (he : s.data.toList = Lib.itoa n) : numV s = n := by
 have h1 := numGo_ascii s (by rw [he]; exact fun c hc => (itoa_low n c hc).1) s.size 0 0 (by omega)
 rw [List.drop_zero] at h1
 obtain ⟨j1, j2⟩ := digF_itoa hn
 have h2 : numGo s s.size 0 0 = n.natAbs := by rw [h1, he]; exact j1
 have h3 : Lib.hasPrefix s.data.toList [45] = true ↔ n < 0 := by
  rw [← j2, he]
  cases Lib.itoa n with
  | nil => simp [Lib.hasPrefix]
  | cons c t => simp [Lib.hasPrefix, List.isPrefixOf]; exact eq_comm
 unfold numV
 split
 ·rename_i h
  have := h3.1 h
  omega
 ·rename_i h
  have : ¬ n < 0 := fun h4 => h (h3.2 h4)
  omega

theorem spring_numeral (s : ByteArray) (w : World) :
  Calls Tryz.prog 79 #[.string s] w fun e w' => e = .returned (I (numV s)) ∧ Below w.heap.size w w' := by
 have hfin : ∀ q, Lib.hasPrefix s.data.toList [45] = q → numV s = if q then -numGo s s.size 0 0 else numGo s s.size 0 0 := fun q h => by rw [numV, h]
 obtain ⟨V, hV⟩ : ∃ V, numV s = V := ⟨_, rfl⟩
 rw [hV] at hfin ⊢
 clear hV
 replace hfin := hide hfin
 go_enter Tryz.func79, Tryz.ntmps79
 go_wp2_with fail
 go_loopw [3, 5] (fun n _ wr => ∃ (pos : Nat) (N : Int), wr = w.iter s pos ∧ n = I N ∧ 0 ≤ N ∧ N ≤ 1073741824 ∧ Hid (∃ b, numGo s b pos N = numGo s s.size 0 0 ∧ s.size ≤ pos + b)) (fun _ _ wr => s.size - wr.iterPos w.heap.size)
 case atStart => exact ⟨0, 0, rfl, rfl, by omega, by omega, hide ⟨s.size, rfl, by omega⟩⟩
 case round =>
  obtain ⟨pos, N, rfl, rfl, h0, h1, hI⟩ := hrel
  by_cases hp : pos < s.size
  case pos =>
   have hwd := width_pos s pos hp
   have hI2 : ∃ b, numGo s b (pos + (Utf8.decode s pos).2) (stepD N (Utf8.decode s pos).1) = numGo s s.size 0 0 ∧ s.size ≤ pos + (Utf8.decode s pos).2 + b := by
    obtain ⟨b, h2, h3⟩ := hI.out
    match b, h3 with
    | 0, h3 => omega
    | b + 1, h3 =>
     rw [numGo, if_pos hp] at h2
     exact ⟨b, h2, by omega⟩
   obtain ⟨d, hd⟩ : ∃ d, (Utf8.decode s pos).1 = d := ⟨_, rfl⟩
   obtain ⟨k, hk⟩ : ∃ k, (Utf8.decode s pos).2 = k := ⟨_, rfl⟩
   have hdl := decode_le s pos
   have hnx : ∀ ty, (Instr.next (.pointer (some ⟨w.heap.size, 0, none⟩)) true ty).run Tryz.prog (w.iter s pos) = _ := fun ty => run_next_any w s pos ty hp
   rw [hd, hk] at hnx hI2
   rw [hd] at hdl
   rw [hk] at hwd
   clear hd hk
   replace hI2 := hide hI2
   clear hI
   by_cases hdg : 48 ≤ d ∧ d ≤ 57
   case pos =>
    have d1 : decide ((48 : Int) ≤ (d : Int)) = true := decide_eq_true (by omega)
    have d2 : decide ((d : Int) ≤ 57) = true := decide_eq_true (by omega)
    have d3 : IntKind.i32.wrap ((d : Int) - 48) = (d : Int) - 48 := IntWalk.i32_in _ (by omega)
    have d4 : IntKind.i64.wrap (10 * N) = 10 * N := IntWalk.i64_in _ (by omega)
    have d5 : IntKind.i64.wrap (10 * N + ((d : Int) - 48)) = 10 * N + ((d : Int) - 48) := IntWalk.i64_in _ (by omega)
    have d6 : IntKind.i64.wrap ((d : Int) - 48) = (d : Int) - 48 := IntWalk.i64_in _ (by omega)
    replace hdg := hide hdg
    go_wp2_with fail
    go_roundw
    case rel =>
     refine ⟨pos + k, _, rfl, rfl, ?_, ?_, hide ?_⟩
     ·have := hdg.out
      omega
     ·have := hdg.out
      omega
     ·have h := hI2.out
      rw [stepD, if_pos hdg.out] at h
      exact h
    case measure =>
     simp
     omega
   case neg =>
    have hst : stepD N d = N := by rw [stepD, if_neg hdg]
    rw [hst] at hI2
    clear hst
    rcases Nat.lt_or_ge d 48 with g | g
    ·have d1 : decide ((48 : Int) ≤ (d : Int)) = false := decide_eq_false (by omega)
     replace hdg := hide hdg
     replace g := hide g
     go_wp2_with fail
     go_roundw
     case rel => exact ⟨pos + k, N, rfl, rfl, h0, h1, hI2⟩
     case measure =>
      simp
      omega
    ·have d1 : decide ((48 : Int) ≤ (d : Int)) = true := decide_eq_true (by omega)
     have d2 : decide ((d : Int) ≤ 57) = false := decide_eq_false (by omega)
     replace hdg := hide hdg
     replace g := hide g
     go_wp2_with fail
     go_roundw
     case rel => exact ⟨pos + k, N, rfl, rfl, h0, h1, hI2⟩
     case measure =>
      simp
      omega
  case neg =>
   have hnx : ∀ ty, (Instr.next (.pointer (some ⟨w.heap.size, 0, none⟩)) true ty).run Tryz.prog (w.iter s pos) = _ := fun ty => run_next_end w s pos ty hp
   have HP := fun w' => Tryz.strings_HasPrefix s ⟨#[45]⟩ w'
   obtain ⟨q, hq⟩ : ∃ q, Lib.hasPrefix s.data.toList [45] = q := ⟨_, rfl⟩
   have HP1 : ∀ w', Calls Tryz.prog 144 #[.string s, .string ⟨#[45]⟩] w' fun e w'' => e = .returned (.bool q) ∧ w'' = w' := fun w' => by rw [← hq]; exact HP w'
   have hN : numGo s s.size 0 0 = N := by
    obtain ⟨b, h2, _⟩ := hI.out
    rw [← h2, numGo_end s b pos N hp]
   have hfin2 := hfin.out q hq
   rw [hN] at hfin2
   clear hN hfin
   replace hfin2 := hide hfin2
   replace HP1 := hide HP1
   have d1 : IntKind.i64.wrap (-N) = -N := IntWalk.i64_in _ (by omega)
   clear HP hq hI
   replace hp := hide hp
   go_upto_region 7 with fail
   have hB := below1 w (.stringIter s pos)
   obtain ⟨W, hW⟩ : ∃ W, w.iter s pos = W := ⟨_, rfl⟩
   have hBW : Below w.heap.size w W := by rw [← hW]; exact hB
   rw [hW]
   clear hnx hB hW
   cases q
   ·go_wp2_with (go_at_call 144; refine (HP1.out _).mono ?_; rintro e w' ⟨rfl, rfl⟩)
    refine bodyPost_ret (v := I N) (by simp [results, Tryz.results79, go_sem]) rfl ⟨ret_int (by rw [hfin2.out]; rfl), hBW⟩
   ·go_wp2_with (go_at_call 144; refine (HP1.out _).mono ?_; rintro e w' ⟨rfl, rfl⟩)
    refine bodyPost_ret (v := I (-N)) (by simp [results, Tryz.results79, go_sem]) rfl ⟨ret_int (by rw [hfin2.out]; rfl), hBW⟩
end Go.Proofs.YtoojedjmlcdomaaGreatDoor
