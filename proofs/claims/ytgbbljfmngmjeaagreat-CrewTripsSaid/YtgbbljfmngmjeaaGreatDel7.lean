/- slices.Delete of one element of a row of the call's own. Conditions stand in the theorem. -/
import Derived.Test.YtgbbljfmngmjeaaGreatShDel
import Derived.Test.YtgbbljfmngmjeaaGreatBasePack
import Derived.Test.YtgbbljfmngmjeaaGreatPlugPack
set_option linter.all false
namespace Go.Proofs.YtgbbljfmngmjeaaGreat
open Go.RowKit

theorem below_ahead {B : Nat} (w : World) (q : Nat) : Below B w (Go.Sort.ahead w q) := ⟨rfl, rfl, rfl, Nat.le_refl _, fun _ _ => rfl⟩
theorem below_putRow {α : Type} [Inhabited α] {B g off : Nat} (enc : α → Value) (w : World) (d : Array α) (h : B ≤ g) : Below B w (Go.Sort.putRow enc w g off d) := by
 refine ⟨rfl, rfl, rfl, by simp, fun k hk => ?_⟩
 unfold Go.Sort.putRow Go.Sort.mapBlock
 rw [Array.getElem?_modify, if_neg (by omega)]
theorem int_delete {base g n c k : Nat} {cs : List Int} (w : World) (h : Own w base 3 1 intC (.slice (some ⟨g, 0, none⟩) n c) cs) (hk : k < cs.length) (hb : cs.length ≤ 140737488355328) :
  Calls Tryz.prog 67 #[.slice (some ⟨g, 0, none⟩) n c, I k, I (k + 1)] w fun e w' => ∃ v, e = .returned v ∧ Sl w' 1 intC v (cs.eraseIdx k) ∧ Below base w w' := by
 have hg := ownBlock_lt h g rfl
 obtain ⟨hcap, hm, rfl⟩ : cs.length ≤ c ∧ c ≤ maxLen ∧ n = cs.length := by
  rcases h.2 with ⟨h1, _⟩ | ⟨g', cap, cur, h1, _, _, h2, h3, _⟩
  ·cases h1
  ·injection h1 with _ h4 h5
   subst h5
   exact ⟨h2, h3, h4⟩
 have hm2 := hm
 unfold maxLen at hm
 have hH : Go.Sort.Holds (Value.int .i64) w g 0 cs.toArray := fun j hj => by
  have hj2 : j < cs.length := by simpa using hj
  obtain ⟨x, hx⟩ := getElem?_of_lt hj2
  refine ⟨?_, World.ownsRow.frozenAt h _⟩
  rw [Nat.zero_add]
  have h1 := World.ownsRow.cellAt h j (by omega)
  have h2 := flat_at intC_len cs j x hx 0 (I x) rfl
  rw [Nat.mul_one, Nat.add_zero] at h2
  rw [h1, h2]
  have h3 : cs.toArray[j]! = x := by
   rw [getElem!_pos cs.toArray j hj]
   simpa using (List.getElem?_eq_some_iff.1 hx).2
  rw [h3]
 have e1 : ((k + 1 : Nat) : Int) = (k : Int) + 1 := by push_cast; rfl
 have hD := Tryz.slices_Delete_int g 0 c k (k + 1) cs w hH hcap (by omega) (by omega) (by omega)
 rw [e1] at hD
 refine hD.mono ?_
 rintro e w' ⟨rfl, q, rfl⟩
 have hl : (cs.take k ++ cs.drop (k + 1) ++ List.replicate (k + 1 - k) 0).length = cs.length := by simp; omega
 have he : cs.eraseIdx k = cs.take k ++ cs.drop (k + 1) := List.eraseIdx_eq_take_drop_succ ..
 have hel : (cs.eraseIdx k).length = cs.length - (k + 1 - k) := by rw [List.length_eraseIdx_of_lt hk]; omega
 have hH2 := Go.Sort.holds_putRow (Value.int .i64) (Go.Sort.ahead w q) g 0 cs.toArray (cs.take k ++ cs.drop (k + 1) ++ List.replicate (k + 1 - k) 0).toArray (Go.Sort.holds_ahead (Value.int .i64) w q g 0 cs.toArray hH) (by simpa using hl)
 refine ⟨_, rfl, ⟨some ⟨g, 0, none⟩, c, by rw [hel], by omega, ⟨hm2, by omega⟩, fun h0 => ⟨g, 0, rfl, ?_, fun i x hx j u hu => ?_⟩⟩, (below_ahead w q).trans (below_putRow _ _ _ hg.1)⟩
 ·simpa [Go.Sort.ahead] using hg.2
 ·have hi : i < (cs.eraseIdx k).length := (List.getElem?_eq_some_iff.1 hx).1
  obtain ⟨rfl, rfl⟩ : j = 0 ∧ u = I x := by
   cases j with
   | zero => simp [intC] at hu; exact ⟨rfl, hu.symm⟩
   | succ j => simp [intC] at hu
  have hi2 : i < (cs.take k ++ cs.drop (k + 1) ++ List.replicate (k + 1 - k) 0).toArray.size := by rw [List.size_toArray, hl]; omega
  have h1 := (hH2 i hi2).1
  have hq : ∀ (d : Array Int) (h : i < d.size), d[i]! = d[i] := fun d h => getElem!_pos d i h
  rw [hq _ hi2] at h1
  have h2 : (cs.take k ++ cs.drop (k + 1) ++ List.replicate (k + 1 - k) 0).toArray[i] = x := by
   have h3 : (cs.take k ++ cs.drop (k + 1) ++ List.replicate (k + 1 - k) 0)[i]? = some x := by
    rw [List.getElem?_append_left (by rw [← he]; exact hi), ← he]
    exact hx
   simpa using (List.getElem?_eq_some_iff.1 h3).2
  rw [h2] at h1
  simpa using h1
end Go.Proofs.YtgbbljfmngmjeaaGreat
