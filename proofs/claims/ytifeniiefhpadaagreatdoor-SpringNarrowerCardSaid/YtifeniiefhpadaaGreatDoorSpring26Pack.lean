/- The chapter's examples, as plain data: what the program's functions answer there. No condition. -/
import Derived.Test.YtifeniiefhpadaaGreatDoorSpring25
import Derived.Test.YtifeniiefhpadaaGreatDoorSpring23Pack
import Derived.Test.YtifeniiefhpadaaGreatDoorSpring14
set_option linter.all false
namespace Go.Proofs.YtifeniiefhpadaaGreatDoor
open Go.RowKit

def climX : Climate := ⟨1000, 6, 50, 40, -200, 250, 400, 410⟩
def recX : List Weather := [⟨10, 0, 5⟩, ⟨13, 60, 0⟩]
def weaX : Weather := ⟨13, 50, 10⟩
def daysX : List Weather := [⟨11, 50, 0⟩, ⟨12, 10, 0⟩]
def cellX : Cell := ⟨2, 1500, 0, 3⟩
def sightX : Sight := ⟨0, 2, 13, 5, 20⟩
def sceneX : Scene := ⟨⟨[cellX], [], 0, 0, 100⟩, [13], [sightX], []⟩
theorem x_at : atV climX 30 1490 = 1 := by kernel_rfl
theorem x_atE : askedE climX [tempB 30, heightB 1490] = 0 := by kernel_rfl
theorem x_frost : frostV climX 30 = (1500, 0) := by kernel_rfl
theorem x_snow : snowV climX weaX 2000 = (10, 0) := by kernel_rfl
theorem x_snowE : dayE1 climX weaX [heightB 2000] = 0 := by kernel_rfl
theorem x_melt : meltV climX weaX 1500 400 = 8 := by kernel_rfl
theorem x_meltE : dayE1 climX weaX [heightB 1500, inB 400 0 2000] = 0 := by kernel_rfl
theorem x_gap : gapV climX recX 11 = ⟨-40, 50, 0, 40⟩ := by kernel_rfl
theorem x_gapE : gapE climX recX 11 = 0 := by kernel_rfl
theorem x_change : changeV climX recX 1000 10 12 = (-15, 45) := by kernel_rfl
theorem x_changeE : changeE climX recX 1000 10 12 = 0 := by kernel_rfl
theorem x_rel : relV climX ⟨3, [weaX]⟩ 1500 20 400 14 = (18, 12) := by kernel_rfl
theorem x_relE : relE climX ⟨3, [weaX]⟩ 1500 20 400 14 = 0 := by kernel_rfl
theorem x_allow : allowV climX recX daysX = true := by kernel_rfl
theorem x_allowE : allowE climX recX daysX = 0 := by kernel_rfl
theorem x_fill : fillV climX recX 10 12 true = [⟨10, 0, 5⟩, ⟨11, 50, 0⟩] := by kernel_rfl
theorem x_fillE : fillE climX recX 10 12 = 0 := by kernel_rfl
theorem x_print : printV ⟨12, -35, 4⟩ = [119, 101, 97, 116, 104, 101, 114, 32, 49, 50, 32, 45, 51, 53, 32, 52] := by kernel_rfl
theorem x_printE : printE ⟨12, -35, 4⟩ = 0 := by kernel_rfl
theorem x_vol : volV climX ⟨3, [weaX]⟩ sceneX [2] 13 14 = (45, 54) := by kernel_rfl
theorem x_volE : volE climX ⟨3, [weaX]⟩ sceneX [2] 13 14 = 0 := by kernel_rfl
theorem x_when : whenV climX ⟨3, [weaX]⟩ sceneX [2] 46 = (14, 1048578) := by kernel_rfl
theorem x_whenB : whenB climX ⟨3, [weaX]⟩ sceneX [2] 46 = true := by kernel_rfl
theorem x_whenE : whenE climX ⟨3, [weaX]⟩ sceneX [2] 46 = 0 := by kernel_rfl
theorem x_springE : springE climX ⟨0, []⟩ = 62 := by kernel_rfl

theorem zg_three {P : Program} {ops : Array Oper} {Q : Exit → Act → World → Prop} {md : Region.Mode} {S : World → Prop} {n : Nat} {i j l : Nat} {oi oj ol : Oper} {fuel : Nat} {listed : Array Bool} {a : Act} {w : World} (hin : i < n) (hjn : j < n) (hln : l < n) (hi : ops[i]? = some oi) (hj : ops[j]? = some oj) (hl : ops[l]? = some ol) (hr : Region.ready md ops listed = [i, j, l])
  (h1 : ∀ K' : Act → World → Prop, Shut (∀ a w, S w → (S w → ZG P md ops Q S n fuel (listed.setIfInBounds i true) a w) → K' a w) → if Region.wanted oi (yielded ops a.tmps) = true then Oper.wp P oi a w K' Q else K' (a.put oi.dst undef) w)
  (h2 : ∀ K' : Act → World → Prop, Shut (∀ a w, S w → (S w → ZG P md ops Q S n fuel (listed.setIfInBounds j true) a w) → K' a w) → if Region.wanted oj (yielded ops a.tmps) = true then Oper.wp P oj a w K' Q else K' (a.put oj.dst undef) w)
  (h3 : ∀ K' : Act → World → Prop, Shut (∀ a w, S w → (S w → ZG P md ops Q S n fuel (listed.setIfInBounds l true) a w) → K' a w) → if Region.wanted ol (yielded ops a.tmps) = true then Oper.wp P ol a w K' Q else K' (a.put ol.dst undef) w) :
  ZG P md ops Q S n (fuel + 1) listed a w := fun g1 g2 g3 inv =>
 ⟨fun h0 => (by rw [h0] at hr; cases hr), fun k hk => by
  have hik : k ∈ Region.ready md ops listed := hk
  rw [hr, List.mem_cons, List.mem_cons, List.mem_singleton] at hk
  rcases hk with rfl | rfl | rfl
  ·exact wpOp_step hi fun K' hK => h1 K' fun a w hS hW => hK a w ⟨fun _ => hS, hW hS g1 g2 g3 (inv.set hik hin)⟩
  ·exact wpOp_step hj fun K' hK => h2 K' fun a w hS hW => hK a w ⟨fun _ => hS, hW hS g1 g2 g3 (inv.set hik hjn)⟩
  ·exact wpOp_step hl fun K' hK => h3 K' fun a w hS hW => hK a w ⟨fun _ => hS, hW hS g1 g2 g3 (inv.set hik hln)⟩⟩

def cV : Value := .agg #[I 1000, I 6, I 50, I 40, I (-200), I 250, I 400, I 410]
theorem law_climate (w : World) : Calls Tryz.prog 17 #[] w fun e w' => e = .returned cV ∧ Below w.heap.size w w' := by
 unfold cV
 go_enter Tryz.func17, Tryz.ntmps17
 go_wp2_with fail
 exact bodyPost_ret (v := .agg #[I 1000, I 6, I 50, I 40, I (-200), I 250, I 400, I 410]) (by simp [results, Tryz.results17, go_sem]) rfl ⟨rfl, below1 _ _⟩
theorem wea2_sl {W : World} {g : Nat} {a b : Weather} (hb : Blk W g 28 #[I a.day, I a.temp, I a.rain, I b.day, I b.temp, I b.rain]) : Sl W 3 Weather.cells (.slice (some ⟨g, 0, none⟩) 2 2) [a, b] := by
 refine ⟨_, 2, rfl, Nat.le_refl _, ⟨by decide, by simp⟩, fun _ => ⟨g, 0, rfl, hb.lt, fun i x hx j u hu => ?_⟩⟩
 rw [hb.cell]
 match i, hx with
 | 0, hx => simp at hx; subst hx; match j, hu with
  | 0, hu => simpa [Weather.cells] using hu
  | 1, hu => simpa [Weather.cells] using hu
  | 2, hu => simpa [Weather.cells] using hu
  | j + 3, hu => simp [Weather.cells] at hu
 | 1, hx => simp at hx; subst hx; match j, hu with
  | 0, hu => simpa [Weather.cells] using hu
  | 1, hu => simpa [Weather.cells] using hu
  | 2, hu => simpa [Weather.cells] using hu
  | j + 3, hu => simp [Weather.cells] at hu
 | i + 2, hx => simp at hx
theorem law_record (w : World) : Calls Tryz.prog 22 #[] w fun e w' => ∃ v, e = .returned v ∧ Sl w' 3 Weather.cells v recX ∧ Below w.heap.size w w' := by
 go_enter Tryz.func22, Tryz.ntmps22
 go_wp2
 go_ret
 exact ⟨_, rfl, wea2_sl (a := ⟨10, 0, 5⟩) (b := ⟨13, 60, 0⟩) (Blk.new w 28 #[I 10, I 0, I 5, I 13, I 60, I 0]), below1 _ _⟩
theorem one_sl {α : Type} {W : World} {g k : Nat} {t : TypeId} {enc : α → List Value} {x : α} {cs : Array Value} (hb : Blk W g t cs) (he : cs = (enc x).toArray) : Sl W k enc (.slice (some ⟨g, 0, none⟩) 1 1) [x] := by
 refine ⟨_, 1, rfl, Nat.le_refl _, ⟨by decide, by simp⟩, fun _ => ⟨g, 0, rfl, hb.lt, fun i y hy j u hu => ?_⟩⟩
 match i, hy with
 | 0, hy =>
  simp at hy; subst hy
  rw [hb.cell, he]
  simpa using hu
 | i + 1, hy => simp at hy
theorem x_atC (w : World) : Calls Tryz.prog 18 #[cV, I 30, I 1490] w fun e w' => e = .returned (.tuple #[I 1, I 0]) ∧ Below w.heap.size w w' := by
 have h := spring_At climX 30 1490 w
 rw [x_at, x_atE] at h; exact h
theorem x_frostC (w : World) : Calls Tryz.prog 19 #[cV, I 30] w fun e w' => e = .returned (.tuple #[I 1500, I 0]) ∧ Below w.heap.size w w' := by
 have h := spring_Frost climX 30 w
 rw [x_frost] at h; exact h
theorem x_snowC (w : World) : Calls Tryz.prog 20 #[cV, .agg #[I 13, I 50, I 10], I 2000] w fun e w' => e = .returned (.tuple #[I 10, I 0, I 0]) ∧ Below w.heap.size w w' := by
 have h := spring_Snow climX weaX 2000 w
 rw [x_snow, x_snowE] at h; exact h
theorem x_meltC (w : World) : Calls Tryz.prog 21 #[cV, .agg #[I 13, I 50, I 10], I 1500, I 400] w fun e w' => e = .returned (.tuple #[I 8, I 0]) ∧ Below w.heap.size w w' := by
 have h := spring_Melt climX weaX 1500 400 w
 rw [x_melt, x_meltE] at h; exact h
theorem x_gapC (v : Value) (w : World) (hv : Sl w 3 Weather.cells v recX) : Calls Tryz.prog 10 #[cV, v, I 11] w fun e w' => e = .returned (.tuple #[.agg #[I (-40), I 50], .agg #[I 0, I 40], I 0]) ∧ Below w.heap.size w w' := by
 have h := spring_Gap climX v recX 11 w hv
 rw [x_gap, x_gapE] at h; exact h
theorem x_changeC (v : Value) (w : World) (hv : Sl w 3 Weather.cells v recX) : Calls Tryz.prog 12 #[cV, v, I 1000, I 10, I 12] w fun e w' => e = .returned (.tuple #[.agg #[I (-15), I 45], I 0]) ∧ Below w.heap.size w w' := by
 have h := spring_Change climX v recX 1000 10 12 w hv
 rw [x_change, x_changeE] at h; exact h
theorem x_relC (v : Value) (w : World) (hv : Sl w 3 Weather.cells v [weaX]) : Calls Tryz.prog 23 #[cV, .agg #[I 3, v], I 1500, I 20, I 400, I 14] w fun e w' => e = .returned (.tuple #[I 18, I 12, I 0]) ∧ Below w.heap.size w w' := by
 have h := spring_Release climX 3 v [weaX] 1500 20 400 14 w hv
 rw [x_rel, x_relE] at h; exact h
theorem x_allowC (v vd : Value) (w : World) (hv : Sl w 3 Weather.cells v recX) (hd : Sl w 3 Weather.cells vd daysX) : Calls Tryz.prog 24 #[cV, v, vd] w fun e w' => e = .returned (.tuple #[.bool true, I 0]) ∧ Below w.heap.size w w' := by
 have h := spring_Allowed climX v vd recX daysX w hv hd
 rw [x_allow, x_allowE] at h; exact h
theorem x_fillC (v : Value) (w : World) (hv : Sl w 3 Weather.cells v recX) : Calls Tryz.prog 25 #[cV, v, I 10, I 12, .bool true] w fun e w' => ∃ g c, e = .returned (.tuple #[.slice (some ⟨g, 0, none⟩) 2 c, I 0]) ∧ g < w'.heap.size ∧ w'.cell? ⟨g, 3, none⟩ = some (I 11) ∧ w'.cell? ⟨g, 4, none⟩ = some (I 50) ∧ w'.cell? ⟨g, 5, none⟩ = some (I 0) ∧ Below w.heap.size w w' := by
 have h := spring_Fill climX v recX 10 12 true w hv
 rw [x_fill, x_fillE] at h
 refine h.mono ?_
 rintro e w' ⟨vr, rfl, ho, hb⟩
 obtain ⟨g, c, rfl, _, hg⟩ := World.ownsRow.form ho (by decide)
 refine ⟨g, c, rfl, hg, ?_, ?_, ?_, hb⟩
 ·rw [World.ownsRow.cellAt ho 3 (by decide)]; rfl
 ·rw [World.ownsRow.cellAt ho 4 (by decide)]; rfl
 ·rw [World.ownsRow.cellAt ho 5 (by decide)]; rfl
theorem x_printC (w : World) (hp : Pow10 w) : Calls Tryz.prog 26 #[.agg #[I 12, I (-35), I 4]] w fun e w' => e = .returned (.tuple #[.string ⟨#[119, 101, 97, 116, 104, 101, 114, 32, 49, 50, 32, 45, 51, 53, 32, 52]⟩, I 0]) ∧ Below w.heap.size w w' := by
 have h := spring_PrintWeather ⟨12, -35, 4⟩ w hp
 rw [x_print, x_printE] at h; exact h
theorem x_volC (v vc vd vs vl : Value) (w : World) (hv : Sl w 3 Weather.cells v [weaX]) (hc : Sl w 4 Cell.cells vc [cellX]) (hd : Sl w 1 intC vd [13]) (hs : Sl w 5 Sight.cells vs [sightX]) (hl : Sl w 1 intC vl [2]) :
  Calls Tryz.prog 27 #[cV, .agg #[I 3, v], .agg #[vc, .slice none 0 0, I 0, I 0, I 100, vd, vs, .slice none 0 0], vl, I 13, I 14] w fun e w' => e = .returned (.tuple #[.agg #[I 45, I 54], I 0]) ∧ Below w.heap.size w w' := by
 have h := spring_Volume climX 3 v [weaX] sceneX ⟨vc, .slice none 0 0, vd, vs, .slice none 0 0⟩ vl [2] 13 14 w ⟨hc, Sl.nil _ _ _, hd, hs, Sl.nil _ _ _⟩ hl hv
 rw [x_vol, x_volE] at h; exact h
theorem x_whenC (v vc vd vs vl : Value) (w : World) (hv : Sl w 3 Weather.cells v [weaX]) (hc : Sl w 4 Cell.cells vc [cellX]) (hd : Sl w 1 intC vd [13]) (hs : Sl w 5 Sight.cells vs [sightX]) (hl : Sl w 1 intC vl [2]) :
  Calls Tryz.prog 28 #[cV, .agg #[I 3, v], .agg #[vc, .slice none 0 0, I 0, I 0, I 100, vd, vs, .slice none 0 0], vl, I 46] w fun e w' => e = .returned (.tuple #[.agg #[I 14, I 1048578], .bool true, I 0]) ∧ Below w.heap.size w w' := by
 have h := spring_When climX 3 v [weaX] sceneX ⟨vc, .slice none 0 0, vd, vs, .slice none 0 0⟩ vl [2] 46 w ⟨hc, Sl.nil _ _ _, hd, hs, Sl.nil _ _ _⟩ hl hv
 rw [x_when, x_whenB, x_whenE] at h; exact h
theorem x_springC (w : World) : Calls Tryz.prog 29 #[cV, .agg #[I 0, .slice none 0 0]] w fun e w' => e = .returned (I 62) ∧ Below w.heap.size w w' := by
 have h := spring_CheckSpring climX 0 (.slice none 0 0) [] w (Sl.nil _ _ _)
 rw [x_springE] at h; exact h
end Go.Proofs.YtifeniiefhpadaaGreatDoor
