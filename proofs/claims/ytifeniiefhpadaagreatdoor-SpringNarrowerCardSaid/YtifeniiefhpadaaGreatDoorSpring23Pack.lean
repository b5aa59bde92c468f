/- The package spring: Volume. Conditions stand in the theorems. -/
import Derived.Test.YtifeniiefhpadaaGreatDoorSpring22
import Derived.Test.YtifeniiefhpadaaGreatDoorSpringQ
import Derived.Test.YtifeniiefhpadaaGreatDoorSpring15Pack
import Derived.Test.YtifeniiefhpadaaGreatDoorBasin3Pack
import Derived.Test.YtifeniiefhpadaaGreatDoorReachPack
set_option linter.all false
set_option maxHeartbeats 8000000
set_option maxRecDepth 100000
namespace Go.Proofs.YtifeniiefhpadaaGreatDoor
open Go.RowKit

def facL (c : Climate) : List Int := (List.range (nFac c)).map fun (i : Nat) => c.flo + (i : Int)
theorem facA_val {c : Climate} {hc : ClimOk c} : (facA c hc (nFac c)).map (fun x : FacC c => x.1) = facL c := by
 unfold facA facL
 rw [List.map_map]
 refine List.map_congr_left fun i hi => ?_
 have := List.mem_range.1 hi
 unfold nFac at this
 show min (c.flo + (i : Int)) c.fhi = c.flo + i
 omega
def loF (c : Climate) (p : List Weather) (cs : List Cell) (ws : List Int) (frm til : Int) : Int := (facL c).foldl (fun m f => min m (cameF c p f til cs ws - cameF c p f frm cs ws)) 1152921504606846976
def hiF (c : Climate) (p : List Weather) (cs : List Cell) (ws : List Int) (frm til : Int) : Int := (facL c).foldl (fun m f => max m (cameF c p f til cs ws - cameF c p f frm cs ws)) (-1152921504606846976)
theorem loA_eq {c : Climate} {p : List Weather} {cs : List Cell} {ws : List Int} {frm til : Int} {hc : ClimOk c} : loA c p cs ws frm til (facA c hc (nFac c)) = loF c p cs ws frm til := by
 unfold loA loF
 rw [← facA_val (hc := hc), List.foldl_map]
theorem hiA_eq {c : Climate} {p : List Weather} {cs : List Cell} {ws : List Int} {frm til : Int} {hc : ClimOk c} : hiA c p cs ws frm til (facA c hc (nFac c)) = hiF c p cs ws frm til := by
 unfold hiA hiF
 rw [← facA_val (hc := hc), List.foldl_map]
theorem pickP_mem {ps : List (Cell × Int)} {l : List Int} {u : Int} (h : u ∈ pickP ps l) : ∃ x, (x, u) ∈ ps := by
 simp only [pickP, List.mem_map, List.mem_filter] at h
 obtain ⟨⟨x, v⟩, ⟨h1, _⟩, rfl⟩ := h
 exact ⟨x, h1⟩
theorem pickW_mem {cs : List Cell} {row l : List Int} {u : Int} (h : u ∈ pickW cs row l) : u ∈ row := by
 obtain ⟨x, hx⟩ := pickP_mem h
 exact (List.of_mem_zip hx).2
theorem pickW_len {cs : List Cell} {row l : List Int} (h : row.length = cs.length) : (pickW cs row l).length = (pickC cs l).length := by
 unfold pickW pickP pickC
 rw [List.length_map]
 induction cs generalizing row with
 | nil => simp
 | cons x cs ih =>
  cases row with
  | nil => simp at h
  | cons u row =>
   have := ih (row := row) (by simpa using h)
   simp only [List.zip_cons_cons, List.filter_cons]
   split <;> simp [this]
def lowW (s : Scene) (l : List Int) : List Int := pickW s.basin.cells (lastRow (leastF s)) l
def highW (s : Scene) (l : List Int) : List Int := pickW s.basin.cells (lastRow (greatF s)) l
theorem lastRow_mem {xss : List (List Int)} {i : Nat} (h : xss[i]? = some (lastRow xss)) : lastRow xss ∈ xss := List.mem_of_getElem? h
theorem poolsE_zero {s : Scene} (h : poolsE s = 0) : leastE s = 0 ∧ greatE s = 0 := by
 unfold poolsE at h
 split at h
 ·rename_i h0; exact absurd h h0
 ·rename_i h0; exact ⟨Classical.byContradiction h0, h⟩
def volP (c : Climate) (p : List Weather) (s : Scene) (l : List Int) (frm til : Int) : Int × Int :=
 if poolsE s = 0 then (loF c p (pickC s.basin.cells l) (lowW s l) frm til, hiF c p (pickC s.basin.cells l) (highW s l) frm til) else (0, 0)
theorem lowW_bd {s : Scene} (hv : SceneOk s) (h : leastE s = 0) (l : List Int) : ∀ u ∈ lowW s l, 0 ≤ u ∧ u ≤ 65536 := fun u hu => leastF_bd hv h _ (lastRow_mem (leastF_last hv).1) u (pickW_mem hu)
theorem highW_bd {s : Scene} (hv : SceneOk s) (h : greatE s = 0) (l : List Int) : ∀ u ∈ highW s l, 0 ≤ u ∧ u ≤ 65536 := fun u hu => greatF_bd hv h _ (lastRow_mem (greatF_last hv).1) u (pickW_mem hu)
theorem spring_volume (c : Climate) (no : Int) (vd : Value) (p : List Weather) (s : Scene) (V : SceneV) (vl : Value) (l : List Int) (frm til : Int) (w : World) (hc : ClimOk c) (hp : ∀ x ∈ p, WeaOk c x) (hpn : p.length ≤ 512) (hs : SceneAt w s V) (hl : Sl w 1 intC vl l) (hd : Sl w 3 Weather.cells vd p) (hv : SceneOk s) :
  Calls Tryz.prog 61 #[c.v, .agg #[I no, vd], s.v V, vl, I frm, I til] w fun e w' => e = .returned (.tuple #[.agg #[I (volP c p s l frm til).1, I (volP c p s l frm til).2], I (poolsE s)]) ∧ Below w.heap.size w w' := by
 by_cases h : poolsE s = 0
 ·obtain ⟨h1, h2⟩ := poolsE_zero h
  refine (spring_volume_ok c no vd p s V vl l frm til w hc hp hpn hs hl hd hv h1 h2 (lowW_bd hv h1 l) (highW_bd hv h2 l) (pickW_len (leastF_last hv).2.1) (pickW_len (greatF_last hv).2.1)).mono ?_
  rintro e w' ⟨h3, h4⟩
  refine ⟨?_, h4⟩
  rw [h3, loA_eq, hiA_eq]
  simp only [volP, h, if_true, lowW, highW]
 ·refine (spring_volume_bad c no vd p s V vl l frm til w hs hl hd h).mono ?_
  rintro e w' ⟨h3, h4⟩
  refine ⟨?_, h4⟩
  rw [h3]
  simp only [volP, h, if_false]

def volE (c : Climate) (p : Spring) (s : Scene) (l : List Int) (frm til : Int) : Int :=
 if springE c p ≠ 0 then springE c p else if sceneE s ≠ 0 then sceneE s else if beginsB s p = false then 1 else if chosenB s l = false then 1 else if spellB p frm til = false then 1 else poolsE s
def volV (c : Climate) (p : Spring) (s : Scene) (l : List Int) (frm til : Int) : Int × Int := if volE c p s l frm til = 0 then volP c p.days s l frm til else (0, 0)

theorem spring_Volume (c : Climate) (no : Int) (vd : Value) (p : List Weather) (s : Scene) (V : SceneV) (vl : Value) (l : List Int) (frm til : Int) (w : World) (hs : SceneAt w s V) (hl : Sl w 1 intC vl l) (hd : Sl w 3 Weather.cells vd p) :
  Calls Tryz.prog 27 #[c.v, .agg #[I no, vd], s.v V, vl, I frm, I til] w fun e w' => e = .returned (.tuple #[.agg #[I (volV c ⟨no, p⟩ s l frm til).1, I (volV c ⟨no, p⟩ s l frm til).2], I (volE c ⟨no, p⟩ s l frm til)]) ∧ Below w.heap.size w w' := by
 have H1 := hide (fun w' (hb : Below w.heap.size w w') => spring_CheckSpring c no _ p w' (hd.mono hb))
 have H2 := hide (fun w' (hb : Below w.heap.size w w') => basin_Check s V w' (hs.mono hb))
 have H3 := hide (fun (ho : SprOk c ⟨no, p⟩) (hv : SceneOk s) w' (hb : Below w.heap.size w w') => spring_begins s V no _ p w' (hs.mono hb) (by have := hv.hd1; omega) hv.hd2 ho.n1 (hd.mono hb))
 have H4 := hide (fun w' (hb : Below w.heap.size w w') => spring_chosen s V _ l w' (hs.mono hb) (hl.mono hb))
 have H5 := hide (fun (ho : SprOk c ⟨no, p⟩) w' (hb : Below w.heap.size w w') => spring_spell no _ p frm til w' ho.n1 ho.beg ho.n2 (hd.mono hb))
 have H6 := hide (fun (ho : SprOk c ⟨no, p⟩) (hv : SceneOk s) w' (hb : Below w.heap.size w w') => spring_volume c no _ p s V _ l frm til w' ho.clim ho.mem ho.n2 (hs.mono hb) (hl.mono hb) (hd.mono hb) hv)
 have hdef : volE c ⟨no, p⟩ s l frm til = if springE c ⟨no, p⟩ ≠ 0 then springE c ⟨no, p⟩ else if sceneE s ≠ 0 then sceneE s else if beginsB s ⟨no, p⟩ = false then 1 else if chosenB s l = false then 1 else if spellB ⟨no, p⟩ frm til = false then 1 else poolsE s := rfl
 have hgood : volE c ⟨no, p⟩ s l frm til = poolsE s → volV c ⟨no, p⟩ s l frm til = volP c p s l frm til := fun h => by
  rw [volV, h, volP]; split <;> rfl
 obtain ⟨E, hE⟩ : ∃ E, volE c ⟨no, p⟩ s l frm til = E := ⟨_, rfl⟩
 obtain ⟨Z, hZ⟩ : ∃ Z, volV c ⟨no, p⟩ s l frm til = Z := ⟨_, rfl⟩
 have hbad : ∀ e, E = e → e ≠ 0 → E = e ∧ Z = (0, 0) := fun e h h' => ⟨h, by rw [← hZ, volV, if_neg (by rw [hE, h]; exact h')]⟩
 rw [hE, hZ] at hgood ⊢
 clear hZ
 rw [hE] at hdef
 clear hE
 replace hdef := hide hdef
 replace hbad := hide hbad
 replace hgood := hide hgood
 obtain ⟨vc, vp, vD, vs, vh⟩ := V
 obtain ⟨Ac, nc, rfl, _⟩ := (show Sl w 4 Cell.cells vc s.basin.cells from hs.cells).open_
 obtain ⟨Ap, np, rfl, _⟩ := (show Sl w 2 pairC vp s.basin.pairs from hs.pairs).open_
 obtain ⟨Ad, nd, rfl, _⟩ := (show Sl w 1 intC vD s.days from hs.days).open_
 obtain ⟨As, ns, rfl, _⟩ := (show Sl w 5 Sight.cells vs s.sights from hs.sights).open_
 obtain ⟨Ah, nh, rfl, _⟩ := (show Sl w 5 Change.cells vh s.changes from hs.changes).open_
 unfold Scene.v Climate.v at *
 simp only at *
 clear hs hl hd
 go_enter Tryz.func27, Tryz.ntmps27
 go_wp2_with fail
 obtain ⟨wq, hwq⟩ : ∃ W, W = (((w.alloc (.cells (c8 c) 25)).alloc (.cells #[I no, vd] 58)).alloc (.cells (s8 s Ac nc Ap np Ad nd As ns Ah nh) 77)).alloc (.cells #[I 0, I 0] 23) := ⟨_, rfl⟩
 have hQ := hide (show QAt c no vd (s8 s Ac nc Ap np Ad nd As ns Ah nh) w wq by rw [hwq]; exact QAt.new _ _ _ _ _)
 rw [← hwq]
 clear hwq
 obtain ⟨zc, c0, c1, c2, c3, c4, c5, c6, c7, zP, p0, p1, s0, s1, s2, s3, s4, s5, s6, s7, zS, zR, r0, r1, fr0, fr1⟩ := hQ.out.facts
 go_wp2_with fail
 go_at_call 29
 refine (H1.out _ hQ.out.below).mono ?_
 rintro e wq ⟨rfl, hbn⟩
 replace hQ := hide (hQ.out.grow hbn)
 clear hbn
 clear zc c0 c1 c2 c3 c4 c5 c6 c7 zP p0 p1 s0 s1 s2 s3 s4 s5 s6 s7 zS zR r0 r1 fr0 fr1
 obtain ⟨zc, c0, c1, c2, c3, c4, c5, c6, c7, zP, p0, p1, s0, s1, s2, s3, s4, s5, s6, s7, zS, zR, r0, r1, fr0, fr1⟩ := hQ.out.facts
 by_cases h1 : springE c ⟨no, p⟩ = 0
 case neg =>
  have hne : (springE c ⟨no, p⟩ != 0) = true := by simpa using h1
  obtain ⟨hq1, rfl⟩ := hbad.out (springE c ⟨no, p⟩) (by rw [hdef.out, if_pos h1]) h1
  obtain ⟨F, hF⟩ : ∃ F, springE c ⟨no, p⟩ = F := ⟨_, rfl⟩
  rw [hF] at hq1 hne ⊢
  subst hq1
  clear h1 hF H2 hdef H3 H4 H5 H6 hbad hgood
  obtain ⟨x0, x1, B9⟩ := hQ.out.ret (I 0) (I 0)
  go_wp2_with fail
  obtain ⟨Wz, hWz⟩ : ∃ W, W = (wq.setCell ⟨w.heap.size + 1 + 1 + 1, 0, none⟩ (I 0)).setCell ⟨w.heap.size + 1 + 1 + 1, 1, none⟩ (I 0) := ⟨_, rfl⟩
  rw [← hWz] at x0 x1 B9 ⊢
  clear hWz
  refine bodyPost_ret (v := .tuple #[.agg #[I 0, I 0], I (E)]) (by simp [results, Tryz.results27, go_sem, x0, x1]) rfl ⟨rfl, B9⟩
 rw [h1]
 go_wp2_with fail
 go_at_call 57
 refine (H2.out _ hQ.out.below).mono ?_
 rintro e wq ⟨rfl, hbn⟩
 replace hQ := hide (hQ.out.grow hbn)
 clear hbn
 clear zc c0 c1 c2 c3 c4 c5 c6 c7 zP p0 p1 s0 s1 s2 s3 s4 s5 s6 s7 zS zR r0 r1 fr0 fr1
 obtain ⟨zc, c0, c1, c2, c3, c4, c5, c6, c7, zP, p0, p1, s0, s1, s2, s3, s4, s5, s6, s7, zS, zR, r0, r1, fr0, fr1⟩ := hQ.out.facts
 by_cases h2 : sceneE s = 0
 case neg =>
  have hne : (sceneE s != 0) = true := by simpa using h2
  obtain ⟨hq1, rfl⟩ := hbad.out (sceneE s) (by rw [hdef.out, if_neg (by simpa using h1), if_pos h2]) h2
  obtain ⟨F, hF⟩ : ∃ F, sceneE s = F := ⟨_, rfl⟩
  rw [hF] at hq1 hne ⊢
  subst hq1
  clear h1 h2 hF hdef H3 H4 H5 H6 hbad hgood
  obtain ⟨x0, x1, B9⟩ := hQ.out.ret (I 0) (I 0)
  go_wp2_with fail
  obtain ⟨Wz, hWz⟩ : ∃ W, W = (wq.setCell ⟨w.heap.size + 1 + 1 + 1, 0, none⟩ (I 0)).setCell ⟨w.heap.size + 1 + 1 + 1, 1, none⟩ (I 0) := ⟨_, rfl⟩
  rw [← hWz] at x0 x1 B9 ⊢
  clear hWz
  refine bodyPost_ret (v := .tuple #[.agg #[I 0, I 0], I (E)]) (by simp [results, Tryz.results27, go_sem, x0, x1]) rfl ⟨rfl, B9⟩
 rw [h2]
 go_wp2_with fail
 go_at_call 58
 refine (H3.out (.of h1) (.of h2) _ hQ.out.below).mono ?_
 rintro e wq ⟨rfl, hbn⟩
 replace hQ := hide (hQ.out.grow hbn)
 clear hbn
 clear zc c0 c1 c2 c3 c4 c5 c6 c7 zP p0 p1 s0 s1 s2 s3 s4 s5 s6 s7 zS zR r0 r1 fr0 fr1
 obtain ⟨zc, c0, c1, c2, c3, c4, c5, c6, c7, zP, p0, p1, s0, s1, s2, s3, s4, s5, s6, s7, zS, zR, r0, r1, fr0, fr1⟩ := hQ.out.facts
 cases h3 : beginsB s ⟨no, p⟩
 case false =>
  obtain ⟨hq1, rfl⟩ := hbad.out (1) (by rw [hdef.out, if_neg (by simpa using h1), if_neg (by simpa using h2), if_pos h3]) (by decide)
  subst hq1
  clear h1 h2 h3 hdef H3 H4 H5 H6 hbad hgood
  obtain ⟨x0, x1, B9⟩ := hQ.out.ret (I 0) (I 0)
  go_wp2_with fail
  obtain ⟨Wz, hWz⟩ : ∃ W, W = (wq.setCell ⟨w.heap.size + 1 + 1 + 1, 0, none⟩ (I 0)).setCell ⟨w.heap.size + 1 + 1 + 1, 1, none⟩ (I 0) := ⟨_, rfl⟩
  rw [← hWz] at x0 x1 B9 ⊢
  clear hWz
  refine bodyPost_ret (v := .tuple #[.agg #[I 0, I 0], I (1)]) (by simp [results, Tryz.results27, go_sem, x0, x1]) rfl ⟨rfl, B9⟩
 go_wp2_with fail
 go_at_call 59
 refine (H4.out _ hQ.out.below).mono ?_
 rintro e wq ⟨rfl, hbn⟩
 replace hQ := hide (hQ.out.grow hbn)
 clear hbn
 clear zc c0 c1 c2 c3 c4 c5 c6 c7 zP p0 p1 s0 s1 s2 s3 s4 s5 s6 s7 zS zR r0 r1 fr0 fr1
 obtain ⟨zc, c0, c1, c2, c3, c4, c5, c6, c7, zP, p0, p1, s0, s1, s2, s3, s4, s5, s6, s7, zS, zR, r0, r1, fr0, fr1⟩ := hQ.out.facts
 cases h4 : chosenB s l
 case false =>
  obtain ⟨hq1, rfl⟩ := hbad.out (1) (by rw [hdef.out, if_neg (by simpa using h1), if_neg (by simpa using h2), if_neg (by simp [h3]), if_pos h4]) (by decide)
  subst hq1
  clear h1 h2 h3 h4 hdef H3 H4 H5 H6 hbad hgood
  obtain ⟨x0, x1, B9⟩ := hQ.out.ret (I 0) (I 0)
  go_wp2_with fail
  obtain ⟨Wz, hWz⟩ : ∃ W, W = (wq.setCell ⟨w.heap.size + 1 + 1 + 1, 0, none⟩ (I 0)).setCell ⟨w.heap.size + 1 + 1 + 1, 1, none⟩ (I 0) := ⟨_, rfl⟩
  rw [← hWz] at x0 x1 B9 ⊢
  clear hWz
  refine bodyPost_ret (v := .tuple #[.agg #[I 0, I 0], I (1)]) (by simp [results, Tryz.results27, go_sem, x0, x1]) rfl ⟨rfl, B9⟩
 go_wp2_with fail
 go_at_call 60
 refine (H5.out (.of h1) _ hQ.out.below).mono ?_
 rintro e wq ⟨rfl, hbn⟩
 replace hQ := hide (hQ.out.grow hbn)
 clear hbn
 clear zc c0 c1 c2 c3 c4 c5 c6 c7 zP p0 p1 s0 s1 s2 s3 s4 s5 s6 s7 zS zR r0 r1 fr0 fr1
 obtain ⟨zc, c0, c1, c2, c3, c4, c5, c6, c7, zP, p0, p1, s0, s1, s2, s3, s4, s5, s6, s7, zS, zR, r0, r1, fr0, fr1⟩ := hQ.out.facts
 cases h5 : spellB ⟨no, p⟩ frm til
 case false =>
  obtain ⟨hq1, rfl⟩ := hbad.out (1) (by rw [hdef.out, if_neg (by simpa using h1), if_neg (by simpa using h2), if_neg (by simp [h3]), if_neg (by simp [h4]), if_pos h5]) (by decide)
  subst hq1
  clear h1 h2 h3 h4 h5 hdef H3 H4 H5 H6 hbad hgood
  obtain ⟨x0, x1, B9⟩ := hQ.out.ret (I 0) (I 0)
  go_wp2_with fail
  obtain ⟨Wz, hWz⟩ : ∃ W, W = (wq.setCell ⟨w.heap.size + 1 + 1 + 1, 0, none⟩ (I 0)).setCell ⟨w.heap.size + 1 + 1 + 1, 1, none⟩ (I 0) := ⟨_, rfl⟩
  rw [← hWz] at x0 x1 B9 ⊢
  clear hWz
  refine bodyPost_ret (v := .tuple #[.agg #[I 0, I 0], I (1)]) (by simp [results, Tryz.results27, go_sem, x0, x1]) rfl ⟨rfl, B9⟩
 have hq1 : E = poolsE s := by rw [hdef.out, if_neg (by simpa using h1), if_neg (by simpa using h2), if_neg (by simp [h3]), if_neg (by simp [h4]), if_neg (by simp [h5])]
 have hq2 := hgood.out hq1
 have HV := H6.out (.of h1) (.of h2)
 rw [← hq1, ← hq2] at HV
 replace HV := hide HV
 obtain ⟨X, Y⟩ := Z
 clear hq1 hq2 h1 h2 h3 h4 h5 hdef H3 H4 H5 H6 hbad hgood
 go_wp2_with fail
 go_at_call 61
 refine (HV.out _ hQ.out.below).mono ?_
 rintro e wq ⟨rfl, hbn⟩
 replace hQ := hide (hQ.out.grow hbn)
 clear hbn
 clear zc c0 c1 c2 c3 c4 c5 c6 c7 zP p0 p1 s0 s1 s2 s3 s4 s5 s6 s7 zS zR r0 r1 fr0 fr1
 obtain ⟨zc, c0, c1, c2, c3, c4, c5, c6, c7, zP, p0, p1, s0, s1, s2, s3, s4, s5, s6, s7, zS, zR, r0, r1, fr0, fr1⟩ := hQ.out.facts
 obtain ⟨x0, x1, B9⟩ := hQ.out.ret (I X) (I Y)
 go_wp2_with fail
 obtain ⟨Wz, hWz⟩ : ∃ W, W = (wq.setCell ⟨w.heap.size + 1 + 1 + 1, 0, none⟩ (I X)).setCell ⟨w.heap.size + 1 + 1 + 1, 1, none⟩ (I Y) := ⟨_, rfl⟩
 rw [← hWz] at x0 x1 B9 ⊢
 clear hWz
 refine bodyPost_ret (v := .tuple #[.agg #[I X, I Y], I (E)]) (by simp [results, Tryz.results27, go_sem, x0, x1]) rfl ⟨rfl, B9⟩

def whenE (c : Climate) (p : Spring) (s : Scene) (l : List Int) (v : Int) : Int :=
 if springE c p ≠ 0 then springE c p else if sceneE s ≠ 0 then sceneE s else if beginsB s p = false then 1 else if chosenB s l = false then 1 else if inB v 0 1099511627776 = false then 1 else poolsE s
def whenLo (c : Climate) (p : Spring) (s : Scene) (l : List Int) (v : Int) : Int := firstF c p (pickC s.basin.cells l) (highW s l) c.fhi v
def whenHi (c : Climate) (p : Spring) (s : Scene) (l : List Int) (v : Int) : Int := firstF c p (pickC s.basin.cells l) (lowW s l) c.flo v
def whenB (c : Climate) (p : Spring) (s : Scene) (l : List Int) (v : Int) : Bool := decide (whenE c p s l v = 0) && decide (whenLo c p s l v ≤ 1048577)
def whenV (c : Climate) (p : Spring) (s : Scene) (l : List Int) (v : Int) : Int × Int := if whenB c p s l v = true then (whenLo c p s l v, whenHi c p s l v) else (0, 0)

theorem spring_When_g (c : Climate) (no : Int) (vd : Value) (p : List Weather) (s : Scene) (V : SceneV) (vl : Value) (l : List Int) (v : Int) (w : World) (hs : SceneAt w s V) (hl : Sl w 1 intC vl l) (hd : Sl w 3 Weather.cells vd p) (h1 : springE c ⟨no, p⟩ = 0) (h2 : sceneE s = 0) (h3 : beginsB s ⟨no, p⟩ = true) (h4 : chosenB s l = true) (h5 : inB v 0 1099511627776 = true) (h6 : leastE s = 0 ∧ greatE s = 0) :
  Calls Tryz.prog 28 #[c.v, .agg #[I no, vd], s.v V, vl, I v] w fun e w' => e = .returned (.tuple (if whenLo c ⟨no, p⟩ s l v ≤ 1048577 then #[.agg #[I (whenLo c ⟨no, p⟩ s l v), I (whenHi c ⟨no, p⟩ s l v)], .bool true, I 0] else #[.agg #[I 0, I 0], .bool false, I 0])) ∧ Below w.heap.size w w' := by
 obtain ⟨Ac, nc, hcc, _⟩ := hs.cells.open_
 obtain ⟨Ap, np, hpp, _⟩ := hs.pairs.open_
 obtain ⟨Ad, nd, hdd, _⟩ := hs.days.open_
 obtain ⟨As, ns, hsi, _⟩ := hs.sights.open_
 obtain ⟨Ah, nh, hch, _⟩ := hs.changes.open_
 obtain ⟨Aw, nw, rfl, _⟩ := hd.open_
 obtain ⟨Al, nl, rfl, _⟩ := hl.open_
 have ho := SprOk.of h1
 have hv := SceneOk.of h2
 have H1 := hide (fun w' (hb : Below w.heap.size w w') => spring_CheckSpring c no _ p w' (hd.mono hb))
 have H2 := hide (fun w' (hb : Below w.heap.size w w') => basin_Check s V w' (hs.mono hb))
 have H3 := hide (fun w' (hb : Below w.heap.size w w') => spring_begins s V no _ p w' (hs.mono hb) (by have := hv.hd1; omega) hv.hd2 ho.n1 (hd.mono hb))
 have H4 := hide (fun w' (hb : Below w.heap.size w w') => spring_chosen s V _ l w' (hs.mono hb) (hl.mono hb))
 have H5 := hide (fun w' (_ : Below w.heap.size w w') => (spring_in v 0 1099511627776 w').mono fun e w'' h => (⟨h.1, h.2 ▸ Below.refl _ _⟩ : e = _ ∧ Below w'.heap.size w' w''))
 have H6 := hide (fun w' (hb : Below w.heap.size w w') => spring_pools_ok c no _ p s V _ l w' (hs.mono hb) (hl.mono hb) (hd.mono hb) hv h6.1 h6.2)
 have hcs : ∀ x ∈ pickC s.basin.cells l, cellOk x = true := fun x hx => by
  have hm := (List.mem_filter.1 hx).1
  obtain ⟨i, hi⟩ := List.mem_iff_getElem?.1 hm
  exact hv.basin.cell i x hi
 have hn12 : (pickC s.basin.cells l).length ≤ 12 := Nat.le_trans (pickC_len _ _) hv.basin.hc2
 have hlw := lowW_bd hv h6.1 l
 have hhw := highW_bd hv h6.2 l
 have hll : (lowW s l).length = (pickC s.basin.cells l).length := pickW_len (leastF_last hv).2.1
 have hlh : (highW s l).length = (pickC s.basin.cells l).length := pickW_len (greatF_last hv).2.1
 have hF1 := hide (fun (vc vw : Value) (w' : World) (hb : Below w.heap.size w w') hvc hvw => pool_first c no c.fhi v (.slice Aw p.length nw) vc vw p (pickC s.basin.cells l) (highW s l) w' ho.clim ho.mem ho.n1 ho.beg ho.n2 ho.clim.fhi2 hcs hlh hhw hn12 (hd.mono hb) hvc hvw)
 have hF2 := hide (fun (vc vw : Value) (w' : World) (hb : Below w.heap.size w w') hvc hvw => pool_first c no c.flo v (.slice Aw p.length nw) vc vw p (pickC s.basin.cells l) (lowW s l) w' ho.clim ho.mem ho.n1 ho.beg ho.n2 ho.clim.flo2 hcs hll hlw hn12 (hd.mono hb) hvc hvw)
 obtain ⟨CS, hCS⟩ : ∃ CS, pickC s.basin.cells l = CS := ⟨_, rfl⟩
 obtain ⟨WL, hWL⟩ : ∃ WL, lowW s l = WL := ⟨_, rfl⟩
 obtain ⟨WH, hWH⟩ : ∃ WH, highW s l = WH := ⟨_, rfl⟩
 obtain ⟨fa, hfa⟩ : ∃ a, whenLo c ⟨no, p⟩ s l v = a := ⟨_, rfl⟩
 obtain ⟨fb, hfb⟩ : ∃ a, whenHi c ⟨no, p⟩ s l v = a := ⟨_, rfl⟩
 rw [hfa, hfb]
 unfold whenLo at hfa
 unfold whenHi at hfb
 rw [hfa] at hF1
 rw [hfb] at hF2
 rw [show pickW s.basin.cells (lastRow (leastF s)) l = WL from hWL, show pickW s.basin.cells (lastRow (greatF s)) l = WH from hWH] at H6
 rw [hCS] at H6 hF1 hF2 hn12 hll hlh
 rw [hWL] at hF2 hll
 rw [hWH] at hF1 hlh
 clear hCS hWL hWH hfa hfb hlw hhw hcs
 unfold poolV at *
 rw [h1] at H1
 rw [h2] at H2
 rw [h3] at H3
 rw [h4] at H4
 rw [h5] at H5
 clear ho hv
 clear hs hl hd
 unfold Scene.v at *
 rw [hcc, hpp, hdd, hsi, hch] at *
 clear hcc hpp hdd hsi hch
 unfold Climate.v at *
 go_enter Tryz.func28, Tryz.ntmps28
 go_wp2_with fail
 obtain ⟨W1, hW1⟩ : ∃ W1, W1 = (((w.alloc (.cells (c8 c) 25)).alloc (.cells #[I no, .slice Aw p.length nw] 58)).alloc (.cells (s8 s Ac nc Ap np Ad nd As ns Ah nh) 77)).alloc (.cells #[I 0, I 0] 23) := ⟨_, rfl⟩
 have z1 : W1.heap.size = w.heap.size + 4 := by rw [hW1]; simp
 have kB1 : Below w.heap.size w W1 := by rw [hW1]; exact below4 _ _ _ _ _
 have kC1 : Blk W1 w.heap.size 25 (c8 c) := by rw [hW1]; exact (((Blk.new w _ _).alloc _).alloc _).alloc _
 have kS1 : Blk W1 (w.heap.size + 1) 58 #[I no, .slice Aw p.length nw] := by rw [hW1]; exact ((blk21 w _ _ _).alloc _).alloc _
 have kX1 : Blk W1 (w.heap.size + 1 + 1) 77 (s8 s Ac nc Ap np Ad nd As ns Ah nh) := by rw [hW1]; exact (blk32 w _ _ _ _).alloc _
 have kR1 : Blk W1 (w.heap.size + 1 + 1 + 1) 23 #[I 0, I 0] := by
  rw [hW1]
  have h := Blk.new (((w.alloc (.cells (c8 c) 25)).alloc (.cells #[I no, .slice Aw p.length nw] 58)).alloc (.cells (s8 s Ac nc Ap np Ad nd As ns Ah nh) 77)) 23 #[I 0, I 0]
  simpa only [World.size_alloc] using h
 rw [← hW1]
 clear hW1
 have zC1 := kC1.lt
 have zS1 := kS1.lt
 have zX1 := kX1.lt
 have zR1 := kR1.lt
 obtain ⟨c0, c1, c2, c3, c4, c5, c6, c7⟩ := kC1.cells8
 obtain ⟨s0, s1⟩ := kS1.cells2
 obtain ⟨x0, x1, x2, x3, x4, x5, x6, x7⟩ := kX1.cells8
 clear c0 c1 c2 c3 c4 c5 c6 c7 s0 s1 x0 x1 x2 x3 x4 x5 x6 x7
 go_at_call 29
 refine (H1.out W1 kB1).mono ?_
 rintro e W2 ⟨rfl, hb1⟩
 have kC2 := kC1.grow hb1
 have kS2 := kS1.grow hb1
 have kX2 := kX1.grow hb1
 have kR2 := kR1.grow hb1
 have kB2 := bup kB1 hb1
 clear hb1 kC1 kS1 kX1 kR1 kB1 zC1 zS1 zX1 zR1 H1
 have zC2 := kC2.lt
 have zS2 := kS2.lt
 have zX2 := kX2.lt
 have zR2 := kR2.lt
 obtain ⟨c0, c1, c2, c3, c4, c5, c6, c7⟩ := kC2.cells8
 obtain ⟨s0, s1⟩ := kS2.cells2
 obtain ⟨x0, x1, x2, x3, x4, x5, x6, x7⟩ := kX2.cells8
 go_wp2_with fail
 clear c0 c1 c2 c3 c4 c5 c6 c7 s0 s1 x0 x1 x2 x3 x4 x5 x6 x7
 go_at_call 57
 refine (H2.out W2 kB2).mono ?_
 rintro e W3 ⟨rfl, hb2⟩
 have kC3 := kC2.grow hb2
 have kS3 := kS2.grow hb2
 have kX3 := kX2.grow hb2
 have kR3 := kR2.grow hb2
 have kB3 := bup kB2 hb2
 clear hb2 kC2 kS2 kX2 kR2 kB2 zC2 zS2 zX2 zR2 H2
 have zC3 := kC3.lt
 have zS3 := kS3.lt
 have zX3 := kX3.lt
 have zR3 := kR3.lt
 obtain ⟨c0, c1, c2, c3, c4, c5, c6, c7⟩ := kC3.cells8
 obtain ⟨s0, s1⟩ := kS3.cells2
 obtain ⟨x0, x1, x2, x3, x4, x5, x6, x7⟩ := kX3.cells8
 go_wp2_with fail
 clear c0 c1 c2 c3 c4 c5 c6 c7 s0 s1 x0 x1 x2 x3 x4 x5 x6 x7
 go_at_call 58
 refine (H3.out W3 kB3).mono ?_
 rintro e W4 ⟨rfl, hb3⟩
 have kC4 := kC3.grow hb3
 have kS4 := kS3.grow hb3
 have kX4 := kX3.grow hb3
 have kR4 := kR3.grow hb3
 have kB4 := bup kB3 hb3
 clear hb3 kC3 kS3 kX3 kR3 kB3 zC3 zS3 zX3 zR3 H3
 have zC4 := kC4.lt
 have zS4 := kS4.lt
 have zX4 := kX4.lt
 have zR4 := kR4.lt
 obtain ⟨c0, c1, c2, c3, c4, c5, c6, c7⟩ := kC4.cells8
 obtain ⟨s0, s1⟩ := kS4.cells2
 obtain ⟨x0, x1, x2, x3, x4, x5, x6, x7⟩ := kX4.cells8
 go_wp2_with fail
 clear c0 c1 c2 c3 c4 c5 c6 c7 s0 s1 x0 x1 x2 x3 x4 x5 x6 x7
 go_at_call 59
 refine (H4.out W4 kB4).mono ?_
 rintro e W5 ⟨rfl, hb4⟩
 have kC5 := kC4.grow hb4
 have kS5 := kS4.grow hb4
 have kX5 := kX4.grow hb4
 have kR5 := kR4.grow hb4
 have kB5 := bup kB4 hb4
 clear hb4 kC4 kS4 kX4 kR4 kB4 zC4 zS4 zX4 zR4 H4
 have zC5 := kC5.lt
 have zS5 := kS5.lt
 have zX5 := kX5.lt
 have zR5 := kR5.lt
 obtain ⟨c0, c1, c2, c3, c4, c5, c6, c7⟩ := kC5.cells8
 obtain ⟨s0, s1⟩ := kS5.cells2
 obtain ⟨x0, x1, x2, x3, x4, x5, x6, x7⟩ := kX5.cells8
 go_wp2_with fail
 clear c0 c1 c2 c3 c4 c5 c6 c7 s0 s1 x0 x1 x2 x3 x4 x5 x6 x7
 go_at_call 49
 refine (H5.out W5 kB5).mono ?_
 rintro e W6 ⟨rfl, hb5⟩
 have kC6 := kC5.grow hb5
 have kS6 := kS5.grow hb5
 have kX6 := kX5.grow hb5
 have kR6 := kR5.grow hb5
 have kB6 := bup kB5 hb5
 clear hb5 kC5 kS5 kX5 kR5 kB5 zC5 zS5 zX5 zR5 H5
 have zC6 := kC6.lt
 have zS6 := kS6.lt
 have zX6 := kX6.lt
 have zR6 := kR6.lt
 obtain ⟨c0, c1, c2, c3, c4, c5, c6, c7⟩ := kC6.cells8
 obtain ⟨s0, s1⟩ := kS6.cells2
 obtain ⟨x0, x1, x2, x3, x4, x5, x6, x7⟩ := kX6.cells8
 go_wp2_with fail
 clear c0 c1 c2 c3 c4 c5 c6 c7 s0 s1 x0 x1 x2 x3 x4 x5 x6 x7
 go_at_call 62
 refine (H6.out W6 kB6).mono ?_
 rintro e W7 ⟨va, vb, vc, vd, rfl, ho1, ho2, ho3, ho4, hb6⟩
 obtain ⟨A1, n1, k1, rfl⟩ := ho1.shape
 obtain ⟨A2, n2, k2, rfl⟩ := ho2.shape
 obtain ⟨A3, n3, k3, rfl⟩ := ho3.shape
 obtain ⟨A4, n4, k4, rfl⟩ := ho4.shape
 replace ho1 := hide (ho1.sl Cell.cells_len (by omega))
 replace ho2 := hide (ho2.sl intC_len (by omega))
 replace ho3 := hide (ho3.sl Cell.cells_len (by omega))
 replace ho4 := hide (ho4.sl intC_len (by omega))
 have kC7 := kC6.grow hb6
 have kR7 := kR6.grow hb6
 have kB7 := bup kB6 hb6
 clear hb6 kC6 kS6 kX6 kR6 kB6 zC6 zS6 zX6 zR6 H6
 go_wp2_with fail
 obtain ⟨Wq, hWq⟩ : ∃ Wq, Wq = (W7.alloc (.cells #[I c.base, I c.lapse, I c.swing, I c.wettest, I c.coldest, I c.warmest, I c.flo, I c.fhi, I no, .slice Aw p.length nw, .slice A1 n1 k1, .slice A2 n2 k2] 114)).alloc (.cells #[I c.base, I c.lapse, I c.swing, I c.wettest, I c.coldest, I c.warmest, I c.flo, I c.fhi, I no, .slice Aw p.length nw, .slice A3 n3 k3, .slice A4 n4 k4] 114) := ⟨_, rfl⟩
 have kBq : Below W7.heap.size W7 Wq := by rw [hWq]; exact below2 _ _ _
 have kL0 : Blk Wq W7.heap.size 114 #[I c.base, I c.lapse, I c.swing, I c.wettest, I c.coldest, I c.warmest, I c.flo, I c.fhi, I no, .slice Aw p.length nw, .slice A1 n1 k1, .slice A2 n2 k2] := by rw [hWq]; exact (Blk.new _ _ _).alloc _
 have kH0 : Blk Wq (W7.heap.size + 1) 114 #[I c.base, I c.lapse, I c.swing, I c.wettest, I c.coldest, I c.warmest, I c.flo, I c.fhi, I no, .slice Aw p.length nw, .slice A3 n3 k3, .slice A4 n4 k4] := by
  rw [hWq]
  have h := Blk.new (W7.alloc (.cells #[I c.base, I c.lapse, I c.swing, I c.wettest, I c.coldest, I c.warmest, I c.flo, I c.fhi, I no, .slice Aw p.length nw, .slice A1 n1 k1, .slice A2 n2 k2] 114)) 114 #[I c.base, I c.lapse, I c.swing, I c.wettest, I c.coldest, I c.warmest, I c.flo, I c.fhi, I no, .slice Aw p.length nw, .slice A3 n3 k3, .slice A4 n4 k4]
  simpa only [World.size_alloc] using h
 rw [← hWq]
 clear hWq
 have kCq := hide (kC7.grow kBq)
 have kRq := hide (kR7.grow kBq)
 have kBB := hide (bup kB7 kBq)
 replace ho1 := hide (ho1.out.mono kBq)
 replace ho2 := hide (ho2.out.mono kBq)
 replace ho3 := hide (ho3.out.mono kBq)
 replace ho4 := hide (ho4.out.mono kBq)
 have zq := kBq.size
 have zw := kBB.out.size
 obtain ⟨gl, hgl⟩ : ∃ g, W7.heap.size = g := ⟨_, rfl⟩
 obtain ⟨gh, hgh⟩ : ∃ g, W7.heap.size + 1 = g := ⟨_, rfl⟩
 rw [hgh] at kH0 ⊢
 rw [hgl] at kL0 ⊢
 replace kL0 := hide kL0
 replace kH0 := hide kH0
 clear kC7 kR7 kB7 kBq hgl hgh
 have HSq : ∀ W : World, Blk W gl 114 #[I c.base, I c.lapse, I c.swing, I c.wettest, I c.coldest, I c.warmest, I c.flo, I c.fhi, I no, .slice Aw p.length nw, .slice A1 n1 k1, .slice A2 n2 k2] → Blk W gh 114 #[I c.base, I c.lapse, I c.swing, I c.wettest, I c.coldest, I c.warmest, I c.flo, I c.fhi, I no, .slice Aw p.length nw, .slice A3 n3 k3, .slice A4 n4 k4] → Blk W w.heap.size 25 (c8 c) → (fun W : World => W.cell? ⟨gl, 0, none⟩ = some (I c.base) ∧ W.cell? ⟨gl, 1, none⟩ = some (I c.lapse) ∧ W.cell? ⟨gl, 2, none⟩ = some (I c.swing) ∧ W.cell? ⟨gl, 3, none⟩ = some (I c.wettest) ∧ W.cell? ⟨gl, 4, none⟩ = some (I c.coldest) ∧ W.cell? ⟨gl, 5, none⟩ = some (I c.warmest) ∧ W.cell? ⟨gl, 6, none⟩ = some (I c.flo) ∧ W.cell? ⟨gl, 7, none⟩ = some (I c.fhi) ∧ W.cell? ⟨gl, 8, none⟩ = some (I no) ∧ W.cell? ⟨gl, 9, none⟩ = some (.slice Aw p.length nw) ∧ W.cell? ⟨gl, 10, none⟩ = some (.slice A1 n1 k1) ∧ W.cell? ⟨gl, 11, none⟩ = some (.slice A2 n2 k2) ∧ W.cell? ⟨gh, 0, none⟩ = some (I c.base) ∧ W.cell? ⟨gh, 1, none⟩ = some (I c.lapse) ∧ W.cell? ⟨gh, 2, none⟩ = some (I c.swing) ∧ W.cell? ⟨gh, 3, none⟩ = some (I c.wettest) ∧ W.cell? ⟨gh, 4, none⟩ = some (I c.coldest) ∧ W.cell? ⟨gh, 5, none⟩ = some (I c.warmest) ∧ W.cell? ⟨gh, 6, none⟩ = some (I c.flo) ∧ W.cell? ⟨gh, 7, none⟩ = some (I c.fhi) ∧ W.cell? ⟨gh, 8, none⟩ = some (I no) ∧ W.cell? ⟨gh, 9, none⟩ = some (.slice Aw p.length nw) ∧ W.cell? ⟨gh, 10, none⟩ = some (.slice A3 n3 k3) ∧ W.cell? ⟨gh, 11, none⟩ = some (.slice A4 n4 k4) ∧ W.cell? ⟨w.heap.size, 6, none⟩ = some (I c.flo) ∧ W.cell? ⟨w.heap.size, 7, none⟩ = some (I c.fhi)) W :=
  fun W a b d => ⟨a.cell 0, a.cell 1, a.cell 2, a.cell 3, a.cell 4, a.cell 5, a.cell 6, a.cell 7, a.cell 8, a.cell 9, a.cell 10, a.cell 11, b.cell 0, b.cell 1, b.cell 2, b.cell 3, b.cell 4, b.cell 5, b.cell 6, b.cell 7, b.cell 8, b.cell 9, b.cell 10, b.cell 11, d.cell 6, d.cell 7⟩
 replace HSq := hide HSq
 refine wp_region_zg (S := fun W => W.cell? ⟨gl, 0, none⟩ = some (I c.base) ∧ W.cell? ⟨gl, 1, none⟩ = some (I c.lapse) ∧ W.cell? ⟨gl, 2, none⟩ = some (I c.swing) ∧ W.cell? ⟨gl, 3, none⟩ = some (I c.wettest) ∧ W.cell? ⟨gl, 4, none⟩ = some (I c.coldest) ∧ W.cell? ⟨gl, 5, none⟩ = some (I c.warmest) ∧ W.cell? ⟨gl, 6, none⟩ = some (I c.flo) ∧ W.cell? ⟨gl, 7, none⟩ = some (I c.fhi) ∧ W.cell? ⟨gl, 8, none⟩ = some (I no) ∧ W.cell? ⟨gl, 9, none⟩ = some (.slice Aw p.length nw) ∧ W.cell? ⟨gl, 10, none⟩ = some (.slice A1 n1 k1) ∧ W.cell? ⟨gl, 11, none⟩ = some (.slice A2 n2 k2) ∧ W.cell? ⟨gh, 0, none⟩ = some (I c.base) ∧ W.cell? ⟨gh, 1, none⟩ = some (I c.lapse) ∧ W.cell? ⟨gh, 2, none⟩ = some (I c.swing) ∧ W.cell? ⟨gh, 3, none⟩ = some (I c.wettest) ∧ W.cell? ⟨gh, 4, none⟩ = some (I c.coldest) ∧ W.cell? ⟨gh, 5, none⟩ = some (I c.warmest) ∧ W.cell? ⟨gh, 6, none⟩ = some (I c.flo) ∧ W.cell? ⟨gh, 7, none⟩ = some (I c.fhi) ∧ W.cell? ⟨gh, 8, none⟩ = some (I no) ∧ W.cell? ⟨gh, 9, none⟩ = some (.slice Aw p.length nw) ∧ W.cell? ⟨gh, 10, none⟩ = some (.slice A3 n3 k3) ∧ W.cell? ⟨gh, 11, none⟩ = some (.slice A4 n4 k4) ∧ W.cell? ⟨w.heap.size, 6, none⟩ = some (I c.flo) ∧ W.cell? ⟨w.heap.size, 7, none⟩ = some (I c.fhi)) 14 (by kernel_rfl) (by kernel_rfl) ?_
 have hS0 := HSq.out Wq.drew kL0.out kH0.out kCq.out
 (refine zg_tk 0 ?_; refine zg_tk 1 ?_; refine zg_tk 2 ?_; refine zg_tk 3 ?_; refine zg_tk 4 ?_; refine zg_tk 6 ?_; refine zg_tk 7 ?_; refine zg_tk 8 ?_; refine zg_tk 9 ?_; refine zg_tk 10 ?_; (try go_frame))
 have wB1 : Below Wq.heap.size Wq Wq.drew := (Below.refl _ _).drew
 obtain ⟨nq, hnq⟩ : ∃ n, Wq.heap.size = n := ⟨_, rfl⟩
 replace hnq := hide hnq
 apply via
 case f =>
  intro key
  have HSw : ∀ W, Below Wq.heap.size Wq W → (fun W : World => W.cell? ⟨gl, 0, none⟩ = some (I c.base) ∧ W.cell? ⟨gl, 1, none⟩ = some (I c.lapse) ∧ W.cell? ⟨gl, 2, none⟩ = some (I c.swing) ∧ W.cell? ⟨gl, 3, none⟩ = some (I c.wettest) ∧ W.cell? ⟨gl, 4, none⟩ = some (I c.coldest) ∧ W.cell? ⟨gl, 5, none⟩ = some (I c.warmest) ∧ W.cell? ⟨gl, 6, none⟩ = some (I c.flo) ∧ W.cell? ⟨gl, 7, none⟩ = some (I c.fhi) ∧ W.cell? ⟨gl, 8, none⟩ = some (I no) ∧ W.cell? ⟨gl, 9, none⟩ = some (.slice Aw p.length nw) ∧ W.cell? ⟨gl, 10, none⟩ = some (.slice A1 n1 k1) ∧ W.cell? ⟨gl, 11, none⟩ = some (.slice A2 n2 k2) ∧ W.cell? ⟨gh, 0, none⟩ = some (I c.base) ∧ W.cell? ⟨gh, 1, none⟩ = some (I c.lapse) ∧ W.cell? ⟨gh, 2, none⟩ = some (I c.swing) ∧ W.cell? ⟨gh, 3, none⟩ = some (I c.wettest) ∧ W.cell? ⟨gh, 4, none⟩ = some (I c.coldest) ∧ W.cell? ⟨gh, 5, none⟩ = some (I c.warmest) ∧ W.cell? ⟨gh, 6, none⟩ = some (I c.flo) ∧ W.cell? ⟨gh, 7, none⟩ = some (I c.fhi) ∧ W.cell? ⟨gh, 8, none⟩ = some (I no) ∧ W.cell? ⟨gh, 9, none⟩ = some (.slice Aw p.length nw) ∧ W.cell? ⟨gh, 10, none⟩ = some (.slice A3 n3 k3) ∧ W.cell? ⟨gh, 11, none⟩ = some (.slice A4 n4 k4) ∧ W.cell? ⟨w.heap.size, 6, none⟩ = some (I c.flo) ∧ W.cell? ⟨w.heap.size, 7, none⟩ = some (I c.fhi)) W := fun W h => HSq.out W (kL0.out.grow h) (kH0.out.grow h) (kCq.out.grow h)
  replace HSw := hide HSw
  refine zg_two (i := 5) (j := 13) (by decide) (by decide) rfl rfl (by kernel_rfl) (fun K_ hK_ => ?_) (fun K_ hK_ => ?_)
  ·go_simp
   refine (hF1.out (.slice A3 n3 k3) (.slice A4 n4 k4) Wq.drew (bup kBB.out wB1) (ho3.out.mono wB1) (ho4.out.mono wB1)).mono ?_
   rintro e w4 ⟨rfl, hb4⟩
   have wB4 := bup wB1 hb4
   refine hK_.out _ _ (HSw.out _ wB4) (fun hHeld => ?_)
   clear hK_ K_
   (try go_frame)
   refine zg_two (i := 11) (j := 13) (by decide) (by decide) rfl rfl (by kernel_rfl) (fun K_ hK_ => ?_) (fun K_ hK_ => ?_)
   ·go_simp
    refine (hF2.out (.slice A1 n1 k1) (.slice A2 n2 k2) w4 (bup kBB.out wB4) (ho1.out.mono wB4) (ho2.out.mono wB4)).mono ?_
    rintro e w5 ⟨rfl, hb5⟩
    have wB5 := bup wB4 hb5
    refine hK_.out _ _ (HSw.out _ wB5) (fun hHeld => ?_)
    clear hK_ K_
    (try go_frame)
    (refine zg_tk 12 ?_; (try go_frame))
    (refine zg_rd 13 fun K_ hK_ => ?_; go_simp; skip; refine hK_.out _ _ ?_ (fun hHeld => ?_); rotate_left; clear hK_ K_; (try go_frame); rotate_left)
    ·exact HSw.out _ (bup wB5 (below1 _ _))
    (refine zg_ls 14 fun K_ hK_ => ?_; go_simp; skip; refine hK_.out _ _ ?_; clear hK_ K_; (try go_frame))
    have hbE : Below nq Wq (w5.alloc (.cells #[Value.int .i64 fa, Value.int .i64 fb] 23)) := by rw [← hnq.out]; exact bup wB5 (below1 _ _)
    have hkE : Blk (w5.alloc (.cells #[Value.int .i64 fa, Value.int .i64 fb] 23)) w5.heap.size 23 #[I fa, I fb] := Blk.new _ _ _
    have hgE : nq ≤ w5.heap.size := by rw [← hnq.out]; exact wB5.size
    generalize (w5.alloc (.cells #[Value.int .i64 fa, Value.int .i64 fb] 23)) = W18 at hbE hkE ⊢
    generalize w5.heap.size = g18 at hkE hgE ⊢
    revert hbE hkE hgE
    revert g18
    revert W18
    exact key.out
   ·go_simp
    have wB5 := bup wB4 (below1 w4 (.cells #[Value.int .i64 0, Value.int .i64 0] 23))
    have k18 := Blk.new w4 23 #[Value.int .i64 0, Value.int .i64 0]
    refine hK_.out _ _ (HSw.out _ wB5) (fun hHeld => ?_)
    clear hK_ K_
    (try go_frame)
    (refine zg_rd 11 fun K_ hK_ => ?_; go_simp; (refine (hF2.out (.slice A1 n1 k1) (.slice A2 n2 k2) (w4.alloc (.cells #[Value.int .i64 0, Value.int .i64 0] 23)) (bup kBB.out wB5) (ho1.out.mono wB5) (ho2.out.mono wB5)).mono ?_; rintro e w5 ⟨rfl, hb5⟩); refine hK_.out _ _ ?_ (fun hHeld => ?_); rotate_left; clear hK_ K_; (try go_frame); rotate_left)
    ·exact HSw.out _ (bup wB5 hb5)
    have wB6 := bup wB5 hb5
    replace k18 := k18.grow hb5
    have z18 := wB4.size
    obtain ⟨zr, r0, r1, r2, r3⟩ := blk_box k18
    (refine zg_tk 12 ?_; (try go_frame))
    (refine zg_ls 14 fun K_ hK_ => ?_; go_simp; skip; refine hK_.out _ _ ?_; clear hK_ K_; (try go_frame))
    have hbE : Below nq Wq ((w5.setCell ⟨w4.heap.size, 0, none⟩ (Value.int .i64 fa)).setCell ⟨w4.heap.size, 1, none⟩ (Value.int .i64 fb)) := by rw [← hnq.out]; exact gap_below2 wB6 wB4.size
    have hkE : Blk ((w5.setCell ⟨w4.heap.size, 0, none⟩ (Value.int .i64 fa)).setCell ⟨w4.heap.size, 1, none⟩ (Value.int .i64 fb)) w4.heap.size 23 #[I fa, I fb] := gap_set2 k18
    have hgE : nq ≤ w4.heap.size := by rw [← hnq.out]; exact wB4.size
    generalize ((w5.setCell ⟨w4.heap.size, 0, none⟩ (Value.int .i64 fa)).setCell ⟨w4.heap.size, 1, none⟩ (Value.int .i64 fb)) = W18 at hbE hkE ⊢
    generalize w4.heap.size = g18 at hkE hgE ⊢
    revert hbE hkE hgE
    revert g18
    revert W18
    exact key.out
  ·go_simp
   have wB2 := bup wB1 (below1 Wq.drew (.cells #[Value.int .i64 0, Value.int .i64 0] 23))
   have k18 : Blk (Wq.drew.alloc (.cells #[Value.int .i64 0, Value.int .i64 0] 23)) Wq.heap.size 23 #[Value.int .i64 0, Value.int .i64 0] := Blk.new Wq.drew 23 #[Value.int .i64 0, Value.int .i64 0]
   refine hK_.out _ _ (HSw.out _ wB2) (fun hHeld => ?_)
   clear hK_ K_
   (try go_frame)
   (refine zg_rd 5 fun K_ hK_ => ?_; go_simp; (refine (hF1.out (.slice A3 n3 k3) (.slice A4 n4 k4) (Wq.drew.alloc (.cells #[Value.int .i64 0, Value.int .i64 0] 23)) (bup kBB.out wB2) (ho3.out.mono wB2) (ho4.out.mono wB2)).mono ?_; rintro e w4 ⟨rfl, hb4⟩); refine hK_.out _ _ ?_ (fun hHeld => ?_); rotate_left; clear hK_ K_; (try go_frame); rotate_left)
   ·exact HSw.out _ (bup wB2 hb4)
   have wB4 := bup wB2 hb4
   (refine zg_rd 11 fun K_ hK_ => ?_; go_simp; (refine (hF2.out (.slice A1 n1 k1) (.slice A2 n2 k2) w4 (bup kBB.out wB4) (ho1.out.mono wB4) (ho2.out.mono wB4)).mono ?_; rintro e w5 ⟨rfl, hb5⟩); refine hK_.out _ _ ?_ (fun hHeld => ?_); rotate_left; clear hK_ K_; (try go_frame); rotate_left)
   ·exact HSw.out _ (bup wB4 hb5)
   have wB5 := bup wB4 hb5
   replace k18 := (k18.grow hb4).grow hb5
   obtain ⟨zr, r0, r1, r2, r3⟩ := blk_box k18
   (refine zg_tk 12 ?_; (try go_frame))
   (refine zg_ls 14 fun K_ hK_ => ?_; go_simp; skip; refine hK_.out _ _ ?_; clear hK_ K_; (try go_frame))
   have hbE : Below nq Wq ((w5.setCell ⟨Wq.heap.size, 0, none⟩ (Value.int .i64 fa)).setCell ⟨Wq.heap.size, 1, none⟩ (Value.int .i64 fb)) := by rw [← hnq.out]; exact gap_below2 wB5 (Nat.le_refl _)
   have hkE : Blk ((w5.setCell ⟨Wq.heap.size, 0, none⟩ (Value.int .i64 fa)).setCell ⟨Wq.heap.size, 1, none⟩ (Value.int .i64 fb)) Wq.heap.size 23 #[I fa, I fb] := gap_set2 k18
   have hgE : nq ≤ Wq.heap.size := by rw [← hnq.out]; exact Nat.le_refl _
   generalize ((w5.setCell ⟨Wq.heap.size, 0, none⟩ (Value.int .i64 fa)).setCell ⟨Wq.heap.size, 1, none⟩ (Value.int .i64 fb)) = W18 at hbE hkE ⊢
   generalize Wq.heap.size = g18 at hkE hgE ⊢
   revert hbE hkE hgE
   revert g18
   revert W18
   exact key.out
 case g =>
  intro W18 g18 hbE hkE hgE
  replace hnq := hnq.out
  have hbE' : Below Wq.heap.size Wq W18 := by rw [hnq]; exact hbE
  have kRe := kRq.out.grow hbE'
  have kBe := hide (bup kBB.out hbE')
  obtain ⟨gR, hgR⟩ : ∃ g, w.heap.size + 1 + 1 + 1 = g := ⟨_, rfl⟩
  replace kRe : Blk W18 gR 23 #[I 0, I 0] := hgR ▸ kRe
  have zRq : gR < Wq.heap.size := by
   have h := kRq.out.lt
   rw [hgR] at h
   exact h
  obtain ⟨zr, r0, r1, r2, r3⟩ := blk_box kRe
  obtain ⟨z8, t0, t1, t2, t3⟩ := blk_box hkE
  have hne1 : gR ≠ g18 := by omega
  have hne2 : g18 ≠ gR := by omega
  replace kRe := hide kRe
  clear hS0 wB1 hbE hkE
  rw [hgR]
  rcases ilt 1048577 fa with hf | hf
  ·have hd1 : decide (fa ≤ 1048577) = false := by simp; omega
   go_wp2_with fail
   have kR := gap_set2 (r := I 0) (s := I 0) kRe.out
   have v0 := kR.cell 0
   have v1 := kR.cell 1
   refine bodyPost_ret (v := .tuple #[.agg #[I 0, I 0], .bool false, I 0]) (by simp [results, Tryz.results28, go_sem, v0, v1]) rfl ⟨rfl, gap_below2 kBe.out (by omega)⟩
  ·have hd1 : decide (fa ≤ 1048577) = true := by simp; omega
   go_wp2_with fail
   have kR := gap_set2 (r := I fa) (s := I fb) kRe.out
   have v0 := kR.cell 0
   have v1 := kR.cell 1
   refine bodyPost_ret (v := .tuple #[.agg #[I fa, I fb], .bool true, I 0]) (by simp [results, Tryz.results28, go_sem, v0, v1]) rfl ⟨rfl, gap_below2 kBe.out (by omega)⟩

theorem spring_When (c : Climate) (no : Int) (vd : Value) (p : List Weather) (s : Scene) (V : SceneV) (vl : Value) (l : List Int) (v : Int) (w : World) (hs : SceneAt w s V) (hl : Sl w 1 intC vl l) (hd : Sl w 3 Weather.cells vd p) :
  Calls Tryz.prog 28 #[c.v, .agg #[I no, vd], s.v V, vl, I v] w fun e w' => e = .returned (.tuple #[.agg #[I (whenV c ⟨no, p⟩ s l v).1, I (whenV c ⟨no, p⟩ s l v).2], .bool (whenB c ⟨no, p⟩ s l v), I (whenE c ⟨no, p⟩ s l v)]) ∧ Below w.heap.size w w' := by
 by_cases hg : springE c ⟨no, p⟩ = 0 ∧ sceneE s = 0 ∧ beginsB s ⟨no, p⟩ = true ∧ chosenB s l = true ∧ inB v 0 1099511627776 = true ∧ poolsE s = 0
 case pos =>
  obtain ⟨h1, h2, h3, h4, h5, h6⟩ := hg
  have hE : whenE c ⟨no, p⟩ s l v = 0 := by simp [whenE, h1, h2, h3, h4, h5, h6]
  refine (spring_When_g c no vd p s V vl l v w hs hl hd h1 h2 h3 h4 h5 (poolsE_zero h6)).mono ?_
  rintro e w' ⟨h7, h8⟩
  refine ⟨?_, h8⟩
  rw [h7, hE]
  by_cases hlo : whenLo c ⟨no, p⟩ s l v ≤ 1048577 <;> simp [whenV, whenB, hE, hlo]
 have hB : whenB c ⟨no, p⟩ s l v = false := by
  cases hw : whenB c ⟨no, p⟩ s l v with
  | false => rfl
  | true =>
   exfalso
   apply hg
   have hE : whenE c ⟨no, p⟩ s l v = 0 := by simp only [whenB, Bool.and_eq_true, decide_eq_true_eq] at hw; exact hw.1
   unfold whenE at hE
   repeat' split at hE
   all_goals first | (exfalso; omega) | skip
   all_goals simp_all
 have hV : whenV c ⟨no, p⟩ s l v = (0, 0) := by simp [whenV, hB]
 rw [hB, hV]
 have H1 := hide (fun w' (hb : Below w.heap.size w w') => spring_CheckSpring c no _ p w' (hd.mono hb))
 have H2 := hide (fun w' (hb : Below w.heap.size w w') => basin_Check s V w' (hs.mono hb))
 have H3 := hide (fun (ho : SprOk c ⟨no, p⟩) (hv : SceneOk s) w' (hb : Below w.heap.size w w') => spring_begins s V no _ p w' (hs.mono hb) (by have := hv.hd1; omega) hv.hd2 ho.n1 (hd.mono hb))
 have H4 := hide (fun w' (hb : Below w.heap.size w w') => spring_chosen s V _ l w' (hs.mono hb) (hl.mono hb))
 have H5 := hide (fun w' (_ : Below w.heap.size w w') => (spring_in v 0 1099511627776 w').mono fun e w'' h => (⟨h.1, h.2 ▸ Below.refl _ _⟩ : e = _ ∧ Below w'.heap.size w' w''))
 have H6 := hide (fun (h6 : poolsE s ≠ 0) w' (hb : Below w.heap.size w w') => spring_pools_bad c no _ p s V _ l w' (hs.mono hb) (hl.mono hb) (hd.mono hb) h6)
 have hdef : whenE c ⟨no, p⟩ s l v = if springE c ⟨no, p⟩ ≠ 0 then springE c ⟨no, p⟩ else if sceneE s ≠ 0 then sceneE s else if beginsB s ⟨no, p⟩ = false then 1 else if chosenB s l = false then 1 else if inB v 0 1099511627776 = false then 1 else poolsE s := rfl
 obtain ⟨E, hE⟩ : ∃ E, whenE c ⟨no, p⟩ s l v = E := ⟨_, rfl⟩
 rw [hE]
 rw [hE] at hdef
 clear hE
 replace hdef := hide hdef
 replace hg := hide hg
 obtain ⟨vc, vp, vD, vs, vh⟩ := V
 obtain ⟨Ac, nc, rfl, _⟩ := (show Sl w 4 Cell.cells vc s.basin.cells from hs.cells).open_
 obtain ⟨Ap, np, rfl, _⟩ := (show Sl w 2 pairC vp s.basin.pairs from hs.pairs).open_
 obtain ⟨Ad, nd, rfl, _⟩ := (show Sl w 1 intC vD s.days from hs.days).open_
 obtain ⟨As, ns, rfl, _⟩ := (show Sl w 5 Sight.cells vs s.sights from hs.sights).open_
 obtain ⟨Ah, nh, rfl, _⟩ := (show Sl w 5 Change.cells vh s.changes from hs.changes).open_
 unfold Scene.v Climate.v at *
 simp only at *
 clear hs hl hd
 go_enter Tryz.func28, Tryz.ntmps28
 go_wp2_with fail
 obtain ⟨wq, hwq⟩ : ∃ W, W = (((w.alloc (.cells (c8 c) 25)).alloc (.cells #[I no, vd] 58)).alloc (.cells (s8 s Ac nc Ap np Ad nd As ns Ah nh) 77)).alloc (.cells #[I 0, I 0] 23) := ⟨_, rfl⟩
 have hQ := hide (show QAt c no vd (s8 s Ac nc Ap np Ad nd As ns Ah nh) w wq by rw [hwq]; exact QAt.new _ _ _ _ _)
 rw [← hwq]
 clear hwq
 obtain ⟨zc, c0, c1, c2, c3, c4, c5, c6, c7, zP, p0, p1, s0, s1, s2, s3, s4, s5, s6, s7, zS, zR, r0, r1, fr0, fr1⟩ := hQ.out.facts
 go_wp2_with fail
 go_at_call 29
 refine (H1.out _ hQ.out.below).mono ?_
 rintro e wq ⟨rfl, hbn⟩
 replace hQ := hide (hQ.out.grow hbn)
 clear hbn
 clear zc c0 c1 c2 c3 c4 c5 c6 c7 zP p0 p1 s0 s1 s2 s3 s4 s5 s6 s7 zS zR r0 r1 fr0 fr1
 obtain ⟨zc, c0, c1, c2, c3, c4, c5, c6, c7, zP, p0, p1, s0, s1, s2, s3, s4, s5, s6, s7, zS, zR, r0, r1, fr0, fr1⟩ := hQ.out.facts
 by_cases h1 : springE c ⟨no, p⟩ = 0
 case neg =>
  have hne : (springE c ⟨no, p⟩ != 0) = true := by simpa using h1
  obtain hq1 : E = springE c ⟨no, p⟩ := by rw [hdef.out, if_pos h1]
  obtain ⟨F, hF⟩ : ∃ F, springE c ⟨no, p⟩ = F := ⟨_, rfl⟩
  rw [hF] at hq1 hne ⊢
  subst hq1
  clear h1 hF H2 hdef H3 H4 H5 H6 hg
  obtain ⟨x0, x1, B9⟩ := hQ.out.ret (I 0) (I 0)
  go_wp2_with fail
  obtain ⟨Wz, hWz⟩ : ∃ W, W = (wq.setCell ⟨w.heap.size + 1 + 1 + 1, 0, none⟩ (I 0)).setCell ⟨w.heap.size + 1 + 1 + 1, 1, none⟩ (I 0) := ⟨_, rfl⟩
  rw [← hWz] at x0 x1 B9 ⊢
  clear hWz
  refine bodyPost_ret (v := .tuple #[.agg #[I 0, I 0], .bool false, I (E)]) (by simp [results, Tryz.results28, go_sem, x0, x1]) rfl ⟨rfl, B9⟩
 rw [h1]
 go_wp2_with fail
 go_at_call 57
 refine (H2.out _ hQ.out.below).mono ?_
 rintro e wq ⟨rfl, hbn⟩
 replace hQ := hide (hQ.out.grow hbn)
 clear hbn
 clear zc c0 c1 c2 c3 c4 c5 c6 c7 zP p0 p1 s0 s1 s2 s3 s4 s5 s6 s7 zS zR r0 r1 fr0 fr1
 obtain ⟨zc, c0, c1, c2, c3, c4, c5, c6, c7, zP, p0, p1, s0, s1, s2, s3, s4, s5, s6, s7, zS, zR, r0, r1, fr0, fr1⟩ := hQ.out.facts
 by_cases h2 : sceneE s = 0
 case neg =>
  have hne : (sceneE s != 0) = true := by simpa using h2
  obtain hq1 : E = sceneE s := by rw [hdef.out, if_neg (by simpa using h1), if_pos h2]
  obtain ⟨F, hF⟩ : ∃ F, sceneE s = F := ⟨_, rfl⟩
  rw [hF] at hq1 hne ⊢
  subst hq1
  clear h1 h2 hF hdef H3 H4 H5 H6 hg
  obtain ⟨x0, x1, B9⟩ := hQ.out.ret (I 0) (I 0)
  go_wp2_with fail
  obtain ⟨Wz, hWz⟩ : ∃ W, W = (wq.setCell ⟨w.heap.size + 1 + 1 + 1, 0, none⟩ (I 0)).setCell ⟨w.heap.size + 1 + 1 + 1, 1, none⟩ (I 0) := ⟨_, rfl⟩
  rw [← hWz] at x0 x1 B9 ⊢
  clear hWz
  refine bodyPost_ret (v := .tuple #[.agg #[I 0, I 0], .bool false, I (E)]) (by simp [results, Tryz.results28, go_sem, x0, x1]) rfl ⟨rfl, B9⟩
 rw [h2]
 go_wp2_with fail
 go_at_call 58
 refine (H3.out (.of h1) (.of h2) _ hQ.out.below).mono ?_
 rintro e wq ⟨rfl, hbn⟩
 replace hQ := hide (hQ.out.grow hbn)
 clear hbn
 clear zc c0 c1 c2 c3 c4 c5 c6 c7 zP p0 p1 s0 s1 s2 s3 s4 s5 s6 s7 zS zR r0 r1 fr0 fr1
 obtain ⟨zc, c0, c1, c2, c3, c4, c5, c6, c7, zP, p0, p1, s0, s1, s2, s3, s4, s5, s6, s7, zS, zR, r0, r1, fr0, fr1⟩ := hQ.out.facts
 cases h3 : beginsB s ⟨no, p⟩
 case false =>
  obtain hq1 : E = 1 := by rw [hdef.out, if_neg (by simpa using h1), if_neg (by simpa using h2), if_pos h3]
  subst hq1
  clear h1 h2 h3 hdef H3 H4 H5 H6 hg
  obtain ⟨x0, x1, B9⟩ := hQ.out.ret (I 0) (I 0)
  go_wp2_with fail
  obtain ⟨Wz, hWz⟩ : ∃ W, W = (wq.setCell ⟨w.heap.size + 1 + 1 + 1, 0, none⟩ (I 0)).setCell ⟨w.heap.size + 1 + 1 + 1, 1, none⟩ (I 0) := ⟨_, rfl⟩
  rw [← hWz] at x0 x1 B9 ⊢
  clear hWz
  refine bodyPost_ret (v := .tuple #[.agg #[I 0, I 0], .bool false, I (1)]) (by simp [results, Tryz.results28, go_sem, x0, x1]) rfl ⟨rfl, B9⟩
 go_wp2_with fail
 go_at_call 59
 refine (H4.out _ hQ.out.below).mono ?_
 rintro e wq ⟨rfl, hbn⟩
 replace hQ := hide (hQ.out.grow hbn)
 clear hbn
 clear zc c0 c1 c2 c3 c4 c5 c6 c7 zP p0 p1 s0 s1 s2 s3 s4 s5 s6 s7 zS zR r0 r1 fr0 fr1
 obtain ⟨zc, c0, c1, c2, c3, c4, c5, c6, c7, zP, p0, p1, s0, s1, s2, s3, s4, s5, s6, s7, zS, zR, r0, r1, fr0, fr1⟩ := hQ.out.facts
 cases h4 : chosenB s l
 case false =>
  obtain hq1 : E = 1 := by rw [hdef.out, if_neg (by simpa using h1), if_neg (by simpa using h2), if_neg (by simp [h3]), if_pos h4]
  subst hq1
  clear h1 h2 h3 h4 hdef H3 H4 H5 H6 hg
  obtain ⟨x0, x1, B9⟩ := hQ.out.ret (I 0) (I 0)
  go_wp2_with fail
  obtain ⟨Wz, hWz⟩ : ∃ W, W = (wq.setCell ⟨w.heap.size + 1 + 1 + 1, 0, none⟩ (I 0)).setCell ⟨w.heap.size + 1 + 1 + 1, 1, none⟩ (I 0) := ⟨_, rfl⟩
  rw [← hWz] at x0 x1 B9 ⊢
  clear hWz
  refine bodyPost_ret (v := .tuple #[.agg #[I 0, I 0], .bool false, I (1)]) (by simp [results, Tryz.results28, go_sem, x0, x1]) rfl ⟨rfl, B9⟩
 go_wp2_with fail
 go_at_call 49
 refine (H5.out _ hQ.out.below).mono ?_
 rintro e wq ⟨rfl, hbn⟩
 replace hQ := hide (hQ.out.grow hbn)
 clear hbn
 clear zc c0 c1 c2 c3 c4 c5 c6 c7 zP p0 p1 s0 s1 s2 s3 s4 s5 s6 s7 zS zR r0 r1 fr0 fr1
 obtain ⟨zc, c0, c1, c2, c3, c4, c5, c6, c7, zP, p0, p1, s0, s1, s2, s3, s4, s5, s6, s7, zS, zR, r0, r1, fr0, fr1⟩ := hQ.out.facts
 cases h5 : inB v 0 1099511627776
 case false =>
  obtain hq1 : E = 1 := by rw [hdef.out, if_neg (by simpa using h1), if_neg (by simpa using h2), if_neg (by simp [h3]), if_neg (by simp [h4]), if_pos h5]
  subst hq1
  clear h1 h2 h3 h4 h5 hdef H3 H4 H5 H6 hg
  obtain ⟨x0, x1, B9⟩ := hQ.out.ret (I 0) (I 0)
  go_wp2_with fail
  obtain ⟨Wz, hWz⟩ : ∃ W, W = (wq.setCell ⟨w.heap.size + 1 + 1 + 1, 0, none⟩ (I 0)).setCell ⟨w.heap.size + 1 + 1 + 1, 1, none⟩ (I 0) := ⟨_, rfl⟩
  rw [← hWz] at x0 x1 B9 ⊢
  clear hWz
  refine bodyPost_ret (v := .tuple #[.agg #[I 0, I 0], .bool false, I (1)]) (by simp [results, Tryz.results28, go_sem, x0, x1]) rfl ⟨rfl, B9⟩
 have hq1 : E = poolsE s := by rw [hdef.out, if_neg (by simpa using h1), if_neg (by simpa using h2), if_neg (by simp [h3]), if_neg (by simp [h4]), if_neg (by simp [h5])]
 have h6 : poolsE s ≠ 0 := fun h => hg.out ⟨h1, h2, h3, h4, h5, h⟩
 have HV := H6.out h6
 rw [← hq1] at HV h6
 replace HV := hide HV
 have hne : (E != 0) = true := by simpa using h6
 clear hq1 h1 h2 h3 h4 h5 h6 hdef H3 H4 H5 H6 hg
 unfold zeroP at *
 go_wp2_with fail
 go_at_call 62
 refine (HV.out _ hQ.out.below).mono ?_
 rintro e wq ⟨rfl, hbn⟩
 replace hQ := hide (hQ.out.grow hbn)
 clear hbn
 clear zc c0 c1 c2 c3 c4 c5 c6 c7 zP p0 p1 s0 s1 s2 s3 s4 s5 s6 s7 zS zR r0 r1 fr0 fr1
 obtain ⟨zc, c0, c1, c2, c3, c4, c5, c6, c7, zP, p0, p1, s0, s1, s2, s3, s4, s5, s6, s7, zS, zR, r0, r1, fr0, fr1⟩ := hQ.out.facts
 obtain ⟨gR, hgR⟩ : ∃ g, w.heap.size + 1 + 1 + 1 = g := ⟨_, rfl⟩
 obtain ⟨x0, x1, B9⟩ := hQ.out.ret (I 0) (I 0)
 rw [hgR] at zR r0 r1 fr0 fr1 x0 x1 B9 ⊢
 have zR1 : gR < wq.heap.size + 1 := by omega
 have zR2 : gR ≠ wq.heap.size := by omega
 have zR3 : gR ≠ wq.heap.size + 1 := by omega
 go_wp2_with fail
 have kR := (hQ.out.res.two0 (I 0)).two1 (I 0)
 rw [hgR] at kR
 have kR3 := (kR.alloc (.cells #[Value.int .i64 0, Value.int .i64 0, Value.int .i64 0, Value.int .i64 0, Value.int .i64 0, Value.int .i64 0, Value.int .i64 0, Value.int .i64 0, Value.int .i64 0, .slice none 0 0, .slice none 0 0, .slice none 0 0] 114)).alloc (.cells #[Value.int .i64 0, Value.int .i64 0, Value.int .i64 0, Value.int .i64 0, Value.int .i64 0, Value.int .i64 0, Value.int .i64 0, Value.int .i64 0, Value.int .i64 0, .slice none 0 0, .slice none 0 0, .slice none 0 0] 114)
 have v0 := kR3.cell 0
 have v1 := kR3.cell 1
 have kB9 := (B9.alloc (by have := B9.size; exact this) (.cells #[Value.int .i64 0, Value.int .i64 0, Value.int .i64 0, Value.int .i64 0, Value.int .i64 0, Value.int .i64 0, Value.int .i64 0, Value.int .i64 0, Value.int .i64 0, .slice none 0 0, .slice none 0 0, .slice none 0 0] 114)).alloc (by have := B9.size; simp at this ⊢; omega) (.cells #[Value.int .i64 0, Value.int .i64 0, Value.int .i64 0, Value.int .i64 0, Value.int .i64 0, Value.int .i64 0, Value.int .i64 0, Value.int .i64 0, Value.int .i64 0, .slice none 0 0, .slice none 0 0, .slice none 0 0] 114)
 clear x0 x1
 refine bodyPost_ret (v := .tuple #[.agg #[I 0, I 0], .bool false, I E]) ?_ rfl ⟨rfl, kB9⟩
 simp [results, Tryz.results28, go_sem] at v0 v1 ⊢
 simp [v0, v1]
end Go.Proofs.YtifeniiefhpadaaGreatDoor
