/- The package spring: Volume. Conditions stand in the theorems. -/
import Derived.Test.YtmjfdobjnnfafaaGreatDoorSpring21Pack
import Derived.Test.YtmjfdobjnnfafaaGreatDoorSpring15Pack
import Derived.Test.YtmjfdobjnnfafaaGreatDoorBasin3Pack
import Derived.Test.YtmjfdobjnnfafaaGreatDoorReachPack
set_option linter.all false
set_option maxRecDepth 100000
set_option maxHeartbeats 8000000
namespace Go.Proofs.YtmjfdobjnnfafaaGreatDoor
open Go.RowKit

def facL (c : Climate) : List Int := (List.range (nFac c)).map fun (i : Nat) => c.flo + (i : Int)
theorem facA_val {c : Climate} {hc : ClimOk c} : (facA c hc (nFac c)).map (fun x : FacC c => x.1) = facL c := by
 unfold facA facL
 rw [List.map_map]
 refine List.map_congr_left fun i hi => ?_
 have := List.mem_range.1 hi
 unfold nFac at this
 show min (c.flo + (i : Int)) c.fhi = c.flo + i
 omega
def loF (c : Climate) (p : List Weather) (cs : List Cell) (ws : List Int) (frm til : Int) : Int := (facL c).foldl (fun m f => min m (cameF c p f til cs ws - cameF c p f frm cs ws)) 1152921504606846976
def hiF (c : Climate) (p : List Weather) (cs : List Cell) (ws : List Int) (frm til : Int) : Int := (facL c).foldl (fun m f => max m (cameF c p f til cs ws - cameF c p f frm cs ws)) (-1152921504606846976)
theorem loA_eq {c : Climate} {p : List Weather} {cs : List Cell} {ws : List Int} {frm til : Int} {hc : ClimOk c} : loA c p cs ws frm til (facA c hc (nFac c)) = loF c p cs ws frm til := by
 unfold loA loF
 rw [← facA_val (hc := hc), List.foldl_map]
theorem hiA_eq {c : Climate} {p : List Weather} {cs : List Cell} {ws : List Int} {frm til : Int} {hc : ClimOk c} : hiA c p cs ws frm til (facA c hc (nFac c)) = hiF c p cs ws frm til := by
 unfold hiA hiF
 rw [← facA_val (hc := hc), List.foldl_map]
theorem pickP_mem {ps : List (Cell × Int)} {l : List Int} {u : Int} (h : u ∈ pickP ps l) : ∃ x, (x, u) ∈ ps := by
 simp only [pickP, List.mem_map, List.mem_filter] at h
 obtain ⟨⟨x, v⟩, ⟨h1, _⟩, rfl⟩ := h
 exact ⟨x, h1⟩
theorem pickW_mem {cs : List Cell} {row l : List Int} {u : Int} (h : u ∈ pickW cs row l) : u ∈ row := by
 obtain ⟨x, hx⟩ := pickP_mem h
 exact (List.of_mem_zip hx).2
theorem pickW_len {cs : List Cell} {row l : List Int} (h : row.length = cs.length) : (pickW cs row l).length = (pickC cs l).length := by
 unfold pickW pickP pickC
 rw [List.length_map]
 induction cs generalizing row with
 | nil => simp
 | cons x cs ih =>
  cases row with
  | nil => simp at h
  | cons u row =>
   have := ih (row := row) (by simpa using h)
   simp only [List.zip_cons_cons, List.filter_cons]
   split <;> simp [this]
def lowW (s : Scene) (l : List Int) : List Int := pickW s.basin.cells (lastRow (leastF s)) l
def highW (s : Scene) (l : List Int) : List Int := pickW s.basin.cells (lastRow (greatF s)) l
theorem lastRow_mem {xss : List (List Int)} {i : Nat} (h : xss[i]? = some (lastRow xss)) : lastRow xss ∈ xss := List.mem_of_getElem? h
theorem poolsE_zero {s : Scene} (h : poolsE s = 0) : leastE s = 0 ∧ greatE s = 0 := by
 unfold poolsE at h
 split at h
 ·rename_i h0; exact absurd h h0
 ·rename_i h0; exact ⟨Classical.byContradiction h0, h⟩
def volP (c : Climate) (p : List Weather) (s : Scene) (l : List Int) (frm til : Int) : Int × Int :=
 if poolsE s = 0 then (loF c p (pickC s.basin.cells l) (lowW s l) frm til, hiF c p (pickC s.basin.cells l) (highW s l) frm til) else (0, 0)
theorem lowW_bd {s : Scene} (hv : SceneOk s) (h : leastE s = 0) (l : List Int) : ∀ u ∈ lowW s l, 0 ≤ u ∧ u ≤ 65536 := fun u hu => leastF_bd hv h _ (lastRow_mem (leastF_last hv).1) u (pickW_mem hu)
theorem highW_bd {s : Scene} (hv : SceneOk s) (h : greatE s = 0) (l : List Int) : ∀ u ∈ highW s l, 0 ≤ u ∧ u ≤ 65536 := fun u hu => greatF_bd hv h _ (lastRow_mem (greatF_last hv).1) u (pickW_mem hu)
theorem spring_volume (c : Climate) (no : Int) (vd : Value) (p : List Weather) (s : Scene) (V : SceneV) (vl : Value) (l : List Int) (frm til : Int) (w : World) (hc : ClimOk c) (hp : ∀ x ∈ p, WeaOk c x) (hpn : p.length ≤ 512) (hs : SceneAt w s V) (hl : Sl w 1 intC vl l) (hd : Sl w 3 Weather.cells vd p) (hv : SceneOk s) :
  Calls Tryz.prog 136 #[c.v, .agg #[I no, vd], s.v V, vl, I frm, I til] w fun e w' => e = .returned (.tuple #[.agg #[I (volP c p s l frm til).1, I (volP c p s l frm til).2], I (poolsE s)]) ∧ Below w.heap.size w w' := by
 by_cases h : poolsE s = 0
 ·obtain ⟨h1, h2⟩ := poolsE_zero h
  refine (spring_volume_ok c no vd p s V vl l frm til w hc hp hpn hs hl hd hv h1 h2 (lowW_bd hv h1 l) (highW_bd hv h2 l) (pickW_len (leastF_last hv).2.1) (pickW_len (greatF_last hv).2.1)).mono ?_
  rintro e w' ⟨h3, h4⟩
  refine ⟨?_, h4⟩
  rw [h3, loA_eq, hiA_eq]
  simp only [volP, h, if_true, lowW, highW]
 ·refine (spring_volume_bad c no vd p s V vl l frm til w hs hl hd h).mono ?_
  rintro e w' ⟨h3, h4⟩
  refine ⟨?_, h4⟩
  rw [h3]
  simp only [volP, h, if_false]

def volE (c : Climate) (p : Spring) (s : Scene) (l : List Int) (frm til : Int) : Int :=
 if springE c p ≠ 0 then springE c p else if sceneE s ≠ 0 then sceneE s else if beginsB s p = false then 1 else if chosenB s l = false then 1 else if spellB p frm til = false then 1 else poolsE s
def volV (c : Climate) (p : Spring) (s : Scene) (l : List Int) (frm til : Int) : Int × Int := if volE c p s l frm til = 0 then volP c p.days s l frm til else (0, 0)

theorem spring_Volume_a (c : Climate) (no : Int) (vd : Value) (p : List Weather) (s : Scene) (V : SceneV) (vl : Value) (l : List Int) (frm til : Int) (w : World) (hs : SceneAt w s V) (hl : Sl w 1 intC vl l) (hd : Sl w 3 Weather.cells vd p) (h1 : springE c ⟨no, p⟩ ≠ 0) :
  Calls Tryz.prog 54 #[c.v, .agg #[I no, vd], s.v V, vl, I frm, I til] w fun e w' => e = .returned (.tuple #[.agg #[I 0, I 0], I (springE c ⟨no, p⟩)]) ∧ Below w.heap.size w w' := by
 obtain ⟨Ac, nc, hcc, _⟩ := hs.cells.open_
 obtain ⟨Ap, np, hpp, _⟩ := hs.pairs.open_
 obtain ⟨Ad, nd, hdd, _⟩ := hs.days.open_
 obtain ⟨As, ns, hsi, _⟩ := hs.sights.open_
 obtain ⟨Ah, nh, hch, _⟩ := hs.changes.open_
 obtain ⟨Aw, nw, rfl, _⟩ := hd.open_
 obtain ⟨Al, nl, rfl, _⟩ := hl.open_
 have H1 := hide (fun w' (hb : Below w.heap.size w w') => spring_CheckSpring c no _ p w' (hd.mono hb))
 obtain ⟨E, hE⟩ : ∃ E, springE c ⟨no, p⟩ = E := ⟨_, rfl⟩
 rw [hE] at H1 h1 ⊢
 have hne : (E != 0) = true := by simpa using h1
 clear hE
 clear hs hl hd
 unfold Scene.v at *
 rw [hcc, hpp, hdd, hsi, hch] at *
 clear hcc hpp hdd hsi hch
 unfold Climate.v at *
 go_enter Tryz.func54, Tryz.ntmps54
 go_wp2_with fail
 obtain ⟨W1, hW1⟩ : ∃ W1, W1 = (((w.alloc (.cells (c8 c) 25)).alloc (.cells #[I no, .slice Aw p.length nw] 28)).alloc (.cells #[.slice Ac s.basin.cells.length nc, .slice Ap s.basin.pairs.length np, I s.basin.gain, I s.basin.slack, I s.basin.deep, .slice Ad s.days.length nd, .slice As s.sights.length ns, .slice Ah s.changes.length nh] 63)).alloc (.cells #[I 0, I 0] 23) := ⟨_, rfl⟩
 have z1 : W1.heap.size = w.heap.size + 4 := by rw [hW1]; simp
 have kB1 : Below w.heap.size w W1 := by rw [hW1]; exact below4 _ _ _ _ _
 have kC1 : Blk W1 w.heap.size 25 (c8 c) := by rw [hW1]; exact (((Blk.new w _ _).alloc _).alloc _).alloc _
 have kS1 : Blk W1 (w.heap.size + 1) 28 #[I no, .slice Aw p.length nw] := by rw [hW1]; exact ((blk21 w _ _ _).alloc _).alloc _
 have kX1 : Blk W1 (w.heap.size + 1 + 1) 63 #[.slice Ac s.basin.cells.length nc, .slice Ap s.basin.pairs.length np, I s.basin.gain, I s.basin.slack, I s.basin.deep, .slice Ad s.days.length nd, .slice As s.sights.length ns, .slice Ah s.changes.length nh] := by rw [hW1]; exact (blk32 w _ _ _ _).alloc _
 have kR1 : Blk W1 (w.heap.size + 1 + 1 + 1) 23 #[I 0, I 0] := by
  rw [hW1]
  have h := Blk.new (((w.alloc (.cells (c8 c) 25)).alloc (.cells #[I no, .slice Aw p.length nw] 28)).alloc (.cells #[.slice Ac s.basin.cells.length nc, .slice Ap s.basin.pairs.length np, I s.basin.gain, I s.basin.slack, I s.basin.deep, .slice Ad s.days.length nd, .slice As s.sights.length ns, .slice Ah s.changes.length nh] 63)) 23 #[I 0, I 0]
  simpa only [World.size_alloc] using h
 rw [← hW1]
 clear hW1
 have zC1 := kC1.lt
 have zS1 := kS1.lt
 have zX1 := kX1.lt
 have zR1 := kR1.lt
 obtain ⟨c0, c1, c2, c3, c4, c5, c6, c7⟩ := kC1.cells8
 obtain ⟨s0, s1⟩ := kS1.cells2
 obtain ⟨x0, x1, x2, x3, x4, x5, x6, x7⟩ := kX1.cells8
 clear c0 c1 c2 c3 c4 c5 c6 c7 s0 s1 x0 x1 x2 x3 x4 x5 x6 x7
 go_at_call 27
 refine (H1.out W1 kB1).mono ?_
 rintro e W2 ⟨rfl, hb1⟩
 have kC2 := kC1.grow hb1
 have kS2 := kS1.grow hb1
 have kX2 := kX1.grow hb1
 have kR2 := kR1.grow hb1
 have kB2 := bup kB1 hb1
 clear hb1 kC1 kS1 kX1 kR1 kB1 zC1 zS1 zX1 zR1 H1
 obtain ⟨gR, hgR⟩ : ∃ g, w.heap.size + 1 + 1 + 1 = g := ⟨_, rfl⟩
 replace kR2 : Blk W2 gR 23 #[I 0, I 0] := hgR ▸ kR2
 obtain ⟨zr, r0, r1, r2, r3⟩ := blk_box kR2
 replace kR2 := hide kR2
 clear kC2 kS2 kX2
 rw [hgR]
 go_wp2_with fail
 have kR := gap_set2 (r := I 0) (s := I 0) kR2.out
 have v0 := kR.cell 0
 have v1 := kR.cell 1
 refine bodyPost_ret (v := .tuple #[.agg #[I 0, I 0], I E]) (by simp [results, Tryz.results54, go_sem, v0, v1]) rfl ⟨rfl, gap_below2 kB2 (by omega)⟩

theorem spring_Volume_b (c : Climate) (no : Int) (vd : Value) (p : List Weather) (s : Scene) (V : SceneV) (vl : Value) (l : List Int) (frm til : Int) (w : World) (hs : SceneAt w s V) (hl : Sl w 1 intC vl l) (hd : Sl w 3 Weather.cells vd p) (h1 : springE c ⟨no, p⟩ = 0) (h2 : sceneE s ≠ 0) :
  Calls Tryz.prog 54 #[c.v, .agg #[I no, vd], s.v V, vl, I frm, I til] w fun e w' => e = .returned (.tuple #[.agg #[I 0, I 0], I (sceneE s)]) ∧ Below w.heap.size w w' := by
 obtain ⟨Ac, nc, hcc, _⟩ := hs.cells.open_
 obtain ⟨Ap, np, hpp, _⟩ := hs.pairs.open_
 obtain ⟨Ad, nd, hdd, _⟩ := hs.days.open_
 obtain ⟨As, ns, hsi, _⟩ := hs.sights.open_
 obtain ⟨Ah, nh, hch, _⟩ := hs.changes.open_
 obtain ⟨Aw, nw, rfl, _⟩ := hd.open_
 obtain ⟨Al, nl, rfl, _⟩ := hl.open_
 have H1 := hide (fun w' (hb : Below w.heap.size w w') => spring_CheckSpring c no _ p w' (hd.mono hb))
 have H2 := hide (fun w' (hb : Below w.heap.size w w') => basin_Check s V w' (hs.mono hb))
 obtain ⟨E, hE⟩ : ∃ E, sceneE s = E := ⟨_, rfl⟩
 rw [hE] at H2 h2 ⊢
 rw [h1] at H1
 have hne : (E != 0) = true := by simpa using h2
 clear hE
 clear hs hl hd
 unfold Scene.v at *
 rw [hcc, hpp, hdd, hsi, hch] at *
 clear hcc hpp hdd hsi hch
 unfold Climate.v at *
 go_enter Tryz.func54, Tryz.ntmps54
 go_wp2_with fail
 obtain ⟨W1, hW1⟩ : ∃ W1, W1 = (((w.alloc (.cells (c8 c) 25)).alloc (.cells #[I no, .slice Aw p.length nw] 28)).alloc (.cells #[.slice Ac s.basin.cells.length nc, .slice Ap s.basin.pairs.length np, I s.basin.gain, I s.basin.slack, I s.basin.deep, .slice Ad s.days.length nd, .slice As s.sights.length ns, .slice Ah s.changes.length nh] 63)).alloc (.cells #[I 0, I 0] 23) := ⟨_, rfl⟩
 have z1 : W1.heap.size = w.heap.size + 4 := by rw [hW1]; simp
 have kB1 : Below w.heap.size w W1 := by rw [hW1]; exact below4 _ _ _ _ _
 have kC1 : Blk W1 w.heap.size 25 (c8 c) := by rw [hW1]; exact (((Blk.new w _ _).alloc _).alloc _).alloc _
 have kS1 : Blk W1 (w.heap.size + 1) 28 #[I no, .slice Aw p.length nw] := by rw [hW1]; exact ((blk21 w _ _ _).alloc _).alloc _
 have kX1 : Blk W1 (w.heap.size + 1 + 1) 63 #[.slice Ac s.basin.cells.length nc, .slice Ap s.basin.pairs.length np, I s.basin.gain, I s.basin.slack, I s.basin.deep, .slice Ad s.days.length nd, .slice As s.sights.length ns, .slice Ah s.changes.length nh] := by rw [hW1]; exact (blk32 w _ _ _ _).alloc _
 have kR1 : Blk W1 (w.heap.size + 1 + 1 + 1) 23 #[I 0, I 0] := by
  rw [hW1]
  have h := Blk.new (((w.alloc (.cells (c8 c) 25)).alloc (.cells #[I no, .slice Aw p.length nw] 28)).alloc (.cells #[.slice Ac s.basin.cells.length nc, .slice Ap s.basin.pairs.length np, I s.basin.gain, I s.basin.slack, I s.basin.deep, .slice Ad s.days.length nd, .slice As s.sights.length ns, .slice Ah s.changes.length nh] 63)) 23 #[I 0, I 0]
  simpa only [World.size_alloc] using h
 rw [← hW1]
 clear hW1
 have zC1 := kC1.lt
 have zS1 := kS1.lt
 have zX1 := kX1.lt
 have zR1 := kR1.lt
 obtain ⟨c0, c1, c2, c3, c4, c5, c6, c7⟩ := kC1.cells8
 obtain ⟨s0, s1⟩ := kS1.cells2
 obtain ⟨x0, x1, x2, x3, x4, x5, x6, x7⟩ := kX1.cells8
 clear c0 c1 c2 c3 c4 c5 c6 c7 s0 s1 x0 x1 x2 x3 x4 x5 x6 x7
 go_at_call 27
 refine (H1.out W1 kB1).mono ?_
 rintro e W2 ⟨rfl, hb1⟩
 have kC2 := kC1.grow hb1
 have kS2 := kS1.grow hb1
 have kX2 := kX1.grow hb1
 have kR2 := kR1.grow hb1
 have kB2 := bup kB1 hb1
 clear hb1 kC1 kS1 kX1 kR1 kB1 zC1 zS1 zX1 zR1 H1
 have zC2 := kC2.lt
 have zS2 := kS2.lt
 have zX2 := kX2.lt
 have zR2 := kR2.lt
 obtain ⟨c0, c1, c2, c3, c4, c5, c6, c7⟩ := kC2.cells8
 obtain ⟨s0, s1⟩ := kS2.cells2
 obtain ⟨x0, x1, x2, x3, x4, x5, x6, x7⟩ := kX2.cells8
 go_wp2_with fail
 clear c0 c1 c2 c3 c4 c5 c6 c7 s0 s1 x0 x1 x2 x3 x4 x5 x6 x7
 go_at_call 125
 refine (H2.out W2 kB2).mono ?_
 rintro e W3 ⟨rfl, hb2⟩
 have kC3 := kC2.grow hb2
 have kS3 := kS2.grow hb2
 have kX3 := kX2.grow hb2
 have kR3 := kR2.grow hb2
 have kB3 := bup kB2 hb2
 clear hb2 kC2 kS2 kX2 kR2 kB2 zC2 zS2 zX2 zR2 H2
 obtain ⟨gR, hgR⟩ : ∃ g, w.heap.size + 1 + 1 + 1 = g := ⟨_, rfl⟩
 replace kR3 : Blk W3 gR 23 #[I 0, I 0] := hgR ▸ kR3
 obtain ⟨zr, r0, r1, r2, r3⟩ := blk_box kR3
 replace kR3 := hide kR3
 clear kC3 kS3 kX3
 rw [hgR]
 go_wp2_with fail
 have kR := gap_set2 (r := I 0) (s := I 0) kR3.out
 have v0 := kR.cell 0
 have v1 := kR.cell 1
 refine bodyPost_ret (v := .tuple #[.agg #[I 0, I 0], I E]) (by simp [results, Tryz.results54, go_sem, v0, v1]) rfl ⟨rfl, gap_below2 kB3 (by omega)⟩

theorem spring_Volume_c (c : Climate) (no : Int) (vd : Value) (p : List Weather) (s : Scene) (V : SceneV) (vl : Value) (l : List Int) (frm til : Int) (w : World) (hs : SceneAt w s V) (hl : Sl w 1 intC vl l) (hd : Sl w 3 Weather.cells vd p) (h1 : springE c ⟨no, p⟩ = 0) (h2 : sceneE s = 0) (h3 : beginsB s ⟨no, p⟩ = false) :
  Calls Tryz.prog 54 #[c.v, .agg #[I no, vd], s.v V, vl, I frm, I til] w fun e w' => e = .returned (.tuple #[.agg #[I 0, I 0], I 1]) ∧ Below w.heap.size w w' := by
 obtain ⟨Ac, nc, hcc, _⟩ := hs.cells.open_
 obtain ⟨Ap, np, hpp, _⟩ := hs.pairs.open_
 obtain ⟨Ad, nd, hdd, _⟩ := hs.days.open_
 obtain ⟨As, ns, hsi, _⟩ := hs.sights.open_
 obtain ⟨Ah, nh, hch, _⟩ := hs.changes.open_
 obtain ⟨Aw, nw, rfl, _⟩ := hd.open_
 obtain ⟨Al, nl, rfl, _⟩ := hl.open_
 have ho := SprOk.of h1
 have hv := SceneOk.of h2
 have H1 := hide (fun w' (hb : Below w.heap.size w w') => spring_CheckSpring c no _ p w' (hd.mono hb))
 have H2 := hide (fun w' (hb : Below w.heap.size w w') => basin_Check s V w' (hs.mono hb))
 have H3 := hide (fun w' (hb : Below w.heap.size w w') => spring_begins s V no _ p w' (hs.mono hb) (by have := hv.hd1; omega) hv.hd2 ho.n1 (hd.mono hb))
 rw [h1] at H1
 rw [h2] at H2
 rw [h3] at H3
 clear ho hv
 clear hs hl hd
 unfold Scene.v at *
 rw [hcc, hpp, hdd, hsi, hch] at *
 clear hcc hpp hdd hsi hch
 unfold Climate.v at *
 go_enter Tryz.func54, Tryz.ntmps54
 go_wp2_with fail
 obtain ⟨W1, hW1⟩ : ∃ W1, W1 = (((w.alloc (.cells (c8 c) 25)).alloc (.cells #[I no, .slice Aw p.length nw] 28)).alloc (.cells #[.slice Ac s.basin.cells.length nc, .slice Ap s.basin.pairs.length np, I s.basin.gain, I s.basin.slack, I s.basin.deep, .slice Ad s.days.length nd, .slice As s.sights.length ns, .slice Ah s.changes.length nh] 63)).alloc (.cells #[I 0, I 0] 23) := ⟨_, rfl⟩
 have z1 : W1.heap.size = w.heap.size + 4 := by rw [hW1]; simp
 have kB1 : Below w.heap.size w W1 := by rw [hW1]; exact below4 _ _ _ _ _
 have kC1 : Blk W1 w.heap.size 25 (c8 c) := by rw [hW1]; exact (((Blk.new w _ _).alloc _).alloc _).alloc _
 have kS1 : Blk W1 (w.heap.size + 1) 28 #[I no, .slice Aw p.length nw] := by rw [hW1]; exact ((blk21 w _ _ _).alloc _).alloc _
 have kX1 : Blk W1 (w.heap.size + 1 + 1) 63 #[.slice Ac s.basin.cells.length nc, .slice Ap s.basin.pairs.length np, I s.basin.gain, I s.basin.slack, I s.basin.deep, .slice Ad s.days.length nd, .slice As s.sights.length ns, .slice Ah s.changes.length nh] := by rw [hW1]; exact (blk32 w _ _ _ _).alloc _
 have kR1 : Blk W1 (w.heap.size + 1 + 1 + 1) 23 #[I 0, I 0] := by
  rw [hW1]
  have h := Blk.new (((w.alloc (.cells (c8 c) 25)).alloc (.cells #[I no, .slice Aw p.length nw] 28)).alloc (.cells #[.slice Ac s.basin.cells.length nc, .slice Ap s.basin.pairs.length np, I s.basin.gain, I s.basin.slack, I s.basin.deep, .slice Ad s.days.length nd, .slice As s.sights.length ns, .slice Ah s.changes.length nh] 63)) 23 #[I 0, I 0]
  simpa only [World.size_alloc] using h
 rw [← hW1]
 clear hW1
 have zC1 := kC1.lt
 have zS1 := kS1.lt
 have zX1 := kX1.lt
 have zR1 := kR1.lt
 obtain ⟨c0, c1, c2, c3, c4, c5, c6, c7⟩ := kC1.cells8
 obtain ⟨s0, s1⟩ := kS1.cells2
 obtain ⟨x0, x1, x2, x3, x4, x5, x6, x7⟩ := kX1.cells8
 clear c0 c1 c2 c3 c4 c5 c6 c7 s0 s1 x0 x1 x2 x3 x4 x5 x6 x7
 go_at_call 27
 refine (H1.out W1 kB1).mono ?_
 rintro e W2 ⟨rfl, hb1⟩
 have kC2 := kC1.grow hb1
 have kS2 := kS1.grow hb1
 have kX2 := kX1.grow hb1
 have kR2 := kR1.grow hb1
 have kB2 := bup kB1 hb1
 clear hb1 kC1 kS1 kX1 kR1 kB1 zC1 zS1 zX1 zR1 H1
 have zC2 := kC2.lt
 have zS2 := kS2.lt
 have zX2 := kX2.lt
 have zR2 := kR2.lt
 obtain ⟨c0, c1, c2, c3, c4, c5, c6, c7⟩ := kC2.cells8
 obtain ⟨s0, s1⟩ := kS2.cells2
 obtain ⟨x0, x1, x2, x3, x4, x5, x6, x7⟩ := kX2.cells8
 go_wp2_with fail
 clear c0 c1 c2 c3 c4 c5 c6 c7 s0 s1 x0 x1 x2 x3 x4 x5 x6 x7
 go_at_call 125
 refine (H2.out W2 kB2).mono ?_
 rintro e W3 ⟨rfl, hb2⟩
 have kC3 := kC2.grow hb2
 have kS3 := kS2.grow hb2
 have kX3 := kX2.grow hb2
 have kR3 := kR2.grow hb2
 have kB3 := bup kB2 hb2
 clear hb2 kC2 kS2 kX2 kR2 kB2 zC2 zS2 zX2 zR2 H2
 have zC3 := kC3.lt
 have zS3 := kS3.lt
 have zX3 := kX3.lt
 have zR3 := kR3.lt
 obtain ⟨c0, c1, c2, c3, c4, c5, c6, c7⟩ := kC3.cells8
 obtain ⟨s0, s1⟩ := kS3.cells2
 obtain ⟨x0, x1, x2, x3, x4, x5, x6, x7⟩ := kX3.cells8
 go_wp2_with fail
 clear c0 c1 c2 c3 c4 c5 c6 c7 s0 s1 x0 x1 x2 x3 x4 x5 x6 x7
 go_at_call 126
 refine (H3.out W3 kB3).mono ?_
 rintro e W4 ⟨rfl, hb3⟩
 have kC4 := kC3.grow hb3
 have kS4 := kS3.grow hb3
 have kX4 := kX3.grow hb3
 have kR4 := kR3.grow hb3
 have kB4 := bup kB3 hb3
 clear hb3 kC3 kS3 kX3 kR3 kB3 zC3 zS3 zX3 zR3 H3
 obtain ⟨gR, hgR⟩ : ∃ g, w.heap.size + 1 + 1 + 1 = g := ⟨_, rfl⟩
 replace kR4 : Blk W4 gR 23 #[I 0, I 0] := hgR ▸ kR4
 obtain ⟨zr, r0, r1, r2, r3⟩ := blk_box kR4
 replace kR4 := hide kR4
 clear kC4 kS4 kX4
 rw [hgR]
 go_wp2_with fail
 have kR := gap_set2 (r := I 0) (s := I 0) kR4.out
 have v0 := kR.cell 0
 have v1 := kR.cell 1
 refine bodyPost_ret (v := .tuple #[.agg #[I 0, I 0], I 1]) (by simp [results, Tryz.results54, go_sem, v0, v1]) rfl ⟨rfl, gap_below2 kB4 (by omega)⟩

theorem spring_Volume_d (c : Climate) (no : Int) (vd : Value) (p : List Weather) (s : Scene) (V : SceneV) (vl : Value) (l : List Int) (frm til : Int) (w : World) (hs : SceneAt w s V) (hl : Sl w 1 intC vl l) (hd : Sl w 3 Weather.cells vd p) (h1 : springE c ⟨no, p⟩ = 0) (h2 : sceneE s = 0) (h3 : beginsB s ⟨no, p⟩ = true) (h4 : chosenB s l = false) :
  Calls Tryz.prog 54 #[c.v, .agg #[I no, vd], s.v V, vl, I frm, I til] w fun e w' => e = .returned (.tuple #[.agg #[I 0, I 0], I 1]) ∧ Below w.heap.size w w' := by
 obtain ⟨Ac, nc, hcc, _⟩ := hs.cells.open_
 obtain ⟨Ap, np, hpp, _⟩ := hs.pairs.open_
 obtain ⟨Ad, nd, hdd, _⟩ := hs.days.open_
 obtain ⟨As, ns, hsi, _⟩ := hs.sights.open_
 obtain ⟨Ah, nh, hch, _⟩ := hs.changes.open_
 obtain ⟨Aw, nw, rfl, _⟩ := hd.open_
 obtain ⟨Al, nl, rfl, _⟩ := hl.open_
 have ho := SprOk.of h1
 have hv := SceneOk.of h2
 have H1 := hide (fun w' (hb : Below w.heap.size w w') => spring_CheckSpring c no _ p w' (hd.mono hb))
 have H2 := hide (fun w' (hb : Below w.heap.size w w') => basin_Check s V w' (hs.mono hb))
 have H3 := hide (fun w' (hb : Below w.heap.size w w') => spring_begins s V no _ p w' (hs.mono hb) (by have := hv.hd1; omega) hv.hd2 ho.n1 (hd.mono hb))
 have H4 := hide (fun w' (hb : Below w.heap.size w w') => spring_chosen s V _ l w' (hs.mono hb) (hl.mono hb))
 rw [h1] at H1
 rw [h2] at H2
 rw [h3] at H3
 rw [h4] at H4
 clear ho hv
 clear hs hl hd
 unfold Scene.v at *
 rw [hcc, hpp, hdd, hsi, hch] at *
 clear hcc hpp hdd hsi hch
 unfold Climate.v at *
 go_enter Tryz.func54, Tryz.ntmps54
 go_wp2_with fail
 obtain ⟨W1, hW1⟩ : ∃ W1, W1 = (((w.alloc (.cells (c8 c) 25)).alloc (.cells #[I no, .slice Aw p.length nw] 28)).alloc (.cells #[.slice Ac s.basin.cells.length nc, .slice Ap s.basin.pairs.length np, I s.basin.gain, I s.basin.slack, I s.basin.deep, .slice Ad s.days.length nd, .slice As s.sights.length ns, .slice Ah s.changes.length nh] 63)).alloc (.cells #[I 0, I 0] 23) := ⟨_, rfl⟩
 have z1 : W1.heap.size = w.heap.size + 4 := by rw [hW1]; simp
 have kB1 : Below w.heap.size w W1 := by rw [hW1]; exact below4 _ _ _ _ _
 have kC1 : Blk W1 w.heap.size 25 (c8 c) := by rw [hW1]; exact (((Blk.new w _ _).alloc _).alloc _).alloc _
 have kS1 : Blk W1 (w.heap.size + 1) 28 #[I no, .slice Aw p.length nw] := by rw [hW1]; exact ((blk21 w _ _ _).alloc _).alloc _
 have kX1 : Blk W1 (w.heap.size + 1 + 1) 63 #[.slice Ac s.basin.cells.length nc, .slice Ap s.basin.pairs.length np, I s.basin.gain, I s.basin.slack, I s.basin.deep, .slice Ad s.days.length nd, .slice As s.sights.length ns, .slice Ah s.changes.length nh] := by rw [hW1]; exact (blk32 w _ _ _ _).alloc _
 have kR1 : Blk W1 (w.heap.size + 1 + 1 + 1) 23 #[I 0, I 0] := by
  rw [hW1]
  have h := Blk.new (((w.alloc (.cells (c8 c) 25)).alloc (.cells #[I no, .slice Aw p.length nw] 28)).alloc (.cells #[.slice Ac s.basin.cells.length nc, .slice Ap s.basin.pairs.length np, I s.basin.gain, I s.basin.slack, I s.basin.deep, .slice Ad s.days.length nd, .slice As s.sights.length ns, .slice Ah s.changes.length nh] 63)) 23 #[I 0, I 0]
  simpa only [World.size_alloc] using h
 rw [← hW1]
 clear hW1
 have zC1 := kC1.lt
 have zS1 := kS1.lt
 have zX1 := kX1.lt
 have zR1 := kR1.lt
 obtain ⟨c0, c1, c2, c3, c4, c5, c6, c7⟩ := kC1.cells8
 obtain ⟨s0, s1⟩ := kS1.cells2
 obtain ⟨x0, x1, x2, x3, x4, x5, x6, x7⟩ := kX1.cells8
 clear c0 c1 c2 c3 c4 c5 c6 c7 s0 s1 x0 x1 x2 x3 x4 x5 x6 x7
 go_at_call 27
 refine (H1.out W1 kB1).mono ?_
 rintro e W2 ⟨rfl, hb1⟩
 have kC2 := kC1.grow hb1
 have kS2 := kS1.grow hb1
 have kX2 := kX1.grow hb1
 have kR2 := kR1.grow hb1
 have kB2 := bup kB1 hb1
 clear hb1 kC1 kS1 kX1 kR1 kB1 zC1 zS1 zX1 zR1 H1
 have zC2 := kC2.lt
 have zS2 := kS2.lt
 have zX2 := kX2.lt
 have zR2 := kR2.lt
 obtain ⟨c0, c1, c2, c3, c4, c5, c6, c7⟩ := kC2.cells8
 obtain ⟨s0, s1⟩ := kS2.cells2
 obtain ⟨x0, x1, x2, x3, x4, x5, x6, x7⟩ := kX2.cells8
 go_wp2_with fail
 clear c0 c1 c2 c3 c4 c5 c6 c7 s0 s1 x0 x1 x2 x3 x4 x5 x6 x7
 go_at_call 125
 refine (H2.out W2 kB2).mono ?_
 rintro e W3 ⟨rfl, hb2⟩
 have kC3 := kC2.grow hb2
 have kS3 := kS2.grow hb2
 have kX3 := kX2.grow hb2
 have kR3 := kR2.grow hb2
 have kB3 := bup kB2 hb2
 clear hb2 kC2 kS2 kX2 kR2 kB2 zC2 zS2 zX2 zR2 H2
 have zC3 := kC3.lt
 have zS3 := kS3.lt
 have zX3 := kX3.lt
 have zR3 := kR3.lt
 obtain ⟨c0, c1, c2, c3, c4, c5, c6, c7⟩ := kC3.cells8
 obtain ⟨s0, s1⟩ := kS3.cells2
 obtain ⟨x0, x1, x2, x3, x4, x5, x6, x7⟩ := kX3.cells8
 go_wp2_with fail
 clear c0 c1 c2 c3 c4 c5 c6 c7 s0 s1 x0 x1 x2 x3 x4 x5 x6 x7
 go_at_call 126
 refine (H3.out W3 kB3).mono ?_
 rintro e W4 ⟨rfl, hb3⟩
 have kC4 := kC3.grow hb3
 have kS4 := kS3.grow hb3
 have kX4 := kX3.grow hb3
 have kR4 := kR3.grow hb3
 have kB4 := bup kB3 hb3
 clear hb3 kC3 kS3 kX3 kR3 kB3 zC3 zS3 zX3 zR3 H3
 have zC4 := kC4.lt
 have zS4 := kS4.lt
 have zX4 := kX4.lt
 have zR4 := kR4.lt
 obtain ⟨c0, c1, c2, c3, c4, c5, c6, c7⟩ := kC4.cells8
 obtain ⟨s0, s1⟩ := kS4.cells2
 obtain ⟨x0, x1, x2, x3, x4, x5, x6, x7⟩ := kX4.cells8
 go_wp2_with fail
 clear c0 c1 c2 c3 c4 c5 c6 c7 s0 s1 x0 x1 x2 x3 x4 x5 x6 x7
 go_at_call 127
 refine (H4.out W4 kB4).mono ?_
 rintro e W5 ⟨rfl, hb4⟩
 have kC5 := kC4.grow hb4
 have kS5 := kS4.grow hb4
 have kX5 := kX4.grow hb4
 have kR5 := kR4.grow hb4
 have kB5 := bup kB4 hb4
 clear hb4 kC4 kS4 kX4 kR4 kB4 zC4 zS4 zX4 zR4 H4
 obtain ⟨gR, hgR⟩ : ∃ g, w.heap.size + 1 + 1 + 1 = g := ⟨_, rfl⟩
 replace kR5 : Blk W5 gR 23 #[I 0, I 0] := hgR ▸ kR5
 obtain ⟨zr, r0, r1, r2, r3⟩ := blk_box kR5
 replace kR5 := hide kR5
 clear kC5 kS5 kX5
 rw [hgR]
 go_wp2_with fail
 have kR := gap_set2 (r := I 0) (s := I 0) kR5.out
 have v0 := kR.cell 0
 have v1 := kR.cell 1
 refine bodyPost_ret (v := .tuple #[.agg #[I 0, I 0], I 1]) (by simp [results, Tryz.results54, go_sem, v0, v1]) rfl ⟨rfl, gap_below2 kB5 (by omega)⟩

theorem spring_Volume_e (c : Climate) (no : Int) (vd : Value) (p : List Weather) (s : Scene) (V : SceneV) (vl : Value) (l : List Int) (frm til : Int) (w : World) (hs : SceneAt w s V) (hl : Sl w 1 intC vl l) (hd : Sl w 3 Weather.cells vd p) (h1 : springE c ⟨no, p⟩ = 0) (h2 : sceneE s = 0) (h3 : beginsB s ⟨no, p⟩ = true) (h4 : chosenB s l = true) (h5 : spellB ⟨no, p⟩ frm til = false) :
  Calls Tryz.prog 54 #[c.v, .agg #[I no, vd], s.v V, vl, I frm, I til] w fun e w' => e = .returned (.tuple #[.agg #[I 0, I 0], I 1]) ∧ Below w.heap.size w w' := by
 obtain ⟨Ac, nc, hcc, _⟩ := hs.cells.open_
 obtain ⟨Ap, np, hpp, _⟩ := hs.pairs.open_
 obtain ⟨Ad, nd, hdd, _⟩ := hs.days.open_
 obtain ⟨As, ns, hsi, _⟩ := hs.sights.open_
 obtain ⟨Ah, nh, hch, _⟩ := hs.changes.open_
 obtain ⟨Aw, nw, rfl, _⟩ := hd.open_
 obtain ⟨Al, nl, rfl, _⟩ := hl.open_
 have ho := SprOk.of h1
 have hv := SceneOk.of h2
 have H1 := hide (fun w' (hb : Below w.heap.size w w') => spring_CheckSpring c no _ p w' (hd.mono hb))
 have H2 := hide (fun w' (hb : Below w.heap.size w w') => basin_Check s V w' (hs.mono hb))
 have H3 := hide (fun w' (hb : Below w.heap.size w w') => spring_begins s V no _ p w' (hs.mono hb) (by have := hv.hd1; omega) hv.hd2 ho.n1 (hd.mono hb))
 have H4 := hide (fun w' (hb : Below w.heap.size w w') => spring_chosen s V _ l w' (hs.mono hb) (hl.mono hb))
 have H5 := hide (fun w' (hb : Below w.heap.size w w') => spring_spell no _ p frm til w' ho.n1 ho.beg ho.n2 (hd.mono hb))
 rw [h1] at H1
 rw [h2] at H2
 rw [h3] at H3
 rw [h4] at H4
 rw [h5] at H5
 clear ho hv
 clear hs hl hd
 unfold Scene.v at *
 rw [hcc, hpp, hdd, hsi, hch] at *
 clear hcc hpp hdd hsi hch
 unfold Climate.v at *
 go_enter Tryz.func54, Tryz.ntmps54
 go_wp2_with fail
 obtain ⟨W1, hW1⟩ : ∃ W1, W1 = (((w.alloc (.cells (c8 c) 25)).alloc (.cells #[I no, .slice Aw p.length nw] 28)).alloc (.cells #[.slice Ac s.basin.cells.length nc, .slice Ap s.basin.pairs.length np, I s.basin.gain, I s.basin.slack, I s.basin.deep, .slice Ad s.days.length nd, .slice As s.sights.length ns, .slice Ah s.changes.length nh] 63)).alloc (.cells #[I 0, I 0] 23) := ⟨_, rfl⟩
 have z1 : W1.heap.size = w.heap.size + 4 := by rw [hW1]; simp
 have kB1 : Below w.heap.size w W1 := by rw [hW1]; exact below4 _ _ _ _ _
 have kC1 : Blk W1 w.heap.size 25 (c8 c) := by rw [hW1]; exact (((Blk.new w _ _).alloc _).alloc _).alloc _
 have kS1 : Blk W1 (w.heap.size + 1) 28 #[I no, .slice Aw p.length nw] := by rw [hW1]; exact ((blk21 w _ _ _).alloc _).alloc _
 have kX1 : Blk W1 (w.heap.size + 1 + 1) 63 #[.slice Ac s.basin.cells.length nc, .slice Ap s.basin.pairs.length np, I s.basin.gain, I s.basin.slack, I s.basin.deep, .slice Ad s.days.length nd, .slice As s.sights.length ns, .slice Ah s.changes.length nh] := by rw [hW1]; exact (blk32 w _ _ _ _).alloc _
 have kR1 : Blk W1 (w.heap.size + 1 + 1 + 1) 23 #[I 0, I 0] := by
  rw [hW1]
  have h := Blk.new (((w.alloc (.cells (c8 c) 25)).alloc (.cells #[I no, .slice Aw p.length nw] 28)).alloc (.cells #[.slice Ac s.basin.cells.length nc, .slice Ap s.basin.pairs.length np, I s.basin.gain, I s.basin.slack, I s.basin.deep, .slice Ad s.days.length nd, .slice As s.sights.length ns, .slice Ah s.changes.length nh] 63)) 23 #[I 0, I 0]
  simpa only [World.size_alloc] using h
 rw [← hW1]
 clear hW1
 have zC1 := kC1.lt
 have zS1 := kS1.lt
 have zX1 := kX1.lt
 have zR1 := kR1.lt
 obtain ⟨c0, c1, c2, c3, c4, c5, c6, c7⟩ := kC1.cells8
 obtain ⟨s0, s1⟩ := kS1.cells2
 obtain ⟨x0, x1, x2, x3, x4, x5, x6, x7⟩ := kX1.cells8
 clear c0 c1 c2 c3 c4 c5 c6 c7 s0 s1 x0 x1 x2 x3 x4 x5 x6 x7
 go_at_call 27
 refine (H1.out W1 kB1).mono ?_
 rintro e W2 ⟨rfl, hb1⟩
 have kC2 := kC1.grow hb1
 have kS2 := kS1.grow hb1
 have kX2 := kX1.grow hb1
 have kR2 := kR1.grow hb1
 have kB2 := bup kB1 hb1
 clear hb1 kC1 kS1 kX1 kR1 kB1 zC1 zS1 zX1 zR1 H1
 have zC2 := kC2.lt
 have zS2 := kS2.lt
 have zX2 := kX2.lt
 have zR2 := kR2.lt
 obtain ⟨c0, c1, c2, c3, c4, c5, c6, c7⟩ := kC2.cells8
 obtain ⟨s0, s1⟩ := kS2.cells2
 obtain ⟨x0, x1, x2, x3, x4, x5, x6, x7⟩ := kX2.cells8
 go_wp2_with fail
 clear c0 c1 c2 c3 c4 c5 c6 c7 s0 s1 x0 x1 x2 x3 x4 x5 x6 x7
 go_at_call 125
 refine (H2.out W2 kB2).mono ?_
 rintro e W3 ⟨rfl, hb2⟩
 have kC3 := kC2.grow hb2
 have kS3 := kS2.grow hb2
 have kX3 := kX2.grow hb2
 have kR3 := kR2.grow hb2
 have kB3 := bup kB2 hb2
 clear hb2 kC2 kS2 kX2 kR2 kB2 zC2 zS2 zX2 zR2 H2
 have zC3 := kC3.lt
 have zS3 := kS3.lt
 have zX3 := kX3.lt
 have zR3 := kR3.lt
 obtain ⟨c0, c1, c2, c3, c4, c5, c6, c7⟩ := kC3.cells8
 obtain ⟨s0, s1⟩ := kS3.cells2
 obtain ⟨x0, x1, x2, x3, x4, x5, x6, x7⟩ := kX3.cells8
 go_wp2_with fail
 clear c0 c1 c2 c3 c4 c5 c6 c7 s0 s1 x0 x1 x2 x3 x4 x5 x6 x7
 go_at_call 126
 refine (H3.out W3 kB3).mono ?_
 rintro e W4 ⟨rfl, hb3⟩
 have kC4 := kC3.grow hb3
 have kS4 := kS3.grow hb3
 have kX4 := kX3.grow hb3
 have kR4 := kR3.grow hb3
 have kB4 := bup kB3 hb3
 clear hb3 kC3 kS3 kX3 kR3 kB3 zC3 zS3 zX3 zR3 H3
 have zC4 := kC4.lt
 have zS4 := kS4.lt
 have zX4 := kX4.lt
 have zR4 := kR4.lt
 obtain ⟨c0, c1, c2, c3, c4, c5, c6, c7⟩ := kC4.cells8
 obtain ⟨s0, s1⟩ := kS4.cells2
 obtain ⟨x0, x1, x2, x3, x4, x5, x6, x7⟩ := kX4.cells8
 go_wp2_with fail
 clear c0 c1 c2 c3 c4 c5 c6 c7 s0 s1 x0 x1 x2 x3 x4 x5 x6 x7
 go_at_call 127
 refine (H4.out W4 kB4).mono ?_
 rintro e W5 ⟨rfl, hb4⟩
 have kC5 := kC4.grow hb4
 have kS5 := kS4.grow hb4
 have kX5 := kX4.grow hb4
 have kR5 := kR4.grow hb4
 have kB5 := bup kB4 hb4
 clear hb4 kC4 kS4 kX4 kR4 kB4 zC4 zS4 zX4 zR4 H4
 have zC5 := kC5.lt
 have zS5 := kS5.lt
 have zX5 := kX5.lt
 have zR5 := kR5.lt
 obtain ⟨c0, c1, c2, c3, c4, c5, c6, c7⟩ := kC5.cells8
 obtain ⟨s0, s1⟩ := kS5.cells2
 obtain ⟨x0, x1, x2, x3, x4, x5, x6, x7⟩ := kX5.cells8
 go_wp2_with fail
 clear c0 c1 c2 c3 c4 c5 c6 c7 s0 s1 x0 x1 x2 x3 x4 x5 x6 x7
 go_at_call 135
 refine (H5.out W5 kB5).mono ?_
 rintro e W6 ⟨rfl, hb5⟩
 have kC6 := kC5.grow hb5
 have kS6 := kS5.grow hb5
 have kX6 := kX5.grow hb5
 have kR6 := kR5.grow hb5
 have kB6 := bup kB5 hb5
 clear hb5 kC5 kS5 kX5 kR5 kB5 zC5 zS5 zX5 zR5 H5
 obtain ⟨gR, hgR⟩ : ∃ g, w.heap.size + 1 + 1 + 1 = g := ⟨_, rfl⟩
 replace kR6 : Blk W6 gR 23 #[I 0, I 0] := hgR ▸ kR6
 obtain ⟨zr, r0, r1, r2, r3⟩ := blk_box kR6
 replace kR6 := hide kR6
 clear kC6 kS6 kX6
 rw [hgR]
 go_wp2_with fail
 have kR := gap_set2 (r := I 0) (s := I 0) kR6.out
 have v0 := kR.cell 0
 have v1 := kR.cell 1
 refine bodyPost_ret (v := .tuple #[.agg #[I 0, I 0], I 1]) (by simp [results, Tryz.results54, go_sem, v0, v1]) rfl ⟨rfl, gap_below2 kB6 (by omega)⟩

theorem spring_Volume_f (c : Climate) (no : Int) (vd : Value) (p : List Weather) (s : Scene) (V : SceneV) (vl : Value) (l : List Int) (frm til : Int) (w : World) (hs : SceneAt w s V) (hl : Sl w 1 intC vl l) (hd : Sl w 3 Weather.cells vd p) (h1 : springE c ⟨no, p⟩ = 0) (h2 : sceneE s = 0) (h3 : beginsB s ⟨no, p⟩ = true) (h4 : chosenB s l = true) (h5 : spellB ⟨no, p⟩ frm til = true) :
  Calls Tryz.prog 54 #[c.v, .agg #[I no, vd], s.v V, vl, I frm, I til] w fun e w' => e = .returned (.tuple #[.agg #[I (volP c p s l frm til).1, I (volP c p s l frm til).2], I (poolsE s)]) ∧ Below w.heap.size w w' := by
 obtain ⟨Ac, nc, hcc, _⟩ := hs.cells.open_
 obtain ⟨Ap, np, hpp, _⟩ := hs.pairs.open_
 obtain ⟨Ad, nd, hdd, _⟩ := hs.days.open_
 obtain ⟨As, ns, hsi, _⟩ := hs.sights.open_
 obtain ⟨Ah, nh, hch, _⟩ := hs.changes.open_
 obtain ⟨Aw, nw, rfl, _⟩ := hd.open_
 obtain ⟨Al, nl, rfl, _⟩ := hl.open_
 have ho := SprOk.of h1
 have hv := SceneOk.of h2
 have H1 := hide (fun w' (hb : Below w.heap.size w w') => spring_CheckSpring c no _ p w' (hd.mono hb))
 have H2 := hide (fun w' (hb : Below w.heap.size w w') => basin_Check s V w' (hs.mono hb))
 have H3 := hide (fun w' (hb : Below w.heap.size w w') => spring_begins s V no _ p w' (hs.mono hb) (by have := hv.hd1; omega) hv.hd2 ho.n1 (hd.mono hb))
 have H4 := hide (fun w' (hb : Below w.heap.size w w') => spring_chosen s V _ l w' (hs.mono hb) (hl.mono hb))
 have H5 := hide (fun w' (hb : Below w.heap.size w w') => spring_spell no _ p frm til w' ho.n1 ho.beg ho.n2 (hd.mono hb))
 have H6 := hide (fun w' (hb : Below w.heap.size w w') => spring_volume c no _ p s V _ l frm til w' ho.clim ho.mem ho.n2 (hs.mono hb) (hl.mono hb) (hd.mono hb) hv)
 rw [h1] at H1
 rw [h2] at H2
 rw [h3] at H3
 rw [h4] at H4
 rw [h5] at H5
 clear ho hv
 obtain ⟨va, hva⟩ : ∃ v, (volP c p s l frm til).1 = v := ⟨_, rfl⟩
 obtain ⟨vb, hvb⟩ : ∃ v, (volP c p s l frm til).2 = v := ⟨_, rfl⟩
 obtain ⟨E, hE⟩ : ∃ E, poolsE s = E := ⟨_, rfl⟩
 rw [hva, hvb, hE] at H6 ⊢
 clear hva hvb hE
 clear hs hl hd
 unfold Scene.v at *
 rw [hcc, hpp, hdd, hsi, hch] at *
 clear hcc hpp hdd hsi hch
 unfold Climate.v at *
 go_enter Tryz.func54, Tryz.ntmps54
 go_wp2_with fail
 obtain ⟨W1, hW1⟩ : ∃ W1, W1 = (((w.alloc (.cells (c8 c) 25)).alloc (.cells #[I no, .slice Aw p.length nw] 28)).alloc (.cells #[.slice Ac s.basin.cells.length nc, .slice Ap s.basin.pairs.length np, I s.basin.gain, I s.basin.slack, I s.basin.deep, .slice Ad s.days.length nd, .slice As s.sights.length ns, .slice Ah s.changes.length nh] 63)).alloc (.cells #[I 0, I 0] 23) := ⟨_, rfl⟩
 have z1 : W1.heap.size = w.heap.size + 4 := by rw [hW1]; simp
 have kB1 : Below w.heap.size w W1 := by rw [hW1]; exact below4 _ _ _ _ _
 have kC1 : Blk W1 w.heap.size 25 (c8 c) := by rw [hW1]; exact (((Blk.new w _ _).alloc _).alloc _).alloc _
 have kS1 : Blk W1 (w.heap.size + 1) 28 #[I no, .slice Aw p.length nw] := by rw [hW1]; exact ((blk21 w _ _ _).alloc _).alloc _
 have kX1 : Blk W1 (w.heap.size + 1 + 1) 63 #[.slice Ac s.basin.cells.length nc, .slice Ap s.basin.pairs.length np, I s.basin.gain, I s.basin.slack, I s.basin.deep, .slice Ad s.days.length nd, .slice As s.sights.length ns, .slice Ah s.changes.length nh] := by rw [hW1]; exact (blk32 w _ _ _ _).alloc _
 have kR1 : Blk W1 (w.heap.size + 1 + 1 + 1) 23 #[I 0, I 0] := by
  rw [hW1]
  have h := Blk.new (((w.alloc (.cells (c8 c) 25)).alloc (.cells #[I no, .slice Aw p.length nw] 28)).alloc (.cells #[.slice Ac s.basin.cells.length nc, .slice Ap s.basin.pairs.length np, I s.basin.gain, I s.basin.slack, I s.basin.deep, .slice Ad s.days.length nd, .slice As s.sights.length ns, .slice Ah s.changes.length nh] 63)) 23 #[I 0, I 0]
  simpa only [World.size_alloc] using h
 rw [← hW1]
 clear hW1
 have zC1 := kC1.lt
 have zS1 := kS1.lt
 have zX1 := kX1.lt
 have zR1 := kR1.lt
 obtain ⟨c0, c1, c2, c3, c4, c5, c6, c7⟩ := kC1.cells8
 obtain ⟨s0, s1⟩ := kS1.cells2
 obtain ⟨x0, x1, x2, x3, x4, x5, x6, x7⟩ := kX1.cells8
 clear c0 c1 c2 c3 c4 c5 c6 c7 s0 s1 x0 x1 x2 x3 x4 x5 x6 x7
 go_at_call 27
 refine (H1.out W1 kB1).mono ?_
 rintro e W2 ⟨rfl, hb1⟩
 have kC2 := kC1.grow hb1
 have kS2 := kS1.grow hb1
 have kX2 := kX1.grow hb1
 have kR2 := kR1.grow hb1
 have kB2 := bup kB1 hb1
 clear hb1 kC1 kS1 kX1 kR1 kB1 zC1 zS1 zX1 zR1 H1
 have zC2 := kC2.lt
 have zS2 := kS2.lt
 have zX2 := kX2.lt
 have zR2 := kR2.lt
 obtain ⟨c0, c1, c2, c3, c4, c5, c6, c7⟩ := kC2.cells8
 obtain ⟨s0, s1⟩ := kS2.cells2
 obtain ⟨x0, x1, x2, x3, x4, x5, x6, x7⟩ := kX2.cells8
 go_wp2_with fail
 clear c0 c1 c2 c3 c4 c5 c6 c7 s0 s1 x0 x1 x2 x3 x4 x5 x6 x7
 go_at_call 125
 refine (H2.out W2 kB2).mono ?_
 rintro e W3 ⟨rfl, hb2⟩
 have kC3 := kC2.grow hb2
 have kS3 := kS2.grow hb2
 have kX3 := kX2.grow hb2
 have kR3 := kR2.grow hb2
 have kB3 := bup kB2 hb2
 clear hb2 kC2 kS2 kX2 kR2 kB2 zC2 zS2 zX2 zR2 H2
 have zC3 := kC3.lt
 have zS3 := kS3.lt
 have zX3 := kX3.lt
 have zR3 := kR3.lt
 obtain ⟨c0, c1, c2, c3, c4, c5, c6, c7⟩ := kC3.cells8
 obtain ⟨s0, s1⟩ := kS3.cells2
 obtain ⟨x0, x1, x2, x3, x4, x5, x6, x7⟩ := kX3.cells8
 go_wp2_with fail
 clear c0 c1 c2 c3 c4 c5 c6 c7 s0 s1 x0 x1 x2 x3 x4 x5 x6 x7
 go_at_call 126
 refine (H3.out W3 kB3).mono ?_
 rintro e W4 ⟨rfl, hb3⟩
 have kC4 := kC3.grow hb3
 have kS4 := kS3.grow hb3
 have kX4 := kX3.grow hb3
 have kR4 := kR3.grow hb3
 have kB4 := bup kB3 hb3
 clear hb3 kC3 kS3 kX3 kR3 kB3 zC3 zS3 zX3 zR3 H3
 have zC4 := kC4.lt
 have zS4 := kS4.lt
 have zX4 := kX4.lt
 have zR4 := kR4.lt
 obtain ⟨c0, c1, c2, c3, c4, c5, c6, c7⟩ := kC4.cells8
 obtain ⟨s0, s1⟩ := kS4.cells2
 obtain ⟨x0, x1, x2, x3, x4, x5, x6, x7⟩ := kX4.cells8
 go_wp2_with fail
 clear c0 c1 c2 c3 c4 c5 c6 c7 s0 s1 x0 x1 x2 x3 x4 x5 x6 x7
 go_at_call 127
 refine (H4.out W4 kB4).mono ?_
 rintro e W5 ⟨rfl, hb4⟩
 have kC5 := kC4.grow hb4
 have kS5 := kS4.grow hb4
 have kX5 := kX4.grow hb4
 have kR5 := kR4.grow hb4
 have kB5 := bup kB4 hb4
 clear hb4 kC4 kS4 kX4 kR4 kB4 zC4 zS4 zX4 zR4 H4
 have zC5 := kC5.lt
 have zS5 := kS5.lt
 have zX5 := kX5.lt
 have zR5 := kR5.lt
 obtain ⟨c0, c1, c2, c3, c4, c5, c6, c7⟩ := kC5.cells8
 obtain ⟨s0, s1⟩ := kS5.cells2
 obtain ⟨x0, x1, x2, x3, x4, x5, x6, x7⟩ := kX5.cells8
 go_wp2_with fail
 clear c0 c1 c2 c3 c4 c5 c6 c7 s0 s1 x0 x1 x2 x3 x4 x5 x6 x7
 go_at_call 135
 refine (H5.out W5 kB5).mono ?_
 rintro e W6 ⟨rfl, hb5⟩
 have kC6 := kC5.grow hb5
 have kS6 := kS5.grow hb5
 have kX6 := kX5.grow hb5
 have kR6 := kR5.grow hb5
 have kB6 := bup kB5 hb5
 clear hb5 kC5 kS5 kX5 kR5 kB5 zC5 zS5 zX5 zR5 H5
 have zC6 := kC6.lt
 have zS6 := kS6.lt
 have zX6 := kX6.lt
 have zR6 := kR6.lt
 obtain ⟨c0, c1, c2, c3, c4, c5, c6, c7⟩ := kC6.cells8
 obtain ⟨s0, s1⟩ := kS6.cells2
 obtain ⟨x0, x1, x2, x3, x4, x5, x6, x7⟩ := kX6.cells8
 go_wp2_with fail
 clear c0 c1 c2 c3 c4 c5 c6 c7 s0 s1 x0 x1 x2 x3 x4 x5 x6 x7
 go_at_call 136
 refine (H6.out W6 kB6).mono ?_
 rintro e W7 ⟨rfl, hb6⟩
 have kC7 := kC6.grow hb6
 have kS7 := kS6.grow hb6
 have kX7 := kX6.grow hb6
 have kR7 := kR6.grow hb6
 have kB7 := bup kB6 hb6
 clear hb6 kC6 kS6 kX6 kR6 kB6 zC6 zS6 zX6 zR6 H6
 obtain ⟨gR, hgR⟩ : ∃ g, w.heap.size + 1 + 1 + 1 = g := ⟨_, rfl⟩
 replace kR7 : Blk W7 gR 23 #[I 0, I 0] := hgR ▸ kR7
 obtain ⟨zr, r0, r1, r2, r3⟩ := blk_box kR7
 replace kR7 := hide kR7
 clear kC7 kS7 kX7
 rw [hgR]
 go_wp2_with fail
 have kR := gap_set2 (r := I va) (s := I vb) kR7.out
 have v0 := kR.cell 0
 have v1 := kR.cell 1
 refine bodyPost_ret (v := .tuple #[.agg #[I va, I vb], I E]) (by simp [results, Tryz.results54, go_sem, v0, v1]) rfl ⟨rfl, gap_below2 kB7 (by omega)⟩

theorem spring_Volume (c : Climate) (no : Int) (vd : Value) (p : List Weather) (s : Scene) (V : SceneV) (vl : Value) (l : List Int) (frm til : Int) (w : World) (hs : SceneAt w s V) (hl : Sl w 1 intC vl l) (hd : Sl w 3 Weather.cells vd p) :
  Calls Tryz.prog 54 #[c.v, .agg #[I no, vd], s.v V, vl, I frm, I til] w fun e w' => e = .returned (.tuple #[.agg #[I (volV c ⟨no, p⟩ s l frm til).1, I (volV c ⟨no, p⟩ s l frm til).2], I (volE c ⟨no, p⟩ s l frm til)]) ∧ Below w.heap.size w w' := by
 by_cases h1 : springE c ⟨no, p⟩ = 0
 ·by_cases h2 : sceneE s = 0
  ·cases h3 : beginsB s ⟨no, p⟩ with
   | false =>
    have hE : volE c ⟨no, p⟩ s l frm til = 1 := by simp [volE, h1, h2, h3]
    have hV : volV c ⟨no, p⟩ s l frm til = (0, 0) := by simp [volV, hE]
    rw [hE, hV]
    exact spring_Volume_c c no vd p s V vl l frm til w hs hl hd h1 h2 h3
   | true =>
    cases h4 : chosenB s l with
    | false =>
     have hE : volE c ⟨no, p⟩ s l frm til = 1 := by simp [volE, h1, h2, h3, h4]
     have hV : volV c ⟨no, p⟩ s l frm til = (0, 0) := by simp [volV, hE]
     rw [hE, hV]
     exact spring_Volume_d c no vd p s V vl l frm til w hs hl hd h1 h2 h3 h4
    | true =>
     cases h5 : spellB ⟨no, p⟩ frm til with
     | false =>
      have hE : volE c ⟨no, p⟩ s l frm til = 1 := by simp [volE, h1, h2, h3, h4, h5]
      have hV : volV c ⟨no, p⟩ s l frm til = (0, 0) := by simp [volV, hE]
      rw [hE, hV]
      exact spring_Volume_e c no vd p s V vl l frm til w hs hl hd h1 h2 h3 h4 h5
     | true =>
      have hE : volE c ⟨no, p⟩ s l frm til = poolsE s := by simp [volE, h1, h2, h3, h4, h5]
      have hV : volV c ⟨no, p⟩ s l frm til = volP c p s l frm til := by
       simp only [volV, hE]
       split
       ·rfl
       ·rename_i h; simp [volP, h]
      rw [hE, hV]
      exact spring_Volume_f c no vd p s V vl l frm til w hs hl hd h1 h2 h3 h4 h5
  ·have hE : volE c ⟨no, p⟩ s l frm til = sceneE s := by simp [volE, h1, h2]
   have hV : volV c ⟨no, p⟩ s l frm til = (0, 0) := by simp [volV, hE, h2]
   rw [hE, hV]
   exact spring_Volume_b c no vd p s V vl l frm til w hs hl hd h1 h2
 ·have hE : volE c ⟨no, p⟩ s l frm til = springE c ⟨no, p⟩ := by simp [volE, h1]
  have hV : volV c ⟨no, p⟩ s l frm til = (0, 0) := by simp [volV, hE, h1]
  rw [hE, hV]
  exact spring_Volume_a c no vd p s V vl l frm til w hs hl hd h1
end Go.Proofs.YtmjfdobjnnfafaaGreatDoor
