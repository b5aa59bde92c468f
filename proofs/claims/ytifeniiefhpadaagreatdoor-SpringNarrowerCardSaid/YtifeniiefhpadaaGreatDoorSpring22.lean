/- The package spring: volume, where a field is lacking. Conditions stand in the theorems. -/
import Derived.Test.YtifeniiefhpadaaGreatDoorSpring19Pack
set_option linter.all false
set_option maxHeartbeats 8000000
set_option maxRecDepth 100000
namespace Go.Proofs.YtifeniiefhpadaaGreatDoor
open Go.RowKit Go.Shelf
attribute [local go_sem] Oper.semAt_some

theorem spring_pools_bad (c : Climate) (no : Int) (vd : Value) (p : List Weather) (s : Scene) (V : SceneV) (vl : Value) (l : List Int) (w : World) (hs : SceneAt w s V) (hl : Sl w 1 intC vl l) (hd : Sl w 3 Weather.cells vd p) (h : poolsE s ≠ 0) :
  Calls Tryz.prog 62 #[c.v, .agg #[I no, vd], s.v V, vl] w fun e w' => e = .returned (.tuple #[zeroP, zeroP, I (poolsE s)]) ∧ Below w.heap.size w w' := by
 by_cases h1 : leastE s = 0
 ·have hE : poolsE s = greatE s := by simp [poolsE, h1]
  rw [hE] at h ⊢
  exact spring_pools_bad2 c no vd p s V vl l w hs hl hd h1 h
 ·have hE : poolsE s = leastE s := by simp [poolsE, h1]
  rw [hE]
  exact spring_pools_bad1 c no vd p s V vl l w hs hl hd h1

theorem spring_volume_bad (c : Climate) (no : Int) (vd : Value) (p : List Weather) (s : Scene) (V : SceneV) (vl : Value) (l : List Int) (frm til : Int) (w : World) (hs : SceneAt w s V) (hl : Sl w 1 intC vl l) (hd : Sl w 3 Weather.cells vd p) (h : poolsE s ≠ 0) :
  Calls Tryz.prog 61 #[c.v, .agg #[I no, vd], s.v V, vl, I frm, I til] w fun e w' => e = .returned (.tuple #[.agg #[I 0, I 0], I (poolsE s)]) ∧ Below w.heap.size w w' := by
 obtain ⟨Ac, nc, hcc, _⟩ := hs.cells.open_
 obtain ⟨Ap, np, hpp, _⟩ := hs.pairs.open_
 obtain ⟨Ad, nd, hdd, _⟩ := hs.days.open_
 obtain ⟨As, ns, hsi, _⟩ := hs.sights.open_
 obtain ⟨Ah, nh, hch, _⟩ := hs.changes.open_
 obtain ⟨Aw, nw, rfl, _⟩ := hd.open_
 obtain ⟨Al, nl, rfl, _⟩ := hl.open_
 have HP := hide (fun w' (hb : Below w.heap.size w w') => spring_pools_bad c no _ p s V _ l w' (hs.mono hb) (hl.mono hb) (hd.mono hb) h)
 obtain ⟨E, hE⟩ : ∃ E, poolsE s = E := ⟨_, rfl⟩
 rw [hE] at HP h ⊢
 have hne : (E != 0) = true := by simpa using h
 clear hE
 unfold Scene.v at *
 rw [hcc, hpp, hdd, hsi, hch] at HP ⊢
 clear hs hcc hpp hdd hsi hch hl hd
 unfold Climate.v at *
 unfold zeroP at *
 refine (callsIn_wide (n := 4)).1 ?_
 refine callsIn_of_wp_marks Tryz.func61 rfl trivial ?_ rfl
 simp only [Tryz.ntmps61, List.size_toArray, List.length_cons, List.length_nil, Nat.reduceAdd, Nat.reduceSub, Array.replicate_succ, Array.replicate_zero, List.push_toArray, List.append_toArray, List.nil_append, List.cons_append]
 refine wpIn_wide.2 ?_
 go_wp2_with fail
 obtain ⟨W1, hW1⟩ : ∃ W1, W1 = (((((w.alloc (.cells (c8 c) 25)).alloc (.cells #[I no, .slice Aw p.length nw] 58)).alloc (.cells (s8 s Ac nc Ap np Ad nd As ns Ah nh) 77)).alloc (.cells #[I frm] 3)).alloc (.cells #[I til] 3)).alloc (.cells #[I 0, I 0] 23) := ⟨_, rfl⟩
 have kB1 : Below w.heap.size w W1 := by rw [hW1]; exact bup (below5 _ _ _ _ _ _) (below1 _ _)
 have kR1 : Blk W1 (w.heap.size + 5) 23 #[I 0, I 0] := by
  rw [hW1]
  have h := Blk.new (((((w.alloc (.cells (c8 c) 25)).alloc (.cells #[I no, .slice Aw p.length nw] 58)).alloc (.cells (s8 s Ac nc Ap np Ad nd As ns Ah nh) 77)).alloc (.cells #[I frm] 3)).alloc (.cells #[I til] 3)) 23 #[I 0, I 0]
  simpa only [World.size_alloc, Nat.add_zero, Nat.add_assoc, Nat.reduceAdd] using h
 rw [← hW1]
 clear hW1
 go_at_call 62
 refine (HP.out W1 kB1).mono ?_
 rintro e w2 ⟨rfl, hb2⟩
 have kR2 := kR1.grow hb2
 have kB2 := bup kB1 hb2
 obtain ⟨gR, hgR⟩ : ∃ g, w.heap.size + 1 + 1 + 1 + 1 + 1 = g := ⟨_, rfl⟩
 replace kR2 : Blk w2 gR 23 #[I 0, I 0] := hgR ▸ kR2
 have zR := kR2.lt
 have zR1 : gR < w2.heap.size + 1 := by omega
 have zR2 : gR ≠ w2.heap.size := by omega
 have zR3 : gR ≠ w2.heap.size + 1 := by omega
 obtain ⟨p0, p1⟩ := kR2.cells2
 have p2 := kR2.frozen 0
 have p3 := kR2.frozen 1
 clear HP kR1 kB1 hb2
 rw [hgR]
 go_wp2_with fail
 have kR3 := ((gap_set2 (r := I 0) (s := I 0) kR2).alloc (.cells #[Value.int .i64 0, Value.int .i64 0, Value.int .i64 0, Value.int .i64 0, Value.int .i64 0, Value.int .i64 0, Value.int .i64 0, Value.int .i64 0, Value.int .i64 0, .slice none 0 0, .slice none 0 0, .slice none 0 0] 114)).alloc (.cells #[Value.int .i64 0, Value.int .i64 0, Value.int .i64 0, Value.int .i64 0, Value.int .i64 0, Value.int .i64 0, Value.int .i64 0, Value.int .i64 0, Value.int .i64 0, .slice none 0 0, .slice none 0 0, .slice none 0 0] 114)
 have c0 := kR3.cell 0
 have c1 := kR3.cell 1
 have kB3 : Below w.heap.size w ((w2.setCell ⟨gR, 0, none⟩ (I 0)).setCell ⟨gR, 1, none⟩ (I 0)) := gap_below2 kB2 (by omega)
 have kB4 := (kB3.alloc (by have := kB3.size; exact this) (.cells #[Value.int .i64 0, Value.int .i64 0, Value.int .i64 0, Value.int .i64 0, Value.int .i64 0, Value.int .i64 0, Value.int .i64 0, Value.int .i64 0, Value.int .i64 0, .slice none 0 0, .slice none 0 0, .slice none 0 0] 114)).alloc (by have := kB3.size; simp at this ⊢; omega) (.cells #[Value.int .i64 0, Value.int .i64 0, Value.int .i64 0, Value.int .i64 0, Value.int .i64 0, Value.int .i64 0, Value.int .i64 0, Value.int .i64 0, Value.int .i64 0, .slice none 0 0, .slice none 0 0, .slice none 0 0] 114)
 refine ⟨.tuple #[.agg #[I 0, I 0], I E], ?_, rfl, kB4⟩
 simp [results, Tryz.results61, go_sem] at c0 c1 ⊢
 simp [c0, c1]
end Go.Proofs.YtifeniiefhpadaaGreatDoor
