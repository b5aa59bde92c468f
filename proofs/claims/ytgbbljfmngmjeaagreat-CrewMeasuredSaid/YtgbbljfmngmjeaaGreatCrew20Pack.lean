/- The package crew: Trip. Conditions stand in the theorem. -/
import Derived.Test.YtgbbljfmngmjeaaGreatCrew19
import Derived.Test.YtgbbljfmngmjeaaGreatCrew16Pack
set_option linter.all false
set_option maxHeartbeats 8000000
set_option maxRecDepth 100000
namespace Go.Proofs.YtgbbljfmngmjeaaGreat
open Go.RowKit

theorem results_tmp3 {fn : Func} {t u v : Tmp} (h : fn.results = #[.tmp t, .tmp u, .tmp v]) (tmps : Array Value) (P : Program) (w : World) :
  (results fn tmps).run P w = .ok (.tuple #[tmps.getD t undef, tmps.getD u undef, tmps.getD v undef]) w := by
 simp [results, h]
theorem visits_len {ss : List Site} {l : List Int} (h : visitsB ss l = true) : l.length ≤ 8 := by
 simp only [visitsB, Bool.and_eq_true, decide_eq_true_eq] at h
 exact h.1
theorem crew_trip (h base : Nat) (vs vt vk : Value) (ss : List Site) (ts : List Track) (s : Scene) (c : Crew) (day : Int) (cs : List Int) (w : World) (H : HillAt w base h vs vt (hwF s day)) (hs : Sl w 3 Site.cells vs ss) (ht : Sl w 6 Track.cells vt ts) (hk : Sl w 1 intC vk cs) (hr : RangeOk ss ts)
  (hhut : hiredB ss c = true) (hcs : cs.length ≤ 8) (hday : 0 ≤ day ∧ day ≤ 1048576) :
  Calls Tryz.prog 113 #[.pointer (some ⟨h, 0, none⟩), .agg #[I c.hut, I c.work, I c.load], I day, vk] w fun e w' => ∃ v, e = .returned (.tuple #[v, .bool (tripF ss ts s c day cs).isSome]) ∧ Own w' w.heap.size 3 1 intC v (tripT ss ts s c day cs) ∧ Below w.heap.size w w' := by
 obtain ⟨hp1, hwk, hld⟩ := hired_zero hhut
 exact crew_trip0 h base vs vt vk ss ts (hwF s day) c day cs w H hs ht hk hr hp1 hcs hday hwk hld (tripRow ss ts s c day cs) rfl

theorem crew_Trip (vs vt vk : Value) (ss : List Site) (ts : List Track) (s : Scene) (V : SceneV) (c : Crew) (day : Int) (cs : List Int) (w : World) (hs : Sl w 3 Site.cells vs ss) (ht : Sl w 6 Track.cells vt ts) (hS : SceneAt w s V) (hk : Sl w 1 intC vk cs) :
  Calls Tryz.prog 40 #[.agg #[vs, vt], s.v V, .agg #[I c.hut, I c.work, I c.load], I day, vk] w fun e w' => ∃ v, e = .returned (.tuple #[v, .bool (tripB ss ts s c day cs), I (tripE ss ts s c day cs)]) ∧ Own w' w.heap.size 3 1 intC v (tripV ss ts s c day cs) ∧ Below w.heap.size w w' := by
 have hz := fun h => seen_zero (ss := ss) (ts := ts) (s := s) (day := day) (q := tripA ss c cs) h
 have JN := fun (gr gc gk : Nat) W (hb : Below w.heap.size w W) (kr : Blk W gr 25 #[vs, vt]) (kc : Blk W gc 44 #[I c.hut, I c.work, I c.load]) (kk : W.cell? ⟨gk, 0, none⟩ = some vk) => crew_seen vs vt ss ts s V day 112 #[.pointer (some ⟨gr, 0, none⟩), .pointer (some ⟨gc, 0, none⟩), .pointer (some ⟨gk, 0, none⟩)] (tripA ss c cs) W (hs.mono hb) (ht.mono hb) (hS.mono hb) eg_trip1 (fun _ W' hW' => crew_trip1 gr gc gk vs vt vk ss ts c cs W' ((hs.mono hb).mono hW') ((ht.mono hb).mono hW') ((hk.mono hb).mono hW') (kr.grow hW') (kc.grow hW') ((hW'.cell (p := ⟨gk, 0, none⟩) (World.block_lt_of_cell? _ _ kk)).trans kk))
 have JT := fun (hr : RangeOk ss ts) (hh : hiredB ss c = true) (hl : cs.length ≤ 8) (hd : 0 ≤ day ∧ day ≤ 1048576) (h base : Nat) W (hb : Below w.heap.size w W) (H : HillAt W base h vs vt (hwF s day)) => crew_trip h base vs vt vk ss ts s c day cs W H (hs.mono hb) (ht.mono hb) (hk.mono hb) hr hh hl hd
 obtain ⟨Ac, nc, hcc, _⟩ := hS.cells.open_
 obtain ⟨Ap, np, hpp, _⟩ := hS.pairs.open_
 obtain ⟨Ad, nd, hdd, _⟩ := hS.days.open_
 obtain ⟨As, ns, hsi, _⟩ := hS.sights.open_
 obtain ⟨Ah, nh, hch, _⟩ := hS.changes.open_
 obtain ⟨A, n, rfl, _⟩ := hs.open_
 obtain ⟨A', n', rfl, _⟩ := ht.open_
 obtain ⟨Ak, nk, rfl, _⟩ := hk.open_
 unfold Scene.v at *
 rw [hcc, hpp, hdd, hsi, hch] at JN ⊢
 clear hcc hpp hdd hsi hch
 have hV0 : tripE ss ts s c day cs = 0 → tripV ss ts s c day cs = tripT ss ts s c day cs := fun h => by simp [tripV, h]
 have hV1 : tripE ss ts s c day cs ≠ 0 → tripV ss ts s c day cs = [] := fun h => by simp [tripV, h]
 have hB0 : tripE ss ts s c day cs = 0 → tripB ss ts s c day cs = (tripF ss ts s c day cs).isSome := fun h => by simp [tripB, h]
 have hB1 : tripE ss ts s c day cs ≠ 0 → tripB ss ts s c day cs = false := fun h => by simp [tripB, h]
 have hA0 : tripA ss c cs = (hiredB ss c && visitsB ss cs) := rfl
 obtain ⟨E, hE⟩ : ∃ E, tripE ss ts s c day cs = E := ⟨_, rfl⟩
 have hE' : seenE ss ts s day (tripA ss c cs) = E := hE
 obtain ⟨PP, hPP⟩ : ∃ M, tripV ss ts s c day cs = M := ⟨_, rfl⟩
 obtain ⟨BB, hBB⟩ : ∃ M, tripB ss ts s c day cs = M := ⟨_, rfl⟩
 obtain ⟨TT, hTT⟩ : ∃ M, tripT ss ts s c day cs = M := ⟨_, rfl⟩
 obtain ⟨QQ, hQQ⟩ : ∃ M, (tripF ss ts s c day cs).isSome = M := ⟨_, rfl⟩
 rw [hE'] at JN hz
 rw [hE, hPP, hTT] at hV0
 rw [hE, hPP] at hV1
 rw [hE, hBB, hQQ] at hB0
 rw [hE, hBB] at hB1
 rw [hTT, hQQ] at JT
 rw [hE, hPP, hBB]
 clear hE hE' hPP hBB hTT hQQ
 replace JN := hide JN
 replace JT := hide JT
 clear hs ht hS hk
 obtain ⟨w1, hw1, hb1, kR, kS, kC, kK⟩ := al4 w #[.slice A ss.length n, .slice A' ts.length n'] 25 (s8 s Ac nc Ap np Ad nd As ns Ah nh) 42 #[I c.hut, I c.work, I c.load] 44 #[.slice Ak cs.length nk] 38
 obtain ⟨rR0, rR1⟩ := kR.cells2
 obtain ⟨q0, q1, q2, q3, q4, q5, q6, q7⟩ := kS.cells8
 have zR := kR.lt
 have zS := kS.lt
 clear kS
 by_cases h0 : E = 0
 case neg =>
  obtain rfl := hV1 h0
  obtain rfl := hB1 h0
  have hne : (E != 0) = true := by simpa using h0
  replace h0 := hide h0
  clear hz JT hV0 hV1 hB0 hB1 hA0
  replace kR := hide kR
  replace kC := hide kC
  replace kK := hide kK
  go_enter Tryz.func40, Tryz.ntmps40
  go_upto_region 1 with fail
  rw [← hw1]
  clear hw1
  go_wp2_with (go_at_call 86; refine (JN.out _ _ _ _ hb1 kR.out kC.out (kK.out.cell 0)).mono ?_; rintro e v4 ⟨pv, rfl, -, hv1, hs4⟩; obtain rfl := hv1 h0.out)
  (try simp only [Exit.inBlock, Exit.then])
  refine bodyPost_ret (results_tmp3 rfl _ _ _) rfl ⟨_, rfl, Own.nil_ _ _ _ _ _, bup hb1 hs4⟩
 subst h0
 obtain ⟨hro, hso, hd0, hq, hgz⟩ := hz rfl
 rw [hA0, Bool.and_eq_true] at hq
 have hdy : 0 ≤ day ∧ day ≤ 1048576 := day_in (great_scene hgz) hd0
 have JT1 := hide (fun h base W hW H => JT.out hro hq.1 (visits_len hq.2) hdy h base W hW H)
 obtain rfl := hV0 rfl
 obtain rfl := hB0 rfl
 replace hro := hide hro
 replace hso := hide hso
 replace hdy := hide hdy
 replace hq := hide hq
 replace kR := hide kR
 replace kC := hide kC
 replace kK := hide kK
 clear JT hV0 hV1 hB0 hB1 hA0 hz hgz hd0
 go_enter Tryz.func40, Tryz.ntmps40
 go_upto_region 1 with fail
 rw [← hw1]
 clear hw1
 go_wp2_with fail
 go_at_call 86
 refine (JN.out _ _ _ _ hb1 kR.out kC.out (kK.out.cell 0)).mono ?_
 clear rR0 rR1 q0 q1 q2 q3 q4 q5 q6 q7 zR zS
 rintro e v4 ⟨pv, rfl, hv0, -, hs4⟩
 obtain ⟨h, rfl, hHi⟩ := hv0 trivial
 have hbv4 := bup hb1 hs4
 obtain ⟨rC0, rC1, rC2⟩ := (kC.out.grow hs4).cells3
 have rK0 := (kK.out.grow hs4).cell 0
 have rK : v4.cell? ⟨w.heap.size + 1 + 1 + 1, 0, none⟩ = some (.slice Ak cs.length nk) := rK0
 have zC := (kC.out.grow hs4).lt
 have zK := (kK.out.grow hs4).lt
 replace hHi := hide hHi
 clear hv0 JN hb1 hs4 rK0
 go_wp2_with fail
 go_at_call 113
 refine (JT1.out _ _ _ hbv4 hHi.out).mono ?_
 rintro e v5 ⟨v, rfl, ho5, hb5⟩
 go_wp2_with fail
 (try simp only [Exit.inBlock, Exit.then])
 refine bodyPost_ret (results_tmp3 rfl _ _ _) rfl ⟨_, rfl, ho5.mono hbv4.size, bup hbv4 hb5⟩

section
variable {ss : List Site} {ts : List Track} {s : Scene} {c : Crew} {day : Int} {cs : List Int} {width : Int} {b : Bst} {x : Site}
theorem bestS_1 (h : ¬ x.kind = 2) : bestS ss ts s c day cs width b x = .inr b := by
 unfold bestS
 rw [if_pos (.inl h)]
theorem bestS_2 (h : measB s [x.cell] width = false) : bestS ss ts s c day cs width b x = .inr b := by
 unfold bestS
 rw [if_pos (.inr h)]
theorem bestS_3 (h1 : x.kind = 2) (h2 : measB s [x.cell] width = true) (h : (tripF ss ts s c day [x.no]).isSome = false) : bestS ss ts s c day cs width b x = .inr b := by
 unfold bestS
 rw [if_neg (by rw [h1, h2]; simp), if_pos h]
theorem bestS_4 (h1 : x.kind = 2) (h2 : measB s [x.cell] width = true) (h3 : (tripF ss ts s c day [x.no]).isSome = true) (h : outE (worstR s cs day x.cell width) ≠ 0) : bestS ss ts s c day cs width b x = .inl (outE (worstR s cs day x.cell width)) := by
 unfold bestS
 rw [if_neg (by rw [h1, h2]; simp), if_neg (by rw [h3]; simp), if_pos h]
theorem bestS_5 (h1 : x.kind = 2) (h2 : measB s [x.cell] width = true) (h3 : (tripF ss ts s c day [x.no]).isSome = true) (h4 : outE (worstR s cs day x.cell width) = 0) (h : b.no < 0 ∨ (outV (worstR s cs day x.cell width)).wide < b.wide) :
  bestS ss ts s c day cs width b x = .inr ⟨x.no, (outV (worstR s cs day x.cell width)).wide, tripT ss ts s c day [x.no]⟩ := by
 unfold bestS
 rw [if_neg (by rw [h1, h2]; simp), if_neg (by rw [h3]; simp), if_neg (by rw [h4]; simp), if_pos h]
theorem bestS_6 (h1 : x.kind = 2) (h2 : measB s [x.cell] width = true) (h3 : (tripF ss ts s c day [x.no]).isSome = true) (h4 : outE (worstR s cs day x.cell width) = 0) (h : ¬ (b.no < 0 ∨ (outV (worstR s cs day x.cell width)).wide < b.wide)) :
  bestS ss ts s c day cs width b x = .inr b := by
 unfold bestS
 rw [if_neg (by rw [h1, h2]; simp), if_neg (by rw [h3]; simp), if_neg (by rw [h4]; simp), if_neg h]
theorem bestK_succ {k : Nat} (hb : bestK ss ts s c day cs width k = .inr b) (hx : ss[k]? = some x) : bestK ss ts s c day cs width (k + 1) = bestS ss ts s c day cs width b x := by
 have hg : ss.getD k default = x := by simp [hx]
 rw [bestK, hb, hg]
end

theorem crew_best (vs vt vk : Value) (ss : List Site) (ts : List Track) (s : Scene) (V : SceneV) (c : Crew) (day : Int) (cs : List Int) (width : Int) (w : World) (hs : Sl w 3 Site.cells vs ss) (ht : Sl w 6 Track.cells vt ts) (hS : SceneAt w s V) (hk : Sl w 1 intC vk cs) :
  Calls Tryz.prog 138 #[.agg #[vs, vt], s.v V, .agg #[I c.hut, I c.work, I c.load], I day, vk, I width] w fun e w' => ∃ v, e = .returned (.tuple #[I (bestNo (bestR ss ts s c day cs width)), v, .bool (bestB (bestR ss ts s c day cs width)), I (bestE (bestR ss ts s c day cs width))]) ∧ Own w' w.heap.size 3 1 intC v (bestL (bestR ss ts s c day cs width)) ∧ Below w.heap.size w w' := by
 have hz := fun h => seen_zero (ss := ss) (ts := ts) (s := s) (day := day) (q := bestA ss c s cs width) h
 have JN := fun (gr gc gs gk gw : Nat) W (hb : Below w.heap.size w W) (kr : Blk W gr 25 #[vs, vt]) (kc : Blk W gc 44 #[I c.hut, I c.work, I c.load]) (ks : Blk W gs 42 #[V.cells, V.pairs, I s.basin.gain, I s.basin.slack, I s.basin.deep, V.days, V.sights, V.changes]) (kk : W.cell? ⟨gk, 0, none⟩ = some vk) (kw : W.cell? ⟨gw, 0, none⟩ = some (I width)) => crew_seen vs vt ss ts s V day 175 #[.pointer (some ⟨gr, 0, none⟩), .pointer (some ⟨gc, 0, none⟩), .pointer (some ⟨gs, 0, none⟩), .pointer (some ⟨gk, 0, none⟩), .pointer (some ⟨gw, 0, none⟩)] (bestA ss c s cs width) W (hs.mono hb) (ht.mono hb) (hS.mono hb) eg_best1 (fun _ W' hW' => crew_best1 gr gc gs gk gw vs vt vk ss ts c s V cs width W' ((hs.mono hb).mono hW') ((ht.mono hb).mono hW') ((hS.mono hb).mono hW') ((hk.mono hb).mono hW') (kr.grow hW') (kc.grow hW') (ks.grow hW') ((hW'.cell (p := ⟨gk, 0, none⟩) (World.block_lt_of_cell? _ _ kk)).trans kk) ((hW'.cell (p := ⟨gw, 0, none⟩) (World.block_lt_of_cell? _ _ kw)).trans kw))
 have JT := fun (hr : RangeOk ss ts) (hh : hiredB ss c = true) (hd : 0 ≤ day ∧ day ≤ 1048576) (no : Int) (v : Value) (h base : Nat) W (hb : Below w.heap.size w W) (hv : Sl W 1 intC v [no]) (H : HillAt W base h vs vt (hwF s day)) => crew_trip h base vs vt v ss ts s c day [no] W H (hs.mono hb) (ht.mono hb) hv hr hh (by simp) hd
 have JM := fun vl cell W (hb : Below w.heap.size w W) (hl : Sl W 1 intC vl [cell]) => crew_measured s V vl [cell] width W (hS.mono hb) hl
 have JW := fun cell W (hb : Below w.heap.size w W) => crew_worst s V vk cs day cell width W (hS.mono hb) (hk.mono hb)
 have HSs := hide (fun W (hb : Below w.heap.size w W) => hs.mono hb)
 obtain ⟨Ac, nc, hcc, _⟩ := hS.cells.open_
 obtain ⟨Ap, np, hpp, _⟩ := hS.pairs.open_
 obtain ⟨Ad, nd, hdd, _⟩ := hS.days.open_
 obtain ⟨As, ns, hsi, _⟩ := hS.sights.open_
 obtain ⟨Ah, nh, hch, _⟩ := hS.changes.open_
 obtain ⟨A, n, rfl, -, -, -, hA⟩ := hs.open_
 obtain ⟨A', n', rfl, -⟩ := ht.open_
 obtain ⟨Ak, nk, rfl, -⟩ := hk.open_
 unfold Scene.v at *
 rw [hcc, hpp, hdd, hsi, hch] at JN JM JW ⊢
 clear hcc hpp hdd hsi hch
 have hA0 : bestA ss c s cs width = (hiredB ss c && measB s cs width) := rfl
 have hR0 : seenE ss ts s day (bestA ss c s cs width) = 0 → bestR ss ts s c day cs width = bestK ss ts s c day cs width ss.length := fun h => by simp [bestR, h]
 have hR1 : seenE ss ts s day (bestA ss c s cs width) ≠ 0 → bestR ss ts s c day cs width = .inl (seenE ss ts s day (bestA ss c s cs width)) := fun h => by simp [bestR, h]
 obtain ⟨E, hE⟩ : ∃ E, seenE ss ts s day (bestA ss c s cs width) = E := ⟨_, rfl⟩
 rw [hE] at JN hz hR0 hR1
 obtain ⟨R, hR⟩ : ∃ R, bestR ss ts s c day cs width = R := ⟨_, rfl⟩
 rw [hR] at hR0 hR1 ⊢
 have hI : ∀ e, R = .inl e → bestNo R = 0 ∧ bestB R = false ∧ bestE R = e ∧ bestL R = [] := fun e h => by subst h; exact ⟨rfl, rfl, rfl, rfl⟩
 have hJ : ∀ b, R = .inr b → b.no < 0 → bestNo R = 0 ∧ bestB R = false ∧ bestE R = 0 ∧ bestL R = [] := fun b h h2 => by
  rw [h]
  have h3 : ¬ 0 ≤ b.no := by omega
  exact ⟨by simp [bestNo, h2], by simp [bestB, h3], rfl, by simp [bestL, h2]⟩
 have hP : ∀ b, R = .inr b → ¬ b.no < 0 → bestNo R = b.no ∧ bestB R = true ∧ bestE R = 0 ∧ bestL R = b.list := fun b h h2 => by
  rw [h]
  have h3 : 0 ≤ b.no := by omega
  exact ⟨by simp [bestNo, h2], by simp [bestB, h3], rfl, by simp [bestL, h2]⟩
 obtain ⟨NO, hNO⟩ : ∃ q, bestNo R = q := ⟨_, rfl⟩
 obtain ⟨BB, hBB⟩ : ∃ q, bestB R = q := ⟨_, rfl⟩
 obtain ⟨EE, hEE⟩ : ∃ q, bestE R = q := ⟨_, rfl⟩
 obtain ⟨LL, hLL⟩ : ∃ q, bestL R = q := ⟨_, rfl⟩
 rw [hNO, hBB, hEE, hLL] at hI hJ hP ⊢
 clear hE hR hNO hBB hEE hLL
 replace JN := hide JN
 replace JT := hide JT
 replace JM := hide JM
 replace JW := hide JW
 replace hA := hide hA
 replace hI := hide hI
 replace hJ := hide hJ
 replace hP := hide hP
 clear hs ht hS hk
 obtain ⟨w1, hw1, hb1, kR, kS, kC, kK, kW⟩ := al5 w #[.slice A ss.length n, .slice A' ts.length n'] 25 (s8 s Ac nc Ap np Ad nd As ns Ah nh) 42 #[I c.hut, I c.work, I c.load] 44 #[.slice Ak cs.length nk] 38 #[I width] 3
 have kF := hide (fun (W : World) (hb : Below w1.heap.size w1 W) => (show (W.cell? ⟨w.heap.size, 0, none⟩ = some (.slice A ss.length n) ∧ W.cell? ⟨w.heap.size, 1, none⟩ = some (.slice A' ts.length n')) ∧ (W.cell? ⟨w.heap.size + 1, 0, none⟩ = some (.slice Ac s.basin.cells.length nc) ∧ W.cell? ⟨w.heap.size + 1, 1, none⟩ = some (.slice Ap s.basin.pairs.length np) ∧ W.cell? ⟨w.heap.size + 1, 2, none⟩ = some (I s.basin.gain) ∧ W.cell? ⟨w.heap.size + 1, 3, none⟩ = some (I s.basin.slack) ∧ W.cell? ⟨w.heap.size + 1, 4, none⟩ = some (I s.basin.deep) ∧ W.cell? ⟨w.heap.size + 1, 5, none⟩ = some (.slice Ad s.days.length nd) ∧ W.cell? ⟨w.heap.size + 1, 6, none⟩ = some (.slice As s.sights.length ns) ∧ W.cell? ⟨w.heap.size + 1, 7, none⟩ = some (.slice Ah s.changes.length nh)) ∧ (W.cell? ⟨w.heap.size + 1 + 1, 0, none⟩ = some (I c.hut) ∧ W.cell? ⟨w.heap.size + 1 + 1, 1, none⟩ = some (I c.work) ∧ W.cell? ⟨w.heap.size + 1 + 1, 2, none⟩ = some (I c.load)) ∧ W.cell? ⟨w.heap.size + 1 + 1 + 1, 0, none⟩ = some (.slice Ak cs.length nk) ∧ W.cell? ⟨w.heap.size + 1 + 1 + 1 + 1, 0, none⟩ = some (I width) from ⟨(kR.grow hb).cells2, (kS.grow hb).cells8, (kC.grow hb).cells3, (kK.grow hb).cell 0, (kW.grow hb).cell 0⟩))
 have zF := hide (fun (W : World) (hb : Below w1.heap.size w1 W) => (show w.heap.size < W.heap.size ∧ w.heap.size + 1 < W.heap.size ∧ w.heap.size + 1 + 1 < W.heap.size ∧ w.heap.size + 1 + 1 + 1 < W.heap.size ∧ w.heap.size + 1 + 1 + 1 + 1 < W.heap.size from ⟨(kR.grow hb).lt, (kS.grow hb).lt, (kC.grow hb).lt, (kK.grow hb).lt, (kW.grow hb).lt⟩))
 replace kR := hide kR
 replace kS := hide kS
 replace kC := hide kC
 replace kK := hide kK
 replace kW := hide kW
 obtain ⟨⟨r0, r1⟩, ⟨q0, q1, q2, q3, q4, q5, q6, q7⟩, ⟨c0, c1, c2⟩, k0, m0⟩ := kF.out w1 (Below.refl _ _)
 obtain ⟨z1, z2, z3, z4, z5⟩ := zF.out w1 (Below.refl _ _)
 by_cases h0 : E = 0
 case neg =>
  obtain ⟨rfl, rfl, rfl, rfl⟩ := hI.out E (hR1 h0)
  have hne : (EE != 0) = true := by simpa using h0
  replace h0 := hide h0
  clear hz JT JM JW hR0 hR1 hA0 hA hI hJ hP
  go_enter Tryz.func138, Tryz.ntmps138
  go_upto_region 1 with fail
  rw [← hw1]
  clear hw1
  go_wp2_with (go_at_call 86; refine (JN.out _ _ _ _ _ _ hb1 kR.out kC.out kS.out (kK.out.cell 0) (kW.out.cell 0)).mono ?_; rintro e v4 ⟨pv, rfl, -, hv1, hs4⟩; obtain rfl := hv1 h0.out)
  (try simp only [Exit.inBlock, Exit.then])
  refine bodyPost_ret (results_tmp4 rfl _ _ _) rfl ⟨_, rfl, Own.nil_ _ _ _ _ _, bup hb1 hs4⟩
 subst h0
 obtain ⟨hro, hso, hd0, hq, hgz⟩ := hz rfl
 rw [hA0, Bool.and_eq_true] at hq
 have hdy : 0 ≤ day ∧ day ≤ 1048576 := day_in (great_scene hgz) hd0
 have n16 := hro.n1
 have JT1 := hide (fun no v h base W hb hv H => JT.out hro hq.1 hdy no v h base W hb hv H)
 have hRK := hide (hR0 rfl)
 replace hro := hide hro
 replace hso := hide hso
 replace hdy := hide hdy
 replace hq := hide hq
 clear JT hR0 hR1 hA0 hz hgz hd0
 go_enter Tryz.func138, Tryz.ntmps138
 go_upto_region 1 with fail
 rw [← hw1]
 clear hw1
 go_wp2_with fail
 go_at_call 86
 refine (JN.out _ _ _ _ _ _ hb1 kR.out kC.out kS.out (kK.out.cell 0) (kW.out.cell 0)).mono ?_
 clear r0 r1 q0 q1 q2 q3 q4 q5 q6 q7 c0 c1 c2 k0 m0 z1 z2 z3 z4 z5
 rintro e v4 ⟨pv, rfl, hv0, -, hs4⟩
 obtain ⟨h, rfl, hHi⟩ := hv0 trivial
 have hbv := hide (bup hb1 hs4)
 replace hHi := hide hHi
 clear hv0 JN kR kS kC kK kW
 replace hs4 := hide hs4
 obtain ⟨⟨r0, r1⟩, ⟨q0, q1, q2, q3, q4, q5, q6, q7⟩, ⟨c0, c1, c2⟩, k0, m0⟩ := kF.out v4 hs4.out
 obtain ⟨z1, z2, z3, z4, z5⟩ := zF.out v4 hs4.out
 go_wp2_with fail
 clear r0 r1 q0 q1 q2 q3 q4 q5 q6 q7 c0 c1 c2 k0 m0 z1 z2 z3 z4 z5
 obtain ⟨N, hN⟩ : ∃ N, ss.length = N := ⟨_, rfl⟩
 rw [hN] at n16 kF hRK hA ⊢
 replace hN := hide hN
 go_loopw [18, 19, 20, 41] (fun no le way i wr => ∃ (k : Nat) (b : Bst), k ≤ N ∧ i = I k ∧ Hid (bestK ss ts s c day cs width k = .inr b) ∧ no = I b.no ∧ le = I b.wide ∧ Hid (Own wr v4.heap.size 3 1 intC way b.list) ∧ Hid (Below v4.heap.size v4 wr)) (fun _ _ _ i _ => N - (intOf i).toNat)
 case atStart => exact ⟨0, ⟨-1, 0, []⟩, Nat.zero_le _, rfl, hide rfl, rfl, rfl, hide (Own.nil_ _ _ _ _ _), hide (Below.refl _ _)⟩
 case round =>
  obtain ⟨k, b, hk, rfl, hbk, rfl, rfl, ho, hb⟩ := hrel
  have sr := hb.out.size
  by_cases hlt : k < N
  ·as_aux_lemma =>
   obtain ⟨bA, off, rfl, hbw⟩ := hA.out k hlt
   obtain ⟨x, hx⟩ := getElem?_of_lt (xs := ss) (k := k) (by have := hN.out; omega)
   have hst := hide (bestK_succ hbk.out hx)
   have hbW := hide (bup hbv.out hb.out)
   obtain ⟨zS, f0, f1, f2⟩ := (HSs.out _ hbW.out).site_at hx
   have k2 : (0 : Int) ≤ (k : Int) := by omega
   have k3 : (k : Int) < (N : Int) := by omega
   obtain ⟨w5, hw5, hb5, kX⟩ := al1 wr #[I x.no, I x.kind, I x.cell] 80
   obtain ⟨gx, hgx⟩ : ∃ g, wr.heap.size = g := ⟨_, rfl⟩
   have kX' := kX
   rw [hgx] at kX'
   obtain ⟨x0, x1, x2⟩ := kX'.cells3
   have zX := kX'.lt
   have hbw5 := hide (bup hbW.out hb5)
   have hb15 := hide (bup hs4.out (bup hb.out hb5))
   have hb45 := hide (bup hb.out hb5)
   have ho5 := hide (ho.out.below hb5)
   have HO := ho5
   have HB := hb45
   replace kX := hide kX'
   replace hx := hide hx
   clear kX' hb5 ho hb
   obtain ⟨⟨r0, r1⟩, ⟨q0, q1, q2, q3, q4, q5, q6, q7⟩, ⟨c0, c1, c2⟩, k0, m0⟩ := kF.out w5 hb15.out
   obtain ⟨z1, z2, z3, z4, z5⟩ := zF.out w5 hb15.out
   go_upto_region 9 with fail
   rw [← hw5]
   clear hw5 f0 f1 f2 zS
   replace hgx := hide hgx
   by_cases hkd : x.kind = 2
   case neg =>
    have hd : (x.kind == 2) = false := by simpa using hkd
    have hn := hide (bestS_1 (ss := ss) (ts := ts) (s := s) (c := c) (day := day) (cs := cs) (width := width) (b := b) hkd)
    replace hkd := hide hkd
    go_wp2_with fail
    go_roundw
    case rel => exact ⟨k + 1, b, by omega, by go_num, hide (hst.out.trans hn.out), rfl, rfl, HO, HB⟩
    case measure => simp [intOf]; omega
   have hd : (x.kind == 2) = true := by simpa using hkd
   go_wp2_with fail
   obtain ⟨w6, hw6, hb6, kL⟩ := al1 w5 #[I x.cell] 3
   go_at_call 163
   refine (JM.out _ x.cell _ (bup hbw5.out (below1 w5 _)) (blk_sl (l := [x.cell]) (n := 1) (Blk.new _ _ _) rfl (by omega))).mono ?_
   rintro e w7 ⟨rfl, hb7⟩
   have hb57 := (below1 w5 (.cells #[I x.cell] 3)).trans (hb7.mono (by simp))
   clear hw6 hb6 kL
   clear r0 r1 q0 q1 q2 q3 q4 q5 q6 q7 c0 c1 c2 k0 m0 z1 z2 z3 z4 z5 x0 x1 x2 zX hb7
   obtain ⟨x0, x1, x2⟩ := (kX.out.grow hb57).cells3
   have zX := (kX.out.grow hb57).lt
   have hbw7 := hide (bup hbw5.out hb57)
   have hb17 := hide (bup hb15.out hb57)
   have hb47 := hide (bup hb45.out hb57)
   have kX7 := hide (kX.out.grow hb57)
   have ho7 := hide (ho5.out.below hb57)
   have HO := ho7
   have HB := hb47
   clear kX ho5 hb15 hb45 hb57 hbw5
   obtain ⟨⟨r0, r1⟩, ⟨q0, q1, q2, q3, q4, q5, q6, q7⟩, ⟨c0, c1, c2⟩, k0, m0⟩ := kF.out w7 hb17.out
   obtain ⟨z1, z2, z3, z4, z5⟩ := zF.out w7 hb17.out
   cases hme : measB s [x.cell] width with
   | false =>
    have hn := hide (bestS_2 (ss := ss) (ts := ts) (c := c) (day := day) (cs := cs) (b := b) hme)
    go_wp2_with fail
    go_roundw
    case rel => exact ⟨k + 1, b, by omega, by go_num, hide (hst.out.trans hn.out), rfl, rfl, HO, HB⟩
    case measure => simp [intOf]; omega
   | true =>
    go_wp2_with fail
    go_at_call 113
    refine (JT1.out x.no _ _ _ _ (bup hbw7.out (below1 w7 _)) (blk_sl (l := [x.no]) (n := 1) (Blk.new _ _ _) rfl (by omega)) ((hHi.out.below hb47.out).below (below1 w7 _))).mono ?_
    rintro e w9 ⟨vT, rfl, hoT, hb9⟩
    have hb79 := (below1 w7 (.cells #[I x.no] 3)).trans (hb9.mono (by simp))
    clear r0 r1 q0 q1 q2 q3 q4 q5 q6 q7 c0 c1 c2 k0 m0 z1 z2 z3 z4 z5 x0 x1 x2 zX
    obtain ⟨x0, x1, x2⟩ := (kX7.out.grow hb79).cells3
    have zX := (kX7.out.grow hb79).lt
    have hbw9 := hide (bup hbw7.out hb79)
    have hb19 := hide (bup hb17.out hb79)
    have hb49 := hide (bup hb47.out hb79)
    have kX9 := hide (kX7.out.grow hb79)
    have ho9 := hide (ho7.out.below hb79)
    have hoT9 := hide (hoT.mono (show v4.heap.size ≤ _ by have := hb47.out.size; simp; omega))
    have HO := ho9
    have HB := hb49
    clear kX7 ho7 hb17 hb47 hb79 hbw7 hoT hb9
    obtain ⟨⟨r0, r1⟩, ⟨q0, q1, q2, q3, q4, q5, q6, q7⟩, ⟨c0, c1, c2⟩, k0, m0⟩ := kF.out w9 hb19.out
    obtain ⟨z1, z2, z3, z4, z5⟩ := zF.out w9 hb19.out
    cases hso9 : (tripF ss ts s c day [x.no]).isSome with
    | false =>
     have hn := hide (bestS_3 (ss := ss) (ts := ts) (c := c) (day := day) (cs := cs) (b := b) hkd hme hso9)
     replace hkd := hide hkd
     go_wp2_with fail
     go_roundw
     case rel => exact ⟨k + 1, b, by omega, by go_num, hide (hst.out.trans hn.out), rfl, rfl, HO, HB⟩
     case measure => simp [intOf]; omega
    | true =>
     have hn4 := bestS_4 (ss := ss) (ts := ts) (s := s) (c := c) (day := day) (cs := cs) (b := b) hkd hme hso9
     have hn5 := bestS_5 (ss := ss) (ts := ts) (s := s) (c := c) (day := day) (cs := cs) (b := b) hkd hme hso9
     have hn6 := bestS_6 (ss := ss) (ts := ts) (s := s) (c := c) (day := day) (cs := cs) (b := b) hkd hme hso9
     have JWx := JW.out x.cell
     obtain ⟨E2, hE2⟩ : ∃ q, outE (worstR s cs day x.cell width) = q := ⟨_, rfl⟩
     obtain ⟨⟨lo, hi, wd⟩, hO2⟩ : ∃ q, outV (worstR s cs day x.cell width) = q := ⟨_, rfl⟩
     rw [hE2, hO2] at JWx
     rw [hE2] at hn4
     rw [hE2, hO2] at hn5 hn6
     replace JWx := hide JWx
     replace hE2 := hide hE2
     replace hO2 := hide hO2
     replace hn5 := hide hn5
     replace hn6 := hide hn6
     replace hn4 := hide hn4
     go_wp2_with fail
     go_at_call 115
     refine (JWx.out _ hbw9.out).mono ?_
     rintro e w10 ⟨rfl, hb10⟩
     clear r0 r1 q0 q1 q2 q3 q4 q5 q6 q7 c0 c1 c2 k0 m0 z1 z2 z3 z4 z5 x0 x1 x2 zX
     by_cases h20 : E2 = 0
     case neg =>
      obtain ⟨rfl, rfl, rfl, rfl⟩ := hI.out E2 (hRK.out.trans (best_stop (hst.out.trans (hn4.out h20)) N (by omega)))
      have hne : (EE != 0) = true := by simpa using h20
      have hfin := hide ((bup hbw9.out hb10).trans ((below1 w10 (.cells #[I lo, I hi, I wd] 154)).mono (Nat.le_trans hbw9.out.size hb10.size)))
      replace h20 := hide h20
      go_wp2_with fail
      (try simp only [Exit.inBlock, Exit.then])
      refine bodyPost_ret (results_tmp4 rfl _ _ _) rfl ⟨_, rfl, Own.nil_ _ _ _ _ _, hfin.out⟩
     subst h20
     obtain ⟨w11, hw11, hb11, kY⟩ := al1 w10 #[I lo, I hi, I wd] 154
     obtain ⟨gy, hgy⟩ : ∃ g, w10.heap.size = g := ⟨_, rfl⟩
     have kY' := kY
     rw [hgy] at kY'
     obtain ⟨y0, y1, y2⟩ := kY'.cells3
     have zY := kY'.lt
     have hb911 := bup hb10 hb11
     obtain ⟨x0, x1, x2⟩ := (kX9.out.grow hb911).cells3
     have zX := (kX9.out.grow hb911).lt
     have HO := hide (ho9.out.below hb911)
     have HT := hide (hoT9.out.below hb911)
     have HB := hide (bup hb49.out hb911)
     clear kY kY' hb10 hb11 hb911 ho9 hoT9 hb49 kX9
     go_upto_region 13 with fail
     rw [← hw11]
     clear hw11
     replace hgy := hide hgy
     rcases ilt b.no 0 with hno | hno
     ·have hn := hide (hn5.out trivial (.inl hno))
      go_upto_region 16 with fail
      go_quiet (fail)
      go_wp2_with fail
      go_roundw
      case rel => exact ⟨k + 1, ⟨x.no, wd, tripT ss ts s c day [x.no]⟩, by omega, by go_num, hide (hst.out.trans hn.out), rfl, rfl, hide (by exact HT.out), hide (below_drewN HB.out _)⟩
      case measure => simp [intOf]; omega
     ·rcases ilt wd b.wide with hwd | hwd
      ·have hn := hide (hn5.out trivial (.inr hwd))
       go_upto_region 16 with fail
       go_quiet (fail)
       go_wp2_with fail
       go_roundw
       case rel => exact ⟨k + 1, ⟨x.no, wd, tripT ss ts s c day [x.no]⟩, by omega, by go_num, hide (hst.out.trans hn.out), rfl, rfl, hide (by exact HT.out), hide (below_drewN HB.out _)⟩
       case measure => simp [intOf]; omega
      ·have hn := hide (hn6.out trivial (fun hh => by rcases hh with hh | hh <;> omega))
       go_wp2_with fail
       go_roundw
       case rel => exact ⟨k + 1, b, by omega, by go_num, hide (hst.out.trans hn.out), rfl, rfl, HO, HB⟩
       case measure => simp [intOf]; omega
  ·obtain rfl : N = k := by omega
   have hRb := hRK.out.trans hbk.out
   by_cases hno : b.no < 0
   ·obtain ⟨rfl, rfl, rfl, rfl⟩ := hJ.out b hRb hno
    have hfin := hide (bup hbv.out hb.out)
    go_wp2_with fail
    (try simp only [Exit.inBlock, Exit.then])
    refine bodyPost_ret (results_tmp4 rfl _ _ _) rfl ⟨_, rfl, Own.nil_ _ _ _ _ _, hfin.out⟩
   ·obtain ⟨rfl, rfl, rfl, rfl⟩ := hP.out b hRb (by omega)
    have hfin := hide (bup hbv.out hb.out)
    have hno2 : 0 ≤ b.no := by omega
    go_wp2_with fail
    (try simp only [Exit.inBlock, Exit.then])
    refine bodyPost_ret (results_tmp4 rfl _ _ _) rfl ⟨_, rfl, ho.out.mono hbv.out.size, hfin.out⟩
theorem crew_Best (vs vt vk : Value) (ss : List Site) (ts : List Track) (s : Scene) (V : SceneV) (c : Crew) (day : Int) (cs : List Int) (width : Int) (w : World) (hs : Sl w 3 Site.cells vs ss) (ht : Sl w 6 Track.cells vt ts) (hS : SceneAt w s V) (hk : Sl w 1 intC vk cs) :
  Calls Tryz.prog 60 #[.agg #[vs, vt], s.v V, .agg #[I c.hut, I c.work, I c.load], I day, vk, I width] w fun e w' => e = .returned (.tuple #[I (bestNo (bestR ss ts s c day cs width)), .bool (bestB (bestR ss ts s c day cs width)), I (bestE (bestR ss ts s c day cs width))]) ∧ Below w.heap.size w w' := by
 have JB := fun W (hb : Below w.heap.size w W) => crew_best vs vt vk ss ts s V c day cs width W (hs.mono hb) (ht.mono hb) (hS.mono hb) (hk.mono hb)
 obtain ⟨Ac, nc, hcc, _⟩ := hS.cells.open_
 obtain ⟨Ap, np, hpp, _⟩ := hS.pairs.open_
 obtain ⟨Ad, nd, hdd, _⟩ := hS.days.open_
 obtain ⟨As, ns, hsi, _⟩ := hS.sights.open_
 obtain ⟨Ah, nh, hch, _⟩ := hS.changes.open_
 obtain ⟨A, n, rfl, -⟩ := hs.open_
 obtain ⟨A', n', rfl, -⟩ := ht.open_
 obtain ⟨Ak, nk, rfl, -⟩ := hk.open_
 unfold Scene.v at *
 rw [hcc, hpp, hdd, hsi, hch] at JB ⊢
 clear hcc hpp hdd hsi hch
 obtain ⟨NO, hNO⟩ : ∃ q, bestNo (bestR ss ts s c day cs width) = q := ⟨_, rfl⟩
 obtain ⟨BB, hBB⟩ : ∃ q, bestB (bestR ss ts s c day cs width) = q := ⟨_, rfl⟩
 obtain ⟨EE, hEE⟩ : ∃ q, bestE (bestR ss ts s c day cs width) = q := ⟨_, rfl⟩
 obtain ⟨LL, hLL⟩ : ∃ q, bestL (bestR ss ts s c day cs width) = q := ⟨_, rfl⟩
 rw [hNO, hBB, hEE, hLL] at JB
 rw [hNO, hBB, hEE]
 clear hNO hBB hEE hLL hs ht hS hk
 replace JB := hide JB
 obtain ⟨w1, hw1, hb1, kR, kS, kC⟩ := al3 w #[.slice A ss.length n, .slice A' ts.length n'] 25 (s8 s Ac nc Ap np Ad nd As ns Ah nh) 42 #[I c.hut, I c.work, I c.load] 44
 obtain ⟨r0, r1⟩ := kR.cells2
 obtain ⟨q0, q1, q2, q3, q4, q5, q6, q7⟩ := kS.cells8
 obtain ⟨c0, c1, c2⟩ := kC.cells3
 have z1 := kR.lt
 have z2 := kS.lt
 have z3 := kC.lt
 clear kR kS kC
 go_enter Tryz.func60, Tryz.ntmps60
 go_upto_region 1 with fail
 rw [← hw1]
 clear hw1
 go_wp2_with (go_at_call 138; refine (JB.out _ hb1).mono ?_; rintro e w2 ⟨v, rfl, -, hb2⟩)
 (try simp only [Exit.inBlock, Exit.then])
 refine bodyPost_ret (results_tmp3 rfl _ _ _) rfl ⟨rfl, bup hb1 hb2⟩

theorem x_light (w : World) : Calls Tryz.prog 17 #[I 91] w fun e w' => e = .returned (.tuple #[I 720, I 0]) ∧ w = w' := by
 have h := crew_Light 91 w
 rw [ev_light.1, ev_light.2] at h
 exact h
theorem ev_bears : bearsV 60 = 285 ∧ bearsE 60 = 0 := ⟨by kernel_rfl, by kernel_rfl⟩
theorem ev_breaks : breaksV 1000 35 = true ∧ breaksE 1000 35 = 0 := ⟨by kernel_rfl, by kernel_rfl⟩
theorem x_bears (w : World) : Calls Tryz.prog 21 #[I 60] w fun e w' => e = .returned (.tuple #[I 285, I 0]) ∧ w = w' := by
 have h := crew_Bears 60 w
 rw [ev_bears.1, ev_bears.2] at h
 exact h
theorem x_breaks (w : World) : Calls Tryz.prog 19 #[I 1000, I 35] w fun e w' => e = .returned (.tuple #[.bool true, I 0]) ∧ w = w' := by
 have h := crew_Breaks 1000 35 w
 rw [ev_breaks.1, ev_breaks.2] at h
 exact h
theorem x_equal {v v' : Value} {xs : List Int} (w : World) (hv : Sl w 1 intC v xs) (hv' : Sl w 1 intC v' xs) : Calls Tryz.prog 30 #[v, v'] w fun e w' => e = .returned (.bool true) ∧ Below w.heap.size w w' := by
 have h := equal_int v v' xs xs w hv hv'
 rw [decide_eq_true rfl] at h
 exact h
theorem x_open {a b p q r : Nat} (w : World) (hH : HillsAt w a b) (hS : SceneAt w (snowS 900 1200) (snowSV p q r)) : Calls Tryz.prog 47 #[.agg #[.slice (some ⟨a, 0, none⟩) 4 4, .slice (some ⟨b, 0, none⟩) 4 4], .agg #[.slice (some ⟨p, 0, none⟩) 1 1, .slice none 0 0, I 0, I 0, I 3000, .slice (some ⟨q, 0, none⟩) 1 1, .slice (some ⟨r, 0, none⟩) 1 1, .slice none 0 0], I 100] w fun e w' => ∃ v, e = .returned (.tuple #[v, I 0]) ∧ Sl w' 1 intC v [2, 3, 4] ∧ Below w.heap.size w w' := by
 have h := crew_Open _ _ hillsS hillsT (snowS 900 1200) (snowSV p q r) 100 w hH.1 hH.2 hS
 rw [ev_open, ev_openE] at h
 exact h.mono fun e w' ⟨v, he, ho, hb⟩ => ⟨v, he, ho.sl intC_len (by simp), hb⟩
theorem x_way {a b p q r : Nat} (w : World) (hH : HillsAt w a b) (hS : SceneAt w (snowS 900 1200) (snowSV p q r)) : Calls Tryz.prog 31 #[.agg #[.slice (some ⟨a, 0, none⟩) 4 4, .slice (some ⟨b, 0, none⟩) 4 4], .agg #[.slice (some ⟨p, 0, none⟩) 1 1, .slice none 0 0, I 0, I 0, I 3000, .slice (some ⟨q, 0, none⟩) 1 1, .slice (some ⟨r, 0, none⟩) 1 1, .slice none 0 0], I 100, I 1, I 2] w fun e w' => ∃ v, e = .returned (.tuple #[v, I 170, .bool true, I 0]) ∧ Sl w' 1 intC v [3, 4] ∧ Below w.heap.size w w' := by
 have h := crew_Way _ _ hillsS hillsT (snowS 900 1200) (snowSV p q r) 100 1 2 w hH.1 hH.2 hS
 rw [ev_way, ev_wayE, ev_wayM, ev_wayB] at h
 exact h.mono fun e w' ⟨v, he, ho, hb⟩ => ⟨v, he, ho.sl intC_len (by simp), hb⟩
theorem x_min {a b : Nat} {vl vk : Value} (w : World) (hH : HillsAt w a b) (hl : Sl w 1 intC vl [3, 4, 2]) (hk : Sl w 1 intC vk [2]) : Calls Tryz.prog 36 #[.agg #[.slice (some ⟨a, 0, none⟩) 4 4, .slice (some ⟨b, 0, none⟩) 4 4], .agg #[I 1, I 60, I 50], vl, vk] w fun e w' => e = .returned (.tuple #[I 540, I 0]) ∧ Below w.heap.size w w' := by
 have h := crew_Minutes _ _ vl vk hillsS hillsT crewC [3, 4, 2] [2] w hH.1 hH.2 hl hk
 rw [ev_min, ev_minE] at h
 exact h
theorem x_trip {a b p q r : Nat} {vk : Value} (w : World) (hH : HillsAt w a b) (hS : SceneAt w (snowS 900 1200) (snowSV p q r)) (hk : Sl w 1 intC vk [2]) : Calls Tryz.prog 40 #[.agg #[.slice (some ⟨a, 0, none⟩) 4 4, .slice (some ⟨b, 0, none⟩) 4 4], .agg #[.slice (some ⟨p, 0, none⟩) 1 1, .slice none 0 0, I 0, I 0, I 3000, .slice (some ⟨q, 0, none⟩) 1 1, .slice (some ⟨r, 0, none⟩) 1 1, .slice none 0 0], .agg #[I 1, I 60, I 50], I 100, vk] w fun e w' => ∃ v, e = .returned (.tuple #[v, .bool true, I 0]) ∧ Sl w' 1 intC v [3, 4, 2] ∧ Below w.heap.size w w' := by
 have h := crew_Trip _ _ vk hillsS hillsT (snowS 900 1200) (snowSV p q r) crewC 100 [2] w hH.1 hH.2 hS hk
 rw [ev_trip, ev_tripB, ev_tripE] at h
 exact h.mono fun e w' ⟨v, he, ho, hb⟩ => ⟨v, he, ho.sl intC_len (by simp), hb⟩
theorem x_reach {a b p q r : Nat} (w : World) (hH : HillsAt w a b) (hS : SceneAt w (snowS 900 1200) (snowSV p q r)) : Calls Tryz.prog 28 #[.agg #[.slice (some ⟨a, 0, none⟩) 4 4, .slice (some ⟨b, 0, none⟩) 4 4], .agg #[.slice (some ⟨p, 0, none⟩) 1 1, .slice none 0 0, I 0, I 0, I 3000, .slice (some ⟨q, 0, none⟩) 1 1, .slice (some ⟨r, 0, none⟩) 1 1, .slice none 0 0], .agg #[I 1, I 60, I 50], I 100] w fun e w' => ∃ v, e = .returned (.tuple #[v, I 0]) ∧ Sl w' 1 intC v [1, 2, 3, 4] ∧ Below w.heap.size w w' := by
 have h := crew_Reach _ _ hillsS hillsT (snowS 900 1200) (snowSV p q r) crewC 100 w hH.1 hH.2 hS
 rw [ev_reach, ev_reachE] at h
 exact h.mono fun e w' ⟨v, he, ho, hb⟩ => ⟨v, he, ho.sl intC_len (by simp), hb⟩
theorem x_check1 {a b p q r : Nat} {vl vk : Value} (w : World) (hH : HillsAt w a b) (hS : SceneAt w (snowS 900 1200) (snowSV p q r)) (hl : Sl w 1 intC vl [1, 2]) (hk : Sl w 1 intC vk [2]) : Calls Tryz.prog 38 #[.agg #[.slice (some ⟨a, 0, none⟩) 4 4, .slice (some ⟨b, 0, none⟩) 4 4], .agg #[.slice (some ⟨p, 0, none⟩) 1 1, .slice none 0 0, I 0, I 0, I 3000, .slice (some ⟨q, 0, none⟩) 1 1, .slice (some ⟨r, 0, none⟩) 1 1, .slice none 0 0], .agg #[I 1, I 60, I 50], I 100, vl, vk] w fun e w' => e = .returned (I 72) ∧ Below w.heap.size w w' := by
 have h := crew_CheckTrip _ _ vl vk hillsS hillsT (snowS 900 1200) (snowSV p q r) crewC 100 [1, 2] [2] w hH.1 hH.2 hS hl hk
 rw [ev_check1] at h
 exact h
theorem x_check2 {a b p q r : Nat} {vl vk : Value} (w : World) (hH : HillsAt w a b) (hS : SceneAt w (snowS 900 1200) (snowSV p q r)) (hl : Sl w 1 intC vl [3, 4]) (hk : Sl w 1 intC vk [2]) : Calls Tryz.prog 38 #[.agg #[.slice (some ⟨a, 0, none⟩) 4 4, .slice (some ⟨b, 0, none⟩) 4 4], .agg #[.slice (some ⟨p, 0, none⟩) 1 1, .slice none 0 0, I 0, I 0, I 3000, .slice (some ⟨q, 0, none⟩) 1 1, .slice (some ⟨r, 0, none⟩) 1 1, .slice none 0 0], .agg #[I 1, I 60, I 50], I 100, vl, vk] w fun e w' => e = .returned (I 71) ∧ Below w.heap.size w w' := by
 have h := crew_CheckTrip _ _ vl vk hillsS hillsT (snowS 900 1200) (snowSV p q r) crewC 100 [3, 4] [2] w hH.1 hH.2 hS hl hk
 rw [ev_check2] at h
 exact h
theorem x_check3 {a b p q r : Nat} {vl vk : Value} (w : World) (hH : HillsAt w a b) (hS : SceneAt w (snowS 900 1200) (snowSV p q r)) (hl : Sl w 1 intC vl [3, 4, 2]) (hk : Sl w 1 intC vk [2]) : Calls Tryz.prog 38 #[.agg #[.slice (some ⟨a, 0, none⟩) 4 4, .slice (some ⟨b, 0, none⟩) 4 4], .agg #[.slice (some ⟨p, 0, none⟩) 1 1, .slice none 0 0, I 0, I 0, I 3000, .slice (some ⟨q, 0, none⟩) 1 1, .slice (some ⟨r, 0, none⟩) 1 1, .slice none 0 0], .agg #[I 1, I 60, I 50], I 100, vl, vk] w fun e w' => e = .returned (I 0) ∧ Below w.heap.size w w' := by
 have h := crew_CheckTrip _ _ vl vk hillsS hillsT (snowS 900 1200) (snowSV p q r) crewC 100 [3, 4, 2] [2] w hH.1 hH.2 hS hl hk
 rw [ev_check3] at h
 exact h
theorem x_worst {p q r : Nat} {vl : Value} (w : World) (hS : SceneAt w (snowS 100 160) (snowSV p q r)) (hl : Sl w 1 intC vl [7]) : Calls Tryz.prog 42 #[.agg #[.slice (some ⟨p, 0, none⟩) 1 1, .slice none 0 0, I 0, I 0, I 3000, .slice (some ⟨q, 0, none⟩) 1 1, .slice (some ⟨r, 0, none⟩) 1 1, .slice none 0 0], vl, I 100, I 7, I 20] w fun e w' => e = .returned (.tuple #[I 200, I 0]) ∧ Below w.heap.size w w' := by
 have h := crew_Worst (snowS 100 160) (snowSV p q r) vl [7] 100 7 20 w hS hl
 rw [ev_worst, ev_worstE] at h
 exact h
theorem x_told {p q r : Nat} {vl : Value} (w : World) (hS : SceneAt w (snowS 100 160) (snowSV p q r)) (hl : Sl w 1 intC vl [7]) : Calls Tryz.prog 44 #[.agg #[.slice (some ⟨p, 0, none⟩) 1 1, .slice none 0 0, I 0, I 0, I 3000, .slice (some ⟨q, 0, none⟩) 1 1, .slice (some ⟨r, 0, none⟩) 1 1, .slice none 0 0], vl, I 100, I 7, I 20] w fun e w' => e = .returned (.tuple #[.agg #[I 100, I 120], .bool true, I 0]) ∧ Below w.heap.size w w' := by
 have h := crew_Told (snowS 100 160) (snowSV p q r) vl [7] 100 7 20 w hS hl
 rw [ev_told, ev_toldB, ev_toldE] at h
 exact h
theorem x_best {a b p q r : Nat} {vk : Value} (w : World) (hH : HillsAt w a b) (hS : SceneAt w (snowS 100 160) (snowSV p q r)) (hk : Sl w 1 intC vk [7]) : Calls Tryz.prog 60 #[.agg #[.slice (some ⟨a, 0, none⟩) 4 4, .slice (some ⟨b, 0, none⟩) 4 4], .agg #[.slice (some ⟨p, 0, none⟩) 1 1, .slice none 0 0, I 0, I 0, I 3000, .slice (some ⟨q, 0, none⟩) 1 1, .slice (some ⟨r, 0, none⟩) 1 1, .slice none 0 0], .agg #[I 1, I 60, I 50], I 100, vk, I 20] w fun e w' => e = .returned (.tuple #[I 2, .bool true, I 0]) ∧ Below w.heap.size w w' := by
 have h := crew_Best _ _ vk hillsS hillsT (snowS 100 160) (snowSV p q r) crewC 100 [7] 20 w hH.1 hH.2 hS hk
 rw [ev_best, ev_bestB, ev_bestE] at h
 exact h
theorem x_cut {a b p q r : Nat} (w : World) (hH : HillsAt w a b) (hS : SceneAt w (snowS 100 160) (snowSV p q r)) : Calls Tryz.prog 26 #[.agg #[.slice (some ⟨a, 0, none⟩) 4 4, .slice (some ⟨b, 0, none⟩) 4 4], .agg #[.slice (some ⟨p, 0, none⟩) 1 1, .slice none 0 0, I 0, I 0, I 3000, .slice (some ⟨q, 0, none⟩) 1 1, .slice (some ⟨r, 0, none⟩) 1 1, .slice none 0 0], I 100, I 1, I 4] w fun e w' => ∃ v, e = .returned (.tuple #[v, .bool false, I 0]) ∧ Sl w' 1 intC v [] ∧ Below w.heap.size w w' := by
 have h := crew_Cut _ _ hillsS hillsT (snowS 100 160) (snowSV p q r) 100 1 4 w hH.1 hH.2 hS
 rw [ev_cut, ev_cutB, ev_cutE] at h
 exact h.mono fun e w' ⟨v, he, ho, hb⟩ => ⟨v, he, ho.sl intC_len (by simp), hb⟩
theorem x_range {a : Nat} (w : World) (hs : Sl w 3 Site.cells (.slice (some ⟨a, 0, none⟩) 1 1) [⟨0, 0, 0⟩]) : Calls Tryz.prog 23 #[.agg #[.slice (some ⟨a, 0, none⟩) 1 1, .slice none 0 0]] w fun e w' => e = .returned (I 70) ∧ Below w.heap.size w w' := by
 have h := crew_CheckRange _ (.slice none 0 0) [⟨0, 0, 0⟩] [] w hs (Sl.nil _ _ _)
 rw [ev_range] at h
 exact h
end Go.Proofs.YtgbbljfmngmjeaaGreat
