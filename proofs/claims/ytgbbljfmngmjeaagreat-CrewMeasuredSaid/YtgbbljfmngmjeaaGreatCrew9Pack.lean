/- The package crew: Reach. Conditions stand in the theorem. -/
import Derived.Test.YtgbbljfmngmjeaaGreatCrew6Pack
set_option linter.all false
set_option maxHeartbeats 8000000
set_option maxRecDepth 100000
namespace Go.Proofs.YtgbbljfmngmjeaaGreat
open Go.RowKit

def homeF (ss : List Site) (l : List Stp) : Int := (ss.zip l).foldl (fun m p => if p.1.kind == 1 then min m p.2.minutes else m) farN
def reachE (ss : List Site) (ts : List Track) (s : Scene) (day : Int) (c : Crew) : Int := seenE ss ts s day (hiredB ss c)
def reachN (ss : List Site) (O : List Track) (l : List Stp) (i : Nat) : Int := (l.getD i default).minutes + homeF ss (quickF ss O i)
def reachG (ss : List Site) (O : List Track) (c : Crew) (day : Int) (l : List Stp) (i : Nat) : Bool := decide (reachN ss O l i < farN) && decide (clockF c (reachN ss O l i) 0 ≤ lightF day)
def reachT (ss : List Site) (O : List Track) (c : Crew) (day : Int) (l : List Stp) (k : Nat) : List Int := ((List.range k).filter (reachG ss O c day l)).map fun i => (ss.getD i default).no
def reachV (ss : List Site) (ts : List Track) (s : Scene) (c : Crew) (day : Int) : List Int :=
 if reachE ss ts s day c = 0 then reachT ss (openF (hwF s day) ts) c day (quickF ss (openF (hwF s day) ts) (placeS ss c.hut).toNat) ss.length else []
theorem home_snoc {ss : List Site} {l : List Stp} {k : Nat} {x : Site} {t : Stp} (hx : ss[k]? = some x) (ht : l[k]? = some t) :
  homeF (ss.take (k + 1)) (l.take (k + 1)) = if x.kind == 1 then min (homeF (ss.take k) (l.take k)) t.minutes else homeF (ss.take k) (l.take k) := by
 have hz : (ss.take (k + 1)).zip (l.take (k + 1)) = (ss.take k).zip (l.take k) ++ [(x, t)] := by
  rw [List.take_succ_eq_append_getElem (List.getElem?_eq_some_iff.1 hx).1, List.take_succ_eq_append_getElem (List.getElem?_eq_some_iff.1 ht).1, (List.getElem?_eq_some_iff.1 hx).2, (List.getElem?_eq_some_iff.1 ht).2]
  rw [List.zip_append (by rw [List.length_take, List.length_take, Nat.min_eq_left (Nat.le_of_lt (List.getElem?_eq_some_iff.1 hx).1), Nat.min_eq_left (Nat.le_of_lt (List.getElem?_eq_some_iff.1 ht).1)])]
  rfl
 unfold homeF
 rw [hz, List.foldl_append]
 rfl
theorem home_bd : ∀ (xs : List (Site × Stp)) (m : Int), (∀ p ∈ xs, 0 ≤ p.2.minutes) → 0 ≤ m → m ≤ farN → 0 ≤ xs.foldl (fun m p => if p.1.kind == 1 then min m p.2.minutes else m) m ∧ xs.foldl (fun m p => if p.1.kind == 1 then min m p.2.minutes else m) m ≤ farN
 | [], m, _, h0, h1 => ⟨h0, h1⟩
 | p :: xs, m, h, h0, h1 => by
  have h2 := h p (List.mem_cons_self ..)
  simp only [List.foldl_cons]
  refine home_bd xs _ (fun q hq => h q (List.mem_cons_of_mem _ hq)) ?_ ?_ <;> split <;> omega
theorem home_in {n : Nat} (ss : List Site) {l : List Stp} (h : StOk n l) : 0 ≤ homeF ss l ∧ homeF ss l ≤ 1099511627776 := by
 refine home_bd _ _ (fun p hp => (h.bd p.2 (List.of_mem_zip hp).2).1) (by simp [farN]) (Int.le_refl _)
theorem StOk.take {n k : Nat} {l : List Stp} (h : StOk n l) : StOk (min k n) (l.take k) := ⟨by rw [List.length_take, h.len], fun s hs => h.bd s (List.mem_of_mem_take hs)⟩
theorem reach_snoc {ss : List Site} {O : List Track} {c : Crew} {day : Int} {l : List Stp} {k : Nat} {x : Site} (hx : ss[k]? = some x) : reachT ss O c day l (k + 1) = reachT ss O c day l k ++ (if reachG ss O c day l k = true then [x.no] else []) := by
 unfold reachT
 rw [List.range_succ, List.filter_append, List.map_append]
 congr 1
 simp only [List.filter_cons, List.filter_nil]
 split
 ·simp [hx]
 ·rfl
theorem reach_len (ss : List Site) (O : List Track) (c : Crew) (day : Int) (l : List Stp) (k : Nat) : (reachT ss O c day l k).length ≤ k := by
 unfold reachT
 rw [List.length_map]
 exact Nat.le_trans (List.length_filter_le ..) (by simp)
theorem quick_ok {ss : List Site} {ts : List Track} {m : Int → Option Int} (hr : RangeOk ss ts) (p : Nat) : StOk ss.length (quickF ss (openF m ts) p) := by
 unfold quickF
 refine StOk.relaxN (StOk.start _ _) (fun t ht => ?_) _
 have h1 := hr.tr (List.mem_filter.1 ht).1
 have h2 := placeS_lt h1.a
 have h3 := placeS_lt h1.b
 have h4 := h1.a
 have h5 := h1.b
 have h6 := h1.minutes
 unfold pA pB
 exact ⟨by omega, by omega, by omega⟩
theorem hired_zero {ss : List Site} {c : Crew} (h : hiredB ss c = true) : 0 ≤ placeS ss c.hut ∧ (0 ≤ c.work ∧ c.work ≤ 1440) ∧ (0 ≤ c.load ∧ c.load ≤ 200) := by
 simp only [hiredB, Bool.and_eq_true, decide_eq_true_eq, inB_true] at h
 exact ⟨h.1.1.1, h.1.2, h.2⟩
theorem great_scene {s : Scene} (h : greatE s = 0) : sceneE s = 0 := by
 unfold greatE at h
 split at h
 ·assumption
 ·omega
theorem rises {l : List Int} (h : risingB l = true) {i j : Nat} {x y : Int} (hi : l[i]? = some x) (hj : l[j]? = some y) (hij : i < j) : x < y := by
 induction j generalizing y with
 | zero => omega
 | succ j ih =>
  have hjl := (List.getElem?_eq_some_iff.1 hj).1
  obtain ⟨z, hz⟩ := getElem?_of_lt (xs := l) (k := j) (by omega)
  have h2 := List.all_eq_true.1 h (j + 1) (List.mem_range.2 hjl)
  rw [risesAt_pos (by omega) hj (by simpa using hz)] at h2
  have h3 : z < y := by simpa using h2
  rcases Nat.lt_or_ge i j with h4 | h4
  ·have := ih hz h4
   omega
  ·obtain rfl : i = j := by omega
   rw [hi] at hz
   cases hz
   exact h3
theorem day_in {s : Scene} {day : Int} (h : sceneE s = 0) (hd : 0 ≤ placeD s.days day) : 0 ≤ day ∧ day ≤ 1048576 := by
 have hk : daysOk s.days = true := by
  cases h9 : daysOk s.days with
  | true => rfl
  | false =>
   cases h8 : basinOk s.basin <;> simp [sceneE, h9, h8] at h
 simp only [daysOk, Bool.and_eq_true, inB_true, decide_eq_true_eq] at hk
 obtain ⟨⟨⟨⟨h1, h2⟩, hr⟩, h3⟩, h4⟩ := hk
 obtain ⟨x, hx, hp⟩ := idxBy_at _ s.days hd
 obtain rfl : x = day := by simpa using hp
 obtain ⟨a, ha⟩ := getElem?_of_lt (xs := s.days) (k := 0) (by omega)
 obtain ⟨b, hb⟩ := getElem?_of_lt (xs := s.days) (k := s.days.length - 1) (by omega)
 have ha2 : s.days.getD 0 0 = a := by simp [ha]
 have hb2 : s.days.getD (s.days.length - 1) 0 = b := by simp [hb]
 rw [ha2] at h3
 rw [hb2] at h4
 have hil := (List.getElem?_eq_some_iff.1 hx).1
 constructor
 ·rcases Nat.eq_zero_or_pos (idxBy (fun y => y == x) s.days).toNat with h0 | h0
  ·rw [h0, ha] at hx
   cases hx
   exact h3
  ·have := rises hr ha hx h0
   omega
 ·rcases Nat.lt_or_ge (idxBy (fun y => y == x) s.days).toNat (s.days.length - 1) with h0 | h0
  ·have := rises hr hx hb h0
   omega
  ·have : (idxBy (fun y => y == x) s.days).toNat = s.days.length - 1 := by omega
   rw [this, hb] at hx
   cases hx
   exact h4
theorem field_clock (fn : Fn) (x y : Array Value) (w : World) : (Instr.field 137 (.agg #[.func fn x y]) 0).run Tryz.prog w = .ok (.func fn x y) w := by
 have u1 := Tryz.underlying137
 have a1 := Tryz.isAgg135
 simp only [Instr.field]
 go_simp
 try rfl
theorem eg_reach1 : ∀ args w, (callFunc 91 args).run Tryz.prog w = .ok (.enter 91 args) w := enters_of Tryz.func91 (by kernel_rfl) rfl
theorem crew_reach1 (gr gc : Nat) (vs vt : Value) (ss : List Site) (c : Crew) (w : World) (hs : Sl w 3 Site.cells vs ss) (hR : Blk w gr 25 #[vs, vt]) (hC : Blk w gc 44 #[I c.hut, I c.work, I c.load]) :
  Calls Tryz.prog 91 #[.pointer (some ⟨gr, 0, none⟩), .pointer (some ⟨gc, 0, none⟩)] w fun e w' => e = .returned (.bool (hiredB ss c)) ∧ Below w.heap.size w w' := by
 have JT := hide (crew_hired vs vt ss c w hs)
 obtain ⟨r0, r1⟩ := hR.cells2
 obtain ⟨q0, q1, q2⟩ := hC.cells3
 have zR := hR.lt
 have zC := hC.lt
 obtain ⟨A, n, rfl, _⟩ := hs.open_
 clear hs hR hC
 go_enter Tryz.func91, Tryz.ntmps91
 go_wp2_with (go_at_call 92; refine JT.out.mono ?_; rintro e w' ⟨rfl, hb⟩)
 go_ret
 exact ⟨rfl, hb⟩
theorem crew_Reach (vs vt : Value) (ss : List Site) (ts : List Track) (s : Scene) (V : SceneV) (c : Crew) (day : Int) (w : World) (hs : Sl w 3 Site.cells vs ss) (ht : Sl w 6 Track.cells vt ts) (hS : SceneAt w s V) :
  Calls Tryz.prog 28 #[.agg #[vs, vt], s.v V, .agg #[I c.hut, I c.work, I c.load], I day] w fun e w' => ∃ v, e = .returned (.tuple #[v, I (reachE ss ts s day c)]) ∧ Own w' w.heap.size 3 1 intC v (reachV ss ts s c day) ∧ Below w.heap.size w w' := by
 have hz := fun h => seen_zero (ss := ss) (ts := ts) (s := s) (day := day) (q := hiredB ss c) h
 have JN := fun (gr gc : Nat) W (hb : Below w.heap.size w W) (kr : Blk W gr 25 #[vs, vt]) (kc : Blk W gc 44 #[I c.hut, I c.work, I c.load]) => crew_seen vs vt ss ts s V day 91 #[.pointer (some ⟨gr, 0, none⟩), .pointer (some ⟨gc, 0, none⟩)] (hiredB ss c) W (hs.mono hb) (ht.mono hb) (hS.mono hb) eg_reach1 (fun _ W' hW' => crew_reach1 gr gc vs vt ss c W' ((hs.mono hb).mono hW') (kr.grow hW') (kc.grow hW'))
 have JP := fun no W (hb : Below w.heap.size w W) => crew_site vs vt ss no W (hs.mono hb)
 have JQ := fun (hr : RangeOk ss ts) (h base : Nat) (p : Nat) (hp : p < ss.length) W (hb : Below w.heap.size w W) (H : HillAt W base h vs vt (hwF s day)) => crew_quickest h base vs vt ss ts (hwF s day) p W H (hs.mono hb) (ht.mono hb) hr hp
 have HSs := hide hs
 obtain ⟨Ac, nc, hcc, _⟩ := hS.cells.open_
 obtain ⟨Ap, np, hpp, _⟩ := hS.pairs.open_
 obtain ⟨Ad, nd, hdd, _⟩ := hS.days.open_
 obtain ⟨As, ns, hsi, _⟩ := hS.sights.open_
 obtain ⟨Ah, nh, hch, _⟩ := hS.changes.open_
 obtain ⟨A, n, rfl, _, _, _, hA⟩ := hs.open_
 obtain ⟨A', n', rfl, _⟩ := ht.open_
 unfold Scene.v at *
 rw [hcc, hpp, hdd, hsi, hch] at JN ⊢
 clear hcc hpp hdd hsi hch
 have hV0 : reachE ss ts s day c = 0 → reachV ss ts s c day = reachT ss (openF (hwF s day) ts) c day (quickF ss (openF (hwF s day) ts) (placeS ss c.hut).toNat) ss.length := fun h => by simp [reachV, h]
 have hV1 : reachE ss ts s day c ≠ 0 → reachV ss ts s c day = [] := fun h => by simp [reachV, h]
 obtain ⟨E, hE⟩ : ∃ E, reachE ss ts s day c = E := ⟨_, rfl⟩
 have hE' : seenE ss ts s day (hiredB ss c) = E := hE
 obtain ⟨PP, hPP⟩ : ∃ M, reachV ss ts s c day = M := ⟨_, rfl⟩
 rw [hE'] at JN hz
 rw [hE, hPP] at hV0 hV1 ⊢
 clear hE hE' hPP
 replace JN := hide JN
 replace JP := hide JP
 replace JQ := hide JQ
 replace hA := hide hA
 clear hs ht hS
 obtain ⟨w1, hw1, hb1, kR, kS, kC⟩ := al3 w #[.slice A ss.length n, .slice A' ts.length n'] 25 (s8 s Ac nc Ap np Ad nd As ns Ah nh) 42 #[I c.hut, I c.work, I c.load] 44
 obtain ⟨rR0, rR1⟩ := kR.cells2
 obtain ⟨q0, q1, q2, q3, q4, q5, q6, q7⟩ := kS.cells8
 have zR := kR.lt
 have zS := kS.lt
 clear kS
 by_cases h0 : E = 0
 case neg =>
  obtain rfl := hV1 h0
  have hne : (E != 0) = true := by simpa using h0
  replace h0 := hide h0
  clear hz hA JP JQ HSs hV0 hV1
  replace kR := hide kR
  replace kC := hide kC
  go_enter Tryz.func28, Tryz.ntmps28
  go_upto_region 1 with fail
  rw [← hw1]
  clear hw1
  go_wp2_with (go_at_call 86; refine (JN.out _ _ _ hb1 kR.out kC.out).mono ?_; rintro e v4 ⟨pv, rfl, -, hv1, hs4⟩; obtain rfl := hv1 h0.out)
  go_ret2
  exact ⟨_, rfl, Own.nil_ _ _ _ _ _, bup hb1 hs4⟩
 subst h0
 obtain ⟨hro, hso, hd0, hq, hgz⟩ := hz rfl
 have hsz : sceneE s = 0 := great_scene hgz
 obtain ⟨hp1, hwk, hld⟩ := hired_zero hq
 have hdy : 0 ≤ day ∧ day ≤ 1048576 := day_in hsz hd0
 have hl1 := placeS_lt hp1
 have n16 := hro.n1
 have hPP := hV0 rfl
 clear hV0 hV1 hz hq hgz hd0
 obtain ⟨p1, hpe1⟩ : ∃ p : Nat, placeS ss c.hut = p := ⟨(placeS ss c.hut).toNat, by omega⟩
 rw [hpe1] at hl1 hPP
 simp only [Int.toNat_natCast] at hPP
 have JP1 := hide (fun W hb => hpe1 ▸ JP.out c.hut W hb)
 have JL := hide (fun W => crew_light day W hdy.1 hdy.2)
 have JQ1 := fun h base p hp W hW H => JQ.out hro h base p hp W hW H
 have JK := hide (fun g n w (kc : Blk w g 44 #[I c.hut, I c.work, I c.load]) (h1 : 0 ≤ n) (h2 : n ≤ 4398046511104) => crew_clock g c n 0 w kc ⟨h1, h2⟩ (by omega) hld hwk)
 have hQo := hide (fun p => quick_ok (m := hwF s day) hro p)
 have JO := hide (fun (w : World) => crew_clockOf c w)
 obtain ⟨O, hO⟩ : ∃ O, openF (hwF s day) ts = O := ⟨_, rfl⟩
 rw [hO] at hPP JQ1 hQo
 replace JQ1 := hide JQ1
 replace hO := hide hO
 obtain ⟨L, hL⟩ : ∃ L, quickF ss O p1 = L := ⟨_, rfl⟩
 rw [hL] at hPP
 have hLo : StOk ss.length L := hL ▸ hQo.out p1
 replace hPP := hide hPP
 replace hro := hide hro
 replace hso := hide hso
 replace hpe1 := hide hpe1
 replace hLo := hide hLo
 replace hdy := hide hdy
 replace hwk := hide hwk
 replace hld := hide hld
 replace kR := hide kR
 replace kC := hide kC
 clear hp1 JQ JP
 have eg := eg_clock
 have hfc := field_clock
 go_enter Tryz.func28, Tryz.ntmps28
 go_upto_region 1 with fail
 rw [← hw1]
 clear hw1
 go_wp2_with fail
 go_at_call 86
 refine (JN.out _ _ _ hb1 kR.out kC.out).mono ?_
 clear rR0 rR1 q0 q1 q2 q3 q4 q5 q6 q7 zR zS
 rintro e v4 ⟨pv, rfl, hv0, -, hs4⟩
 obtain ⟨h, rfl, hHi⟩ := hv0 trivial
 have hbv4 := bup hb1 hs4
 obtain ⟨rR0, rR1⟩ := (kR.out.grow hs4).cells2
 obtain ⟨rC0, rC1, rC2⟩ := (kC.out.grow hs4).cells3
 have zR := (kR.out.grow hs4).lt
 have zC := (kC.out.grow hs4).lt
 replace hHi := hide hHi
 replace kR := hide (kR.out.grow hs4)
 replace kC := hide (kC.out.grow hs4)
 clear hv0 JN hb1 hs4
 go_wp2_with fail
 clear rR0 rR1 rC0 rC1 rC2 zR zC
 go_at_call 83
 refine (JP1.out _ hbv4).mono ?_
 rintro e v5 ⟨rfl, hb5⟩
 have hbv5 := bup hbv4 hb5
 go_wp2_with fail
 go_at_call 88
 refine (JQ1.out _ _ p1 (by omega) _ hbv5 (hHi.out.below hb5)).mono ?_
 rintro e v6 ⟨g, rfl, hg6, kL, hb6⟩
 rw [hL] at kL
 have hbv6 := bup hbv5 hb6
 replace hHi := hide ((hHi.out.below hb5).below hb6)
 obtain ⟨rR0, rR1⟩ := ((kR.out.grow hb5).grow hb6).cells2
 have zR := ((kR.out.grow hb5).grow hb6).lt
 replace kR := hide ((kR.out.grow hb5).grow hb6)
 replace kC := hide ((kC.out.grow hb5).grow hb6)
 replace kL := hide kL
 replace hL := hide hL
 clear JP1 hbv4 hbv5 hb5 hb6
 go_wp2_with fail
 clear rR0 rR1 zR
 have sv6 := hbv6.size
 obtain ⟨N, hN⟩ : ∃ N, ss.length = N := ⟨_, rfl⟩
 rw [hN] at hLo n16 HSs hA hPP hQo kR JQ1 hHi ⊢
 go_loopw [13, 40] (fun vo i wr => ∃ k : Nat, k ≤ N ∧ i = I k ∧ Hid (Own wr v6.heap.size 3 1 intC vo (reachT ss O c day L k)) ∧ Hid (Below v6.heap.size v6 wr)) (fun _ i _ => N - (intOf i).toNat)
 case atStart => exact ⟨0, Nat.zero_le _, rfl, hide (Own.nil_ _ _ _ _ _), hide (Below.refl _ _)⟩
 case round =>
  obtain ⟨k, hk, rfl, ho, hb⟩ := hrel
  have sr := hb.out.size
  by_cases hlt : k < N
  ·obtain ⟨sk, hsk, hskg, hk0, hk1⟩ := hLo.out.at_ hlt
   obtain ⟨b, off, rfl, hbw⟩ := hA.out k hlt
   obtain ⟨x, hx⟩ := getElem?_of_lt (xs := ss) (k := k) (by omega)
   have hSl := hide (HSs.out.mono (hbv6.trans (hb.out.mono sv6)))
   have hSl2 := hSl.out
   rw [← hN] at hSl2
   obtain ⟨_, f0, f1, f2⟩ := hSl2.site_at hx
   have hbx : b < wr.heap.size := by omega
   have hk2 : (0 : Int) ≤ (k : Int) := by omega
   have hk3 : (k : Int) < (N : Int) := by omega
   have hsn := hide (reach_snoc (O := O) (c := c) (day := day) (l := L) hx)
   have hcl2 := hide (reach_len ss O c day L k)
   obtain ⟨w5, hw5, hb5, kX⟩ := al1 wr #[I x.no, I x.kind, I x.cell] 80
   have s5 := hb5.size
   have kL5 := hide ((kL.out.grow hb.out).grow hb5)
   have kR5 := hide ((kR.out.grow hb.out).grow hb5)
   have kC5 := hide ((kC.out.grow hb.out).grow hb5)
   have hH5 := hide ((hHi.out.below hb.out).below hb5)
   have ho5 := hide (ho.out.below hb5)
   have hb6 := hide (hb.out.trans (hb5.mono sr))
   have hbw5 := hide (hbv6.trans (hb6.out.mono sv6))
   have hQk := hide (hQo.out k)
   replace kX := hide kX
   replace hskg := hide hskg
   replace hsk := hide hsk
   replace hx := hide hx
   clear hSl2 ho hb hSl
   go_upto_region 9 with fail
   rw [← hw5]
   clear hw5 f0 f1 f2
   go_wp2_with fail
   go_at_call 88
   refine (JQ1.out _ _ k (by omega) _ hbw5.out hH5.out).mono ?_
   rintro e w6 ⟨g2, rfl, hg2, kQ, hb7⟩
   obtain ⟨Q, hQ⟩ : ∃ Q, quickF ss O k = Q := ⟨_, rfl⟩
   rw [hQ] at kQ hQk
   have s7 := hb7.size
   have hbw6 := hide (bup hbw5.out hb7)
   have kQ6 := hide kQ
   have kL6 := hide (kL5.out.grow hb7)
   have kR6 := hide (kR5.out.grow hb7)
   have kC6 := hide (kC5.out.grow hb7)
   have kX6 := hide (kX.out.grow hb7)
   have ho6 := hide (ho5.out.below hb7)
   have hb8 := hide (hb6.out.trans (hb7.mono (by omega)))
   have hRn : reachN ss O L k = sk.minutes + homeF ss Q := by unfold reachN; rw [hskg.out, hQ]
   have hhm := home_in ss hQk.out
   replace hRn := hide hRn
   replace hQ := hide hQ
   clear kQ hb7 kL5 kR5 kC5 kX ho5 hb6 hbw5 hH5
   go_wp2_with fail
   go_loopw [16, 49] (fun u i wr => ∃ j : Nat, j ≤ N ∧ i = I j ∧ u = I (homeF (ss.take j) (Q.take j)) ∧ Hid (Below w6.heap.size w6 wr)) (fun _ i _ => N - (intOf i).toNat)
   case atStart => exact ⟨0, Nat.zero_le _, rfl, rfl, hide (Below.refl _ _)⟩
   case round =>
    obtain ⟨j, hj, rfl, rfl, hbj⟩ := hrel
    have sj := hbj.out.size
    by_cases hjl : j < N
    ·obtain ⟨tj, htj, _, hj0, hj1⟩ := hQk.out.at_ hjl
     obtain ⟨y, hy⟩ := getElem?_of_lt (xs := ss) (k := j) (by omega)
     have hbwr := bup hbw6.out hbj.out
     have hSl := HSs.out.mono hbwr
     rw [← hN] at hSl
     obtain ⟨zS, g0, g1, g2'⟩ := hSl.site_at hy
     have kQr := kQ6.out.grow hbj.out
     obtain ⟨e0, e1, e2⟩ := stArr_get htj
     have c0 := (kQr.cell (j * 3)).trans e0
     have c1 := (kQr.cell (j * 3 + 1)).trans e1
     have c2 := (kQr.cell (j * 3 + 2)).trans e2
     have zQ := kQr.lt
     have hhn := home_snoc hy htj
     obtain ⟨hm0, hm1⟩ := home_in (ss.take j) (hQk.out.take (k := j))
     obtain ⟨H, hH⟩ : ∃ H, homeF (ss.take j) (Q.take j) = H := ⟨_, rfl⟩
     rw [hH] at hhn hm0 hm1 ⊢
     obtain ⟨r0, r1⟩ := (kR6.out.grow hbj.out).cells2
     have zR := (kR6.out.grow hbj.out).lt
     have j0 : (0 : Int) ≤ (j : Int) := by omega
     have j1 : (j : Int) < (N : Int) := by omega
     obtain ⟨w9, hw9, hb9, kT⟩ := al1 wr #[I tj.minutes, I tj.before, I tj.track] 130
     obtain ⟨t0, t1, t2⟩ := kT.cells3
     have zT := kT.lt
     have hS9 := (HSs.out.mono hbwr).mono hb9
     rw [← hN] at hS9
     obtain ⟨zS9, g9, g9', g9''⟩ := hS9.site_at hy
     obtain ⟨r90, r91⟩ := ((kR6.out.grow hbj.out).grow hb9).cells2
     have zR9 := ((kR6.out.grow hbj.out).grow hb9).lt
     replace hH := hide hH
     replace hy := hide hy
     replace htj := hide htj
     clear hSl kQr e0 e1 e2 kT hS9 hbwr
     cases hkd : y.kind == 1 with
     | true =>
      rw [if_pos hkd] at hhn
      replace hhn := hide hhn
      go_upto_region 13 with fail
      rw [← hw9]
      clear hw9 c0 c1 c2 g0 g1 g2' r0 r1
      go_wp2_with fail
      go_roundw
      case rel => exact ⟨j + 1, by omega, by go_num, by rw [hhn.out]; congr 1; split <;> omega, hide (bup hbj.out hb9)⟩
      case measure => simp [intOf]; omega
     | false =>
      rw [if_neg (by rw [hkd]; simp)] at hhn
      replace hhn := hide hhn
      go_upto_region 13 with fail
      rw [← hw9]
      clear hw9 c0 c1 c2 g0 g1 g2' r0 r1
      go_wp2_with fail
      go_roundw
      case rel => exact ⟨j + 1, by omega, by go_num, by rw [hhn.out], hide (bup hbj.out hb9)⟩
      case measure => simp [intOf]; omega
    ·have he : N = j := by omega
     subst he
     rw [List.take_of_length_le (by omega), List.take_of_length_le (by rw [hQk.out.len]; exact Nat.le_refl _)]
     obtain ⟨H, hH⟩ : ∃ H, homeF ss Q = H := ⟨_, rfl⟩
     rw [hH] at hRn hhm ⊢
     obtain ⟨hh0, hh1⟩ := hhm
     have kLr := kL6.out.grow hbj.out
     have c1 : wr.cell? ⟨g, k * 3, none⟩ = some (I sk.minutes) := (kLr.cell _).trans (stArr_get hsk.out).1
     have zg := kLr.lt
     obtain ⟨x0, x1, x2⟩ := (kX6.out.grow hbj.out).cells3
     have zX := (kX6.out.grow hbj.out).lt
     obtain ⟨rC0, rC1, rC2⟩ := (kC6.out.grow hbj.out).cells3
     have zC := (kC6.out.grow hbj.out).lt
     have kXr := hide (kX6.out.grow hbj.out)
     have hor := hide (ho6.out.below hbj.out)
     have hbr := hide (hb8.out.trans (hbj.out.mono (by omega)))
     have sbr := hbr.out.size
     have hG : reachG ss O c day L k = (decide (sk.minutes + H < 1099511627776) && decide (clockF c (sk.minutes + H) 0 ≤ lightF day)) := by unfold reachG; rw [hRn.out]; rfl
     rw [hG] at hsn
     replace hG := hide hG
     replace hH := hide hH
     clear kLr kL6 kX6 kC6 ho6 hb8 hbj hQk hbw6 kQ6 kR6
     by_cases hf : sk.minutes + H < 1099511627776
     ·have hfd : decide (sk.minutes + H < 1099511627776) = true := by simpa using hf
      rw [hfd, Bool.true_and] at hsn
      have hn0 : 0 ≤ sk.minutes + H := by omega
      have JKK := hide (fun g w kc => JK.out g (sk.minutes + H) w kc hn0 (by omega))
      obtain ⟨C, hC⟩ : ∃ C, clockF c (sk.minutes + H) 0 = C := ⟨_, rfl⟩
      rw [hC] at JKK hsn
      replace hC := hide hC
      replace hf := hide hf
      by_cases hcl : C ≤ lightF day
      ·have hcd : decide (C ≤ lightF day) = true := by simpa using hcl
       rw [hcd, if_pos rfl] at hsn
       replace hcl := hide hcl
       replace hsn := hide hsn
       go_wp2_with (first | (go_at_call 93; refine (JO.out _).mono ?_; clear rC0 rC1 rC2 zC x0 x1 x2 zX; rintro e w10 ⟨rfl, kK, hb10⟩; obtain ⟨x0, x1, x2⟩ := (kXr.out.grow hb10).cells3; have zX := (kXr.out.grow hb10).lt; replace kK := hide kK) | (go_at_fn 155; refine (JKK.out _ _ kK.out).mono ?_; rintro e w11 ⟨rfl, rfl⟩) | (go_at_call 76; refine (JL.out _).mono ?_; rintro e w12 ⟨rfl, rfl⟩) | (at_builtin; refine wp_push el_int intC_len intC_one rfl (.tmp 85) (.tmp 88) rfl v6.heap.size rfl ((hor.out.below hb10).alloc _) x.no rfl ?c1 ?c2 ?c3 ?c4 ?_))
       case c1 => exact new_cells rfl _ (intC x.no)
       case c2 => have := hcl2.out; omega
       case c3 => have := hcl2.out; omega
       case c4 => have := hb10.size; simp; omega
       intro v' w13 hown hbel _
       rw [← hsn.out] at hown
       obtain ⟨A1, n1, c1', rfl⟩ := hown.shape
       replace hown := hide hown
       have hbF := hide (((hbr.out.trans (hb10.mono sbr)).alloc (by have := hb10.size; omega) (.cells #[I x.no] 3)).trans hbel)
       clear hbel x0 x1 x2 c1
       go_wp2_with fail
       go_roundw
       case rel => exact ⟨k + 1, by omega, by go_num, hown, hbF⟩
       case measure => simp [intOf]; omega
      ·have hcd : decide (C ≤ lightF day) = false := by simpa using hcl
       rw [hcd, if_neg (by simp), List.append_nil] at hsn
       replace hcl := hide hcl
       replace hsn := hide hsn
       go_wp2_with (first | (go_at_call 93; refine (JO.out _).mono ?_; clear rC0 rC1 rC2 zC x0 x1 x2 zX; rintro e w10 ⟨rfl, kK, hb10⟩; replace kK := hide kK) | (go_at_fn 155; refine (JKK.out _ _ kK.out).mono ?_; rintro e w11 ⟨rfl, rfl⟩) | (go_at_call 76; refine (JL.out _).mono ?_; rintro e w12 ⟨rfl, rfl⟩))
       go_roundw
       case rel => exact ⟨k + 1, by omega, by go_num, hide (by rw [hsn.out]; exact hor.out.below hb10), hide (hbr.out.trans (hb10.mono sbr))⟩
       case measure => simp [intOf]; omega
     ·have hfd : decide (sk.minutes + H < 1099511627776) = false := by simpa using hf
      rw [hfd, Bool.false_and, if_neg (by simp), List.append_nil] at hsn
      replace hf := hide hf
      replace hsn := hide hsn
      go_wp2_with fail
      go_roundw
      case rel => exact ⟨k + 1, by omega, by go_num, hide (by rw [hsn.out]; exact hor.out), hbr⟩
      case measure => simp [intOf]; omega
  ·have he : k = N := by omega
   subst he
   have ho2 := ho.out
   rw [← hPP.out] at ho2
   obtain ⟨A1, n1, c1', rfl⟩ := ho2.shape
   replace ho2 := hide ho2
   go_wp2_with fail
   go_ret2
   exact ⟨_, rfl, ho2.out.mono sv6, bup hbv6 hb.out⟩

theorem viaC {C : Prop} (G : Prop) (g : G) (f : Hid G → C) : C := f (hide g)
theorem walked_zero {ts : List Track} {l : List Int} (h : walkedB ts l = true) : l.length ≤ 64 ∧ ∀ no ∈ l, 0 ≤ placeT ts no := by
 simp only [walkedB, Bool.and_eq_true, decide_eq_true_eq, Bool.not_eq_true', List.any_eq_false] at h
 exact ⟨h.1, fun no hno => by have := h.2 no hno; simpa using this⟩
theorem visits_zero {ss : List Site} {l : List Int} (h : visitsB ss l = true) : l.length ≤ 8 ∧ ∀ i, i < l.length → visitGood ss l i = true := by
 simp only [visitsB, Bool.and_eq_true, decide_eq_true_eq, List.all_eq_true, List.mem_range] at h
 exact h
theorem sum_bd {ss : List Site} {ts : List Track} {l : List Int} (hr : RangeOk ss ts) (h : walkedB ts l = true) : 0 ≤ sumF ts l ∧ sumF ts l ≤ 92160 := by
 have h1 := walked_zero h
 have h2 := sumF_bd hr l 0 h1.2
 unfold sumF
 omega
theorem crew_Minutes (vs vt vl vk : Value) (ss : List Site) (ts : List Track) (c : Crew) (l k : List Int) (w : World) (hs : Sl w 3 Site.cells vs ss) (ht : Sl w 6 Track.cells vt ts) (hl : Sl w 1 intC vl l) (hk : Sl w 1 intC vk k) :
  Calls Tryz.prog 36 #[.agg #[vs, vt], .agg #[I c.hut, I c.work, I c.load], vl, vk] w fun e w' => e = .returned (.tuple #[I (minutesV ss ts c l k), I (minutesE ss ts c l k)]) ∧ Below w.heap.size w w' := by
 obtain ⟨A, n, rfl, _⟩ := hs.open_
 obtain ⟨A', n', rfl, _⟩ := ht.open_
 obtain ⟨Al, nl, rfl, _⟩ := hl.open_
 obtain ⟨Ak, nk, rfl, _⟩ := hk.open_
 have JR := hide (fun w' (hb : Below w.heap.size w w') => crew_CheckRange _ _ ss ts w' (hs.mono hb) (ht.mono hb))
 have JH := hide (fun w' (hb : Below w.heap.size w w') => crew_hired _ (.slice A' ts.length n') ss c w' (hs.mono hb))
 have JW := hide (fun w' (hb : Below w.heap.size w w') => crew_walked (.slice A ss.length n) _ _ ts l w' (ht.mono hb) (hl.mono hb))
 have JV := hide (fun w' (hb : Below w.heap.size w w') => crew_visits _ (.slice A' ts.length n') _ ss k w' (hs.mono hb) (hk.mono hb))
 obtain ⟨w1, hw1, hb1, kR, kC⟩ := al2 w #[.slice A ss.length n, .slice A' ts.length n'] 25 #[I c.hut, I c.work, I c.load] 44
 have kF := hide (fun (W : World) (hW : Below w1.heap.size w1 W) => (show (W.cell? ⟨w.heap.size, 0, none⟩ = some (.slice A ss.length n) ∧ W.cell? ⟨w.heap.size, 1, none⟩ = some (.slice A' ts.length n')) ∧ W.cell? ⟨w.heap.size + 1, 0, none⟩ = some (I c.hut) ∧ W.cell? ⟨w.heap.size + 1, 1, none⟩ = some (I c.work) ∧ W.cell? ⟨w.heap.size + 1, 2, none⟩ = some (I c.load) from ⟨(kR.grow hW).cells2, (kC.grow hW).cells3⟩))
 have zF := hide (fun (W : World) (hW : Below w1.heap.size w1 W) => (show w.heap.size < W.heap.size ∧ w.heap.size + 1 < W.heap.size from ⟨(kR.grow hW).lt, (kC.grow hW).lt⟩))
 clear kR kC
 obtain ⟨⟨r0, r1⟩, q0, q1, q2⟩ := kF.out w1 (Below.refl _ _)
 obtain ⟨z0, z1⟩ := zF.out w1 (Below.refl _ _)
 by_cases hE1 : rangeE ss ts = 0
 case neg =>
  have hE : minutesE ss ts c l k = rangeE ss ts := by simp [minutesE, hE1]
  have hM : minutesV ss ts c l k = 0 := by simp [minutesV, hE, hE1]
  rw [hE, hM]
  obtain ⟨E, hEE⟩ : ∃ E, rangeE ss ts = E := ⟨_, rfl⟩
  rw [hEE] at hE1 JR ⊢
  have hne : (E != 0) = true := by simpa using hE1
  replace hE1 := hide hE1
  clear hE hM hEE
  go_enter Tryz.func36, Tryz.ntmps36
  go_upto_region 1 with fail
  rw [← hw1]
  clear hw1
  go_wp2_with (go_at_call 23; refine (JR.out _ hb1).mono ?_; rintro e w2 ⟨rfl, hb2⟩)
  go_ret2
  exact ⟨rfl, bup hb1 hb2⟩
 have hro := RangeOk.of hE1
 rw [hE1] at JR
 obtain ⟨q, hq⟩ : ∃ q, hiredB ss c = q := ⟨_, rfl⟩
 obtain ⟨u, hu⟩ : ∃ q, walkedB ts l = q := ⟨_, rfl⟩
 obtain ⟨v, hv⟩ : ∃ q, visitsB ss k = q := ⟨_, rfl⟩
 rw [hq] at JH
 rw [hu] at JW
 rw [hv] at JV
 have hEE : minutesE ss ts c l k = if q && u && v then 0 else 1 := by simp [minutesE, hE1, hq, hu, hv]
 cases hall : (q && u && v) with
 | false =>
  have hE : minutesE ss ts c l k = 1 := by rw [hEE, hall]; rfl
  have hM : minutesV ss ts c l k = 0 := by simp [minutesV, hE]
  rw [hE, hM]
  clear hEE hE hM hq hu hv hE1
  replace hro := hide hro
  rcases q with _ | _
  ·clear hall
   go_enter Tryz.func36, Tryz.ntmps36
   go_upto_region 1 with fail
   rw [← hw1]
   clear hw1
   go_wp2_with (first | (go_at_call 23; refine (JR.out _ hb1).mono ?_; clear r0 r1 q0 q1 q2 z0 z1; rintro e w2 ⟨rfl, hb2⟩; obtain ⟨⟨r0, r1⟩, q0, q1, q2⟩ := kF.out _ hb2; obtain ⟨z0, z1⟩ := zF.out _ hb2) | (go_at_call 92; refine (JH.out _ (bup hb1 hb2)).mono ?_; rintro e w3 ⟨rfl, hb3⟩))
   go_ret2
   exact ⟨rfl, bup (bup hb1 hb2) hb3⟩
  ·rcases u with _ | _
   ·clear hall
    go_enter Tryz.func36, Tryz.ntmps36
    go_upto_region 1 with fail
    rw [← hw1]
    clear hw1
    go_wp2_with (first | (go_at_call 23; refine (JR.out _ hb1).mono ?_; clear r0 r1 q0 q1 q2 z0 z1; rintro e w2 ⟨rfl, hb2⟩; obtain ⟨⟨r0, r1⟩, q0, q1, q2⟩ := kF.out _ hb2; obtain ⟨z0, z1⟩ := zF.out _ hb2) | (go_at_call 92; refine (JH.out _ (bup hb1 hb2)).mono ?_; clear r0 r1 q0 q1 q2 z0 z1; rintro e w3 ⟨rfl, hb3⟩; obtain ⟨⟨r0, r1⟩, q0, q1, q2⟩ := kF.out _ (bup hb2 hb3); obtain ⟨z0, z1⟩ := zF.out _ (bup hb2 hb3)) | (go_at_call 102; refine (JW.out _ (bup (bup hb1 hb2) hb3)).mono ?_; rintro e w4 ⟨rfl, hb4⟩))
    go_ret2
    exact ⟨rfl, bup (bup (bup hb1 hb2) hb3) hb4⟩
   ·obtain rfl : v = false := by simpa using hall
    clear hall
    go_enter Tryz.func36, Tryz.ntmps36
    go_upto_region 1 with fail
    rw [← hw1]
    clear hw1
    go_wp2_with (first | (go_at_call 23; refine (JR.out _ hb1).mono ?_; clear r0 r1 q0 q1 q2 z0 z1; rintro e w2 ⟨rfl, hb2⟩; obtain ⟨⟨r0, r1⟩, q0, q1, q2⟩ := kF.out _ hb2; obtain ⟨z0, z1⟩ := zF.out _ hb2) | (go_at_call 92; refine (JH.out _ (bup hb1 hb2)).mono ?_; clear r0 r1 q0 q1 q2 z0 z1; rintro e w3 ⟨rfl, hb3⟩; obtain ⟨⟨r0, r1⟩, q0, q1, q2⟩ := kF.out _ (bup hb2 hb3); obtain ⟨z0, z1⟩ := zF.out _ (bup hb2 hb3)) | (go_at_call 102; refine (JW.out _ (bup (bup hb1 hb2) hb3)).mono ?_; clear r0 r1 q0 q1 q2 z0 z1; rintro e w4 ⟨rfl, hb4⟩; obtain ⟨⟨r0, r1⟩, q0, q1, q2⟩ := kF.out _ (bup (bup hb2 hb3) hb4); obtain ⟨z0, z1⟩ := zF.out _ (bup (bup hb2 hb3) hb4)) | (go_at_call 103; refine (JV.out _ (bup (bup (bup hb1 hb2) hb3) hb4)).mono ?_; rintro e w5 ⟨rfl, hb5⟩))
    go_ret2
    exact ⟨rfl, bup (bup (bup (bup hb1 hb2) hb3) hb4) hb5⟩
 | true =>
  obtain ⟨⟨rfl, rfl⟩, rfl⟩ : (q = true ∧ u = true) ∧ v = true := by simpa using hall
  have hE : minutesE ss ts c l k = 0 := by rw [hEE]; rfl
  have hM : minutesV ss ts c l k = clockF c (sumF ts l) k.length := by simp [minutesV, hE]
  rw [hE, hM]
  obtain ⟨_, hwk, hld⟩ := hired_zero hq
  have hw64 := walked_zero hu
  have hv8 := visits_zero hv
  have hsb := sum_bd hro hu
  have JS := hide (fun w' (hb : Below w.heap.size w w') => crew_sum (.slice A ss.length n) _ _ ss ts l w' (ht.mono hb) (hl.mono hb) hro hw64.1 hw64.2)
  have JK := hide (fun g w (kc : Blk w g 44 #[I c.hut, I c.work, I c.load]) => crew_clock g c (sumF ts l) k.length w kc ⟨hsb.1, by omega⟩ (by have := hv8.1; omega) hld hwk)
  have JO := hide (fun (w : World) => crew_clockOf c w)
  obtain ⟨C, hC⟩ : ∃ C, clockF c (sumF ts l) k.length = C := ⟨_, rfl⟩
  obtain ⟨SU, hSU⟩ : ∃ C, sumF ts l = C := ⟨_, rfl⟩
  rw [hC] at JK ⊢
  rw [hSU] at JK JS
  clear hEE hE hM hq hu hv hE1 hall hC hSU hsb hwk hld hw64 hv8
  replace hro := hide hro
  have eg := eg_clock
  have hfc := field_clock
  go_enter Tryz.func36, Tryz.ntmps36
  go_upto_region 1 with fail
  rw [← hw1]
  clear hw1
  go_upto_region 6 with (first | (go_at_call 23; refine (JR.out _ hb1).mono ?_; clear r0 r1 q0 q1 q2 z0 z1; rintro e w2 ⟨rfl, hb2⟩; obtain ⟨⟨r0, r1⟩, q0, q1, q2⟩ := kF.out _ hb2; obtain ⟨z0, z1⟩ := zF.out _ hb2) | (go_at_call 92; refine (JH.out _ (bup hb1 hb2)).mono ?_; clear r0 r1 q0 q1 q2 z0 z1; rintro e w3 ⟨rfl, hb3⟩; obtain ⟨⟨r0, r1⟩, q0, q1, q2⟩ := kF.out _ (bup hb2 hb3); obtain ⟨z0, z1⟩ := zF.out _ (bup hb2 hb3)) | (go_at_call 102; refine (JW.out _ (bup (bup hb1 hb2) hb3)).mono ?_; clear r0 r1 q0 q1 q2 z0 z1; rintro e w4 ⟨rfl, hb4⟩; obtain ⟨⟨r0, r1⟩, q0, q1, q2⟩ := kF.out _ (bup (bup hb2 hb3) hb4); obtain ⟨z0, z1⟩ := zF.out _ (bup (bup hb2 hb3) hb4)) | (go_at_call 103; refine (JV.out _ (bup (bup (bup hb1 hb2) hb3) hb4)).mono ?_; rintro e w5 ⟨rfl, hb5⟩))
  obtain ⟨w9, hw9⟩ : ∃ w9, w5 = w9 := ⟨_, rfl⟩
  subst hw9
  have hbx := hide (bup (bup (bup (bup hb1 hb2) hb3) hb4) hb5)
  have HSw := hide (fun (W : World) (hW : Below w5.heap.size w5 W) => kF.out W (bup (bup (bup (bup hb2 hb3) hb4) hb5) hW))
  clear r0 r1 q0 q1 q2
  obtain ⟨z0, z1⟩ := zF.out _ (bup (bup (bup hb2 hb3) hb4) hb5)
  have wB : Below w5.heap.size w5 w5.drew := (Below.refl _ _).drew
  clear hb1 hb2 hb3 hb4 hb5
  refine wp_zgo HSw 10 fun hHeld => ?_
  (refine zg_tk 0 ?_; refine zg_tk 3 ?_; refine zg_tk 4 ?_; refine zg_tk 6 ?_; refine zg_tk 7 ?_; (try go_frame))
  refine zg_ready (i := 1) (by decide) rfl (by kernel_rfl) (fun K_ hK_ => ?_)
  go_simp
  refine (JO.out w5.drew).mono ?_
  rintro e v1 ⟨rfl, kK, hsv1⟩
  have Bv1 := bup wB hsv1
  refine hK_.out _ _ (HSw.out _ Bv1) (fun hHeld => ?_)
  clear hK_ K_
  (try go_frame)
  (refine zg_tk 2 ?_; (try go_frame))
  refine zg_ready (i := 5) (by decide) rfl (by kernel_rfl) (fun K_ hK_ => ?_)
  go_simp
  refine (JS.out v1 (bup hbx.out Bv1)).mono ?_
  rintro e v2 ⟨rfl, hsv2⟩
  replace kK := kK.grow hsv2
  have Bv2 := bup Bv1 hsv2
  refine hK_.out _ _ (HSw.out _ Bv2) (fun hHeld => ?_)
  clear hK_ K_
  (try go_frame)
  refine zg_ready (i := 8) (by decide) rfl (by kernel_rfl) (fun K_ hK_ => ?_)
  go_simp
  refine (JK.out _ v2 kK).mono ?_
  rintro e v3 ⟨rfl, rfl⟩
  refine hK_.out _ _ (HSw.out _ Bv2) (fun hHeld => ?_)
  clear hK_ K_
  (try go_frame)
  (refine zg_tk 9 ?_; (try go_frame))
  (refine zg_ls 10 fun K_ hK_ => ?_; go_simp; skip; refine hK_.out _ _ ?_; clear hK_ K_; (try go_frame))
  go_wp2_with fail
  go_ret2
  exact ⟨rfl, bup hbx.out Bv2⟩

def stepTo (t : Track) (a : Int) : Option Int := if a = t.a then some t.b else if a = t.b then some t.a else none
def walkS (ts : List Track) (st : Option (Int × List Int)) (no : Int) : Option (Int × List Int) := st.bind fun p => (stepTo (trackAt ts no) p.1).map fun b => (b, p.2 ++ [b])
def walkF (ts : List Track) (hut : Int) (l : List Int) : Option (Int × List Int) := l.foldl (walkS ts) (some (hut, [hut]))
def followB (ss : List Site) (ts : List Track) (hut : Int) (l cs : List Int) : Bool :=
 match walkF ts hut l with
 | none => false
 | some p => cs.all (fun no => p.2.any fun x => x == no) && (siteAt ss p.1).kind == 1
theorem walk_none (ts : List Track) : ∀ (l : List Int), l.foldl (walkS ts) none = none
 | [] => rfl
 | _ :: l => walk_none ts l
theorem walk_snoc {ts : List Track} {hut : Int} {l : List Int} {k : Nat} {no : Int} (h : l[k]? = some no) : walkF ts hut (l.take (k + 1)) = walkS ts (walkF ts hut (l.take k)) no := by
 unfold walkF
 rw [List.take_succ_eq_append_getElem (List.getElem?_eq_some_iff.1 h).1, List.foldl_append, (List.getElem?_eq_some_iff.1 h).2]
 rfl
theorem walk_stop {ts : List Track} {hut : Int} {l : List Int} {k : Nat} (h : walkF ts hut (l.take k) = none) : walkF ts hut l = none := by
 have h2 : walkF ts hut l = (l.drop k).foldl (walkS ts) (walkF ts hut (l.take k)) := by
  unfold walkF
  rw [← List.foldl_append, List.take_append_drop]
 rw [h2, h]
 exact walk_none ts _
theorem walk_site {ss : List Site} {ts : List Track} (hr : RangeOk ss ts) {hut : Int} (hh : 0 ≤ placeS ss hut) : ∀ (l : List Int) (p : Int × List Int), (∀ no ∈ l, 0 ≤ placeT ts no) → walkF ts hut l = some p → 0 ≤ placeS ss p.1 := by
 suffices G : ∀ (l : List Int) (q p : Int × List Int), (∀ no ∈ l, 0 ≤ placeT ts no) → 0 ≤ placeS ss q.1 → l.foldl (walkS ts) (some q) = some p → 0 ≤ placeS ss p.1 from fun l p h1 h2 => G l _ p h1 hh h2
 intro l
 induction l with
 | nil => intro q p _ hq h; cases h; exact hq
 | cons no l ih =>
  intro q p h1 hq h
  rw [List.foldl_cons] at h
  obtain ⟨x, hx, hxa, -⟩ := trackAt_of (h1 no (List.mem_cons_self ..))
  have ht := hr.tr (List.mem_of_getElem? hx)
  have hs : walkS ts (some q) no = (stepTo x q.1).map fun b => (b, q.2 ++ [b]) := by simp [walkS, hxa]
  rw [hs] at h
  unfold stepTo at h
  split at h
  ·exact ih _ p (fun y hy => h1 y (List.mem_cons_of_mem _ hy)) ht.b h
  ·split at h
   ·exact ih _ p (fun y hy => h1 y (List.mem_cons_of_mem _ hy)) ht.a h
   ·rw [Option.map_none, walk_none] at h
    cases h
def comeM (L : List (Int × Value)) (C : List Int) : Prop := ∀ no, getI L no = if C.any (fun x => x == no) then some (.bool true) else none
theorem comeM.put {L : List (Int × Value)} {C : List Int} (h : comeM L C) (b : Int) : comeM (setI L b (.bool true)) (C ++ [b]) := fun no => by
 rw [getI_setI, h no]
 by_cases e : no = b
 ·simp [e]
 ·have : (b == no) = false := by simp; omega
  simp [e, this]
theorem MapI.put2 {P : Program} {w : World} {b t k e : Nat} {L : List (Int × Value)} (h : MapI w b L) (ht : P.underlying t = some (.map k e)) (hk : P.underlying k = some (.int .i64)) (x : Int) (v : Value) :
  ∃ W, (Instr.mapUpdate t (.map (some b)) (I x) v).run P w = .ok () W ∧ MapI W b (setI L x v) ∧ (∀ (B : Nat) (u : World), Below B u w → B ≤ b → Below B u W) ∧ ∀ (g t : Nat) (cs : Array Value), b ≠ g → Blk w g t cs → Blk W g t cs := by
 obtain ⟨o, h1, h2⟩ := h.put ht hk x v
 refine ⟨_, h1, h2, fun B u hu hB => Below.mapped hu hB o, fun g t cs hg hb => ?_⟩
 unfold Blk at hb ⊢
 rw [← hb]
 exact Array.getElem?_setIfInBounds_ne hg
theorem cells6 {w : World} {g : Nat} {t : TypeId} {a0 a1 a2 a3 a4 a5 : Value} (h : Blk w g t #[a0, a1, a2, a3, a4, a5]) :
  w.cell? ⟨g, 0, none⟩ = some a0 ∧ w.cell? ⟨g, 1, none⟩ = some a1 ∧ w.cell? ⟨g, 2, none⟩ = some a2 ∧ w.cell? ⟨g, 3, none⟩ = some a3 ∧ w.cell? ⟨g, 4, none⟩ = some a4 ∧ w.cell? ⟨g, 5, none⟩ = some a5 := ⟨h.cell 0, h.cell 1, h.cell 2, h.cell 3, h.cell 4, h.cell 5⟩
@[go_sem] theorem eqOne (a b : Int) (w : World) : (Op.equalIn 10000 207 (.agg #[.int .i64 a]) (.agg #[.int .i64 b])).run Tryz.prog w = .ok (a == b) w := by
 have u3 := Tryz.underlying3
 have a3 := Tryz.isAgg3
 have z3 := Tryz.sizeOf3
 rw [show (10000 : Nat) = 9999 + 1 from rfl, Op.equalIn]
 simp only [Sem.run_bind, run_underlying Tryz.underlying207, Result.andThen_ok]
 simp only [Std.Legacy.Range.forIn_eq_forIn_range', Std.Legacy.Range.size, Nat.sub_zero, Nat.add_sub_cancel, Nat.div_one, List.range'_succ, List.range'_zero, List.forIn_cons, List.forIn_nil]
 go_simp
 by_cases h1 : a = b <;> simp [h1]
theorem set6 {w : World} {g : Nat} {t : TypeId} {a0 a1 a2 a3 a4 a5 b0 b1 b2 b3 b4 b5 : Value} (h : Blk w g t #[a0, a1, a2, a3, a4, a5]) :
  Blk ((((((w.setCell ⟨g, 0, none⟩ b0).setCell ⟨g, 1, none⟩ b1).setCell ⟨g, 2, none⟩ b2).setCell ⟨g, 3, none⟩ b3).setCell ⟨g, 4, none⟩ b4).setCell ⟨g, 5, none⟩ b5) g t #[b0, b1, b2, b3, b4, b5] := by
 have := (((((h.set_ 0 b0).set_ 1 b1).set_ 2 b2).set_ 3 b3).set_ 4 b4).set_ 5 b5
 simpa using this
theorem below6s {w W : World} {B g : Nat} (h : Below B w W) (hg : B ≤ g) (b0 b1 b2 b3 b4 b5 : Value) : Below B w ((((((W.setCell ⟨g, 0, none⟩ b0).setCell ⟨g, 1, none⟩ b1).setCell ⟨g, 2, none⟩ b2).setCell ⟨g, 3, none⟩ b3).setCell ⟨g, 4, none⟩ b4).setCell ⟨g, 5, none⟩ b5) :=
 bset (bset (bset (bset (bset (bset h g 0 hg b0) g 1 hg b1) g 2 hg b2) g 3 hg b3) g 4 hg b4) g 5 hg b5
theorem crew_follow (vs vt vl vk : Value) (ss : List Site) (ts : List Track) (hut : Int) (l cs : List Int) (w : World) (hs : Sl w 3 Site.cells vs ss) (ht : Sl w 6 Track.cells vt ts) (hl : Sl w 1 intC vl l) (hk : Sl w 1 intC vk cs) (hr : RangeOk ss ts) (hh : 0 ≤ placeS ss hut) (hp : ∀ no ∈ l, 0 ≤ placeT ts no) :
  Calls Tryz.prog 108 #[.agg #[vs, vt], I hut, vl, vk] w fun e w' => e = .returned (.bool (followB ss ts hut l cs)) ∧ Below w.heap.size w w' := by
 obtain ⟨A, n, rfl, _, _, _, hAs⟩ := hs.open_
 obtain ⟨A', n', rfl, _, _, _, hAt⟩ := ht.open_
 obtain ⟨D, nl, rfl, _, _, hlenl, hD⟩ := hl.open_
 obtain ⟨D', nk, rfl, _, _, hlenk, hD'⟩ := hk.open_
 have JT := hide (fun no w' (hb : Below w.heap.size w w') => crew_track (.slice A ss.length n) (.slice A' ts.length n') ts no w' (ht.mono hb))
 have JS := hide (fun no w' (hb : Below w.heap.size w w') => crew_site (.slice A ss.length n) (.slice A' ts.length n') ss no w' (hs.mono hb))
 have HT := hide (fun (i : Nat) (x : Track) (hx : ts[i]? = some x) (b off : Nat) (hAb : A' = some ⟨b, off, none⟩) w' (hb : Below w.heap.size w w') => (show Sl w' 6 Track.cells (.slice (some ⟨b, off, none⟩) ts.length n') ts from hAb ▸ ht.mono hb).track_at hx)
 have HS := hide (fun (i : Nat) (x : Site) (hx : ss[i]? = some x) (b off : Nat) (hAb : A = some ⟨b, off, none⟩) w' (hb : Below w.heap.size w w') => (show Sl w' 3 Site.cells (.slice (some ⟨b, off, none⟩) ss.length n) ss from hAb ▸ hs.mono hb).site_at hx)
 have hwst := hide (fun k p (h : walkF ts hut (l.take k) = some p) => walk_site hr hh (l.take k) p (fun no hno => hp no (List.mem_of_mem_take hno)) h)
 have hnone := hide (fun k (h : walkF ts hut (l.take k) = none) => (show followB ss ts hut l cs = false by simp [followB, walk_stop h]))
 have hsome := hide (fun p (h : walkF ts hut l = some p) => (show followB ss ts hut l cs = (cs.all (fun no => p.2.any fun x => x == no) && (siteAt ss p.1).kind == 1) by simp [followB, h]))
 obtain ⟨FB, hFB⟩ : ∃ b, followB ss ts hut l cs = b := ⟨_, rfl⟩
 rw [hFB] at hnone hsome ⊢
 clear hFB
 obtain ⟨w1, hw1, hb1, kR⟩ := al1 w #[.slice A ss.length n, .slice A' ts.length n'] 25
 replace hl := hide hl
 replace hk := hide hk
 replace hAs := hide hAs
 replace hAt := hide hAt
 replace hD := hide hD
 replace hD' := hide hD'
 replace kR := hide kR
 replace hr := hide hr
 replace hp := hide hp
 clear hs ht hh
 have hmm := @run_makeMap Tryz.prog
 go_enter Tryz.func108, Tryz.ntmps108
 go_upto_region 2 with fail
 rw [← hw1]
 clear hw1
 obtain ⟨W2, hput1, hM1, hBM, -⟩ := (MapI.new w1).put2 (P := Tryz.prog) (t := 206) Tryz.underlying206 Tryz.underlying3 hut (.bool true)
 go_wp2_with fail
 have hM0 : w.heap.size ≤ w1.heap.size := hb1.size
 obtain ⟨gM, hgM⟩ : ∃ g, w1.heap.size = g := ⟨_, rfl⟩
 have hB2 := hBM _ _ (below1 w1 (.map #[] 0)) (Nat.le_refl _)
 clear hput1 hBM
 rw [hgM] at hM1 ⊢
 replace hgM := hide hgM
 have hc0 : comeM (setI [] hut (.bool true)) [hut] := by
  have := comeM.put (L := []) (C := []) (fun no => rfl) hut
  simpa using this
 go_loopw [9, 22] (fun a i wr => ∃ (k : Nat) (x : Int) (C : List Int) (L : List (Int × Value)), k ≤ l.length ∧ i = I k ∧ a = I x ∧ Hid (walkF ts hut (l.take k) = some (x, C)) ∧ Hid (MapI wr gM L) ∧ Hid (comeM L C) ∧ Hid (Below w1.heap.size w1 wr)) (fun _ i _ => l.length - (intOf i).toNat)
 case atStart => exact ⟨0, hut, [hut], _, Nat.zero_le _, rfl, rfl, hide rfl, hide hM1, hide hc0, hide hB2⟩
 clear hM1 hB2 hc0
 case round =>
  obtain ⟨k, x, C, L, hk', rfl, rfl, hwk, hM, hC, hb⟩ := hrel
  have hbw := bup hb1 hb.out
  have kR2 := kR.out.grow hb.out
  obtain ⟨r0, r1⟩ := kR2.cells2
  have zR := kR2.lt
  by_cases hlt : k < l.length
  ·obtain ⟨b2, off2, rfl, _⟩ := hD.out k hlt
   obtain ⟨no, hno⟩ := getElem?_of_lt hlt
   obtain ⟨zl, y0⟩ := ((unhide hl).mono hbw).int_at hno
   have hpn := hp.out no (List.mem_of_getElem? hno)
   obtain ⟨t, hx, hxa, -⟩ := trackAt_of hpn
   have hlt2 := placeT_lt hpn
   have hsn := walk_snoc (ts := ts) (hut := hut) hno
   rw [hwk.out] at hsn
   have hstep : walkS ts (some (x, C)) no = (stepTo t x).map fun b => (b, C ++ [b]) := by simp [walkS, hxa]
   rw [hstep] at hsn
   have JX := JT.out no
   obtain ⟨p, hpp⟩ : ∃ p : Nat, placeT ts no = p := ⟨(placeT ts no).toNat, by omega⟩
   rw [hpp] at JX hx hlt2
   simp only [Int.toNat_natCast] at hx
   obtain ⟨b, off, hAb, hbb⟩ := hAt.out p (by omega)
   have HX := hide (HT.out p t hx b off hAb)
   subst hAb
   have hp0 : (0 : Int) ≤ (p : Int) := by omega
   have sr := hb.out.size
   have HSw := hide (fun (W : World) (hW : Below wr.heap.size wr W) => (show (W.cell? ⟨w.heap.size, 0, none⟩ = some (.slice A ss.length n) ∧ W.cell? ⟨w.heap.size, 1, none⟩ = some (.slice (some ⟨b, off, none⟩) ts.length n')) ∧ W.cell? ⟨b, off + p * 6, none⟩ = some (I t.no) ∧ W.cell? ⟨b, off + p * 6 + 1, none⟩ = some (I t.a) ∧ W.cell? ⟨b, off + p * 6 + 2, none⟩ = some (I t.b) ∧ W.cell? ⟨b, off + p * 6 + 3, none⟩ = some (I t.minutes) ∧ W.cell? ⟨b, off + p * 6 + 4, none⟩ = some (I t.cell) ∧ W.cell? ⟨b, off + p * 6 + 5, none⟩ = some (I t.steep) from ⟨(kR2.grow hW).cells2, (HX.out W (bup hbw hW)).2⟩))
   have zb := (HX.out wr hbw).1
   replace JX := hide JX
   replace hpp := hide hpp
   replace hx := hide hx
   replace hxa := hide hxa
   replace hno := hide hno
   replace hpn := hide hpn
   replace kR2 := hide kR2
   replace hsn := hide hsn
   clear hAt hAs HX HS hD hD' hstep r0 r1
   go_upto_region 6 with fail
   clear y0 zl
   have wB : Below wr.heap.size wr wr.drew := (Below.refl _ _).drew
   obtain ⟨nq, hnq⟩ : ∃ n, wr.heap.size = n := ⟨_, rfl⟩
   replace hnq := hide hnq
   refine wp_zgo HSw 8 fun hHeld => ?_
   (refine zg_tk 0 ?_; refine zg_tk 1 ?_; refine zg_tk 2 ?_; refine zg_tk 3 ?_; (try go_frame))
   apply viaC
   case f =>
    intro key
    refine zg_two (i := 4) (j := 7) (by decide) (by decide) rfl rfl (by kernel_rfl) (fun K_ hK_ => ?_) (fun K_ hK_ => ?_)
    ·go_simp
     refine (JX.out wr.drew (bup hbw wB)).mono ?_
     rintro e v1 ⟨rfl, hsv1⟩
     have Bv1 := bup wB hsv1
     refine hK_.out _ _ (HSw.out _ Bv1) (fun hHeld => ?_)
     clear hK_ K_
     (try go_frame)
     (refine zg_tk 5 ?_; refine zg_tk 6 ?_; (try go_frame))
     refine zg_ready (i := 7) (by decide) rfl (by kernel_rfl) (fun K_ hK_ => ?_)
     go_simp
     obtain ⟨v2, hv2, hsv2, kT⟩ := alv v1 #[I 0, I 0, I 0, I 0, I 0, I 0] 74
     have zT : nq ≤ v1.heap.size := by rw [← hnq.out]; exact (Bv1 : Below wr.heap.size wr v1).size
     rw [← hv2]
     clear hv2
     have Bv2 := bup Bv1 hsv2
     refine hK_.out _ _ (HSw.out _ Bv2) (fun hHeld => ?_)
     clear hK_ K_
     (try go_frame)
     obtain ⟨x0, x1, x2, x3, x4, x5⟩ := cells6 kT
     have zk := kT.lt
     have f0 := kT.frozen 0
     have f1 := kT.frozen 1
     have f2 := kT.frozen 2
     have f3 := kT.frozen 3
     have f4 := kT.frozen 4
     have f5 := kT.frozen 5
     (refine zg_ls 8 fun K_ hK_ => ?_; go_simp; skip; refine hK_.out _ _ ?_; clear hK_ K_; (try go_frame))
     have hk := set6 (b0 := I t.no) (b1 := I t.a) (b2 := I t.b) (b3 := I t.minutes) (b4 := I t.cell) (b5 := I t.steep) kT
     have hB := below6s Bv2 (Nat.le_trans (Nat.le_of_eq hnq.out) zT) (I t.no) (I t.a) (I t.b) (I t.minutes) (I t.cell) (I t.steep)
     clear kT x0 x1 x2 x3 x4 x5 zk f0 f1 f2 f3 f4 f5 hHeld
     generalize hWz : World.setCell _ _ _ = Wz at hk hB ⊢
     clear hWz
     generalize (v1.heap.size : Nat) = gT at hk zT ⊢
     revert hk
     revert hB
     revert zT
     revert gT
     revert Wz
     exact key.out
    ·go_simp
     obtain ⟨v3, hv3, hsv3, kT⟩ := alvd wr #[I 0, I 0, I 0, I 0, I 0, I 0] 74
     have zT : nq ≤ wr.heap.size := by rw [← hnq.out]; exact (wB : Below wr.heap.size wr wr.drew).size
     rw [← hv3]
     clear hv3
     have Bv3 := bup wB hsv3
     refine hK_.out _ _ (HSw.out _ Bv3) (fun hHeld => ?_)
     clear hK_ K_
     (try go_frame)
     refine zg_ready (i := 4) (by decide) rfl (by kernel_rfl) (fun K_ hK_ => ?_)
     go_simp
     refine (JX.out v3 (bup hbw Bv3)).mono ?_
     rintro e v4 ⟨rfl, hsv4⟩
     replace kT := kT.grow hsv4
     have Bv4 := bup Bv3 hsv4
     refine hK_.out _ _ (HSw.out _ Bv4) (fun hHeld => ?_)
     clear hK_ K_
     (try go_frame)
     (refine zg_tk 5 ?_; refine zg_tk 6 ?_; (try go_frame))
     obtain ⟨x0, x1, x2, x3, x4, x5⟩ := cells6 kT
     have zk := kT.lt
     have f0 := kT.frozen 0
     have f1 := kT.frozen 1
     have f2 := kT.frozen 2
     have f3 := kT.frozen 3
     have f4 := kT.frozen 4
     have f5 := kT.frozen 5
     (refine zg_ls 8 fun K_ hK_ => ?_; go_simp; skip; refine hK_.out _ _ ?_; clear hK_ K_; (try go_frame))
     have hk := set6 (b0 := I t.no) (b1 := I t.a) (b2 := I t.b) (b3 := I t.minutes) (b4 := I t.cell) (b5 := I t.steep) kT
     have hB := below6s Bv4 (Nat.le_trans (Nat.le_of_eq hnq.out) zT) (I t.no) (I t.a) (I t.b) (I t.minutes) (I t.cell) (I t.steep)
     clear kT x0 x1 x2 x3 x4 x5 zk f0 f1 f2 f3 f4 f5 hHeld
     generalize hWz : World.setCell _ _ _ = Wz at hk hB ⊢
     clear hWz
     generalize (wr.heap.size : Nat) = gT at hk zT ⊢
     revert hk
     revert hB
     revert zT
     revert gT
     revert Wz
     exact key.out
   case g =>
    intro Wz gT zT hB kT
    have hb3 := hide (hb.out.trans (hB.mono sr))
    have hbw3 := hide (bup hbw hB)
    have hM3 := hide (hM.out.below hB hM.out.lt)
    have kR3 := hide (kR2.out.grow hB)
    have hgTM : gM ≠ gT := by have := hM.out.lt; have := hnq.out; omega
    obtain ⟨x0, x1, x2, x3, x4, x5⟩ := cells6 kT
    have zT2 := kT.lt
    replace kT := hide kT
    clear hB hM kR2 HSw hb hHeld wB
    rcases Decidable.em (x = t.a) with ea | ea
    ·have e1 : (x == t.a) = true := by simpa using ea
     have hst : stepTo t x = some t.b := by rw [stepTo, if_pos ea]
     have hsn2 : walkF ts hut (l.take (k + 1)) = some (t.b, C ++ [t.b]) := by rw [hsn.out, hst]; rfl
     obtain ⟨W4, hput, hM4, hB4, hK4⟩ := hM3.out.put2 (P := Tryz.prog) (t := 206) Tryz.underlying206 Tryz.underlying3 t.b (.bool true)
     have hb4 := hide (hB4 _ _ hb3.out (by have := hgM.out; omega))
     replace hM4 := hide hM4
     replace ea := hide ea
     replace hst := hide hst
     replace hsn2 := hide hsn2
     clear hB4 hK4 hM3
     go_wp2_with fail
     go_roundw
     case rel => exact ⟨k + 1, t.b, _, _, by omega, by go_num, rfl, hsn2, hM4, hide (hC.out.put t.b), hb4⟩
     case measure => simp [intOf]; omega
    ·have e1 : (x == t.a) = false := by simpa using ea
     rcases Decidable.em (x = t.b) with eb | eb
     ·have e2 : (x == t.b) = true := by simpa using eb
      have hst : stepTo t x = some t.a := by rw [stepTo, if_neg ea, if_pos eb]
      have hsn2 : walkF ts hut (l.take (k + 1)) = some (t.a, C ++ [t.a]) := by rw [hsn.out, hst]; rfl
      obtain ⟨W4, hput, hM4, hB4, hK4⟩ := hM3.out.put2 (P := Tryz.prog) (t := 206) Tryz.underlying206 Tryz.underlying3 t.a (.bool true)
      have hb4 := hide (hB4 _ _ hb3.out (by have := hgM.out; omega))
      replace hM4 := hide hM4
      replace ea := hide ea
      replace eb := hide eb
      replace hst := hide hst
      replace hsn2 := hide hsn2
      clear hB4 hK4 hM3
      go_wp2_with fail
      go_roundw
      case rel => exact ⟨k + 1, t.a, _, _, by omega, by go_num, rfl, hsn2, hM4, hide (hC.out.put t.a), hb4⟩
      case measure => simp [intOf]; omega
     ·have e2 : (x == t.b) = false := by simpa using eb
      have hst : stepTo t x = none := by rw [stepTo, if_neg ea, if_neg eb]
      have hfin := hnone.out (k + 1) (by rw [hsn.out, hst]; rfl)
      subst hfin
      replace ea := hide ea
      replace eb := hide eb
      replace hst := hide hst
      go_wp2_with fail
      go_ret
      exact ⟨rfl, hbw3.out⟩
  ·have he : k = l.length := by omega
   subst he
   have hw0 := hwk.out
   have hws := hwst.out _ _ hw0
   rw [List.take_length] at hw0
   have hfin := hsome.out _ hw0
   have sr := hb.out.size
   clear hwk hnone hwst hsome
   replace hw0 := hide hw0
   replace kR2 := hide kR2
   clear r0 r1 zR
   go_wp2_with fail
   obtain ⟨wo, rfl⟩ : ∃ wo : World, wo = wr := ⟨_, rfl⟩
   have hbad := hide (fun (h : (cs.all fun no => C.any fun x => x == no) = false) => (show FB = false by rw [hfin, h]; rfl))
   have hok := hide (fun (h : (cs.all fun no => C.any fun x => x == no) = true) => (show FB = ((siteAt ss x).kind == 1) by rw [hfin, h]; rfl))
   clear hfin
   go_loopw [54] (fun i w2 => ∃ k : Nat, k ≤ cs.length ∧ i = I k ∧ Hid (∀ j, j < k → (C.any fun x => x == cs.getD j 0) = true) ∧ Hid (Below wo.heap.size wo w2)) (fun i _ => cs.length - (intOf i).toNat)
   case atStart => exact ⟨0, Nat.zero_le _, rfl, hide (fun j hj => absurd hj (by omega)), hide (Below.refl _ _)⟩
   case round =>
    obtain ⟨k, hkk, rfl, hall, hb2⟩ := hrel
    have hbw2 := bup hbw hb2.out
    by_cases hlt : k < cs.length
    ·obtain ⟨b2, off2, rfl, _⟩ := hD'.out k hlt
     obtain ⟨no, hno⟩ := getElem?_of_lt hlt
     obtain ⟨zl, y0⟩ := ((unhide hk).mono hbw2).int_at hno
     have hM2 := hM.out.below hb2.out hM.out.lt
     have hlk := hM2.lookup (P := Tryz.prog) (t := 206) Tryz.underlying206 Tryz.underlying3 (z := .bool false) (by kernel_rfl) no false
     rw [hC.out no] at hlk
     cases hq : C.any fun x => x == no with
     | true =>
      rw [hq] at hlk
      simp at hlk
      have hall2 := hide (fun (j : Nat) (hj : j < k + 1) => (show (C.any fun x => x == cs.getD j 0) = true by
       rcases Nat.lt_or_ge j k with h | h
       ·exact hall.out j h
       ·obtain rfl : j = k := by omega
        rw [List.getD_eq_getElem?_getD, hno]; exact hq))
      replace hM2 := hide hM2
      replace hno := hide hno
      replace hq := hide hq
      go_wp2_with fail
      go_roundw
      case rel => exact ⟨k + 1, by omega, by go_num, hall2, hb2⟩
      case measure => simp [intOf]; omega
     | false =>
      rw [hq] at hlk
      simp at hlk
      have hfin := hbad.out (by
       rw [List.all_eq_false]
       exact ⟨no, List.mem_of_getElem? hno, by rw [hq]; simp⟩)
      subst hfin
      replace hM2 := hide hM2
      replace hno := hide hno
      replace hq := hide hq
      go_wp2_with fail
      go_ret
      exact ⟨rfl, hbw2⟩
    ·have he : k = cs.length := by omega
     subst he
     have hfin := hok.out (by
      rw [List.all_eq_true]
      intro y hy
      obtain ⟨j, hj⟩ := List.mem_iff_getElem?.1 hy
      have := hall.out j (List.getElem?_eq_some_iff.1 hj).1
      rwa [List.getD_eq_getElem?_getD, hj] at this)
     clear hbad hok hall
     obtain ⟨y, hy, hya, -⟩ := siteAt_of hws
     have hly := placeS_lt hws
     rw [hya] at hfin
     have JX := JS.out x
     obtain ⟨p, hpp⟩ : ∃ p : Nat, placeS ss x = p := ⟨(placeS ss x).toNat, by omega⟩
     rw [hpp] at JX hy hly
     simp only [Int.toNat_natCast] at hy
     obtain ⟨b, off, hAb, hbb⟩ := hAs.out p (by omega)
     have HX := hide (HS.out p y hy b off hAb)
     subst hAb
     obtain ⟨zS, f0, f1, f2⟩ := HX.out wr hbw2
     obtain ⟨r0, r1⟩ := (kR2.out.grow hb2.out).cells2
     have zR := (kR2.out.grow hb2.out).lt
     have hp0 : (0 : Int) ≤ (p : Int) := by omega
     subst hfin
     replace JX := hide JX
     replace hpp := hide hpp
     replace hy := hide hy
     replace hya := hide hya
     clear hAs HX HS hM JT HT
     go_wp2_with fail
     (refine wp_grow ?_; (repeat go_big_quiet_step ((go_at_call 83; exact calls_grew (JX.out _ (bup hbw2 (Grew.below _)))))); refine wp_grow0 ?_; intro W1 hW1)
     go_wp2_with fail
     go_ret
     exact ⟨rfl, bup hbw2 hW1⟩
end Go.Proofs.YtgbbljfmngmjeaaGreat
