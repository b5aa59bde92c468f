/- The law SpringCarried: the changes that Changes returns keep the water of a hidden basin. Conditions stand in the theorems. -/
import Derived.Test.YtmjfdobjnnfafaaGreatDoorSpring28
import Derived.Test.YtmjfdobjnnfafaaGreatDoorOneWater
import Derived.Test.YtmjfdobjnnfafaaGreatDoorOneIn
import Derived.Test.YtmjfdobjnnfafaaGreatDoorRefB
import Derived.Test.YtmjfdobjnnfafaaGreatDoorAgainSpring9
set_option linter.all false
namespace Go.Proofs.YtmjfdobjnnfafaaGreatDoor
open Go.RowKit

theorem fold_bd {c : Climate} {h f : Int} : ∀ (l : List Weather) (X : Int), (∀ y ∈ l, ∀ Z, 0 ≤ Z → stepF c h f Z y ≤ Z + 1000) → 0 ≤ X → l.foldl (stepF c h f) X ≤ X + 1000 * l.length
  | [], X, _, _ => by simp
  | y :: ys, X, hs, h0 => by
    have h1 := hs y (by simp) X h0
    have h2 := fold_bd ys (stepF c h f X y) (fun z hz => hs z (by simp [hz])) step_pos
    simp only [List.foldl_cons, List.length_cons]
    push_cast
    omega
theorem wV_bd {c : Climate} {h f X d a : Int} {days : List Weather} (hco : climateOk c = true) (hwe : ∀ y ∈ days, weatherOk c y = true) (hf : inB f 0 2000 = true) (hh : heightB h = true) (hn : days.length ≤ 120) (o : wOk X d a days.length = true) : 0 ≤ wV c h f X d a days ∧ wV c h f X d a days ≤ 1000000 := by
  obtain ⟨⟨h0, h1⟩, _⟩ := wOk_parts o
  unfold wV
  rw [if_pos o]
  have h2 := fold_bd (c := c) (h := h) (f := f) (days.take (d - a).toNat) X (fun y hy Z hZ => by
    have hco := ClimOk.of hco
    have hxo := WeaOk.of (hwe y (List.mem_of_mem_take hy))
    have m2 := (meltF_bd hco (hxo.t600 hco) (heightB_bd hh) (inB_true.1 hf)).2.1
    have f4 : 0 ≤ (fallF c y h).1 ∧ (fallF c y h).1 ≤ 1000 := by
      have hr := hxo.rain
      have hw := hco.wettest
      unfold fallF
      split <;> simp <;> omega
    unfold stepF
    omega) h0
  have h3 : (days.take (d - a).toNat).length ≤ 120 := by rw [List.length_take]; omega
  exact ⟨fold_pos h0 _, by omega⟩
/-- What the walk wants of the lists, behind the calls. -/
theorem carried_math {c : Climate} {l days : List Weather} {b : Basin} {ds : List Int} {f : Int} {start : List Int} (hA : allowV c l days = true) (hf : inB f c.flo c.fhi = true) (hE : chgsE c l b ds = 0) (hn : days.length ≤ 120) (hs : start.length = b.cells.length) {x0 : Weather} (h0 : days[0]? = some x0) :
    allowE c l days = 0 ∧ climateOk c = true ∧ inB f 0 2000 = true ∧ (∀ y ∈ days, weatherOk c y = true) ∧ (∀ (i : Nat) y, days[i]? = some y → y.day = x0.day + i) ∧ (0 ≤ x0.day ∧ x0.day ≤ 1048576) ∧ (1 ≤ b.cells.length ∧ b.cells.length ≤ 12) ∧ (1 ≤ ds.length ∧ ds.length ≤ 16) ∧ (chgsV c l b ds).length = (ds.length - 1) * b.cells.length ∧
      ∀ k, k < (chgsV c l b ds).length → ∃ (q j : Nat) (x : Cell) (d1 d2 X lo hi : Int), (((k : Int).tmod b.cells.length = (j : Int) ∧ (k : Int).tdiv b.cells.length = (q : Int)) ∧ (q < 16 ∧ j < b.cells.length ∧ q + 1 < ds.length)) ∧ (b.cells[j]? = some x ∧ heightB x.height = true ∧ ds[q]? = some d1 ∧ ds[q + 1]? = some d2 ∧ start[j]? = some X) ∧ (chgsV c l b ds)[k]? = some ⟨x.no, d1, d2, lo, hi⟩ ∧
        (wOk X d1 x0.day days.length = true → wOk X d2 x0.day days.length = true → (0 ≤ wV c x.height f X d1 x0.day days ∧ wV c x.height f X d1 x0.day days ≤ 1000000) ∧ (0 ≤ wV c x.height f X d2 x0.day days ∧ wV c x.height f X d2 x0.day days ≤ 1000000) ∧
          (lo ≤ wV c x.height f X d2 x0.day days - wV c x.height f X d1 x0.day days ∨ lo ≤ -65536) ∧ (wV c x.height f X d2 x0.day days - wV c x.height f X d1 x0.day days ≤ hi ∨ 65536 ≤ hi)) := by
  obtain ⟨g1, g2, g3, g4, g5⟩ := allow_is hA
  obtain ⟨⟨p1, p2, p3⟩, p4⟩ := chgs_parts hE
  obtain ⟨b1, b2⟩ := basin_cells p2
  have hf2 := inB_true.1 hf
  have hf3 : inB f 0 2000 = true := inB_true.2 (by have := g4.clim.flo; have := g4.clim.fhi; omega)
  have hwe : ∀ y ∈ days, weatherOk c y = true := fun y hy => weather_okc g5.link hy
  have hV : chgsV c l b ds = chgsTo c l b ds (ds.length - 1) := by rw [chgsV, if_pos hE]
  have hL : (chgsV c l b ds).length = (ds.length - 1) * b.cells.length := by rw [hV, chgsTo_len]
  refine ⟨g3, g2, hf3, hwe, fun i y hy => (succB_ok g5.succ i y x0 hy h0).2, agree_day g5 (List.mem_of_getElem? h0), b1, p3, hL, fun k hk => ?_⟩
  rw [hL] at hk
  have hj : k % b.cells.length < b.cells.length := Nat.mod_lt _ (by omega)
  have hq : k / b.cells.length < ds.length - 1 := Nat.div_lt_of_lt_mul (by rw [Nat.mul_comm]; exact hk)
  obtain ⟨x, hx⟩ := getElem?_of_lt hj
  obtain ⟨d1, e1⟩ := getElem?_of_lt (xs := ds) (k := k / b.cells.length) (by omega)
  obtain ⟨d2, e2⟩ := getElem?_of_lt (xs := ds) (k := k / b.cells.length + 1) (by omega)
  obtain ⟨X, hX⟩ := getElem?_of_lt (xs := start) (k := k % b.cells.length) (by omega)
  have hh : heightB x.height = true := inB_true.2 (b2 x (List.mem_of_getElem? hx))
  refine ⟨k / b.cells.length, k % b.cells.length, x, d1, d2, X, (chgAt c l ds (k / b.cells.length) x).lo, (chgAt c l ds (k / b.cells.length) x).hi, ⟨⟨?_, ?_⟩, by omega, hj, by omega⟩, ⟨hx, hh, e1, e2, hX⟩, ?_, fun o1 o2 => ⟨wV_bd g2 hwe hf3 hh hn o1, wV_bd g2 hwe hf3 hh hn o2, carry_math hA hf h0 e1 e2 hE x o1 o2⟩⟩
  · rw [Int.tmod_eq_emod_of_nonneg (by omega)]; omega
  · rw [Int.tdiv_eq_ediv_of_nonneg (by omega)]; omega
  · have hg := chgsTo_get (c := c) (l := l) (ds := ds) hx hq
    rw [show k / b.cells.length * b.cells.length + k % b.cells.length = k by rw [Nat.mul_comm]; exact Nat.div_add_mod _ _] at hg
    rw [hV, hg]
    simp [chgAt, e1, e2]
theorem carried_no {c : Climate} {l : List Weather} {b : Basin} {ds : List Int} (h : chgsE c l b ds ≠ 0) : chgsV c l b ds = [] := by rw [chgsV, if_neg h]

set_option maxRecDepth 100000 in
set_option maxHeartbeats 8000000 in
theorem law_Carried (c : Climate) (va : Value) (l : List Weather) (vd : Value) (days : List Weather) (b : Basin) (vc vp : Value) (f : Int) (vs : Value) (start : List Int) (vk : Value) (ds : List Int) (w : World) (hp : Pow10 w) (ha : Sl w 3 Weather.cells va l) (hd : Sl w 3 Weather.cells vd days) (hc : Sl w 4 Cell.cells vc b.cells) (hpp : Sl w 2 pairC vp b.pairs) (hs : Sl w 1 intC vs start) (hk : Sl w 1 intC vk ds) :
    Calls Tryz.prog 16 #[c.v, va, vd, b.v vc vp, I f, vs, vk] w fun e w' => e = .returned (.bool true) ∧ Below w.heap.size w w' := by
  obtain ⟨Al, nl, rfl, _, _, hlenl, _⟩ := ha.open_
  obtain ⟨Ad, nd, rfl, _, _, hlend, hAd⟩ := hd.open_
  obtain ⟨Ac, nc, hvc, _, _, hlenc, hAc⟩ := hc.open_
  obtain ⟨Ap, np, hvp, _⟩ := hpp.open_
  obtain ⟨As, ns, rfl, _, _, hlens, hAs⟩ := hs.open_
  obtain ⟨Ak, nk, rfl, _, _, hlenk, hAk⟩ := hk.open_
  subst hvc hvp
  have J2 := fun w' (hb : Below w.heap.size w w') => spring_Allowed c (.slice Al l.length nl) (.slice Ad days.length nd) l days w' (ha.mono hb) (hd.mono hb)
  have J4 := fun w' (hb : Below w.heap.size w w') => spring_Changes c (.slice Al l.length nl) (.slice Ac b.cells.length nc) (.slice Ap b.pairs.length np) (.slice Ak ds.length nk) l b ds w' (ha.mono hb) (hc.mono hb) (hpp.mono hb) (hk.mono hb)
  have J5 := fun w' (hb : Below w.heap.size w w') => basin_CheckBasin b (.slice Ac b.cells.length nc) (.slice Ap b.pairs.length np) w' (hc.mono hb) (hpp.mono hb)
  have K5 := fun w' (hb : Below w.heap.size w w') => ref5_CheckBasin b (.slice Ac b.cells.length nc) (.slice Ap b.pairs.length np) w' (hc.mono hb) (hpp.mono hb)
  have JF := fun w => law_in f c.flo c.fhi w
  have JW := fun (x : Cell) (j : Nat) (a d X : Int) (bS bF bD bC bB bT : Nat) w' (hb : Below w.heap.size w w') hco hwe hf hda ha' hn hx hX hh kS kF kD kC kB kT => law_water c days b (.slice As start.length ns) (.slice Ad days.length nd) (.slice Ac b.cells.length nc) (.slice Ap b.pairs.length np) start f a d X x j bS bF bD bC bB bT w' hco hwe hf hda ha' hn hx hX hh (hs.mono hb) (hd.mono hb) (hc.mono hb) kS kF kD kC kB kT
  have HM := fun (hA : allowV c l days = true) (hf : inB f c.flo c.fhi = true) (hE : chgsE c l b ds = 0) (hn : days.length ≤ 120) (hs : start.length = b.cells.length) x0 (h0 : days[0]? = some x0) => carried_math hA hf hE hn hs h0
  have HN := fun (hE : chgsE c l b ds ≠ 0) => carried_no hE
  have HE := fun (hA : allowV c l days = true) => (allow_is hA).2.2.1
  obtain ⟨av, hav⟩ : ∃ z, allowV c l days = z := ⟨_, rfl⟩
  obtain ⟨ae, hae⟩ : ∃ z, allowE c l days = z := ⟨_, rfl⟩
  obtain ⟨F, hF⟩ : ∃ z, chgsV c l b ds = z := ⟨_, rfl⟩
  obtain ⟨ce, hce⟩ : ∃ z, chgsE c l b ds = z := ⟨_, rfl⟩
  obtain ⟨be, hbe⟩ : ∃ z, basinE b = z := ⟨_, rfl⟩
  simp only [hav, hae, hF, hce, hbe] at J2 J4 J5 K5 HM HN HE
  clear hav hae hF hce hbe
  (try unfold Climate.v at *)
  (try unfold Basin.v at *)
  replace J2 := hide J2
  replace J4 := hide J4
  replace J5 := hide J5
  replace K5 := hide K5
  replace JW := hide JW
  replace HM := hide HM
  replace HN := hide HN
  replace HE := hide HE
  replace ha := hide ha
  replace hd := hide hd
  replace hAd := hide hAd
  replace hc := hide hc
  replace hAc := hide hAc
  replace hpp := hide hpp
  replace hs := hide hs
  replace hAs := hide hAs
  replace hk := hide hk
  replace hAk := hide hAk
  replace hp := hide hp
  (try unfold Climate.v at *)
  (try unfold Weather.v at *)
  go_enter Tryz.func16, Tryz.ntmps16
  have B0 : Below w.heap.size w w := Below.refl _ _
  go_wp2_with fail
  obtain ⟨w1, hw1⟩ : ∃ w1, w1 = (((((w.alloc (.cells #[I c.base, I c.lapse, I c.swing, I c.wettest, I c.coldest, I c.warmest, I c.flo, I c.fhi] 25)).alloc (.cells #[.slice Ad days.length nd] 26)).alloc (.cells #[.slice Ac b.cells.length nc, .slice Ap b.pairs.length np, I b.gain, I b.slack, I b.deep] 58)).alloc (.cells #[I f] 3)).alloc (.cells #[.slice As start.length ns] 59)) := ⟨_, rfl⟩
  have kC : Blk w1 (w.heap.size) 25 #[I c.base, I c.lapse, I c.swing, I c.wettest, I c.coldest, I c.warmest, I c.flo, I c.fhi] := by
    rw [hw1]
    refine Blk.alloc ?_ _
    refine Blk.alloc ?_ _
    refine Blk.alloc ?_ _
    refine Blk.alloc ?_ _
    have h := Blk.new w 25 #[I c.base, I c.lapse, I c.swing, I c.wettest, I c.coldest, I c.warmest, I c.flo, I c.fhi]
    first | exact h | simpa only [World.size_alloc] using h
  have kD : Blk w1 (w.heap.size + 1) 26 #[.slice Ad days.length nd] := by
    rw [hw1]
    refine Blk.alloc ?_ _
    refine Blk.alloc ?_ _
    refine Blk.alloc ?_ _
    have h := Blk.new (w.alloc (.cells #[I c.base, I c.lapse, I c.swing, I c.wettest, I c.coldest, I c.warmest, I c.flo, I c.fhi] 25)) 26 #[.slice Ad days.length nd]
    first | exact h | simpa only [World.size_alloc] using h
  have kS : Blk w1 (w.heap.size + 1 + 1) 58 #[.slice Ac b.cells.length nc, .slice Ap b.pairs.length np, I b.gain, I b.slack, I b.deep] := by
    rw [hw1]
    refine Blk.alloc ?_ _
    refine Blk.alloc ?_ _
    have h := Blk.new ((w.alloc (.cells #[I c.base, I c.lapse, I c.swing, I c.wettest, I c.coldest, I c.warmest, I c.flo, I c.fhi] 25)).alloc (.cells #[.slice Ad days.length nd] 26)) 58 #[.slice Ac b.cells.length nc, .slice Ap b.pairs.length np, I b.gain, I b.slack, I b.deep]
    first | exact h | simpa only [World.size_alloc] using h
  have kT : Blk w1 (w.heap.size + 1 + 1 + 1) 3 #[I f] := by
    rw [hw1]
    refine Blk.alloc ?_ _
    have h := Blk.new (((w.alloc (.cells #[I c.base, I c.lapse, I c.swing, I c.wettest, I c.coldest, I c.warmest, I c.flo, I c.fhi] 25)).alloc (.cells #[.slice Ad days.length nd] 26)).alloc (.cells #[.slice Ac b.cells.length nc, .slice Ap b.pairs.length np, I b.gain, I b.slack, I b.deep] 58)) 3 #[I f]
    first | exact h | simpa only [World.size_alloc] using h
  have kX : Blk w1 (w.heap.size + 1 + 1 + 1 + 1) 59 #[.slice As start.length ns] := by
    rw [hw1]
    have h := Blk.new ((((w.alloc (.cells #[I c.base, I c.lapse, I c.swing, I c.wettest, I c.coldest, I c.warmest, I c.flo, I c.fhi] 25)).alloc (.cells #[.slice Ad days.length nd] 26)).alloc (.cells #[.slice Ac b.cells.length nc, .slice Ap b.pairs.length np, I b.gain, I b.slack, I b.deep] 58)).alloc (.cells #[I f] 3)) 59 #[.slice As start.length ns]
    first | exact h | simpa only [World.size_alloc] using h
  have B1 : Below w.heap.size w w1 := by rw [hw1]; exact bup B0 (below5 _ _ _ _ _ _)
  rw [← hw1]
  clear hw1 B0
  obtain ⟨bX, hbX⟩ : ∃ b, w.heap.size + 1 + 1 + 1 + 1 = b := ⟨_, rfl⟩
  rw [hbX] at kX ⊢
  obtain ⟨bT, hbT⟩ : ∃ b, w.heap.size + 1 + 1 + 1 = b := ⟨_, rfl⟩
  rw [hbT] at kT ⊢
  obtain ⟨bS, hbS⟩ : ∃ b, w.heap.size + 1 + 1 = b := ⟨_, rfl⟩
  rw [hbS] at kS ⊢
  obtain ⟨bD, hbD⟩ : ∃ b, w.heap.size + 1 = b := ⟨_, rfl⟩
  rw [hbD] at kD ⊢
  obtain ⟨bC, hbC⟩ : ∃ b, w.heap.size = b := ⟨_, rfl⟩
  rw [hbC] at kC ⊢
  replace kC := hide kC
  replace kD := hide kD
  replace kS := hide kS
  replace kT := hide kT
  replace kX := hide kX
  clear hbC
  clear hbD
  clear hbS
  clear hbT
  clear hbX
  go_at_call 22
  refine (law_sane w1 (hp.out.mono B1)).mono ?_
  rintro e w2 ⟨rfl, hb⟩
  replace kC := hide (kC.out.grow hb)
  replace kD := hide (kD.out.grow hb)
  replace kS := hide (kS.out.grow hb)
  replace kT := hide (kT.out.grow hb)
  replace kX := hide (kX.out.grow hb)
  have B2 := bup B1 hb
  clear hb B1
  go_upto_region 3 with fail
  obtain ⟨q, hq⟩ : ∃ q, (decide (60 < l.length) || decide (120 < days.length) || decide (days.length = 0) || !(inB f c.flo c.fhi) || decide (start.length ≠ b.cells.length) || decide (be ≠ 0)) = q := ⟨_, rfl⟩
  replace hq := hide hq
  go_cut [68] from 69 (fun q_ w_ => q_ = .bool q ∧ Hid (Below w2.heap.size w2 w_))
  case first =>
    obtain ⟨rC0, rC1, rC2, rC3, rC4, rC5, rC6, rC7⟩ := kC.out.cells8
    have zC : bC < w2.heap.size := kC.out.lt
    have rD0 : w2.cell? ⟨bD, 0, none⟩ = some (.slice Ad days.length nd) := kD.out.cell 0
    have zD : bD < w2.heap.size := kD.out.lt
    have rS0 : w2.cell? ⟨bS, 0, none⟩ = some (.slice Ac b.cells.length nc) := kS.out.cell 0
    have rS1 : w2.cell? ⟨bS, 1, none⟩ = some (.slice Ap b.pairs.length np) := kS.out.cell 1
    have rS2 : w2.cell? ⟨bS, 2, none⟩ = some (I b.gain) := kS.out.cell 2
    have rS3 : w2.cell? ⟨bS, 3, none⟩ = some (I b.slack) := kS.out.cell 3
    have rS4 : w2.cell? ⟨bS, 4, none⟩ = some (I b.deep) := kS.out.cell 4
    have zS : bS < w2.heap.size := kS.out.lt
    have rT0 : w2.cell? ⟨bT, 0, none⟩ = some (I f) := kT.out.cell 0
    have zT : bT < w2.heap.size := kT.out.lt
    have rX0 : w2.cell? ⟨bX, 0, none⟩ = some (.slice As start.length ns) := kX.out.cell 0
    have zX : bX < w2.heap.size := kX.out.lt
    cases g1 : decide ((60 : Int) < l.length)
    case true =>
      have g1n : 60 < l.length := by simp at g1; omega
      have hqv : q = true := by rw [← hq.out]; simp [g1n]
      subst hqv
      clear hq
      go_wp2_with (first | (go_at_call 51; refine (JF.out _).mono ?_; rintro e wz ⟨rfl, hbz⟩; obtain ⟨sS0, sS1, sS2, sS3, sS4⟩ := (kS.out.grow hbz).cells5; have sS := (kS.out.grow hbz).lt; have sX0 := (kX.out.grow hbz).cell 0; simp at sX0; have sX := (kX.out.grow hbz).lt) | (go_at_call 60; refine (J5.out _ (bup B2 hbz)).mono ?_; rintro e wy ⟨rfl, hby⟩; obtain ⟨tS0, tS1, tS2, tS3, tS4⟩ := (kS.out.grow (bup hbz hby)).cells5; have tS := (kS.out.grow (bup hbz hby)).lt) | (go_at_call 61; refine (K5.out _ (bup (bup B2 hbz) hby)).mono ?_; rintro e wx ⟨rfl, hbx⟩))
      go_meet
      exact ⟨rfl, hide (Below.refl _ _)⟩
    have g1n : ¬ 60 < l.length := by simp at g1; omega
    cases g2 : decide ((120 : Int) < days.length)
    case true =>
      have g2n : 120 < days.length := by simp at g2; omega
      have hqv : q = true := by rw [← hq.out]; simp [g2n]
      subst hqv
      clear hq
      go_wp2_with (first | (go_at_call 51; refine (JF.out _).mono ?_; rintro e wz ⟨rfl, hbz⟩; obtain ⟨sS0, sS1, sS2, sS3, sS4⟩ := (kS.out.grow hbz).cells5; have sS := (kS.out.grow hbz).lt; have sX0 := (kX.out.grow hbz).cell 0; simp at sX0; have sX := (kX.out.grow hbz).lt) | (go_at_call 60; refine (J5.out _ (bup B2 hbz)).mono ?_; rintro e wy ⟨rfl, hby⟩; obtain ⟨tS0, tS1, tS2, tS3, tS4⟩ := (kS.out.grow (bup hbz hby)).cells5; have tS := (kS.out.grow (bup hbz hby)).lt) | (go_at_call 61; refine (K5.out _ (bup (bup B2 hbz) hby)).mono ?_; rintro e wx ⟨rfl, hbx⟩))
      go_meet
      exact ⟨rfl, hide (Below.refl _ _)⟩
    have g2n : ¬ 120 < days.length := by simp at g2; omega
    by_cases h0 : days.length = 0
    case pos =>
      have hqv : q = true := by rw [← hq.out]; simp [h0]
      subst hqv
      clear hq
      have k1 : ((days.length : Int) == 0) = true := by rw [h0]; rfl
      clear h0
      go_wp2_with (first | (go_at_call 51; refine (JF.out _).mono ?_; rintro e wz ⟨rfl, hbz⟩; obtain ⟨sS0, sS1, sS2, sS3, sS4⟩ := (kS.out.grow hbz).cells5; have sS := (kS.out.grow hbz).lt; have sX0 := (kX.out.grow hbz).cell 0; simp at sX0; have sX := (kX.out.grow hbz).lt) | (go_at_call 60; refine (J5.out _ (bup B2 hbz)).mono ?_; rintro e wy ⟨rfl, hby⟩; obtain ⟨tS0, tS1, tS2, tS3, tS4⟩ := (kS.out.grow (bup hbz hby)).cells5; have tS := (kS.out.grow (bup hbz hby)).lt) | (go_at_call 61; refine (K5.out _ (bup (bup B2 hbz) hby)).mono ?_; rintro e wx ⟨rfl, hbx⟩))
      go_meet
      exact ⟨rfl, hide (Below.refl _ _)⟩
    have k1 : ((days.length : Int) == 0) = false := beq_eq_false_iff_ne.2 (by omega)
    cases g3 : inB f c.flo c.fhi
    case false =>
      rw [g3] at JF
      replace JF := hide JF
      have hqv : q = true := by rw [← hq.out]; simp [g3]
      subst hqv
      clear hq
      go_wp2_with (first | (go_at_call 51; refine (JF.out _).mono ?_; rintro e wz ⟨rfl, hbz⟩; obtain ⟨sS0, sS1, sS2, sS3, sS4⟩ := (kS.out.grow hbz).cells5; have sS := (kS.out.grow hbz).lt; have sX0 := (kX.out.grow hbz).cell 0; simp at sX0; have sX := (kX.out.grow hbz).lt) | (go_at_call 60; refine (J5.out _ (bup B2 hbz)).mono ?_; rintro e wy ⟨rfl, hby⟩; obtain ⟨tS0, tS1, tS2, tS3, tS4⟩ := (kS.out.grow (bup hbz hby)).cells5; have tS := (kS.out.grow (bup hbz hby)).lt) | (go_at_call 61; refine (K5.out _ (bup (bup B2 hbz) hby)).mono ?_; rintro e wx ⟨rfl, hbx⟩))
      go_meet
      exact ⟨rfl, hide (hbz)⟩
    rw [g3] at JF
    replace JF := hide JF
    by_cases h1 : start.length = b.cells.length
    case neg =>
      have k2 : ((start.length : Int) != (b.cells.length : Int)) = true := by simp; omega
      have hqv : q = true := by rw [← hq.out]; simp [h1]
      subst hqv
      clear hq
      go_wp2_with (first | (go_at_call 51; refine (JF.out _).mono ?_; rintro e wz ⟨rfl, hbz⟩; obtain ⟨sS0, sS1, sS2, sS3, sS4⟩ := (kS.out.grow hbz).cells5; have sS := (kS.out.grow hbz).lt; have sX0 := (kX.out.grow hbz).cell 0; simp at sX0; have sX := (kX.out.grow hbz).lt) | (go_at_call 60; refine (J5.out _ (bup B2 hbz)).mono ?_; rintro e wy ⟨rfl, hby⟩; obtain ⟨tS0, tS1, tS2, tS3, tS4⟩ := (kS.out.grow (bup hbz hby)).cells5; have tS := (kS.out.grow (bup hbz hby)).lt) | (go_at_call 61; refine (K5.out _ (bup (bup B2 hbz) hby)).mono ?_; rintro e wx ⟨rfl, hbx⟩))
      go_meet
      exact ⟨rfl, hide (hbz)⟩
    have k2 : ((start.length : Int) != (b.cells.length : Int)) = false := by simp; omega
    replace h1 := hide h1
    by_cases h2 : be = 0
    case neg =>
      have k3 : (be != 0) = true := by simpa using h2
      have hqv : q = true := by rw [← hq.out]; simp [h2]
      subst hqv
      clear hq
      go_wp2_with (first | (go_at_call 51; refine (JF.out _).mono ?_; rintro e wz ⟨rfl, hbz⟩; obtain ⟨sS0, sS1, sS2, sS3, sS4⟩ := (kS.out.grow hbz).cells5; have sS := (kS.out.grow hbz).lt; have sX0 := (kX.out.grow hbz).cell 0; simp at sX0; have sX := (kX.out.grow hbz).lt) | (go_at_call 60; refine (J5.out _ (bup B2 hbz)).mono ?_; rintro e wy ⟨rfl, hby⟩; obtain ⟨tS0, tS1, tS2, tS3, tS4⟩ := (kS.out.grow (bup hbz hby)).cells5; have tS := (kS.out.grow (bup hbz hby)).lt) | (go_at_call 61; refine (K5.out _ (bup (bup B2 hbz) hby)).mono ?_; rintro e wx ⟨rfl, hbx⟩))
      go_meet
      exact ⟨rfl, hide (bup hbz hby)⟩
    subst h2
    have hqv : q = false := by rw [← hq.out]; simp [g1n, g2n, h0, g3, h1.out]
    subst hqv
    clear hq h0 h1
    go_wp2_with (first | (go_at_call 51; refine (JF.out _).mono ?_; rintro e wz ⟨rfl, hbz⟩; obtain ⟨sS0, sS1, sS2, sS3, sS4⟩ := (kS.out.grow hbz).cells5; have sS := (kS.out.grow hbz).lt; have sX0 := (kX.out.grow hbz).cell 0; simp at sX0; have sX := (kX.out.grow hbz).lt) | (go_at_call 60; refine (J5.out _ (bup B2 hbz)).mono ?_; rintro e wy ⟨rfl, hby⟩; obtain ⟨tS0, tS1, tS2, tS3, tS4⟩ := (kS.out.grow (bup hbz hby)).cells5; have tS := (kS.out.grow (bup hbz hby)).lt) | (go_at_call 61; refine (K5.out _ (bup (bup B2 hbz) hby)).mono ?_; rintro e wx ⟨rfl, hbx⟩))
    go_meet
    exact ⟨rfl, hide (bup (bup hbz hby) hbx)⟩
  case rest =>
  obtain ⟨rfl, hbc⟩ := hcut
  replace hbc := hbc.out
  replace kC := hide (show Blk wc bC 25 #[I c.base, I c.lapse, I c.swing, I c.wettest, I c.coldest, I c.warmest, I c.flo, I c.fhi] from kC.out.grow hbc)
  replace kD := hide (show Blk wc bD 26 #[.slice Ad days.length nd] from kD.out.grow hbc)
  replace kS := hide (show Blk wc bS 58 #[.slice Ac b.cells.length nc, .slice Ap b.pairs.length np, I b.gain, I b.slack, I b.deep] from kS.out.grow hbc)
  replace kT := hide (show Blk wc bT 3 #[I f] from kT.out.grow hbc)
  replace kX := hide (show Blk wc bX 59 #[.slice As start.length ns] from kX.out.grow hbc)
  have BC := bup B2 hbc
  clear B2 hbc
  cases q
  case true => (go_wp2_with fail; go_ret; exact ⟨rfl, BC⟩)
  have hq2 := hq.out
  simp only [Bool.or_eq_false_iff, decide_eq_false_iff_not, Bool.not_eq_false', Decidable.not_not] at hq2
  obtain ⟨⟨⟨⟨⟨g1, g2⟩, g3⟩, g4⟩, g5⟩, g6⟩ := hq2
  subst g6
  clear hq
  replace g4 := hide g4
  replace g5 := hide g5
  obtain ⟨rC0, rC1, rC2, rC3, rC4, rC5, rC6, rC7⟩ := kC.out.cells8
  have zC : bC < wc.heap.size := kC.out.lt
  have rD0 : wc.cell? ⟨bD, 0, none⟩ = some (.slice Ad days.length nd) := kD.out.cell 0
  have zD : bD < wc.heap.size := kD.out.lt
  go_wp2_with fail
  clear rC0 rC1 rC2 rC3 rC4 rC5 rC6 rC7 zC rD0 zD
  go_at_call 40
  refine (J2.out wc BC).mono ?_
  rintro e w3 ⟨rfl, hb⟩
  replace kC := hide (kC.out.grow hb)
  replace kD := hide (kD.out.grow hb)
  replace kS := hide (kS.out.grow hb)
  replace kT := hide (kT.out.grow hb)
  replace kX := hide (kX.out.grow hb)
  have B24 := bup BC hb
  clear hb BC
  cases hB : av
  case false =>
    by_cases e2 : ae = 0
    · (subst e2; go_wp2_with fail; go_ret; exact ⟨rfl, B24⟩)
    · have e3 : (ae != 0) = true := by simpa using e2
      (go_wp2_with fail; go_ret; exact ⟨rfl, B24⟩)
  have h0 := HE.out hB
  subst h0
  obtain ⟨rC0, rC1, rC2, rC3, rC4, rC5, rC6, rC7⟩ := kC.out.cells8
  have zC : bC < w3.heap.size := kC.out.lt
  have rS0 : w3.cell? ⟨bS, 0, none⟩ = some (.slice Ac b.cells.length nc) := kS.out.cell 0
  have rS1 : w3.cell? ⟨bS, 1, none⟩ = some (.slice Ap b.pairs.length np) := kS.out.cell 1
  have rS2 : w3.cell? ⟨bS, 2, none⟩ = some (I b.gain) := kS.out.cell 2
  have rS3 : w3.cell? ⟨bS, 3, none⟩ = some (I b.slack) := kS.out.cell 3
  have rS4 : w3.cell? ⟨bS, 4, none⟩ = some (I b.deep) := kS.out.cell 4
  have zS : bS < w3.heap.size := kS.out.lt
  go_wp2_with fail
  clear rC0 rC1 rC2 rC3 rC4 rC5 rC6 rC7 zC rS0 rS1 rS2 rS3 rS4 zS
  go_at_call 57
  refine (J4.out w3 B24).mono ?_
  rintro e w4 ⟨v1, rfl, ho, hb⟩
  replace kC := hide (kC.out.grow hb)
  replace kD := hide (kD.out.grow hb)
  replace kS := hide (kS.out.grow hb)
  replace kT := hide (kT.out.grow hb)
  replace kX := hide (kX.out.grow hb)
  have B25 := bup B24 hb
  clear hb B24
  by_cases hE : ce = 0
  case neg =>
    have hF := HN.out hE
    subst hF
    obtain ⟨A1, n1, rfl, _⟩ := (ho.sl Change.cells_len (by simp)).open_
    have e3 : (ce != 0) = true := by simpa using hE
    simp only [List.length_nil] at *
    clear ho
    (go_wp2_with fail; go_ret; exact ⟨rfl, B25⟩)
  subst hE
  obtain ⟨x0, hx0⟩ := getElem?_of_lt (xs := days) (k := 0) (by omega)
  obtain ⟨-, m2, m3, m4, m5, m6, ⟨m7, m7b⟩, ⟨m8, m8b⟩, m9, m10⟩ := HM.out hB g4.out rfl (by omega) g5.out x0 hx0
  have hF1 : F.length ≤ 180 := by rw [m9]; have := Nat.mul_le_mul (show ds.length - 1 ≤ 15 by omega) m7b; omega
  have s1 := ho.sl Change.cells_len (by omega)
  obtain ⟨A1, n1, rfl, _, _, hlenF, hAF⟩ := s1.open_
  clear ho
  obtain ⟨gd, od, rfl, hgd⟩ := hAd.out 0 (by omega)
  obtain ⟨zd, e0, _, _⟩ := (hd.out.mono B25).weather_at hx0
  rw [Nat.zero_mul, Nat.add_zero] at e0
  have k1 : IntKind.i64.wrap ((ds.length : Int) - 1) = ((ds.length - 1 : Nat) : Int) := by rw [IntWalk.i64_in _ (by omega)]; omega
  have k2 : IntKind.i64.wrap ((b.cells.length : Int) * ((ds.length - 1 : Nat) : Int)) = (F.length : Int) := by rw [m9, Int.natCast_mul, Int.mul_comm]; exact IntWalk.i64_in _ (by rw [← Int.natCast_mul, ← m9]; omega)
  have k3 : 0 < days.length := by omega
  replace hx0 := hide hx0
  replace m2 := hide m2
  replace m3 := hide m3
  replace m4 := hide m4
  replace m5 := hide m5
  replace m9 := hide m9
  replace m10 := hide m10
  replace s1 := hide s1
  replace hAF := hide hAF
  clear HM HN HE hAd J2 J4 J5 K5 JF
  have rD0 : w4.cell? ⟨bD, 0, none⟩ = some (.slice (some ⟨gd, od, none⟩) days.length nd) := kD.out.cell 0
  have zD : bD < w4.heap.size := kD.out.lt
  have rS0 : w4.cell? ⟨bS, 0, none⟩ = some (.slice Ac b.cells.length nc) := kS.out.cell 0
  have rS1 : w4.cell? ⟨bS, 1, none⟩ = some (.slice Ap b.pairs.length np) := kS.out.cell 1
  have rS2 : w4.cell? ⟨bS, 2, none⟩ = some (I b.gain) := kS.out.cell 2
  have rS3 : w4.cell? ⟨bS, 3, none⟩ = some (I b.slack) := kS.out.cell 3
  have rS4 : w4.cell? ⟨bS, 4, none⟩ = some (I b.deep) := kS.out.cell 4
  have zS : bS < w4.heap.size := kS.out.lt
  go_upto_region 12 with fail
  clear rD0 zD rS0 rS1 rS2 rS3 rS4 zS e0 zd
  obtain ⟨w5, hw5⟩ : ∃ w5, w5 = (w4.alloc (.cells #[I x0.day] 3)) := ⟨_, rfl⟩
  have kF : Blk w5 (w4.heap.size) 3 #[I x0.day] := by
    rw [hw5]
    have h := Blk.new w4 3 #[I x0.day]
    first | exact h | simpa only [World.size_alloc] using h
  replace kC : Hid (Blk w5 bC 25 #[I c.base, I c.lapse, I c.swing, I c.wettest, I c.coldest, I c.warmest, I c.flo, I c.fhi]) := hide (by rw [hw5]; exact (kC.out).alloc _)
  replace kD : Hid (Blk w5 bD 26 #[.slice (some ⟨gd, od, none⟩) days.length nd]) := hide (by rw [hw5]; exact (kD.out).alloc _)
  replace kS : Hid (Blk w5 bS 58 #[.slice Ac b.cells.length nc, .slice Ap b.pairs.length np, I b.gain, I b.slack, I b.deep]) := hide (by rw [hw5]; exact (kS.out).alloc _)
  replace kT : Hid (Blk w5 bT 3 #[I f]) := hide (by rw [hw5]; exact (kT.out).alloc _)
  replace kX : Hid (Blk w5 bX 59 #[.slice As start.length ns]) := hide (by rw [hw5]; exact (kX.out).alloc _)
  have B26 : Below w.heap.size w w5 := by rw [hw5]; exact bup B25 (below1 _ _)
  replace s1 := hide (s1.out.mono (show Below w4.heap.size w4 w5 by rw [hw5]; exact below1 _ _))
  rw [← hw5]
  clear hw5 B25
  obtain ⟨bF, hbF⟩ : ∃ b, w4.heap.size = b := ⟨_, rfl⟩
  rw [hbF] at kF ⊢
  replace kF := hide kF
  clear hbF
  have rS0 : w5.cell? ⟨bS, 0, none⟩ = some (.slice Ac b.cells.length nc) := kS.out.cell 0
  have rS1 : w5.cell? ⟨bS, 1, none⟩ = some (.slice Ap b.pairs.length np) := kS.out.cell 1
  have rS2 : w5.cell? ⟨bS, 2, none⟩ = some (I b.gain) := kS.out.cell 2
  have rS3 : w5.cell? ⟨bS, 3, none⟩ = some (I b.slack) := kS.out.cell 3
  have rS4 : w5.cell? ⟨bS, 4, none⟩ = some (I b.deep) := kS.out.cell 4
  have zS : bS < w5.heap.size := kS.out.lt
  go_wp2_with fail
  clear rS0 rS1 rS2 rS3 rS4 zS
  go_loopw [21, 22, 23, 24, 25, 26, 27, 28, 112] (fun _ _ _ _ _ _ _ _ i wr => ∃ k : Nat, k ≤ F.length ∧ i = I k ∧ Hid (Blk wr bC 25 #[I c.base, I c.lapse, I c.swing, I c.wettest, I c.coldest, I c.warmest, I c.flo, I c.fhi]) ∧ Hid (Blk wr bD 26 #[.slice (some ⟨gd, od, none⟩) days.length nd]) ∧ Hid (Blk wr bS 58 #[.slice Ac b.cells.length nc, .slice Ap b.pairs.length np, I b.gain, I b.slack, I b.deep]) ∧ Hid (Blk wr bT 3 #[I f]) ∧ Hid (Blk wr bX 59 #[.slice As start.length ns]) ∧ Hid (Blk wr bF 3 #[I x0.day]) ∧ Hid (Sl wr 5 Change.cells (.slice A1 F.length n1) F) ∧ Hid (Below w.heap.size w wr)) (fun _ _ _ _ _ _ _ _ i _ => F.length - (intOf i).toNat)
  case atStart => exact ⟨0, Nat.zero_le _, rfl, kC, kD, kS, kT, kX, kF, s1, hide B26⟩
  case round =>
    clear kC kD kS kT kX kF s1 B26
    obtain ⟨k, hkl, rfl, kC, kD, kS, kT, kX, kF, s1, hbw⟩ := hrel
    have BW := hbw.out
    clear hbw
    by_cases hlt : k < F.length
    case neg =>
      have he : k = F.length := by omega
      subst he
      (go_wp2_with fail; go_ret; exact ⟨rfl, BW⟩)
    obtain ⟨q, j, x, d1, d2, X, lo, hi, ⟨⟨r1, r2⟩, r3, r4, r5⟩, ⟨e1, e1h, e3, e4, e5⟩, e6, e7⟩ := m10.out k hlt
    obtain ⟨ga, oa, rfl, hga⟩ := hAF.out k hlt
    obtain ⟨za, y0, y1, y2, y3, y4⟩ := s1.out.change_at e6
    obtain ⟨gc, oc, rfl, hgc⟩ := hAc.out j r4
    obtain ⟨zc, x0c, _, _, _⟩ := (hc.out.mono BW).cell_at e1
    obtain ⟨gk, ok, rfl, hgk⟩ := hAk.out q (by omega)
    obtain ⟨zk, l1⟩ := (hk.out.mono BW).int_at e3
    obtain ⟨_, l2⟩ := (hk.out.mono BW).int_at e4
    replace e1 := hide e1
    replace e1h := hide e1h
    replace e3 := hide e3
    replace e4 := hide e4
    replace e5 := hide e5
    replace e6 := hide e6
    replace e7 := hide e7
    clear m10 hAF hAc hAk hAs
    go_upto_region 18 with fail
    clear y0 y1 y2 y3 y4 za x0c zc l1 l2 zk
    obtain ⟨Z1, hZ1⟩ : ∃ z, wV c x.height f X d1 x0.day days = z := ⟨_, rfl⟩
    obtain ⟨Z2, hZ2⟩ : ∃ z, wV c x.height f X d2 x0.day days = z := ⟨_, rfl⟩
    obtain ⟨o1, ho1⟩ : ∃ z, wOk X d1 x0.day days.length = z := ⟨_, rfl⟩
    obtain ⟨o2, ho2⟩ : ∃ z, wOk X d2 x0.day days.length = z := ⟨_, rfl⟩
    have E7 := e7.out
    rw [hZ1, hZ2, ho1, ho2] at E7
    replace E7 := hide E7
    clear e7
    replace hZ1 := hide hZ1
    replace hZ2 := hide hZ2
    replace ho1 := hide ho1
    replace ho2 := hide ho2
    obtain ⟨w6, hw6⟩ : ∃ w6, w6 = (wr.alloc (.cells #[I x.no, I d1, I d2, I lo, I hi] 92)) := ⟨_, rfl⟩
    have kY : Blk w6 (wr.heap.size) 92 #[I x.no, I d1, I d2, I lo, I hi] := by
      rw [hw6]
      have h := Blk.new wr 92 #[I x.no, I d1, I d2, I lo, I hi]
      first | exact h | simpa only [World.size_alloc] using h
    replace kC : Hid (Blk w6 bC 25 #[I c.base, I c.lapse, I c.swing, I c.wettest, I c.coldest, I c.warmest, I c.flo, I c.fhi]) := hide (by rw [hw6]; exact (kC.out).alloc _)
    replace kD : Hid (Blk w6 bD 26 #[.slice (some ⟨gd, od, none⟩) days.length nd]) := hide (by rw [hw6]; exact (kD.out).alloc _)
    replace kS : Hid (Blk w6 bS 58 #[.slice (some ⟨gc, oc, none⟩) b.cells.length nc, .slice Ap b.pairs.length np, I b.gain, I b.slack, I b.deep]) := hide (by rw [hw6]; exact (kS.out).alloc _)
    replace kT : Hid (Blk w6 bT 3 #[I f]) := hide (by rw [hw6]; exact (kT.out).alloc _)
    replace kX : Hid (Blk w6 bX 59 #[.slice As start.length ns]) := hide (by rw [hw6]; exact (kX.out).alloc _)
    replace kF : Hid (Blk w6 bF 3 #[I x0.day]) := hide (by rw [hw6]; exact (kF.out).alloc _)
    have B27 : Below w.heap.size w w6 := by rw [hw6]; exact bup BW (below1 _ _)
    replace s1 := hide (s1.out.mono (show Below wr.heap.size wr w6 by rw [hw6]; exact below1 _ _))
    rw [← hw6]
    clear hw6 BW
    obtain ⟨bY, hbY⟩ : ∃ b, wr.heap.size = b := ⟨_, rfl⟩
    rw [hbY] at kY ⊢
    replace kY := hide kY
    clear hbY
    have rS0 : w6.cell? ⟨bS, 0, none⟩ = some (.slice (some ⟨gc, oc, none⟩) b.cells.length nc) := kS.out.cell 0
    have rS1 : w6.cell? ⟨bS, 1, none⟩ = some (.slice Ap b.pairs.length np) := kS.out.cell 1
    have rS2 : w6.cell? ⟨bS, 2, none⟩ = some (I b.gain) := kS.out.cell 2
    have rS3 : w6.cell? ⟨bS, 3, none⟩ = some (I b.slack) := kS.out.cell 3
    have rS4 : w6.cell? ⟨bS, 4, none⟩ = some (I b.deep) := kS.out.cell 4
    have zS : bS < w6.heap.size := kS.out.lt
    (refine wp_region_grow (by kernel_rfl) (by kernel_rfl) ?_; (repeat (first | go_big_quiet_skip | (go_big_quiet_want; go_big_quiet_op; first | go_big_quiet_on | (apply Exists.intro; refine ⟨fun _ => ?_, ?_⟩; (focus (fail)); go_big_quiet_on)))); refine wpQuiet_nil ?_; rintro W1 ⟨⟨_, hW1⟩, rfl⟩)
    clear rS0 rS1 rS2 rS3 rS4 zS
    replace s1 := hide (s1.out.mono hW1)
    replace kC := hide (show Blk W1 bC 25 #[I c.base, I c.lapse, I c.swing, I c.wettest, I c.coldest, I c.warmest, I c.flo, I c.fhi] from kC.out.grow hW1)
    replace kD := hide (show Blk W1 bD 26 #[.slice (some ⟨gd, od, none⟩) days.length nd] from kD.out.grow hW1)
    replace kS := hide (show Blk W1 bS 58 #[.slice (some ⟨gc, oc, none⟩) b.cells.length nc, .slice Ap b.pairs.length np, I b.gain, I b.slack, I b.deep] from kS.out.grow hW1)
    replace kT := hide (show Blk W1 bT 3 #[I f] from kT.out.grow hW1)
    replace kX := hide (show Blk W1 bX 59 #[.slice As start.length ns] from kX.out.grow hW1)
    replace kF := hide (show Blk W1 bF 3 #[I x0.day] from kF.out.grow hW1)
    replace kY := hide (show Blk W1 bY 92 #[I x.no, I d1, I d2, I lo, I hi] from kY.out.grow hW1)
    have B80 := bup B27 hW1
    clear hW1
    have rS0 : W1.cell? ⟨bS, 0, none⟩ = some (.slice (some ⟨gc, oc, none⟩) b.cells.length nc) := kS.out.cell 0
    have rS1 : W1.cell? ⟨bS, 1, none⟩ = some (.slice Ap b.pairs.length np) := kS.out.cell 1
    have rS2 : W1.cell? ⟨bS, 2, none⟩ = some (I b.gain) := kS.out.cell 2
    have rS3 : W1.cell? ⟨bS, 3, none⟩ = some (I b.slack) := kS.out.cell 3
    have rS4 : W1.cell? ⟨bS, 4, none⟩ = some (I b.deep) := kS.out.cell 4
    have zS : bS < W1.heap.size := kS.out.lt
    have rY0 : W1.cell? ⟨bY, 0, none⟩ = some (I x.no) := kY.out.cell 0
    have rY1 : W1.cell? ⟨bY, 1, none⟩ = some (I d1) := kY.out.cell 1
    have rY2 : W1.cell? ⟨bY, 2, none⟩ = some (I d2) := kY.out.cell 2
    have rY3 : W1.cell? ⟨bY, 3, none⟩ = some (I lo) := kY.out.cell 3
    have rY4 : W1.cell? ⟨bY, 4, none⟩ = some (I hi) := kY.out.cell 4
    have zY : bY < W1.heap.size := kY.out.lt
    obtain ⟨zc, x0c, _, _, _⟩ := (hc.out.mono B80).cell_at e1.out
    obtain ⟨zk, l1⟩ := (hk.out.mono B80).int_at e3.out
    obtain ⟨_, l2⟩ := (hk.out.mono B80).int_at e4.out
    have n1_ : (x.no != x.no) = false := by simp
    have n2_ : (d1 != d1) = false := by simp
    have n3_ : (d2 != d2) = false := by simp
    have n4_ : IntKind.i64.wrap ((q : Int) + 1) = ((q + 1 : Nat) : Int) := by rw [IntWalk.i64_in _ (by omega)]; omega
    have n5_ : ((q + 1 : Nat) : Int) < (ds.length : Int) := by omega
    have n6_ : (0 : Int) ≤ ((q + 1 : Nat) : Int) := by omega
    have n7_ : (q : Int) < (ds.length : Int) := by omega
    go_wp2_with fail
    (refine wp_region_grow (by kernel_rfl) (by kernel_rfl) ?_; (repeat (first | go_big_quiet_skip | (go_big_quiet_want; go_big_quiet_op; first | go_big_quiet_on | (apply Exists.intro; refine ⟨fun _ => ?_, ?_⟩; (focus (fail)); go_big_quiet_on)))); refine wpQuiet_nil ?_; rintro W1 ⟨⟨_, hW1⟩, rfl⟩)
    clear rS0 rS1 rS2 rS3 rS4 zS rY0 rY1 rY2 rY3 rY4 zY x0c zc l1 l2 zk n1_ n2_ n3_ n4_ n5_ n6_ n7_
    replace s1 := hide (s1.out.mono hW1)
    replace kC := hide (show Blk W1 bC 25 #[I c.base, I c.lapse, I c.swing, I c.wettest, I c.coldest, I c.warmest, I c.flo, I c.fhi] from kC.out.grow hW1)
    replace kD := hide (show Blk W1 bD 26 #[.slice (some ⟨gd, od, none⟩) days.length nd] from kD.out.grow hW1)
    replace kS := hide (show Blk W1 bS 58 #[.slice (some ⟨gc, oc, none⟩) b.cells.length nc, .slice Ap b.pairs.length np, I b.gain, I b.slack, I b.deep] from kS.out.grow hW1)
    replace kT := hide (show Blk W1 bT 3 #[I f] from kT.out.grow hW1)
    replace kX := hide (show Blk W1 bX 59 #[.slice As start.length ns] from kX.out.grow hW1)
    replace kF := hide (show Blk W1 bF 3 #[I x0.day] from kF.out.grow hW1)
    replace kY := hide (show Blk W1 bY 92 #[I x.no, I d1, I d2, I lo, I hi] from kY.out.grow hW1)
    have B90 := bup B80 hW1
    clear hW1 B80
    have rY0 : W1.cell? ⟨bY, 0, none⟩ = some (I x.no) := kY.out.cell 0
    have rY1 : W1.cell? ⟨bY, 1, none⟩ = some (I d1) := kY.out.cell 1
    have rY2 : W1.cell? ⟨bY, 2, none⟩ = some (I d2) := kY.out.cell 2
    have rY3 : W1.cell? ⟨bY, 3, none⟩ = some (I lo) := kY.out.cell 3
    have rY4 : W1.cell? ⟨bY, 4, none⟩ = some (I hi) := kY.out.cell 4
    have zY : bY < W1.heap.size := kY.out.lt
    go_wp2_with fail
    clear rY0 rY1 rY2 rY3 rY4 zY
    go_at_call 62
    refine ((hZ1.out ▸ ho1.out ▸ JW.out x j x0.day d1 X bX bF bD bC bS bT W1 B90 m2.out m4.out m3.out m5.out m6 (by omega) e1.out e5.out e1h.out kX.out kF.out kD.out kC.out kS.out kT.out)).mono ?_
    rintro e w7 ⟨rfl, hb⟩
    replace kC := hide (kC.out.grow hb)
    replace kD := hide (kD.out.grow hb)
    replace kS := hide (kS.out.grow hb)
    replace kT := hide (kT.out.grow hb)
    replace kX := hide (kX.out.grow hb)
    replace kF := hide (kF.out.grow hb)
    replace kY := hide (kY.out.grow hb)
    have B30 := bup B90 hb
    replace s1 := hide (s1.out.mono hb)
    clear hb B90
    have rY0 : w7.cell? ⟨bY, 0, none⟩ = some (I x.no) := kY.out.cell 0
    have rY1 : w7.cell? ⟨bY, 1, none⟩ = some (I d1) := kY.out.cell 1
    have rY2 : w7.cell? ⟨bY, 2, none⟩ = some (I d2) := kY.out.cell 2
    have rY3 : w7.cell? ⟨bY, 3, none⟩ = some (I lo) := kY.out.cell 3
    have rY4 : w7.cell? ⟨bY, 4, none⟩ = some (I hi) := kY.out.cell 4
    have zY : bY < w7.heap.size := kY.out.lt
    go_wp2_with fail
    clear rY0 rY1 rY2 rY3 rY4 zY
    go_at_call 62
    refine ((hZ2.out ▸ ho2.out ▸ JW.out x j x0.day d2 X bX bF bD bC bS bT w7 B30 m2.out m4.out m3.out m5.out m6 (by omega) e1.out e5.out e1h.out kX.out kF.out kD.out kC.out kS.out kT.out)).mono ?_
    rintro e w8 ⟨rfl, hb⟩
    replace kC := hide (kC.out.grow hb)
    replace kD := hide (kD.out.grow hb)
    replace kS := hide (kS.out.grow hb)
    replace kT := hide (kT.out.grow hb)
    replace kX := hide (kX.out.grow hb)
    replace kF := hide (kF.out.grow hb)
    replace kY := hide (kY.out.grow hb)
    have B31 := bup B30 hb
    replace s1 := hide (s1.out.mono hb)
    clear hb B30
    have rY0 : w8.cell? ⟨bY, 0, none⟩ = some (I x.no) := kY.out.cell 0
    have rY1 : w8.cell? ⟨bY, 1, none⟩ = some (I d1) := kY.out.cell 1
    have rY2 : w8.cell? ⟨bY, 2, none⟩ = some (I d2) := kY.out.cell 2
    have rY3 : w8.cell? ⟨bY, 3, none⟩ = some (I lo) := kY.out.cell 3
    have rY4 : w8.cell? ⟨bY, 4, none⟩ = some (I hi) := kY.out.cell 4
    have zY : bY < w8.heap.size := kY.out.lt
    cases o1
    case false => (go_wp2_with fail; go_roundw; (case rel => exact ⟨k + 1, by omega, by go_num, kC, kD, kS, kT, kX, kF, s1, hide B31⟩); (case measure => simp [intOf]; omega))
    cases o2
    case false => (go_wp2_with fail; go_roundw; (case rel => exact ⟨k + 1, by omega, by go_num, kC, kD, kS, kT, kX, kF, s1, hide B31⟩); (case measure => simp [intOf]; omega))
    obtain ⟨⟨v1, v2⟩, ⟨v3, v4⟩, v5, v6⟩ := E7.out rfl rfl
    clear E7
    have v7 : IntKind.i64.wrap (Z2 - Z1) = Z2 - Z1 := IntWalk.i64_in _ (by omega)
    rcases ilt (Z2 - Z1) lo with g1 | g1
    · have g3 : lo ≤ -65536 := by omega
      rcases ilt hi (Z2 - Z1) with g2 | g2
      · have g4 : 65536 ≤ hi := by omega
        omega
      · (go_wp2_with fail; go_roundw; (case rel => exact ⟨k + 1, by omega, by go_num, kC, kD, kS, kT, kX, kF, s1, hide B31⟩); (case measure => simp [intOf]; omega))
    · skip
      rcases ilt hi (Z2 - Z1) with g2 | g2
      · have g4 : 65536 ≤ hi := by omega
        (go_wp2_with fail; go_roundw; (case rel => exact ⟨k + 1, by omega, by go_num, kC, kD, kS, kT, kX, kF, s1, hide B31⟩); (case measure => simp [intOf]; omega))
      · (go_wp2_with fail; go_roundw; (case rel => exact ⟨k + 1, by omega, by go_num, kC, kD, kS, kT, kX, kF, s1, hide B31⟩); (case measure => simp [intOf]; omega))
end Go.Proofs.YtmjfdobjnnfafaaGreatDoor
