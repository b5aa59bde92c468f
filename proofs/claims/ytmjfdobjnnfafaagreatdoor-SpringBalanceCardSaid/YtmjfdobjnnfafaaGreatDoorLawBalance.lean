/- The law SpringBalance: what has come and what is left are all the water there was. Conditions stand in the theorems. -/
import Derived.Test.YtmjfdobjnnfafaaGreatDoorSpring28
import Derived.Test.YtmjfdobjnnfafaaGreatDoorNext
import Derived.Test.YtmjfdobjnnfafaaGreatDoorAgainSpring9
set_option linter.all false
namespace Go.Proofs.YtmjfdobjnnfafaaGreatDoor
open Go.RowKit

def stS (c : Climate) (h f : Int) (q : Int × Int) (x : Weather) : Int × Int := (q.1 + ((fallF c x h).2 + q.2 + (fallF c x h).1 - stepF c h f q.2 x), stepF c h f q.2 x)
/-- What has come and what is left behind some days. -/
def stF (c : Climate) (h f : Int) (l : List Weather) (q : Int × Int) : Int × Int := l.foldl (stS c h f) q
theorem relF_take {c : Climate} {h f : Int} : ∀ (l : List Weather) (k : Nat) (b : Int) (q : Int × Int), (∀ (i : Nat) x, l[i]? = some x → x.day = b + i) → k ≤ l.length → relF c h f (b + k) l q = stF c h f (l.take k) q
  | [], k, b, q, _, hk => by
    have : k = 0 := by simpa using hk
    subst this
    rfl
  | x :: xs, 0, b, q, hl, _ => by
    have := hl 0 x rfl
    rw [relF_stop (by omega)]
    rfl
  | x :: xs, k + 1, b, (a, l), hl, hk => by
    have h0 := hl 0 x rfl
    rw [relF_go (by omega)]
    have ih := relF_take (c := c) (h := h) (f := f) xs k (b + 1) (stS c h f (a, l) x) (fun i y hy => by have := hl (i + 1) y (by simpa using hy); push_cast at this; omega) (by simpa using hk)
    rw [show b + ((k + 1 : Nat) : Int) = b + 1 + k by push_cast; omega]
    exact ih
theorem spr_day {c : Climate} {s : Spring} (h : SprOk c s) {i : Nat} {x : Weather} (hx : s.days[i]? = some x) : x.day = beginF s + i := by
  obtain ⟨y, hy⟩ := getElem?_of_lt (xs := s.days) (k := 0) (by have := h.n1; omega)
  have hb : beginF s = y.day := by simp only [beginF]; rw [getD_of hy]
  rw [hb]
  exact (succB_ok h.succ i x y hx hy).2
theorem stF_snoc {c : Climate} {h f : Int} {l : List Weather} {k : Nat} {x : Weather} (hx : l[k]? = some x) (q : Int × Int) : stF c h f (l.take (k + 1)) q = stS c h f (stF c h f (l.take k) q) x := by
  unfold stF
  rw [take_succ_of hx, List.foldl_append]
  rfl
theorem stS_ok {c : Climate} {h f a b : Int} {x : Weather} (hc : ClimOk c) (hx : WeaOk c x) (hh : 0 ≤ h ∧ h ≤ 9000) (hf : 0 ≤ f ∧ f ≤ 2000) (ha : 0 ≤ a) (hb : 0 ≤ b) :
    0 ≤ (stS c h f (a, b) x).1 ∧ 0 ≤ (stS c h f (a, b) x).2 ∧ (stS c h f (a, b) x).1 + (stS c h f (a, b) x).2 = a + b + x.rain ∧ 0 ≤ x.rain ∧ x.rain ≤ 1000 := by
  obtain ⟨⟨f1, f2⟩, f3⟩ := fall_sum (c := c) (h := h) hx.rain.1
  have hm := (meltF_bd (f := f) hc (hx.t600 hc) hh hf).2
  have hr := hx.rain
  have hw := hc.wettest
  simp only [stS, stepF]
  omega
theorem relE_ok {c : Climate} {s : Spring} {h W f d : Int} (hc : climateOk c = true) (hs : springE c s = 0) (h1 : heightB h = true) (h2 : inB W 0 65536 = true) (h3 : inB f 0 2000 = true) (h4 : inB d (beginF s) (endF s) = true) : relE c s h W f d = 0 := by
  unfold relE
  rw [if_pos hs]
  unfold askedE
  rw [if_neg (by simp [hc]), if_neg (by simp [h1, h2, h3, h4])]
theorem relE_good {c : Climate} {s : Spring} {h W f d : Int} (hz : relE c s h W f d = 0) : climateOk c = true ∧ springE c s = 0 ∧ heightB h = true ∧ inB W 0 65536 = true ∧ inB f 0 2000 = true ∧ inB d (beginF s) (endF s) = true := by
  unfold relE at hz
  split at hz
  · rename_i h1
    rcases asked_cases c [heightB h, inB W 0 65536, inB f 0 2000, inB d (beginF s) (endF s)] with ⟨_, g0, g⟩ | ⟨g, _⟩
    · simp at g
      obtain ⟨g1, g2, g3, g4⟩ := g
      exact ⟨g0, h1, g1, g2, g3, g4⟩
    · exact absurd hz g
  · rename_i h1; exact absurd hz h1

set_option maxRecDepth 100000 in
set_option maxHeartbeats 8000000 in
theorem law_Balance_long (c : Climate) (no : Int) (vd : Value) (p : List Weather) (h W f : Int) (w : World) (hp : Pow10 w) (hd : Sl w 3 Weather.cells vd p) (g : decide ((40 : Int) < p.length) = true) :
    Calls Tryz.prog 10 #[c.v, .agg #[I no, vd], I h, I W, I f] w fun e w' => e = .returned (.bool true) ∧ Below w.heap.size w w' := by
  obtain ⟨Aw, nl, rfl, _, _, hlen, hA⟩ := hd.open_
  (try unfold Climate.v at *)
  (try unfold Weather.v at *)
  replace hd := hide hd
  replace hA := hide hA
  replace hp := hide hp
  (try unfold Climate.v at *)
  (try unfold Weather.v at *)
  go_enter Tryz.func10, Tryz.ntmps10
  have B0 : Below w.heap.size w w := Below.refl _ _
  go_wp2_with fail
  obtain ⟨w1, hw1⟩ : ∃ w1, w1 = ((w.alloc (.cells #[I c.base, I c.lapse, I c.swing, I c.wettest, I c.coldest, I c.warmest, I c.flo, I c.fhi] 25)).alloc (.cells #[I no, .slice Aw p.length nl] 28)) := ⟨_, rfl⟩
  have kC : Blk w1 (w.heap.size) 25 #[I c.base, I c.lapse, I c.swing, I c.wettest, I c.coldest, I c.warmest, I c.flo, I c.fhi] := by
    rw [hw1]
    refine Blk.alloc ?_ _
    have h := Blk.new w 25 #[I c.base, I c.lapse, I c.swing, I c.wettest, I c.coldest, I c.warmest, I c.flo, I c.fhi]
    first | exact h | simpa only [World.size_alloc] using h
  have kS : Blk w1 (w.heap.size + 1) 28 #[I no, .slice Aw p.length nl] := by
    rw [hw1]
    have h := Blk.new (w.alloc (.cells #[I c.base, I c.lapse, I c.swing, I c.wettest, I c.coldest, I c.warmest, I c.flo, I c.fhi] 25)) 28 #[I no, .slice Aw p.length nl]
    first | exact h | simpa only [World.size_alloc] using h
  have B1 : Below w.heap.size w w1 := by rw [hw1]; exact bup B0 (below2 _ _ _)
  rw [← hw1]
  clear hw1 B0
  obtain ⟨bS, hbS⟩ : ∃ b, w.heap.size + 1 = b := ⟨_, rfl⟩
  rw [hbS] at kS ⊢
  obtain ⟨bC, hbC⟩ : ∃ b, w.heap.size = b := ⟨_, rfl⟩
  rw [hbC] at kC ⊢
  replace kC := hide kC
  replace kS := hide kS
  clear hbC
  clear hbS
  go_at_call 22
  refine (law_sane w1 (hp.out.mono B1)).mono ?_
  rintro e w2 ⟨rfl, hb⟩
  replace kC := hide (kC.out.grow hb)
  replace kS := hide (kS.out.grow hb)
  have B2 := bup B1 hb
  clear hb B1
  obtain ⟨rC0, rC1, rC2, rC3, rC4, rC5, rC6, rC7⟩ := kC.out.cells8
  have zC : bC < w2.heap.size := kC.out.lt
  obtain ⟨rS0, rS1⟩ := kS.out.cells2
  have zS : bS < w2.heap.size := kS.out.lt
  go_wp2_with fail
  clear rC0 rC1 rC2 rC3 rC4 rC5 rC6 rC7 zC rS0 rS1 zS
  go_ret
  exact ⟨rfl, B2⟩

set_option maxRecDepth 100000 in
set_option maxHeartbeats 8000000 in
theorem law_Balance_bad (c : Climate) (no : Int) (vd : Value) (p : List Weather) (h W f : Int) (w : World) (hp : Pow10 w) (hd : Sl w 3 Weather.cells vd p) (g : decide ((40 : Int) < p.length) = false) (hb0 : ∀ x, p[0]? = some x → relE c ⟨no, p⟩ h W f x.day ≠ 0) :
    Calls Tryz.prog 10 #[c.v, .agg #[I no, vd], I h, I W, I f] w fun e w' => e = .returned (.bool true) ∧ Below w.heap.size w w' := by
  obtain ⟨Aw, nl, rfl, _, _, hlen, hA⟩ := hd.open_
  have J1 := fun (d : Int) w' (hb : Below w.heap.size w w') => spring_Release c no _ p h W f d w' (hd.mono hb)
  replace J1 := hide J1
  replace hb0 := hide hb0
  (try unfold Climate.v at *)
  (try unfold Weather.v at *)
  replace hd := hide hd
  replace hA := hide hA
  replace hp := hide hp
  (try unfold Climate.v at *)
  (try unfold Weather.v at *)
  go_enter Tryz.func10, Tryz.ntmps10
  have B0 : Below w.heap.size w w := Below.refl _ _
  go_wp2_with fail
  obtain ⟨w1, hw1⟩ : ∃ w1, w1 = ((w.alloc (.cells #[I c.base, I c.lapse, I c.swing, I c.wettest, I c.coldest, I c.warmest, I c.flo, I c.fhi] 25)).alloc (.cells #[I no, .slice Aw p.length nl] 28)) := ⟨_, rfl⟩
  have kC : Blk w1 (w.heap.size) 25 #[I c.base, I c.lapse, I c.swing, I c.wettest, I c.coldest, I c.warmest, I c.flo, I c.fhi] := by
    rw [hw1]
    refine Blk.alloc ?_ _
    have h := Blk.new w 25 #[I c.base, I c.lapse, I c.swing, I c.wettest, I c.coldest, I c.warmest, I c.flo, I c.fhi]
    first | exact h | simpa only [World.size_alloc] using h
  have kS : Blk w1 (w.heap.size + 1) 28 #[I no, .slice Aw p.length nl] := by
    rw [hw1]
    have h := Blk.new (w.alloc (.cells #[I c.base, I c.lapse, I c.swing, I c.wettest, I c.coldest, I c.warmest, I c.flo, I c.fhi] 25)) 28 #[I no, .slice Aw p.length nl]
    first | exact h | simpa only [World.size_alloc] using h
  have B1 : Below w.heap.size w w1 := by rw [hw1]; exact bup B0 (below2 _ _ _)
  rw [← hw1]
  clear hw1 B0
  obtain ⟨bS, hbS⟩ : ∃ b, w.heap.size + 1 = b := ⟨_, rfl⟩
  rw [hbS] at kS ⊢
  obtain ⟨bC, hbC⟩ : ∃ b, w.heap.size = b := ⟨_, rfl⟩
  rw [hbC] at kC ⊢
  replace kC := hide kC
  replace kS := hide kS
  clear hbC
  clear hbS
  go_at_call 22
  refine (law_sane w1 (hp.out.mono B1)).mono ?_
  rintro e w2 ⟨rfl, hb⟩
  replace kC := hide (kC.out.grow hb)
  replace kS := hide (kS.out.grow hb)
  have B2 := bup B1 hb
  clear hb B1
  obtain ⟨rC0, rC1, rC2, rC3, rC4, rC5, rC6, rC7⟩ := kC.out.cells8
  have zC : bC < w2.heap.size := kC.out.lt
  obtain ⟨rS0, rS1⟩ := kS.out.cells2
  have zS : bS < w2.heap.size := kS.out.lt
  go_wp2_with fail
  go_loopw [11, 12, 13, 14, 15, 16, 17, 18, 19, 31] (fun _ _ _ _ _ _ _ _ _ i wr => i = I 0 ∧ wr = w2) (fun _ _ _ _ _ _ _ _ _ _ _ => 0)
  case atStart => exact ⟨rfl, rfl⟩
  case round =>
  obtain ⟨rfl, rfl⟩ := hrel
  have kC := kC
  have kS := kS
  by_cases h0 : 0 < p.length
  case neg =>
    have h1 : p.length = 0 := by omega
    go_wp2_with fail
    go_ret
    exact ⟨rfl, B2⟩
  case pos =>
  obtain ⟨b, off, rfl, hbw⟩ := hA.out 0 h0
  obtain ⟨x, hx⟩ := getElem?_of_lt h0
  obtain ⟨hbx, e0, e1, e2⟩ := (hd.out.mono B2).weather_at hx
  rw [Nat.zero_mul, Nat.add_zero] at e0 e1 e2
  have hE := hb0.out x hx
  have JX := J1.out x.day
  have hV : relV c ⟨no, p⟩ h W f x.day = (0, 0) := by simp [relV, hE]
  rw [hV] at JX
  clear hV hb0 J1
  obtain ⟨E, hEE⟩ : ∃ E, relE c ⟨no, p⟩ h W f x.day = E := ⟨_, rfl⟩
  rw [hEE] at hE JX
  have hne : (E != 0) = true := by simpa using hE
  clear hEE hE
  replace JX := hide JX
  replace hx := hide hx
  go_wp2_with (go_at_call 45; refine (JX.out _ (bup B2 (below1 _ _))).mono ?_; rintro e wz ⟨rfl, hb⟩)
  go_ret
  exact ⟨rfl, bup (bup B2 (below1 _ _)) hb⟩

set_option maxRecDepth 100000 in
set_option maxHeartbeats 8000000 in
theorem law_Balance_ok (c : Climate) (no : Int) (vd : Value) (p : List Weather) (h W f : Int) (w : World) (hp : Pow10 w) (hd : Sl w 3 Weather.cells vd p) (g : decide ((40 : Int) < p.length) = false) (hc : climateOk c = true) (hsp : springE c ⟨no, p⟩ = 0) (hh : heightB h = true) (hW : inB W 0 65536 = true) (hf : inB f 0 2000 = true) :
    Calls Tryz.prog 10 #[c.v, .agg #[I no, vd], I h, I W, I f] w fun e w' => e = .returned (.bool true) ∧ Below w.heap.size w w' := by
  obtain ⟨Aw, nl, rfl, _, _, hlen, hA⟩ := hd.open_
  have hs := SprOk.of hsp
  have hl40 : p.length ≤ 40 := by simp at g; omega
  have hn1 : 1 ≤ p.length := hs.n1
  have hday := fun (i : Nat) (x : Weather) (hx : p[i]? = some x) => spr_day hs hx
  have hbeg := hs.beg
  obtain ⟨bg, hbg⟩ : ∃ b, beginF ⟨no, p⟩ = b := ⟨_, rfl⟩
  have hen : endF ⟨no, p⟩ = bg + p.length := by rw [← hbg]; rfl
  rw [hbg] at hbeg
  simp only [hbg] at hday
  have hst := fun (k : Nat) (hk : k ≤ p.length) => relF_take (c := c) (h := h) (f := f) p k bg (0, W) hday hk
  have JX : ∀ (k : Nat), k ≤ p.length → ∀ w', Below w.heap.size w w' → Calls Tryz.prog 45 #[c.v, .agg #[I no, .slice Aw p.length nl], I h, I W, I f, I (bg + k)] w' fun en w'' => en = .returned (.tuple #[I (stF c h f (p.take k) (0, W)).1, I (stF c h f (p.take k) (0, W)).2, I 0]) ∧ Below w'.heap.size w' w'' := by
    intro k hk w' hb
    have h4 : relE c ⟨no, p⟩ h W f (bg + k) = 0 := relE_ok hc hsp hh hW hf (by rw [hbg, hen]; exact inB_true.2 (by omega))
    have h5 : relV c ⟨no, p⟩ h W f (bg + k) = stF c h f (p.take k) (0, W) := by rw [← hst k hk]; simp [relV, h4]
    have := spring_Release c no _ p h W f (bg + k) w' (hd.mono hb)
    rwa [h4, h5] at this
  have hmem : ∀ x ∈ p, WeaOk c x := hs.mem
  have hwok : ∀ x ∈ p, weatherOk c x = true := fun x hx => by
    have h6 : linkedB c p = true := by
      have : springOk c ⟨no, p⟩ = true := by
        cases h7 : springOk c ⟨no, p⟩ with
        | true => rfl
        | false => simp [springE, hc, h7] at hsp
      simp only [springOk, Bool.and_eq_true] at this
      exact this.2
    obtain ⟨i, hi⟩ := List.getElem?_of_mem hx
    have := List.all_eq_true.1 h6 i (List.mem_range.2 (List.getElem?_eq_some_iff.1 hi).1)
    unfold linkedAt at this
    rw [getD_of hi] at this
    simp only [Bool.and_eq_true] at this
    exact this.1
  have HN := fun (x : Weather) (hx : x ∈ p) (X : Int) (h0 : 0 ≤ X) (h1 : X ≤ 1000000000000) w' => law_next c x h f X w' hc (hwok x hx) hh hf h0 h1
  have hstep := fun (a b : Int) (x : Weather) (hx : x ∈ p) (ha : 0 ≤ a) (hb : 0 ≤ b) => stS_ok (c := c) (h := h) (f := f) hs.clim (hmem x hx) (heightB_bd hh) (inB_true.1 hf) ha hb
  have hW0 := inB_true.1 hW
  replace JX := hide JX
  replace HN := hide HN
  replace hstep := hide hstep
  replace hday := hide hday
  clear hst hwok hmem hs hsp hen hbg hh hW hf hc
  (try unfold Climate.v at *)
  (try unfold Weather.v at *)
  replace hd := hide hd
  replace hA := hide hA
  replace hp := hide hp
  (try unfold Climate.v at *)
  (try unfold Weather.v at *)
  go_enter Tryz.func10, Tryz.ntmps10
  have B0 : Below w.heap.size w w := Below.refl _ _
  go_wp2_with fail
  obtain ⟨w1, hw1⟩ : ∃ w1, w1 = ((w.alloc (.cells #[I c.base, I c.lapse, I c.swing, I c.wettest, I c.coldest, I c.warmest, I c.flo, I c.fhi] 25)).alloc (.cells #[I no, .slice Aw p.length nl] 28)) := ⟨_, rfl⟩
  have kC : Blk w1 (w.heap.size) 25 #[I c.base, I c.lapse, I c.swing, I c.wettest, I c.coldest, I c.warmest, I c.flo, I c.fhi] := by
    rw [hw1]
    refine Blk.alloc ?_ _
    have h := Blk.new w 25 #[I c.base, I c.lapse, I c.swing, I c.wettest, I c.coldest, I c.warmest, I c.flo, I c.fhi]
    first | exact h | simpa only [World.size_alloc] using h
  have kS : Blk w1 (w.heap.size + 1) 28 #[I no, .slice Aw p.length nl] := by
    rw [hw1]
    have h := Blk.new (w.alloc (.cells #[I c.base, I c.lapse, I c.swing, I c.wettest, I c.coldest, I c.warmest, I c.flo, I c.fhi] 25)) 28 #[I no, .slice Aw p.length nl]
    first | exact h | simpa only [World.size_alloc] using h
  have B1 : Below w.heap.size w w1 := by rw [hw1]; exact bup B0 (below2 _ _ _)
  rw [← hw1]
  clear hw1 B0
  obtain ⟨bS, hbS⟩ : ∃ b, w.heap.size + 1 = b := ⟨_, rfl⟩
  rw [hbS] at kS ⊢
  obtain ⟨bC, hbC⟩ : ∃ b, w.heap.size = b := ⟨_, rfl⟩
  rw [hbC] at kC ⊢
  replace kC := hide kC
  replace kS := hide kS
  clear hbC
  clear hbS
  go_at_call 22
  refine (law_sane w1 (hp.out.mono B1)).mono ?_
  rintro e w2 ⟨rfl, hb⟩
  replace kC := hide (kC.out.grow hb)
  replace kS := hide (kS.out.grow hb)
  have B2 := bup B1 hb
  clear hb B1
  obtain ⟨rC0, rC1, rC2, rC3, rC4, rC5, rC6, rC7⟩ := kC.out.cells8
  have zC : bC < w2.heap.size := kC.out.lt
  obtain ⟨rS0, rS1⟩ := kS.out.cells2
  have zS : bS < w2.heap.size := kS.out.lt
  go_wp2_with fail
  clear rC0 rC1 rC2 rC3 rC4 rC5 rC6 rC7 zC rS0 rS1 zS
  go_loopw [11, 12, 13, 14, 15, 16, 17, 18, 19, 31] (fun sm xx _ _ _ _ _ _ _ i wr => ∃ (k : Nat) (a b : Int), k ≤ p.length ∧ i = I k ∧ sm = I (a + b) ∧ xx = I b ∧ Hid (stF c h f (p.take k) (0, W) = (a, b)) ∧ 0 ≤ a ∧ 0 ≤ b ∧ a + b ≤ 65536 + 1000 * k ∧ Hid (Blk wr bC 25 #[I c.base, I c.lapse, I c.swing, I c.wettest, I c.coldest, I c.warmest, I c.flo, I c.fhi]) ∧ Hid (Blk wr bS 28 #[I no, .slice Aw p.length nl]) ∧ Hid (Below w.heap.size w wr)) (fun _ _ _ _ _ _ _ _ _ i _ => p.length - (intOf i).toNat)
  case atStart => exact ⟨0, 0, W, Nat.zero_le _, rfl, by simp, rfl, hide rfl, by omega, hW0.1, by omega, kC, kS, hide B2⟩
  case round =>
  obtain ⟨k, a, b, hk, rfl, rfl, rfl, hst, ha, hb, hab, hC9, hS9, hbw⟩ := hrel
  clear kC kS B2
  have kC := hC9
  have kS := hS9
  have B9 := hbw.out
  clear hC9 hS9 hbw
  by_cases hlt : k < p.length
  case neg =>
    go_wp2_with fail
    go_ret
    exact ⟨rfl, B9⟩
  case pos =>
  obtain ⟨bx, ox, rfl, hbx⟩ := hA.out k hlt
  obtain ⟨x, hx⟩ := getElem?_of_lt hlt
  have hxm := List.mem_of_getElem? hx
  have hdx := hday.out k x hx
  have hsn := stF_snoc (c := c) (h := h) (f := f) hx (0, W)
  rw [hst.out] at hsn
  have J1 := JX.out k (by omega)
  rw [hst.out, ← hdx] at J1
  have J2 := JX.out (k + 1) (by omega)
  rw [hsn] at J2
  obtain ⟨t1, t2, t3, t4, t5⟩ := hstep.out a b x hxm ha hb
  have J3 := HN.out x hxm b hb (by omega)
  obtain ⟨y, hy⟩ : ∃ y, stepF c h f b x = y := ⟨_, rfl⟩
  have hy2 : (stS c h f (a, b) x).2 = y := hy
  obtain ⟨a2, ha2⟩ : ∃ a2, (stS c h f (a, b) x).1 = a2 := ⟨_, rfl⟩
  have hs3 : stS c h f (a, b) x = (a2, y) := by rw [← ha2, ← hy2]
  rw [hy2, ha2] at t3
  rw [ha2] at t1
  rw [hy2] at t2
  rw [hs3] at J2 hsn
  rw [hy] at J3
  have hrw : a2 = a + b + x.rain - y := by omega
  have hd2 : bg + ((k + 1 : Nat) : Int) = x.day + 1 := by push_cast; omega
  rw [hd2] at J2
  have hxd : 0 ≤ x.day ∧ x.day ≤ 1048700 := by omega
  obtain ⟨x1, x2⟩ := hxd
  obtain ⟨hzx, e0, e1, e2⟩ := (hd.out.mono B9).weather_at hx
  have q1 : IntKind.i64.wrap (a + b) = a + b := IntWalk.i64_in _ (by omega)
  have q2 : IntKind.i64.wrap (a + b + x.rain) = a + b + x.rain := IntWalk.i64_in _ (by omega)
  have q3 : IntKind.i64.wrap (x.day + 1) = x.day + 1 := IntWalk.i64_in _ (by omega)
  have q4 : IntKind.i64.wrap ((p.length : Int) - 1) = (p.length : Int) - 1 := IntWalk.i64_in _ (by omega)
  have q5 : IntKind.i64.wrap (a2 + y) = a + b + x.rain := by rw [IntWalk.i64_in _ (by omega)]; omega
  (try unfold Climate.v at *)
  (try unfold Weather.v at *)
  replace J1 := hide J1
  replace J2 := hide J2
  replace J3 := hide J3
  replace hx := hide hx
  replace hxm := hide hxm
  replace hdx := hide hdx
  replace hsn := hide hsn
  replace hy := hide hy
  replace hy2 := hide hy2
  replace ha2 := hide ha2
  replace hs3 := hide hs3
  replace hrw := hide hrw
  replace t3 := hide t3
  replace hd2 := hide hd2
  replace hst := hide hst
  clear JX HN hstep hday hA
  obtain ⟨rC0, rC1, rC2, rC3, rC4, rC5, rC6, rC7⟩ := kC.out.cells8
  have zC : bC < wr.heap.size := kC.out.lt
  have zC_1 : bC < wr.heap.size + 1 := by omega
  obtain ⟨rS0, rS1⟩ := kS.out.cells2
  have zS : bS < wr.heap.size := kS.out.lt
  have zS_1 : bS < wr.heap.size + 1 := by omega
  go_wp2_with fail
  clear rC0 rC1 rC2 rC3 rC4 rC5 rC6 rC7 zC zC_1 rS0 rS1 zS zS_1
  obtain ⟨w3, hw3⟩ : ∃ w3, w3 = (wr.alloc (.cells #[I x.day, I x.temp, I x.rain] 36)) := ⟨_, rfl⟩
  have kX : Blk w3 (wr.heap.size) 36 #[I x.day, I x.temp, I x.rain] := by
    rw [hw3]
    have h := Blk.new wr 36 #[I x.day, I x.temp, I x.rain]
    first | exact h | simpa only [World.size_alloc] using h
  replace kC : Hid (Blk w3 bC 25 #[I c.base, I c.lapse, I c.swing, I c.wettest, I c.coldest, I c.warmest, I c.flo, I c.fhi]) := hide (by rw [hw3]; exact (kC.out).alloc _)
  replace kS : Hid (Blk w3 bS 28 #[I no, .slice (some ⟨bx, ox, none⟩) p.length nl]) := hide (by rw [hw3]; exact (kS.out).alloc _)
  have B3 : Below w.heap.size w w3 := by rw [hw3]; exact bup B9 (below1 _ _)
  rw [← hw3]
  clear hw3 B9
  obtain ⟨bX, hbX⟩ : ∃ b, wr.heap.size = b := ⟨_, rfl⟩
  rw [hbX] at kX ⊢
  replace kX := hide kX
  clear hbX
  go_at_call 45
  refine (J1.out w3 B3).mono ?_
  rintro e w4 ⟨rfl, hb⟩
  replace kC := hide (kC.out.grow hb)
  replace kS := hide (kS.out.grow hb)
  replace kX := hide (kX.out.grow hb)
  have B4 := bup B3 hb
  clear hb B3
  obtain ⟨rC0, rC1, rC2, rC3, rC4, rC5, rC6, rC7⟩ := kC.out.cells8
  have zC : bC < w4.heap.size := kC.out.lt
  obtain ⟨rS0, rS1⟩ := kS.out.cells2
  have zS : bS < w4.heap.size := kS.out.lt
  obtain ⟨rX0, rX1, rX2⟩ := kX.out.cells3
  have zX : bX < w4.heap.size := kX.out.lt
  go_upto_region 15 with fail
  go_wp2_with fail
  clear rC0 rC1 rC2 rC3 rC4 rC5 rC6 rC7 zC rS0 rS1 zS rX0 rX1 rX2 zX
  go_at_call 53
  refine (J3.out w4).mono ?_
  rintro e w5 ⟨rfl, hb⟩
  replace kC := hide (kC.out.grow hb)
  replace kS := hide (kS.out.grow hb)
  replace kX := hide (kX.out.grow hb)
  have B5 := bup B4 hb
  clear hb B4
  obtain ⟨rC0, rC1, rC2, rC3, rC4, rC5, rC6, rC7⟩ := kC.out.cells8
  have zC : bC < w5.heap.size := kC.out.lt
  obtain ⟨rS0, rS1⟩ := kS.out.cells2
  have zS : bS < w5.heap.size := kS.out.lt
  obtain ⟨rX0, rX1, rX2⟩ := kX.out.cells3
  have zX : bX < w5.heap.size := kX.out.lt
  by_cases hlast : k + 1 < p.length
  case pos =>
    have hl2 : (k : Int) < (p.length : Int) - 1 := by omega
    go_wp2_with fail
    go_roundw
    case rel => exact ⟨k + 1, a2, y, by omega, by go_num, by rw [show a2 + y = a + b + x.rain from t3.out], rfl, hsn, t1, t2, by have := t3.out; push_cast; omega, kC, kS, hide B5⟩
    case measure => simp [intOf]; omega
  case neg =>
  have hl2 : (p.length : Int) - 1 ≤ (k : Int) := by omega
  go_wp2_with (go_at_call 45; refine (J2.out _ B5).mono ?_; rintro e wz ⟨rfl, hbz⟩)
  go_ret
  exact ⟨rfl, bup B5 hbz⟩
theorem law_Balance (c : Climate) (no : Int) (vd : Value) (p : List Weather) (h W f : Int) (w : World) (hp : Pow10 w) (hd : Sl w 3 Weather.cells vd p) :
    Calls Tryz.prog 10 #[c.v, .agg #[I no, vd], I h, I W, I f] w fun e w' => e = .returned (.bool true) ∧ Below w.heap.size w w' := by
  cases g : decide ((40 : Int) < p.length) with
  | true => exact law_Balance_long c no vd p h W f w hp hd g
  | false =>
    by_cases hb : ∀ x, p[0]? = some x → relE c ⟨no, p⟩ h W f x.day ≠ 0
    · exact law_Balance_bad c no vd p h W f w hp hd g hb
    · have : ∃ x, p[0]? = some x ∧ relE c ⟨no, p⟩ h W f x.day = 0 := by
        simp only [ne_eq, Classical.not_forall, Classical.not_not] at hb
        obtain ⟨x, hx, h2⟩ := hb
        exact ⟨x, hx, h2⟩
      obtain ⟨x, _, h2⟩ := this
      obtain ⟨g1, g2, g3, g4, g5, _⟩ := relE_good h2
      exact law_Balance_ok c no vd p h W f w hp hd g g1 g2 g3 g4 g5
end Go.Proofs.YtmjfdobjnnfafaaGreatDoor
