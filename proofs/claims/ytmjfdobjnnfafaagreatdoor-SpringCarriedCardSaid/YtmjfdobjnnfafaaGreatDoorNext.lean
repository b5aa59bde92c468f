/- The law's step from a morning to the next one. Conditions stand in the theorems. -/
import Derived.Test.YtmjfdobjnnfafaaGreatDoorSpring2Pack
set_option linter.all false
namespace Go.Proofs.YtmjfdobjnnfafaaGreatDoor
open Go.RowKit

/-- The snow on the next morning. -/
def stepF (c : Climate) (h f X : Int) (x : Weather) : Int := max 0 (X + (fallF c x h).1 - meltF c x h f)
theorem dayE1_ok {c : Climate} {x : Weather} {l : List Bool} (hc : climateOk c = true) (hx : weatherOk c x = true) (hl : l.all id = true) : dayE1 c x l = 0 := by
  unfold dayE1 askedE
  rw [if_neg (by simp [hc]), if_neg (by simp [hx]), if_neg (by simp [hc]), if_neg]
  simpa using hl
set_option maxRecDepth 100000 in
set_option maxHeartbeats 4000000 in
theorem law_next (c : Climate) (x : Weather) (h f X : Int) (w : World) (hc : climateOk c = true) (hx : weatherOk c x = true) (hh : heightB h = true) (hf : inB f 0 2000 = true) (h0 : 0 ≤ X) (h1 : X ≤ 1000000000000) :
    Calls Tryz.prog 53 #[c.v, x.v, I h, I f, I X] w fun e w' => e = .returned (.tuple #[I (stepF c h f X x), .bool true]) ∧ Below w.heap.size w w' := by
  have H1 := fun w => spring_Snow c x h w
  have H2 := fun w => spring_Melt c x h f w
  have e1 : dayE1 c x [heightB h] = 0 := dayE1_ok hc hx (by simp [hh])
  have e2 : dayE1 c x [heightB h, inB f 0 2000] = 0 := dayE1_ok hc hx (by simp [hh, hf])
  have v1 : snowV c x h = fallF c x h := by simp [snowV, e1]
  have v2 : meltV c x h f = meltF c x h f := by simp [meltV, e2]
  rw [e1, v1] at H1
  rw [e2, v2] at H2
  have hco := ClimOk.of hc
  have hxo := WeaOk.of hx
  obtain ⟨m1, m2⟩ := (meltF_bd hco (hxo.t600 hco) (heightB_bd hh) (inB_true.1 hf)).2
  have f4 : 0 ≤ (fallF c x h).1 ∧ (fallF c x h).1 ≤ 1000 := by
    have hr := hxo.rain
    have hw := hco.wettest
    unfold fallF
    split <;> simp <;> omega
  obtain ⟨f1, f2⟩ := f4
  obtain ⟨y, hy⟩ : ∃ y, stepF c h f X x = y := ⟨_, rfl⟩
  rw [hy]
  unfold stepF at hy
  obtain ⟨sn, hsn⟩ : ∃ sn, (fallF c x h).1 = sn := ⟨_, rfl⟩
  obtain ⟨ra, hra⟩ : ∃ ra, (fallF c x h).2 = ra := ⟨_, rfl⟩
  obtain ⟨me, hme⟩ : ∃ me, meltF c x h f = me := ⟨_, rfl⟩
  simp only [hsn, hra, hme] at H1 H2 hy m1 m2 f1 f2
  clear hsn hra hme v1 v2 e1 e2 hco hxo hc hx hh hf
  unfold Climate.v Weather.v at *
  replace H1 := hide H1
  replace H2 := hide H2
  rcases ilt 0 (X + sn - me) with hp | hp
  · have hy2 : X + sn - me = y := by omega
    replace hy := hide hy
    replace hy2 := hide hy2
    go_enter Tryz.func53, Tryz.ntmps53
    go_wp2_with (first | (go_at_call 33; refine (H1.out _).mono ?_; clear H1; rintro e w1 ⟨rfl, hb1⟩; have hc1 := fun o => (bcell hb1).1 w.heap.size o (by simp <;> omega); have hc2 := fun o => (bcell hb1).1 (w.heap.size + 1) o (by simp <;> omega); have hz1 := hb1.size; simp at hz1) | (go_at_call 35; refine (H2.out _).mono ?_; clear H2; rintro e w2 ⟨rfl, hb2⟩))
    rw [hy2.out]
    go_wp2_with fail
    go_ret2
    exact ⟨rfl, bup (bup (below2 _ _ _) hb1) hb2⟩
  · have hy2 : y = 0 := by omega
    subst hy2
    replace hy := hide hy
    go_enter Tryz.func53, Tryz.ntmps53
    go_wp2_with (first | (go_at_call 33; refine (H1.out _).mono ?_; clear H1; rintro e w1 ⟨rfl, hb1⟩; have hc1 := fun o => (bcell hb1).1 w.heap.size o (by simp <;> omega); have hc2 := fun o => (bcell hb1).1 (w.heap.size + 1) o (by simp <;> omega); have hz1 := hb1.size; simp at hz1) | (go_at_call 35; refine (H2.out _).mono ?_; clear H2; rintro e w2 ⟨rfl, hb2⟩))
    go_wp2_with fail
    go_ret2
    exact ⟨rfl, bup (bup (below2 _ _ _) hb1) hb2⟩
end Go.Proofs.YtmjfdobjnnfafaaGreatDoor
