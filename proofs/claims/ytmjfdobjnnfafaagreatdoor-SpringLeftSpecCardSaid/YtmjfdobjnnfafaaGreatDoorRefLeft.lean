/- The reference's Fits, springs and Left. Conditions stand in the theorems. -/
import Derived.Test.YtmjfdobjnnfafaaGreatDoorOneLeft
import Derived.Test.YtmjfdobjnnfafaaGreatDoorRef7
set_option linter.all false
namespace Go.Proofs.YtmjfdobjnnfafaaGreatDoor
open Go.RowKit


set_option maxRecDepth 100000 in
set_option maxHeartbeats 4000000 in
theorem ref_springs (c : Climate) (v : Value) (xs : List SprL) (w : World) (hv : SprsAt w v xs) :
    Calls Tryz.prog 146 #[c.v, v] w fun e w' => e = .returned (I (sprsE c xs)) ∧ Below w.heap.size w w' := by
  obtain ⟨A, n, rfl, _, _, hlen, hA⟩ := hv.1.open_
  have HX := hide (fun (x : SprL) w hd => ref_CheckSpring c x.no x.dv x.days w hd)
  have hbad : ∀ x ∈ xs, springE c ⟨x.no, x.days⟩ ≠ 0 → sprsE c xs = 62 := fun x hx h => by
    unfold sprsE
    rw [if_pos]
    rw [List.all_eq_false]
    exact ⟨x, hx, fun hh => h (of_decide_eq_true hh)⟩
  have hgood : (∀ x ∈ xs, springE c ⟨x.no, x.days⟩ = 0) → sprsE c xs = if 16 < xs.length then 2 else 0 := fun h => by
    unfold sprsE
    rw [if_neg]
    have : xs.all (fun x => decide (springE c x.spring = 0)) = true := List.all_eq_true.2 fun x hx => decide_eq_true (h x hx)
    rw [this]
    simp
  obtain ⟨R, hR⟩ : ∃ R, sprsE c xs = R := ⟨_, rfl⟩
  rw [hR] at hbad hgood ⊢
  clear hR
  replace hbad := hide hbad
  replace hgood := hide hgood
  replace hv := hide hv
  replace hA := hide hA
  unfold Climate.v at *
  go_enter Tryz.func146, Tryz.ntmps146
  go_wp2_with fail
  obtain ⟨W0, hW0⟩ : ∃ W0, W0 = w.alloc (.cells #[I c.base, I c.lapse, I c.swing, I c.wettest, I c.coldest, I c.warmest, I c.flo, I c.fhi] 25) := ⟨_, rfl⟩
  have kC := hide (show Blk W0 w.heap.size 25 #[I c.base, I c.lapse, I c.swing, I c.wettest, I c.coldest, I c.warmest, I c.flo, I c.fhi] by rw [hW0]; exact Blk.new _ _ _)
  have kB := hide (show Below w.heap.size w W0 by rw [hW0]; exact below1 _ _)
  rw [← hW0]
  clear hW0
  go_loopw [5] (fun i wr => ∃ k : Nat, k ≤ xs.length ∧ i = I k ∧ Hid (∀ x ∈ xs.take k, springE c ⟨x.no, x.days⟩ = 0) ∧ Hid (Below W0.heap.size W0 wr)) (fun i _ => xs.length - (intOf i).toNat)
  case atStart => exact ⟨0, Nat.zero_le _, rfl, hide (by simp), hide (Below.refl _ _)⟩
  case round =>
    obtain ⟨k, hk, rfl, hall, hbw⟩ := hrel
    by_cases hlt : k < xs.length
    · obtain ⟨b, off, rfl, hbb⟩ := hA.out k hlt
      obtain ⟨x, hx⟩ := getElem?_of_lt hlt
      have hxm := List.mem_of_getElem? hx
      have hsw := hv.out.mono (bup kB.out hbw.out)
      obtain ⟨z1, e0, e1⟩ := hsw.1.sprl_at hx
      have hdv := hsw.2 x hxm
      obtain ⟨Ax, nx, hdvx, _⟩ := hdv.open_
      have HY := HX.out x
      rw [hdvx] at e1 hdv HY
      obtain ⟨_, q0, q1, q2, q3, q4, q5, q6, q7⟩ := (kC.out.grow hbw.out).clim
      have hb2 := hbad.out x hxm
      have hnx : springE c ⟨x.no, x.days⟩ = 0 → ∀ y ∈ xs.take (k + 1), springE c ⟨y.no, y.days⟩ = 0 := fun h y hy => by
        rw [take_succ_of hx] at hy
        rcases List.mem_append.1 hy with hy | hy
        · exact hall.out y hy
        · rw [List.mem_singleton.1 hy]; exact h
      obtain ⟨E, hE⟩ : ∃ e, springE c ⟨x.no, x.days⟩ = e := ⟨_, rfl⟩
      rw [hE] at HY hb2 hnx
      clear hE hsw hdvx hbad hgood HX
      (try unfold Climate.v at HY)
      replace HY := hide HY
      replace hdv := hide hdv
      replace hx := hide hx
      replace hnx := hide hnx
      replace hb2 := hide hb2
      by_cases h0 : E = 0
      · subst h0
        go_wp2_with fail
        (refine wp_region_grow (by kernel_rfl) (by kernel_rfl) ?_; (repeat (first | go_big_quiet_skip | (go_big_quiet_want; go_big_quiet_op; first | go_big_quiet_on | (apply Exists.intro; refine ⟨fun _ => ?_, ?_⟩; (focus ((go_at_call 28; exact calls_grew (HY.out _ (hdv.out.mono (Grew.below _)))))); go_big_quiet_on)))); refine wpQuiet_nil ?_; rintro W1 ⟨⟨_, hW1⟩, rfl⟩)
        go_wp2_with fail
        go_roundw
        case rel => exact ⟨k + 1, by omega, by go_num, hide (hnx.out (by trivial)), hide (bup hbw.out hW1)⟩
        case measure => simp [intOf]; omega
      · have h1 : (E != 0) = true := by simpa using h0
        have h2 := hb2.out h0
        subst h2
        go_wp2_with fail
        (refine wp_region_grow (by kernel_rfl) (by kernel_rfl) ?_; (repeat (first | go_big_quiet_skip | (go_big_quiet_want; go_big_quiet_op; first | go_big_quiet_on | (apply Exists.intro; refine ⟨fun _ => ?_, ?_⟩; (focus ((go_at_call 28; exact calls_grew (HY.out _ (hdv.out.mono (Grew.below _)))))); go_big_quiet_on)))); refine wpQuiet_nil ?_; rintro W1 ⟨⟨_, hW1⟩, rfl⟩)
        go_wp2_with fail
        go_ret
        exact ⟨rfl, bup kB.out (bup hbw.out hW1)⟩
    · have he : k = xs.length := by omega
      subst he
      have h1 := hall.out
      rw [List.take_length] at h1
      have h2 := hgood.out h1
      rcases Nat.lt_or_ge 16 xs.length with h | h
      · rw [if_pos h] at h2
        subst h2
        have h3 : (16 : Int) < (xs.length : Int) := by omega
        clear h1
        go_wp2_with fail
        go_ret
        exact ⟨rfl, bup kB.out hbw.out⟩
      · rw [if_neg (by omega)] at h2
        subst h2
        have h3 : (xs.length : Int) ≤ 16 := by omega
        clear h1
        go_wp2_with fail
        go_ret
        exact ⟨rfl, bup kB.out hbw.out⟩

set_option maxRecDepth 100000 in
set_option maxHeartbeats 4000000 in
theorem ref_Left (c : Climate) (v vs : Value) (l : List Weather) (xs : List SprL) (w : World) (hv : Sl w 3 Weather.cells v l) (hs : SprsAt w vs xs) :
    Calls Tryz.prog 69 #[c.v, v, vs] w fun e w' => ∃ vr, e = .returned (.tuple #[vr, I (leftE c l xs)]) ∧ Own w' w.heap.size 3 1 intC vr (leftV c l xs) ∧ Below w.heap.size w w' := by
  have H1 := fun w hv => ref_CheckLog c v l w hv
  obtain ⟨A, n, rfl, _, _, hlen, hA⟩ := hs.1.open_
  have H2 := fun w hs => ref_springs c (.slice A xs.length n) xs w hs
  by_cases hE : logE c l = 0
  · by_cases hS : sprsE c xs = 0
    · have hlo := LogOk.of hE
      obtain ⟨hso, hx16⟩ := sprsE_zero hS
      replace hso := hide hso
      rw [hE] at H1
      rw [hS] at H2
      have hL1 : risingB (xs.map SprL.no) = false → leftE c l xs = 1 ∧ leftV c l xs = [] := fun h => by
        have : leftE c l xs = 1 := by simp [leftE, hE, hS, h]
        exact ⟨this, by simp [leftV, this]⟩
      have hL0 : risingB (xs.map SprL.no) = true → leftE c l xs = 0 ∧ leftV c l xs = leftF c l xs := fun h => by
        have : leftE c l xs = 0 := by simp [leftE, hE, hS, h]
        exact ⟨this, by simp [leftV, this]⟩
      have HA := hide (fun (x : SprL) (hx : x ∈ xs) w hv hd => ref_agrees c v x.dv l x.days w hlo.clim hlo.mem (hso.out x hx).n1 (hso.out x hx).n2 (hso.out x hx).succ hv hd)
      obtain ⟨le, hle⟩ : ∃ e, leftE c l xs = e := ⟨_, rfl⟩
      obtain ⟨lv, hlv⟩ : ∃ e, leftV c l xs = e := ⟨_, rfl⟩
      rw [hle, hlv] at hL1 hL0 ⊢
      clear hle hlv hE hS
      (try unfold Climate.v at *)
      replace hL1 := hide hL1
      replace hL0 := hide hL0
      replace hv := hide hv
      replace hs := hide hs
      replace hA := hide hA
      replace H1 := hide H1
      replace H2 := hide H2
      replace hlo := hide hlo
      go_enter Tryz.func69, Tryz.ntmps69
      go_wp2_with (first | (go_at_call 26; refine (H1.out _ (hv.out.mono (below1 _ _))).mono ?_; clear H1; rintro e w1 ⟨rfl, hb1⟩; obtain ⟨_, q0, q1, q2, q3, q4, q5, q6, q7⟩ := ((Blk.new w 25 #[I c.base, I c.lapse, I c.swing, I c.wettest, I c.coldest, I c.warmest, I c.flo, I c.fhi]).grow hb1).clim) | (go_at_call 146; refine (H2.out _ (hs.out.mono (bup (below1 _ _) hb1))).mono ?_; clear H2; rintro e w2 ⟨rfl, hb2⟩))
      have kC := hide (((Blk.new w 25 #[I c.base, I c.lapse, I c.swing, I c.wettest, I c.coldest, I c.warmest, I c.flo, I c.fhi]).grow hb1).grow hb2)
      have kB := hide (bup (bup (below1 _ _) hb1) hb2)
      have hzz : w.heap.size + 1 ≤ w2.heap.size := by have := hb1.size; have := hb2.size; simp at *; omega
      clear hb1 hb2 q0 q1 q2 q3 q4 q5 q6 q7
      go_loopw [11] (fun i wr => ∃ k : Nat, (k ≤ xs.length ∨ k = 1) ∧ i = I k ∧ Hid (∀ j, j < k → risesAt (xs.map SprL.no) j = true) ∧ Hid (Below w2.heap.size w2 wr)) (fun i _ => xs.length - (intOf i).toNat)
      case atStart => exact ⟨0, .inl (Nat.zero_le _), rfl, hide (fun j hj => absurd hj (by omega)), hide (Below.refl _ _)⟩
      case round =>
        obtain ⟨k, hk0, rfl, hall, hbw⟩ := hrel
        by_cases hlt : k < xs.length
        · obtain ⟨y, hy⟩ := getElem?_of_lt hlt
          have hsw := hs.out.1.mono (bup kB.out hbw.out)
          rcases Nat.eq_zero_or_pos k with h0 | h0
          · subst h0
            clear hsw
            have k9 : decide ((0 : Int) < ((0 : Nat) : Int)) = false := rfl
            go_wp2_with fail
            (refine wp_region_grow (by kernel_rfl) (by kernel_rfl) ?_; (repeat (first | go_big_quiet_skip | (go_big_quiet_want; go_big_quiet_op; first | go_big_quiet_on | (apply Exists.intro; refine ⟨fun _ => ?_, ?_⟩; (focus (fail)); go_big_quiet_on)))); refine wpQuiet_nil ?_; rintro W1 ⟨⟨_, hW1⟩, rfl⟩)
            go_wp2_with fail
            go_roundw
            case rel => exact ⟨1, .inl (by omega), by simp, hide (fun j hj => by
              obtain rfl : j = 0 := by omega
              exact left_z _), hide (bup hbw.out hW1)⟩
            case measure => simp [intOf]; omega
          · obtain ⟨m, hm⟩ : ∃ m, k = m + 1 := ⟨k - 1, by omega⟩
            obtain ⟨b, off, rfl, hbb⟩ := hA.out m (by omega)
            obtain ⟨x, hx⟩ := getElem?_of_lt (xs := xs) (k := m) (by omega)
            obtain ⟨z1, e0, e1⟩ := hsw.sprl_at hx
            obtain ⟨_, f0, f1⟩ := hsw.sprl_at hy
            clear hsw
            have k1 : IntKind.i64.wrap ((k : Int) - 1) = (m : Int) := by rw [IntWalk.i64_in _ (by omega)]; omega
            have k2 : (0 : Int) ≤ (m : Int) := by omega
            have k3 : (m : Int) < (xs.length : Int) := by omega
            have k4 : (k : Int) < (xs.length : Int) := by omega
            have k5 : (0 : Int) < (k : Int) := by omega
            have hp := left_pair hx (by rw [← hm]; exact hy)
            rw [← hm] at hp
            replace hm := hide hm
            replace hx := hide hx
            replace hy := hide hy
            rcases ilt x.no y.no with g | g
            · rw [decide_eq_true g] at hp
              replace hp := hide hp
              go_wp2_with fail
              (refine wp_region_grow (by kernel_rfl) (by kernel_rfl) ?_; (repeat (first | go_big_quiet_skip | (go_big_quiet_want; go_big_quiet_op; first | go_big_quiet_on | (apply Exists.intro; refine ⟨fun _ => ?_, ?_⟩; (focus (fail)); go_big_quiet_on)))); refine wpQuiet_nil ?_; rintro W1 ⟨⟨_, hW1⟩, rfl⟩)
              go_wp2_with fail
              go_roundw
              case rel => exact ⟨k + 1, .inl (by omega), by go_num, hide (fun j hj => by
                rcases Nat.lt_or_ge j k with hj2 | hj2
                · exact hall.out j hj2
                · obtain rfl : j = k := by omega
                  exact hp.out), hide (bup hbw.out hW1)⟩
              case measure => simp [intOf]; omega
            · rw [decide_eq_false (by omega)] at hp
              have hbad : risingB (xs.map SprL.no) = false := by
                unfold risingB
                rw [List.all_eq_false]
                exact ⟨k, List.mem_range.2 (by rw [List.length_map]; omega), by rw [hp]; simp⟩
              obtain ⟨r1, r2⟩ := hL1.out hbad
              subst r1 r2
              clear hp hbad
              go_wp2_with fail
              (refine wp_region_grow (by kernel_rfl) (by kernel_rfl) ?_; (repeat (first | go_big_quiet_skip | (go_big_quiet_want; go_big_quiet_op; first | go_big_quiet_on | (apply Exists.intro; refine ⟨fun _ => ?_, ?_⟩; (focus (fail)); go_big_quiet_on)))); refine wpQuiet_nil ?_; rintro W1 ⟨⟨_, hW1⟩, rfl⟩)
              go_wp2_with fail
              go_ret2
              exact ⟨_, rfl, Own.nil_ _ _ _ _ _, bup kB.out (bup hbw.out hW1)⟩
        · have hup : risingB (xs.map SprL.no) = true := by
            refine List.all_eq_true.2 fun j hj => hall.out j ?_
            have := List.mem_range.1 hj
            rw [List.length_map] at this
            omega
          obtain ⟨r1, r2⟩ := hL0.out hup
          subst r1 r2
          clear hup hall hL1 hL0
          have hge : (xs.length : Int) ≤ (k : Int) := by omega
          have kC1 := hide (kC.out.grow hbw.out)
          have kB1 := hide (bup kB.out hbw.out)
          have hBz : w.heap.size + 1 ≤ wr.heap.size := Nat.le_trans hzz hbw.out.size
          clear hbw kC kB hzz
          obtain ⟨Q0, hQ0⟩ : ∃ z, wr = z := ⟨_, rfl⟩
          rw [hQ0] at hBz kC1 kB1 ⊢
          clear hQ0
          obtain ⟨B, hB⟩ : ∃ B, Q0.heap.size = B := ⟨_, rfl⟩
          have hBw : w.heap.size < B := by omega
          have hBz2 := hide (show B ≤ Q0.heap.size by omega)
          replace hB := hide hB
          go_wp2_with fail
          go_loopw [10, 12] (fun vo i wr => ∃ k : Nat, k ≤ xs.length ∧ i = I k ∧ Hid (Own wr B 3 1 intC vo (leftF c l (xs.take k))) ∧ Hid (Below B Q0 wr) ∧ B ≤ wr.heap.size) (fun _ i _ => xs.length - (intOf i).toNat)
          case atStart => exact ⟨0, Nat.zero_le _, rfl, hide (Own.nil_ _ _ _ _ _), hide (Below.refl _ _), hBz2.out⟩
          case round =>
            obtain ⟨k, hk, rfl, ho, hbr, hBs⟩ := hrel
            by_cases hlt : k < xs.length
            · obtain ⟨b, off, rfl, hbb⟩ := hA.out k hlt
              obtain ⟨x, hx⟩ := getElem?_of_lt hlt
              have hxm := List.mem_of_getElem? hx
              have kBr := bup kB1.out (hbr.out.mono (Nat.le_of_eq hB.out))
              have hsw := hs.out.mono kBr
              obtain ⟨z1, e0, e1⟩ := hsw.1.sprl_at hx
              have hdv := hsw.2 x hxm
              obtain ⟨Ax, nx, hdvx, _⟩ := hdv.open_
              have HX := HA.out x hxm
              have hsn := leftF_snoc (c := c) (l := l) hx
              have hll := leftF_len c l (xs.take k)
              rw [List.length_take] at hll
              have hl16 : (leftF c l (xs.take k)).length ≤ 16 := by omega
              rw [hdvx] at e1 hdv HX
              obtain ⟨G, hG⟩ : ∃ g, agreesB c l x.days = g := ⟨_, rfl⟩
              rw [hG] at HX hsn
              have kC2 := kC1.out.below hbr.out (by omega)
              obtain ⟨_, q0, q1, q2, q3, q4, q5, q6, q7⟩ := kC2.clim
              (try unfold Climate.v at HX)
              replace HX := hide HX
              replace hsn := hide hsn
              replace hl16 := hide hl16
              replace hx := hide hx
              replace hdv := hide hdv
              clear hsw hG hdvx hll hxm HA
              cases G with
              | false =>
                rw [if_neg (by simp), List.append_nil] at hsn
                go_wp2_with fail
                (refine wp_region_grow (by kernel_rfl) (by kernel_rfl) ?_; (repeat (first | go_big_quiet_skip | (go_big_quiet_want; go_big_quiet_op; first | go_big_quiet_on | (apply Exists.intro; refine ⟨fun _ => ?_, ?_⟩; (focus ((go_at_call 111; exact calls_grew (HX.out _ (hv.out.mono (bup kBr (Grew.below _))) (hdv.out.mono (Grew.below _)))))); go_big_quiet_on)))); refine wpQuiet_nil ?_; rintro W1 ⟨⟨_, hW1⟩, rfl⟩)
                go_wp2_with fail
                go_roundw
                case rel => exact ⟨k + 1, by omega, by go_num, hide (by rw [hsn.out]; exact ho.out.below hW1), hide (hbr.out.trans (hW1.mono hBs)), Nat.le_trans hBs hW1.size⟩
                case measure => simp [intOf]; omega
              | true =>
                rw [if_pos rfl] at hsn
                go_wp2_with fail
                (refine wp_region_grow (by kernel_rfl) (by kernel_rfl) ?_; (repeat (first | go_big_quiet_skip | (go_big_quiet_want; go_big_quiet_op; first | go_big_quiet_on | (apply Exists.intro; refine ⟨fun _ => ?_, ?_⟩; (focus ((go_at_call 111; exact calls_grew (HX.out _ (hv.out.mono (bup kBr (Grew.below _))) (hdv.out.mono (Grew.below _)))))); go_big_quiet_on)))); refine wpQuiet_nil ?_; rintro W1 ⟨⟨_, hW1⟩, rfl⟩)
                obtain ⟨wa, hwa⟩ : ∃ z, W1 = z := ⟨_, rfl⟩
                rw [hwa] at hW1 ⊢
                clear hwa
                have e3 := (hW1.cell (p := ⟨b, off + k * 2, none⟩) z1).trans e0
                have z3 : b < wa.heap.size := Nat.lt_of_lt_of_le z1 hW1.size
                clear e0 e1 q0 q1 q2 q3 q4 q5 q6 q7
                go_wp2_with (at_builtin; refine wp_push el_int intC_len intC_one rfl (.tmp 61) (.tmp 67) rfl B rfl ((ho.out.below hW1).alloc _) x.no rfl ?c1 ?c2 ?c3 ?c4 ?_)
                case c1 => exact new_cells rfl _ (intC x.no)
                case c2 => have := hl16.out; omega
                case c3 => have := hl16.out; omega
                case c4 => have := hW1.size; simp; omega
                intro v' w5 hown hbel _
                rw [← hsn.out] at hown
                obtain ⟨A1, n1, c1, rfl⟩ := hown.shape
                replace hown := hide hown
                have hbF := hide (((hbr.out.trans (hW1.mono hBs)).alloc (by have := hW1.size; omega) (.cells #[I x.no] 3)).trans hbel)
                have hzF : B ≤ w5.heap.size := Nat.le_trans (Nat.le_trans (Nat.le_trans hBs hW1.size) (by simp)) hbel.size
                clear hbel
                go_wp2_with fail
                go_roundw
                case rel => exact ⟨k + 1, by omega, by go_num, hown, hbF, hzF⟩
                case measure => simp [intOf]; omega
            · have he : k = xs.length := by omega
              subst he
              have ho2 := ho.out
              rw [List.take_length] at ho2
              obtain ⟨A1, n1, c1, rfl⟩ := ho2.shape
              replace ho2 := hide ho2
              go_wp2_with fail
              go_ret2
              exact ⟨_, rfl, ho2.out.mono (by omega), bup kB1.out (hbr.out.mono (Nat.le_of_eq hB.out))⟩
    · have hEE : leftE c l xs = sprsE c xs := by simp [leftE, hE, hS]
      have hV : leftV c l xs = [] := by rw [leftV, if_neg (by rw [hEE]; exact hS)]
      rw [hE] at H1
      rw [hEE, hV]
      obtain ⟨s0, hs0⟩ : ∃ e, sprsE c xs = e := ⟨_, rfl⟩
      rw [hs0] at hS H2 ⊢
      have hne : (s0 != 0) = true := by simpa using hS
      clear hEE hV hS hs0 hE hA
      (try unfold Climate.v at *)
      replace hv := hide hv
      replace hs := hide hs
      replace H1 := hide H1
      replace H2 := hide H2
      go_enter Tryz.func69, Tryz.ntmps69
      go_wp2_with (first | (go_at_call 26; refine (H1.out _ (hv.out.mono (below1 _ _))).mono ?_; clear H1; rintro e w1 ⟨rfl, hb1⟩; obtain ⟨_, q0, q1, q2, q3, q4, q5, q6, q7⟩ := ((Blk.new w 25 #[I c.base, I c.lapse, I c.swing, I c.wettest, I c.coldest, I c.warmest, I c.flo, I c.fhi]).grow hb1).clim) | (go_at_call 146; refine (H2.out _ (hs.out.mono (bup (below1 _ _) hb1))).mono ?_; clear H2; rintro e w2 ⟨rfl, hb2⟩))
      go_ret2
      exact ⟨_, rfl, Own.nil_ _ _ _ _ _, bup (bup (below1 _ _) hb1) hb2⟩
  · have hEE : leftE c l xs = logE c l := by simp [leftE, hE]
    have hV : leftV c l xs = [] := by rw [leftV, if_neg (by rw [hEE]; exact hE)]
    rw [hEE, hV]
    obtain ⟨e0, he0⟩ : ∃ e, logE c l = e := ⟨_, rfl⟩
    rw [he0] at hE H1 ⊢
    have hne : (e0 != 0) = true := by simpa using hE
    clear hEE hV hE he0 H2 hA
    (try unfold Climate.v at *)
    replace hv := hide hv
    replace H1 := hide H1
    go_enter Tryz.func69, Tryz.ntmps69
    go_wp2_with (first | (go_at_call 26; refine (H1.out _ (hv.out.mono (below1 _ _))).mono ?_; clear H1; rintro e w1 ⟨rfl, hb1⟩; obtain ⟨_, q0, q1, q2, q3, q4, q5, q6, q7⟩ := ((Blk.new w 25 #[I c.base, I c.lapse, I c.swing, I c.wettest, I c.coldest, I c.warmest, I c.flo, I c.fhi]).grow hb1).clim))
    go_ret2
    exact ⟨_, rfl, Own.nil_ _ _ _ _ _, bup (below1 _ _) hb1⟩

set_option maxRecDepth 100000 in
set_option maxHeartbeats 4000000 in
theorem ref_Fits (c : Climate) (v : Value) (l : List Weather) (no : Int) (vd : Value) (p : List Weather) (w : World) (hv : Sl w 3 Weather.cells v l) (hd : Sl w 3 Weather.cells vd p) :
    Calls Tryz.prog 67 #[c.v, v, .agg #[I no, vd]] w fun e w' => e = .returned (.tuple #[.bool (fitsV c l ⟨no, p⟩), I (fitsE c l ⟨no, p⟩)]) ∧ Below w.heap.size w w' := by
  have H1 := fun w hv => ref_CheckLog c v l w hv
  obtain ⟨A, n, hvd, _⟩ := hd.open_
  have H2 := fun w hd => ref_CheckSpring c no vd p w hd
  by_cases hE : logE c l = 0
  · have hlo := LogOk.of hE
    rw [hE] at H1
    have hE1 : fitsE c l ⟨no, p⟩ = springE c ⟨no, p⟩ := by simp [fitsE, hE]
    by_cases hS : springE c ⟨no, p⟩ = 0
    · have hso := SprOk.of hS
      have H3 := fun w hv hd => ref_agrees c v vd l p w hlo.clim hlo.mem hso.n1 hso.n2 hso.succ hv hd
      have hV : fitsV c l ⟨no, p⟩ = agreesB c l p := by simp [fitsV, hE1, hS]
      rw [hE1, hS, hV]
      rw [hS] at H2
      obtain ⟨G, hG⟩ : ∃ g, agreesB c l p = g := ⟨_, rfl⟩
      rw [hG] at H3 ⊢
      subst hvd
      clear hE1 hS hV hG hE hlo hso
      (try unfold Climate.v at *)
      replace hv := hide hv
      replace hd := hide hd
      replace H1 := hide H1
      replace H2 := hide H2
      replace H3 := hide H3
      go_enter Tryz.func67, Tryz.ntmps67
      go_wp2_with (first | (go_at_call 26; refine (H1.out _ (hv.out.mono (below2 _ _ _))).mono ?_; clear H1; rintro e w1 ⟨rfl, hb1⟩; obtain ⟨_, q0, q1, q2, q3, q4, q5, q6, q7⟩ := (((Blk.new w 25 #[I c.base, I c.lapse, I c.swing, I c.wettest, I c.coldest, I c.warmest, I c.flo, I c.fhi]).alloc _).grow hb1).clim; obtain ⟨zs, s0, s1, _, _⟩ := blk_box ((blk21 w 28 #[I no, .slice A p.length n] (.cells #[I c.base, I c.lapse, I c.swing, I c.wettest, I c.coldest, I c.warmest, I c.flo, I c.fhi] 25)).grow hb1)) | (go_at_call 28; refine (H2.out _ (hd.out.mono (bup (below2 _ _ _) hb1))).mono ?_; clear H2 q0 q1 q2 q3 q4 q5 q6 q7 zs s0 s1; rintro e w2 ⟨rfl, hb2⟩; obtain ⟨_, q0, q1, q2, q3, q4, q5, q6, q7⟩ := ((((Blk.new w 25 #[I c.base, I c.lapse, I c.swing, I c.wettest, I c.coldest, I c.warmest, I c.flo, I c.fhi]).alloc _).grow hb1).grow hb2).clim; obtain ⟨zs, s0, s1, _, _⟩ := blk_box (((blk21 w 28 #[I no, .slice A p.length n] (.cells #[I c.base, I c.lapse, I c.swing, I c.wettest, I c.coldest, I c.warmest, I c.flo, I c.fhi] 25)).grow hb1).grow hb2)) | (go_at_call 111; refine (H3.out _ (hv.out.mono (bup (bup (below2 _ _ _) hb1) hb2)) (hd.out.mono (bup (bup (below2 _ _ _) hb1) hb2))).mono ?_; clear H3; rintro e w3 ⟨rfl, hb3⟩))
      go_ret2
      exact ⟨rfl, bup (bup (bup (below2 _ _ _) hb1) hb2) hb3⟩
    · have hV : fitsV c l ⟨no, p⟩ = false := by simp [fitsV, hE1, hS]
      have h62 : springE c ⟨no, p⟩ = 62 := by
        have hc := log_clim hE
        unfold springE at hS ⊢
        rw [if_neg (by simp [hc])] at hS ⊢
        split <;> simp_all
      rw [hE1, hV, h62]
      rw [h62] at H2
      subst hvd
      clear hE1 hS hV hE hlo h62
      (try unfold Climate.v at *)
      replace hv := hide hv
      replace hd := hide hd
      replace H1 := hide H1
      replace H2 := hide H2
      go_enter Tryz.func67, Tryz.ntmps67
      go_wp2_with (first | (go_at_call 26; refine (H1.out _ (hv.out.mono (below2 _ _ _))).mono ?_; clear H1; rintro e w1 ⟨rfl, hb1⟩; obtain ⟨_, q0, q1, q2, q3, q4, q5, q6, q7⟩ := (((Blk.new w 25 #[I c.base, I c.lapse, I c.swing, I c.wettest, I c.coldest, I c.warmest, I c.flo, I c.fhi]).alloc _).grow hb1).clim; obtain ⟨zs, s0, s1, _, _⟩ := blk_box ((blk21 w 28 #[I no, .slice A p.length n] (.cells #[I c.base, I c.lapse, I c.swing, I c.wettest, I c.coldest, I c.warmest, I c.flo, I c.fhi] 25)).grow hb1)) | (go_at_call 28; refine (H2.out _ (hd.out.mono (bup (below2 _ _ _) hb1))).mono ?_; clear H2 q0 q1 q2 q3 q4 q5 q6 q7 zs s0 s1; rintro e w2 ⟨rfl, hb2⟩; obtain ⟨_, q0, q1, q2, q3, q4, q5, q6, q7⟩ := ((((Blk.new w 25 #[I c.base, I c.lapse, I c.swing, I c.wettest, I c.coldest, I c.warmest, I c.flo, I c.fhi]).alloc _).grow hb1).grow hb2).clim; obtain ⟨zs, s0, s1, _, _⟩ := blk_box (((blk21 w 28 #[I no, .slice A p.length n] (.cells #[I c.base, I c.lapse, I c.swing, I c.wettest, I c.coldest, I c.warmest, I c.flo, I c.fhi] 25)).grow hb1).grow hb2)))
      go_ret2
      exact ⟨rfl, bup (bup (below2 _ _ _) hb1) hb2⟩
  · have hE1 : fitsE c l ⟨no, p⟩ = logE c l := by simp [fitsE, hE]
    have hV : fitsV c l ⟨no, p⟩ = false := by simp [fitsV, hE1, hE]
    rw [hE1, hV]
    obtain ⟨e0, he0⟩ : ∃ e, logE c l = e := ⟨_, rfl⟩
    rw [he0] at hE H1 ⊢
    have hne : (e0 != 0) = true := by simpa using hE
    subst hvd
    clear hE1 hV hE he0 H2
    (try unfold Climate.v at *)
    replace hv := hide hv
    replace H1 := hide H1
    go_enter Tryz.func67, Tryz.ntmps67
    go_wp2_with (first | (go_at_call 26; refine (H1.out _ (hv.out.mono (below2 _ _ _))).mono ?_; clear H1; rintro e w1 ⟨rfl, hb1⟩; obtain ⟨_, q0, q1, q2, q3, q4, q5, q6, q7⟩ := (((Blk.new w 25 #[I c.base, I c.lapse, I c.swing, I c.wettest, I c.coldest, I c.warmest, I c.flo, I c.fhi]).alloc _).grow hb1).clim; obtain ⟨zs, s0, s1, _, _⟩ := blk_box ((blk21 w 28 #[I no, .slice A p.length n] (.cells #[I c.base, I c.lapse, I c.swing, I c.wettest, I c.coldest, I c.warmest, I c.flo, I c.fhi] 25)).grow hb1)))
    go_ret2
    exact ⟨rfl, bup (below2 _ _ _) hb1⟩
end Go.Proofs.YtmjfdobjnnfafaaGreatDoor
