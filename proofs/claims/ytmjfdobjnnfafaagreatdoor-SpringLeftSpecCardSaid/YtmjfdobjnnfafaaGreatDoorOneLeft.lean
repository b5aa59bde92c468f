/- The package spring: Fits and Left. Conditions stand in the theorems. -/
import Derived.Test.YtmjfdobjnnfafaaGreatDoorOneAll
import Derived.Test.YtmjfdobjnnfafaaGreatDoorSpring9Pack
import Derived.Test.YtmjfdobjnnfafaaGreatDoorBasePack
import Derived.Test.YtmjfdobjnnfafaaGreatDoorRepeatPack
set_option linter.all false
namespace Go.Proofs.YtmjfdobjnnfafaaGreatDoor
open Go.RowKit

theorem left_pair {xs : List SprL} {k : Nat} {x y : SprL} (hx : xs[k]? = some x) (hy : xs[k + 1]? = some y) : risesAt (xs.map SprL.no) (k + 1) = decide (x.no < y.no) := by
  unfold risesAt
  rw [List.getD_eq_getElem?_getD, List.getD_eq_getElem?_getD]
  simp [hx, hy]
theorem left_z (xs : List SprL) : risesAt (xs.map SprL.no) 0 = true := rfl
theorem left_one (xs : List SprL) : ∀ j, j < 1 → risesAt (xs.map SprL.no) j = true := fun j hj => by
  obtain rfl : j = 0 := by omega
  rfl
def fitsE (c : Climate) (l : List Weather) (p : Spring) : Int := if logE c l ≠ 0 then logE c l else springE c p
def fitsV (c : Climate) (l : List Weather) (p : Spring) : Bool := decide (fitsE c l p = 0) && agreesB c l p.days
def leftE (c : Climate) (l : List Weather) (xs : List SprL) : Int := if logE c l ≠ 0 then logE c l else if sprsE c xs ≠ 0 then sprsE c xs else if risingB (xs.map SprL.no) = false then 1 else 0
def leftF (c : Climate) (l : List Weather) (xs : List SprL) : List Int := (xs.filter fun x => agreesB c l x.days).map SprL.no
def leftV (c : Climate) (l : List Weather) (xs : List SprL) : List Int := if leftE c l xs = 0 then leftF c l xs else []
theorem leftF_snoc {c : Climate} {l : List Weather} {xs : List SprL} {k : Nat} {x : SprL} (hx : xs[k]? = some x) : leftF c l (xs.take (k + 1)) = leftF c l (xs.take k) ++ (if agreesB c l x.days = true then [x.no] else []) := by
  unfold leftF
  rw [take_succ_of hx, List.filter_append, List.map_append]
  congr 1
  simp only [List.filter_cons, List.filter_nil]
  split <;> simp
theorem leftF_len (c : Climate) (l : List Weather) (xs : List SprL) : (leftF c l xs).length ≤ xs.length := by
  unfold leftF
  rw [List.length_map]
  exact List.length_filter_le ..
theorem sprsE_zero {c : Climate} {xs : List SprL} (h : sprsE c xs = 0) : (∀ x ∈ xs, SprOk c ⟨x.no, x.days⟩) ∧ xs.length ≤ 16 := by
  unfold sprsE at h
  split at h
  · cases h
  rename_i h1
  split at h
  · cases h
  rename_i h2
  refine ⟨fun x hx => ?_, by omega⟩
  have h3 : xs.all (fun x => decide (springE c x.spring = 0)) = true := by simpa using h1
  have := List.all_eq_true.1 h3 x hx
  exact SprOk.of (of_decide_eq_true this)
theorem log_clim' {c : Climate} {l : List Weather} (h : logE c l = 0) : climateOk c = true := by
  cases hc : climateOk c with
  | true => rfl
  | false => simp [logE, hc] at h

set_option maxRecDepth 100000 in
set_option maxHeartbeats 4000000 in
theorem spring_Left (c : Climate) (v vs : Value) (l : List Weather) (xs : List SprL) (w : World) (hv : Sl w 3 Weather.cells v l) (hs : SprsAt w vs xs) :
    Calls Tryz.prog 68 #[c.v, v, vs] w fun e w' => ∃ vr, e = .returned (.tuple #[vr, I (leftE c l xs)]) ∧ Own w' w.heap.size 3 1 intC vr (leftV c l xs) ∧ Below w.heap.size w w' := by
  have H1 := fun w hv => spring_CheckLog c v l w hv
  obtain ⟨A, n, rfl, _, _, hlen, hA⟩ := hs.1.open_
  have H2 := fun w hs => spring_springy c (.slice A xs.length n) xs w hs
  by_cases hE : logE c l = 0
  · by_cases hS : sprsE c xs = 0
    · have hlo := LogOk.of hE
      obtain ⟨hso, hx16⟩ := sprsE_zero hS
      replace hso := hide hso
      rw [hE] at H1
      rw [hS] at H2
      have hL1 : risingB (xs.map SprL.no) = false → leftE c l xs = 1 ∧ leftV c l xs = [] := fun h => by
        have : leftE c l xs = 1 := by simp [leftE, hE, hS, h]
        exact ⟨this, by simp [leftV, this]⟩
      have hL0 : risingB (xs.map SprL.no) = true → leftE c l xs = 0 ∧ leftV c l xs = leftF c l xs := fun h => by
        have : leftE c l xs = 0 := by simp [leftE, hE, hS, h]
        exact ⟨this, by simp [leftV, this]⟩
      have HA := hide (fun (x : SprL) (hx : x ∈ xs) w hv hd => spring_agrees c v x.dv l x.days w hlo.clim hlo.mem (hso.out x hx).n1 (hso.out x hx).n2 hv hd)
      obtain ⟨le, hle⟩ : ∃ e, leftE c l xs = e := ⟨_, rfl⟩
      obtain ⟨lv, hlv⟩ : ∃ e, leftV c l xs = e := ⟨_, rfl⟩
      rw [hle, hlv] at hL1 hL0 ⊢
      clear hle hlv hE hS
      (try unfold Climate.v at *)
      replace hL1 := hide hL1
      replace hL0 := hide hL0
      replace hv := hide hv
      replace hs := hide hs
      replace hA := hide hA
      replace H1 := hide H1
      replace H2 := hide H2
      replace hlo := hide hlo
      go_enter Tryz.func68, Tryz.ntmps68
      go_wp2_with (first | (go_at_call 25; refine (H1.out _ (hv.out.mono (below1 _ _))).mono ?_; clear H1; rintro e w1 ⟨rfl, hb1⟩; obtain ⟨_, q0, q1, q2, q3, q4, q5, q6, q7⟩ := ((Blk.new w 25 #[I c.base, I c.lapse, I c.swing, I c.wettest, I c.coldest, I c.warmest, I c.flo, I c.fhi]).grow hb1).clim) | (go_at_call 143; refine (H2.out _ (hs.out.mono (bup (below1 _ _) hb1))).mono ?_; clear H2; rintro e w2 ⟨rfl, hb2⟩))
      have kC := hide (((Blk.new w 25 #[I c.base, I c.lapse, I c.swing, I c.wettest, I c.coldest, I c.warmest, I c.flo, I c.fhi]).grow hb1).grow hb2)
      have kB := hide (bup (bup (below1 _ _) hb1) hb2)
      have hzz : w.heap.size + 1 ≤ w2.heap.size := by have := hb1.size; have := hb2.size; simp at *; omega
      clear hb1 hb2 q0 q1 q2 q3 q4 q5 q6 q7
      go_loopw [10] (fun i wr => ∃ k : Nat, (k ≤ xs.length ∨ k = 1) ∧ 1 ≤ k ∧ i = I k ∧ Hid (∀ j, j < k → risesAt (xs.map SprL.no) j = true) ∧ Hid (Below w2.heap.size w2 wr)) (fun i _ => xs.length - (intOf i).toNat)
      case atStart => exact ⟨1, .inr rfl, Nat.le_refl _, rfl, hide (left_one xs), hide (Below.refl _ _)⟩
      case round =>
        obtain ⟨k, hk0, hk1, rfl, hall, hbw⟩ := hrel
        by_cases hlt : k < xs.length
        · obtain ⟨m, hm⟩ : ∃ m, k = m + 1 := ⟨k - 1, by omega⟩
          obtain ⟨b, off, rfl, hbb⟩ := hA.out m (by omega)
          obtain ⟨x, hx⟩ := getElem?_of_lt (xs := xs) (k := m) (by omega)
          obtain ⟨y, hy⟩ := getElem?_of_lt hlt
          have hsw := hs.out.1.mono (bup kB.out hbw.out)
          obtain ⟨z1, e0, e1⟩ := hsw.sprl_at hx
          obtain ⟨_, f0, f1⟩ := hsw.sprl_at hy
          clear hsw
          have k1 : IntKind.i64.wrap ((k : Int) - 1) = (m : Int) := by rw [IntWalk.i64_in _ (by omega)]; omega
          have k2 : (0 : Int) ≤ (m : Int) := by omega
          have k3 : (m : Int) < (xs.length : Int) := by omega
          have k4 : (k : Int) < (xs.length : Int) := by omega
          have k5 : (0 : Int) < (k : Int) := by omega
          have hp := left_pair hx (by rw [← hm]; exact hy)
          rw [← hm] at hp
          replace hm := hide hm
          replace hx := hide hx
          replace hy := hide hy
          rcases ilt x.no y.no with g | g
          · rw [decide_eq_true g] at hp
            replace hp := hide hp
            go_wp2_with fail
            (refine wp_region_grow (by kernel_rfl) (by kernel_rfl) ?_; (repeat (first | go_big_quiet_skip | (go_big_quiet_want; go_big_quiet_op; first | go_big_quiet_on | (apply Exists.intro; refine ⟨fun _ => ?_, ?_⟩; (focus (fail)); go_big_quiet_on)))); refine wpQuiet_nil ?_; rintro W1 ⟨⟨_, hW1⟩, rfl⟩)
            go_wp2_with fail
            go_roundw
            case rel => exact ⟨k + 1, .inl (by omega), by omega, by go_num, hide (fun j hj => by
              rcases Nat.lt_or_ge j k with hj2 | hj2
              · exact hall.out j hj2
              · obtain rfl : j = k := by omega
                exact hp.out), hide (bup hbw.out hW1)⟩
            case measure => simp [intOf]; omega
          · rw [decide_eq_false (by omega)] at hp
            have hbad : risingB (xs.map SprL.no) = false := by
              unfold risingB
              rw [List.all_eq_false]
              exact ⟨k, List.mem_range.2 (by rw [List.length_map]; omega), by rw [hp]; simp⟩
            obtain ⟨r1, r2⟩ := hL1.out hbad
            subst r1 r2
            clear hp hbad
            go_wp2_with fail
            (refine wp_region_grow (by kernel_rfl) (by kernel_rfl) ?_; (repeat (first | go_big_quiet_skip | (go_big_quiet_want; go_big_quiet_op; first | go_big_quiet_on | (apply Exists.intro; refine ⟨fun _ => ?_, ?_⟩; (focus (fail)); go_big_quiet_on)))); refine wpQuiet_nil ?_; rintro W1 ⟨⟨_, hW1⟩, rfl⟩)
            go_wp2_with fail
            go_ret2
            exact ⟨_, rfl, Own.nil_ _ _ _ _ _, bup kB.out (bup hbw.out hW1)⟩
        · have hup : risingB (xs.map SprL.no) = true := by
            refine List.all_eq_true.2 fun j hj => hall.out j ?_
            have := List.mem_range.1 hj
            rw [List.length_map] at this
            omega
          obtain ⟨r1, r2⟩ := hL0.out hup
          subst r1 r2
          clear hup hall hL1 hL0
          have hge : (xs.length : Int) ≤ (k : Int) := by omega
          have kC1 := hide (kC.out.grow hbw.out)
          have kB1 := hide (bup kB.out hbw.out)
          have hBz : w.heap.size + 1 ≤ wr.heap.size := Nat.le_trans hzz hbw.out.size
          clear hbw kC kB hzz
          obtain ⟨Q0, hQ0⟩ : ∃ z, wr = z := ⟨_, rfl⟩
          rw [hQ0] at hBz kC1 kB1 ⊢
          clear hQ0
          obtain ⟨B, hB⟩ : ∃ B, Q0.heap.size = B := ⟨_, rfl⟩
          have hBw : w.heap.size < B := by omega
          have hBz2 := hide (show B ≤ Q0.heap.size by omega)
          replace hB := hide hB
          go_wp2_with fail
          go_loopw [11, 13, 46] (fun vo _ i wr => ∃ k : Nat, k ≤ xs.length ∧ i = I k ∧ Hid (Own wr B 3 1 intC vo (leftF c l (xs.take k))) ∧ Hid (Below B Q0 wr) ∧ B ≤ wr.heap.size) (fun _ _ i _ => xs.length - (intOf i).toNat)
          case atStart => exact ⟨0, Nat.zero_le _, rfl, hide (Own.nil_ _ _ _ _ _), hide (Below.refl _ _), hBz2.out⟩
          case round =>
            obtain ⟨k, hk, rfl, ho, hbr, hBs⟩ := hrel
            by_cases hlt : k < xs.length
            · obtain ⟨b, off, rfl, hbb⟩ := hA.out k hlt
              obtain ⟨x, hx⟩ := getElem?_of_lt hlt
              have hxm := List.mem_of_getElem? hx
              have kBr := bup kB1.out (hbr.out.mono (Nat.le_of_eq hB.out))
              have hsw := hs.out.mono kBr
              obtain ⟨z1, e0, e1⟩ := hsw.1.sprl_at hx
              have hdv := hsw.2 x hxm
              obtain ⟨Ax, nx, hdvx, _⟩ := hdv.open_
              have HX := HA.out x hxm
              have hsn := leftF_snoc (c := c) (l := l) hx
              have hll := leftF_len c l (xs.take k)
              rw [List.length_take] at hll
              have hl16 : (leftF c l (xs.take k)).length ≤ 16 := by omega
              rw [hdvx] at e1 hdv HX
              obtain ⟨G, hG⟩ : ∃ g, agreesB c l x.days = g := ⟨_, rfl⟩
              rw [hG] at HX hsn
              have kC2 := kC1.out.below hbr.out (by omega)
              obtain ⟨_, q0, q1, q2, q3, q4, q5, q6, q7⟩ := kC2.clim
              (try unfold Climate.v at HX)
              replace HX := hide HX
              replace hsn := hide hsn
              replace hl16 := hide hl16
              replace hx := hide hx
              replace hdv := hide hdv
              clear hsw hG hdvx hll hxm HA
              cases G with
              | false =>
                rw [if_neg (by simp), List.append_nil] at hsn
                have hsz := hbr.out.size
                go_wp2_with (go_at_call 110; refine (HX.out _ (hv.out.mono (bup kBr (below1 _ _))) (hdv.out.mono (below1 _ _))).mono ?_; clear HX; rintro e w3 ⟨rfl, hb3⟩)
                have hb4 := bup (below1 wr (.cells #[I x.no, .slice Ax x.days.length nx] 28)) hb3
                go_roundw
                case rel => exact ⟨k + 1, by omega, by go_num, hide (by rw [hsn.out]; exact ho.out.below hb4), hide (hbr.out.trans (hb4.mono hBs)), Nat.le_trans hBs hb4.size⟩
                case measure => simp [intOf]; omega
              | true =>
                rw [if_pos rfl] at hsn
                go_wp2_with (first | (go_at_call 110; refine (HX.out _ (hv.out.mono (bup kBr (below1 _ _))) (hdv.out.mono (below1 _ _))).mono ?_; clear HX; rintro e w3 ⟨rfl, hb3⟩; have hb4 := bup (below1 wr (.cells #[I x.no, .slice Ax x.days.length nx] 28)) hb3; have kQ := ((Blk.new wr 28 #[I x.no, .slice Ax x.days.length nx]).grow hb3); obtain ⟨zq, y0, y1, _, _⟩ := blk_box kQ) | (at_builtin; refine wp_push el_int intC_len intC_one rfl (.tmp 55) (.tmp 58) rfl B rfl ((ho.out.below hb4).alloc _) x.no rfl ?c1 ?c2 ?c3 ?c4 ?_))
                case c1 => exact new_cells rfl _ (intC x.no)
                case c2 => have := hl16.out; omega
                case c3 => have := hl16.out; omega
                case c4 => have := hb4.size; simp; omega
                intro v' w5 hown hbel _
                rw [← hsn.out] at hown
                obtain ⟨A1, n1, c1, rfl⟩ := hown.shape
                replace hown := hide hown
                have hbF := hide (((hbr.out.trans (hb4.mono hBs)).alloc (by have := hb4.size; omega) (.cells #[I x.no] 3)).trans hbel)
                have hzF : B ≤ w5.heap.size := Nat.le_trans (Nat.le_trans (Nat.le_trans hBs hb4.size) (by simp)) hbel.size
                clear hbel y0 y1
                go_wp2_with fail
                go_roundw
                case rel => exact ⟨k + 1, by omega, by go_num, hown, hbF, hzF⟩
                case measure => simp [intOf]; omega
            · have he : k = xs.length := by omega
              subst he
              have ho2 := ho.out
              rw [List.take_length] at ho2
              obtain ⟨A1, n1, c1, rfl⟩ := ho2.shape
              replace ho2 := hide ho2
              go_wp2_with fail
              go_ret2
              exact ⟨_, rfl, ho2.out.mono (by omega), bup kB1.out (hbr.out.mono (Nat.le_of_eq hB.out))⟩
    · have hEE : leftE c l xs = sprsE c xs := by simp [leftE, hE, hS]
      have hV : leftV c l xs = [] := by rw [leftV, if_neg (by rw [hEE]; exact hS)]
      rw [hE] at H1
      rw [hEE, hV]
      obtain ⟨s0, hs0⟩ : ∃ e, sprsE c xs = e := ⟨_, rfl⟩
      rw [hs0] at hS H2 ⊢
      have hne : (s0 != 0) = true := by simpa using hS
      clear hEE hV hS hs0 hE hA
      (try unfold Climate.v at *)
      replace hv := hide hv
      replace hs := hide hs
      replace H1 := hide H1
      replace H2 := hide H2
      go_enter Tryz.func68, Tryz.ntmps68
      go_wp2_with (first | (go_at_call 25; refine (H1.out _ (hv.out.mono (below1 _ _))).mono ?_; clear H1; rintro e w1 ⟨rfl, hb1⟩; obtain ⟨_, q0, q1, q2, q3, q4, q5, q6, q7⟩ := ((Blk.new w 25 #[I c.base, I c.lapse, I c.swing, I c.wettest, I c.coldest, I c.warmest, I c.flo, I c.fhi]).grow hb1).clim) | (go_at_call 143; refine (H2.out _ (hs.out.mono (bup (below1 _ _) hb1))).mono ?_; clear H2; rintro e w2 ⟨rfl, hb2⟩))
      go_ret2
      exact ⟨_, rfl, Own.nil_ _ _ _ _ _, bup (bup (below1 _ _) hb1) hb2⟩
  · have hEE : leftE c l xs = logE c l := by simp [leftE, hE]
    have hV : leftV c l xs = [] := by rw [leftV, if_neg (by rw [hEE]; exact hE)]
    rw [hEE, hV]
    obtain ⟨e0, he0⟩ : ∃ e, logE c l = e := ⟨_, rfl⟩
    rw [he0] at hE H1 ⊢
    have hne : (e0 != 0) = true := by simpa using hE
    clear hEE hV hE he0 H2 hA
    (try unfold Climate.v at *)
    replace hv := hide hv
    replace H1 := hide H1
    go_enter Tryz.func68, Tryz.ntmps68
    go_wp2_with (first | (go_at_call 25; refine (H1.out _ (hv.out.mono (below1 _ _))).mono ?_; clear H1; rintro e w1 ⟨rfl, hb1⟩; obtain ⟨_, q0, q1, q2, q3, q4, q5, q6, q7⟩ := ((Blk.new w 25 #[I c.base, I c.lapse, I c.swing, I c.wettest, I c.coldest, I c.warmest, I c.flo, I c.fhi]).grow hb1).clim))
    go_ret2
    exact ⟨_, rfl, Own.nil_ _ _ _ _ _, bup (below1 _ _) hb1⟩

set_option maxRecDepth 100000 in
set_option maxHeartbeats 4000000 in
theorem spring_Fits (c : Climate) (v : Value) (l : List Weather) (no : Int) (vd : Value) (p : List Weather) (w : World) (hv : Sl w 3 Weather.cells v l) (hd : Sl w 3 Weather.cells vd p) :
    Calls Tryz.prog 66 #[c.v, v, .agg #[I no, vd]] w fun e w' => e = .returned (.tuple #[.bool (fitsV c l ⟨no, p⟩), I (fitsE c l ⟨no, p⟩)]) ∧ Below w.heap.size w w' := by
  have H1 := fun w hv => spring_CheckLog c v l w hv
  obtain ⟨A, n, hvd, _⟩ := hd.open_
  have H2 := fun w hd => spring_CheckSpring c no vd p w hd
  by_cases hE : logE c l = 0
  · have hlo := LogOk.of hE
    rw [hE] at H1
    have hE1 : fitsE c l ⟨no, p⟩ = springE c ⟨no, p⟩ := by simp [fitsE, hE]
    by_cases hS : springE c ⟨no, p⟩ = 0
    · have hso := SprOk.of hS
      have H3 := fun w hv hd => spring_agrees c v vd l p w hlo.clim hlo.mem hso.n1 hso.n2 hv hd
      have hV : fitsV c l ⟨no, p⟩ = agreesB c l p := by simp [fitsV, hE1, hS]
      rw [hE1, hS, hV]
      rw [hS] at H2
      obtain ⟨G, hG⟩ : ∃ g, agreesB c l p = g := ⟨_, rfl⟩
      rw [hG] at H3 ⊢
      subst hvd
      clear hE1 hS hV hG hE hlo hso
      (try unfold Climate.v at *)
      replace hv := hide hv
      replace hd := hide hd
      replace H1 := hide H1
      replace H2 := hide H2
      replace H3 := hide H3
      go_enter Tryz.func66, Tryz.ntmps66
      go_wp2_with (first | (go_at_call 25; refine (H1.out _ (hv.out.mono (below2 _ _ _))).mono ?_; clear H1; rintro e w1 ⟨rfl, hb1⟩; obtain ⟨_, q0, q1, q2, q3, q4, q5, q6, q7⟩ := (((Blk.new w 25 #[I c.base, I c.lapse, I c.swing, I c.wettest, I c.coldest, I c.warmest, I c.flo, I c.fhi]).alloc _).grow hb1).clim; obtain ⟨zs, s0, s1, _, _⟩ := blk_box ((blk21 w 28 #[I no, .slice A p.length n] (.cells #[I c.base, I c.lapse, I c.swing, I c.wettest, I c.coldest, I c.warmest, I c.flo, I c.fhi] 25)).grow hb1)) | (go_at_call 27; refine (H2.out _ (hd.out.mono (bup (below2 _ _ _) hb1))).mono ?_; clear H2 q0 q1 q2 q3 q4 q5 q6 q7 zs s0 s1; rintro e w2 ⟨rfl, hb2⟩; obtain ⟨_, q0, q1, q2, q3, q4, q5, q6, q7⟩ := ((((Blk.new w 25 #[I c.base, I c.lapse, I c.swing, I c.wettest, I c.coldest, I c.warmest, I c.flo, I c.fhi]).alloc _).grow hb1).grow hb2).clim; obtain ⟨zs, s0, s1, _, _⟩ := blk_box (((blk21 w 28 #[I no, .slice A p.length n] (.cells #[I c.base, I c.lapse, I c.swing, I c.wettest, I c.coldest, I c.warmest, I c.flo, I c.fhi] 25)).grow hb1).grow hb2)) | (go_at_call 110; refine (H3.out _ (hv.out.mono (bup (bup (below2 _ _ _) hb1) hb2)) (hd.out.mono (bup (bup (below2 _ _ _) hb1) hb2))).mono ?_; clear H3; rintro e w3 ⟨rfl, hb3⟩))
      go_ret2
      exact ⟨rfl, bup (bup (bup (below2 _ _ _) hb1) hb2) hb3⟩
    · have hV : fitsV c l ⟨no, p⟩ = false := by simp [fitsV, hE1, hS]
      have h62 : springE c ⟨no, p⟩ = 62 := by
        have hc := log_clim' hE
        unfold springE at hS ⊢
        rw [if_neg (by simp [hc])] at hS ⊢
        split <;> simp_all
      rw [hE1, hV, h62]
      rw [h62] at H2
      subst hvd
      clear hE1 hS hV hE hlo h62
      (try unfold Climate.v at *)
      replace hv := hide hv
      replace hd := hide hd
      replace H1 := hide H1
      replace H2 := hide H2
      go_enter Tryz.func66, Tryz.ntmps66
      go_wp2_with (first | (go_at_call 25; refine (H1.out _ (hv.out.mono (below2 _ _ _))).mono ?_; clear H1; rintro e w1 ⟨rfl, hb1⟩; obtain ⟨_, q0, q1, q2, q3, q4, q5, q6, q7⟩ := (((Blk.new w 25 #[I c.base, I c.lapse, I c.swing, I c.wettest, I c.coldest, I c.warmest, I c.flo, I c.fhi]).alloc _).grow hb1).clim; obtain ⟨zs, s0, s1, _, _⟩ := blk_box ((blk21 w 28 #[I no, .slice A p.length n] (.cells #[I c.base, I c.lapse, I c.swing, I c.wettest, I c.coldest, I c.warmest, I c.flo, I c.fhi] 25)).grow hb1)) | (go_at_call 27; refine (H2.out _ (hd.out.mono (bup (below2 _ _ _) hb1))).mono ?_; clear H2 q0 q1 q2 q3 q4 q5 q6 q7 zs s0 s1; rintro e w2 ⟨rfl, hb2⟩; obtain ⟨_, q0, q1, q2, q3, q4, q5, q6, q7⟩ := ((((Blk.new w 25 #[I c.base, I c.lapse, I c.swing, I c.wettest, I c.coldest, I c.warmest, I c.flo, I c.fhi]).alloc _).grow hb1).grow hb2).clim; obtain ⟨zs, s0, s1, _, _⟩ := blk_box (((blk21 w 28 #[I no, .slice A p.length n] (.cells #[I c.base, I c.lapse, I c.swing, I c.wettest, I c.coldest, I c.warmest, I c.flo, I c.fhi] 25)).grow hb1).grow hb2)))
      go_ret2
      exact ⟨rfl, bup (bup (below2 _ _ _) hb1) hb2⟩
  · have hE1 : fitsE c l ⟨no, p⟩ = logE c l := by simp [fitsE, hE]
    have hV : fitsV c l ⟨no, p⟩ = false := by simp [fitsV, hE1, hE]
    rw [hE1, hV]
    obtain ⟨e0, he0⟩ : ∃ e, logE c l = e := ⟨_, rfl⟩
    rw [he0] at hE H1 ⊢
    have hne : (e0 != 0) = true := by simpa using hE
    subst hvd
    clear hE1 hV hE he0 H2
    (try unfold Climate.v at *)
    replace hv := hide hv
    replace H1 := hide H1
    go_enter Tryz.func66, Tryz.ntmps66
    go_wp2_with (first | (go_at_call 25; refine (H1.out _ (hv.out.mono (below2 _ _ _))).mono ?_; clear H1; rintro e w1 ⟨rfl, hb1⟩; obtain ⟨_, q0, q1, q2, q3, q4, q5, q6, q7⟩ := (((Blk.new w 25 #[I c.base, I c.lapse, I c.swing, I c.wettest, I c.coldest, I c.warmest, I c.flo, I c.fhi]).alloc _).grow hb1).clim; obtain ⟨zs, s0, s1, _, _⟩ := blk_box ((blk21 w 28 #[I no, .slice A p.length n] (.cells #[I c.base, I c.lapse, I c.swing, I c.wettest, I c.coldest, I c.warmest, I c.flo, I c.fhi] 25)).grow hb1)))
    go_ret2
    exact ⟨rfl, bup (below2 _ _ _) hb1⟩
end Go.Proofs.YtmjfdobjnnfafaaGreatDoor
