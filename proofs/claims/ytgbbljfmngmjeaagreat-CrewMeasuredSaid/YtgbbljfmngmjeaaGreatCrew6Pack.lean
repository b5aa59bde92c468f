/- The package crew: Open, Safe. Conditions stand in the theorems. -/
import Derived.Test.YtgbbljfmngmjeaaGreatWat4Pack
import Derived.Test.YtgbbljfmngmjeaaGreatCrew4
import Derived.Test.YtgbbljfmngmjeaaGreatCrew5
import Derived.Test.YtgbbljfmngmjeaaGreatLeafPack
import Derived.Test.YtgbbljfmngmjeaaGreatIndexFuncPack
import Derived.Test.YtgbbljfmngmjeaaGreatBasin11Pack
set_option linter.all false
set_option maxHeartbeats 8000000
set_option maxRecDepth 100000
namespace Go.Proofs.YtgbbljfmngmjeaaGreat
open Go.RowKit

theorem eg_all : ∀ args w, (callFunc 120 args).run Tryz.prog w = .ok (.enter 120 args) w := enters_of Tryz.func120 (by kernel_rfl) rfl
theorem crew_all (w : World) : Calls Tryz.prog 120 #[] w fun e w' => e = .returned (.bool true) ∧ Below w.heap.size w w' := by
 go_enter Tryz.func120, Tryz.ntmps120
 go_wp2_with fail
 go_ret
 exact ⟨rfl, Below.refl _ _⟩
theorem nos_snoc {ts : List Track} {k : Nat} {t : Track} (h : ts[k]? = some t) : (ts.map Track.no).take (k + 1) = (ts.map Track.no).take k ++ [t.no] := by
 rw [← List.map_take, List.take_succ_eq_append_getElem (List.getElem?_eq_some_iff.1 h).1, List.map_append, (List.getElem?_eq_some_iff.1 h).2, List.map_take]; rfl

theorem crew_Open (vs vt : Value) (ss : List Site) (ts : List Track) (s : Scene) (V : SceneV) (day : Int) (w : World) (hs : Sl w 3 Site.cells vs ss) (ht : Sl w 6 Track.cells vt ts) (hS : SceneAt w s V) :
  Calls Tryz.prog 47 #[.agg #[vs, vt], s.v V, I day] w fun e w' => ∃ v, e = .returned (.tuple #[v, I (openE ss ts s day)]) ∧ Own w' w.heap.size 3 1 intC v (openV ss ts s day) ∧ Below w.heap.size w w' := by
 have JN := fun w' (hb : Below w.heap.size w w') => crew_seen vs vt ss ts s V day 120 #[] true w' (hs.mono hb) (ht.mono hb) (hS.mono hb) eg_all (fun _ W hW => crew_all W)
 have JO := fun (hr : RangeOk ss ts) (h base : Nat) w' (hb : Below w.heap.size w w') (H : HillAt w' base h vs vt (hwF s day)) => crew_open h base vs vt (hwF s day) ts w' H (ht.mono hb) (fun t ht => (hr.tr ht).steep.2) hr.n2
 obtain ⟨Ac, nc, hcc, _⟩ := hS.cells.open_
 obtain ⟨Ap, np, hpp, _⟩ := hS.pairs.open_
 obtain ⟨Ad, nd, hdd, _⟩ := hS.days.open_
 obtain ⟨As, ns, hsi, _⟩ := hS.sights.open_
 obtain ⟨Ah, nh, hch, _⟩ := hS.changes.open_
 obtain ⟨A, n, rfl, _⟩ := hs.open_
 obtain ⟨A', n', rfl, _⟩ := ht.open_
 unfold Scene.v at *
 rw [hcc, hpp, hdd, hsi, hch] at JN ⊢
 clear hcc hpp hdd hsi hch
 have hr0 : seenE ss ts s day true = 0 → RangeOk ss ts := fun h => by
  refine RangeOk.of ?_
  unfold seenE at h
  split at h
  ·assumption
  ·omega
 have hV0 : openE ss ts s day = 0 → openV ss ts s day = (openF (hwF s day) ts).map Track.no := fun h => by simp [openV, h]
 have hV1 : openE ss ts s day ≠ 0 → openV ss ts s day = [] := fun h => by simp [openV, h]
 have hlen : (openF (hwF s day) ts).length ≤ ts.length := openF_len _ _
 change ∀ w', _ → _ at JN
 obtain ⟨E, hE⟩ : ∃ E, openE ss ts s day = E := ⟨_, rfl⟩
 have hE' : seenE ss ts s day true = E := hE
 obtain ⟨VV, hVV⟩ : ∃ V, openV ss ts s day = V := ⟨_, rfl⟩
 rw [hE'] at JN hr0
 rw [hE, hVV] at hV0 hV1
 rw [hE, hVV]
 clear hE hE' hVV
 replace JN := hide JN
 replace JO := hide JO
 clear hs ht hS
 obtain ⟨w1, hw1, hb1, kR, kS⟩ := al2 w #[.slice A ss.length n, .slice A' ts.length n'] 25 (s8 s Ac nc Ap np Ad nd As ns Ah nh) 42
 obtain ⟨rR0, rR1⟩ := kR.cells2
 obtain ⟨q0, q1, q2, q3, q4, q5, q6, q7⟩ := kS.cells8
 have zR := kR.lt
 have zS := kS.lt
 clear kR kS
 by_cases h0 : E = 0
 case neg =>
  have hne : (E != 0) = true := by simpa using h0
  have hv := hV1 h0
  subst hv
  replace h0 := hide h0
  clear hV0 hV1 hr0 JO
  go_enter Tryz.func47, Tryz.ntmps47
  go_wp2_with fail
  rw [← hw1]
  clear hw1
  go_wp2_with (go_at_call 86; refine (JN.out _ hb1).mono ?_; clear rR0 rR1 q0 q1 q2 q3 q4 q5 q6 q7 zR zS; rintro e w2 ⟨v2, rfl, -, hv2, hb2⟩; obtain rfl := hv2 h0.out)
  go_ret2
  exact ⟨_, rfl, Own.nil_ _ _ _ _ _, bup hb1 hb2⟩
 case pos =>
 subst h0
 have hv := hV0 rfl
 have hro := hr0 rfl
 have h48 := hro.n2
 have JO2 := hide (JO.out hro)
 subst hv
 obtain ⟨O, hO⟩ : ∃ O, openF (hwF s day) ts = O := ⟨_, rfl⟩
 rw [hO] at JO2 hlen ⊢
 replace hO := hide hO
 replace hro := hide hro
 clear hV0 hV1 hr0 JO
 go_enter Tryz.func47, Tryz.ntmps47
 go_wp2_with fail
 rw [← hw1]
 clear hw1
 go_wp2_with (first | (go_at_call 86; refine (JN.out _ hb1).mono ?_; clear rR0 rR1 q0 q1 q2 q3 q4 q5 q6 q7 zR zS; rintro e w2 ⟨v2, rfl, hv2, -, hb2⟩; obtain ⟨h, rfl, hH⟩ := hv2 trivial; replace hH := hide hH; clear hv2 JN) | (go_at_call 121; refine (JO2.out h _ _ (bup hb1 hb2) hH.out).mono ?_; rintro e w3 ⟨v3, rfl, hO3, hb3⟩; have hOs := hO3.sl Track.cells_len (by omega); obtain ⟨AO, cO, rfl, _, _, _, hAO⟩ := hOs.open_; replace hOs := hide hOs; replace hAO := hide hAO; clear hO3))
 have hb4 := bup (bup hb1 hb2) hb3
 clear hb1 hb2 hb3 JO2 hH
 have s3 := hb4.size
 go_loopw [10, 26] (fun v i wr => ∃ k : Nat, k ≤ O.length ∧ i = I k ∧ Hid (Own wr w3.heap.size 3 1 intC v ((O.map Track.no).take k)) ∧ Hid (Below w3.heap.size w3 wr)) (fun _ i _ => O.length - (intOf i).toNat)
 case atStart => exact ⟨0, Nat.zero_le _, rfl, hide (Own.nil_ _ _ _ _ _), hide (Below.refl _ _)⟩
 case round =>
  obtain ⟨k, hk, rfl, ho, hb⟩ := hrel
  have sr := hb.out.size
  by_cases hlt : k < O.length
  ·obtain ⟨b, off, rfl, hbw⟩ := hAO.out k hlt
   obtain ⟨t, htk⟩ := getElem?_of_lt hlt
   obtain ⟨_, f0, f1, f2, f3, f4, f5⟩ := (hOs.out.mono hb.out).track_at htk
   have hbx : b < wr.heap.size := by omega
   have hsn := hide (nos_snoc htk)
   have hl2 : ((O.map Track.no).take k).length ≤ 48 := by rw [List.length_take, List.length_map]; omega
   obtain ⟨w5, hw5, hb5, kT⟩ := al1 wr #[I t.no, I t.a, I t.b, I t.minutes, I t.cell, I t.steep] 74
   have rT0 : w5.cell? ⟨wr.heap.size, 0, none⟩ = some (I t.no) := kT.cell 0
   have zT := kT.lt
   have s5 := hb5.size
   replace htk := hide htk
   replace hl2 := hide hl2
   clear kT hAO
   go_upto_region 8 with fail
   rw [← hw5]
   clear hw5
   go_wp2_with (at_builtin; refine wp_push el_int intC_len intC_one rfl (.tmp 30) (.tmp 33) rfl w3.heap.size rfl ((ho.out.below hb5).alloc _) t.no rfl ?c1 ?c2 ?c3 ?c4 ?_)
   case c1 => exact new_cells rfl _ (intC t.no)
   case c2 => have := hl2.out; omega
   case c3 => have := hl2.out; omega
   case c4 => simp; omega
   intro v' w6 hown hbel _
   rw [← hsn.out] at hown
   obtain ⟨A1, n1, c1, rfl⟩ := hown.shape
   replace hown := hide hown
   have hbF := hide (((hb.out.trans (hb5.mono sr)).alloc (by omega) (.cells #[I t.no] 3)).trans hbel)
   clear hbel
   go_wp2_with fail
   go_roundw
   case rel => exact ⟨k + 1, by omega, by go_num, hown, hbF⟩
   case measure => simp [intOf]; omega
  ·have he : k = O.length := by omega
   subst he
   have ho2 := ho.out
   rw [List.take_of_length_le (by rw [List.length_map]; exact Nat.le_refl _)] at ho2
   obtain ⟨A1, n1, c1, rfl⟩ := ho2.shape
   replace ho2 := hide ho2
   go_wp2_with fail
   go_ret2
   exact ⟨_, rfl, ho2.out.mono s3, bup hb4 hb.out⟩

theorem seen_zero {ss : List Site} {ts : List Track} {s : Scene} {day : Int} {q : Bool} (h : seenE ss ts s day q = 0) : RangeOk ss ts ∧ SceneOk s ∧ 0 ≤ placeD s.days day ∧ q = true ∧ greatE s = 0 := by
 unfold seenE at h
 split at h
 ·rename_i h1; exact absurd h h1
 rename_i h1
 split at h
 ·rename_i h2; exact absurd h h2
 rename_i h2
 split at h
 ·omega
 rename_i h3
 have h4 : ¬ placeD s.days day < 0 ∧ ¬ q = false := ⟨fun h => h3 (.inl h), fun h => h3 (.inr h)⟩
 exact ⟨RangeOk.of (by omega), SceneOk.of (by omega), by omega, by simpa using h4.2, h⟩
theorem eg_sites1 : ∀ args w, (callFunc 152 args).run Tryz.prog w = .ok (.enter 152 args) w := enters_of Tryz.func152 (by kernel_rfl) rfl
theorem seen_sites (vs vt : Value) (ss : List Site) (ts : List Track) (s : Scene) (V : SceneV) (day : Int) (gr gl gb : Nat) (frm til : Int) (W : World) (hs : Sl W 3 Site.cells vs ss) (ht : Sl W 6 Track.cells vt ts) (hS : SceneAt W s V)
  (kr : Blk W gr 25 #[vs, vt]) (kl : W.cell? ⟨gl, 0, none⟩ = some (.slice (some ⟨gb, 0, none⟩) 2 2)) (kb : Blk W gb 3 #[I frm, I til]) :
  Calls Tryz.prog 86 #[.agg #[vs, vt], s.v V, I day, .func (.func 152) #[] #[.pointer (some ⟨gl, 0, none⟩), .pointer (some ⟨gr, 0, none⟩)]] W fun e w' => ∃ v, e = .returned (.tuple #[v, I (seenE ss ts s day (sitesB ss [frm, til]))]) ∧
   (seenE ss ts s day (sitesB ss [frm, til]) = 0 → ∃ h, v = .pointer (some ⟨h, 0, none⟩) ∧ HillAt w' W.heap.size h vs vt (hwF s day)) ∧ (seenE ss ts s day (sitesB ss [frm, til]) ≠ 0 → v = .pointer none) ∧ Below W.heap.size W w' := by
 have zl := World.block_lt_of_cell? _ _ kl
 refine crew_seen vs vt ss ts s V day 152 _ _ W hs ht hS eg_sites1 fun _ W' hW => ?_
 exact crew_sites1 gr gl vs vt (.slice (some ⟨gb, 0, none⟩) 2 2) ss [frm, til] W' (hs.mono hW) (blk_sl (l := [frm, til]) (kb.grow hW) rfl (by omega)) (kr.grow hW) ((hW.cell (p := ⟨gl, 0, none⟩) zl).trans kl)
theorem sites_two {ss : List Site} {a b : Int} (h : sitesB ss [a, b] = true) : 0 ≤ placeS ss a ∧ 0 ≤ placeS ss b := by
 simp [sitesB] at h
 exact h
theorem results_tmp4 {fn : Func} {t u v x : Tmp} (h : fn.results = #[.tmp t, .tmp u, .tmp v, .tmp x]) (tmps : Array Value) (P : Program) (w : World) :
  (results fn tmps).run P w = .ok (.tuple #[tmps.getD t undef, tmps.getD u undef, tmps.getD v undef, tmps.getD x undef]) w := by
 simp [results, h]

theorem reverse_any (base : Nat) (v : Value) (xs : List Int) (w : World) (hb : xs.length ≤ 140737488355328) (hown : Own w base 3 1 intC v xs) (hB : base ≤ w.heap.size) :
  Calls Tryz.prog 99 #[v] w fun e' w' => e' = .returned (.tuple #[]) ∧ Own w' base 3 1 intC v xs.reverse ∧ Below base w w' := by
 rcases xs with _ | ⟨x, xs⟩
 ·rcases hown.2 with ⟨rfl, _⟩ | ⟨g, cap, cur, rfl, h⟩
  ·replace hown := hide hown
   go_enter Tryz.func99, Tryz.ntmps99
   go_wp2_with fail
   go_loopw [2, 3] (fun a b wr => a = I 0 ∧ b = I (-1) ∧ w = wr) (fun _ _ _ => 0)
   case atStart => exact ⟨rfl, rfl, rfl⟩
   case round =>
    obtain ⟨rfl, rfl, rfl⟩ := hrel
    go_wp2_with fail
    go_end0
    exact ⟨rfl, hown.out, Below.refl _ _⟩
  ·exact reverse_int g cap base _ [] 0 w rfl (by omega) hown
 ·obtain ⟨g, cap, rfl, _⟩ := hown.pos (by simp)
  exact reverse_int g cap base _ (x :: xs) _ w rfl hb hown

theorem crew_Way (vs vt : Value) (ss : List Site) (ts : List Track) (s : Scene) (V : SceneV) (day frm til : Int) (w : World) (hs : Sl w 3 Site.cells vs ss) (ht : Sl w 6 Track.cells vt ts) (hS : SceneAt w s V) :
  Calls Tryz.prog 31 #[.agg #[vs, vt], s.v V, I day, I frm, I til] w fun e w' => ∃ v, e = .returned (.tuple #[v, I (wayM ss ts s day frm til), .bool (wayB ss ts s day frm til), I (wayE ss ts s day frm til)]) ∧ Own w' w.heap.size 3 1 intC v (wayP ss ts s day frm til) ∧ Below w.heap.size w w' := by
 have hneg : wayE ss ts s day frm til ≠ 0 → wayM ss ts s day frm til = 0 ∧ wayB ss ts s day frm til = false ∧ wayP ss ts s day frm til = [] := fun h => by
  have hB : wayB ss ts s day frm til = false := by simp [wayB, h]
  exact ⟨by simp [wayM, hB], hB, by simp [wayP, hB]⟩
 have hfar : wayN ss ts s day frm til = 1099511627776 → wayM ss ts s day frm til = 0 ∧ wayB ss ts s day frm til = false ∧ wayP ss ts s day frm til = [] := fun h => by
  have hB : wayB ss ts s day frm til = false := by simp [wayB, h, farN]
  exact ⟨by simp [wayM, hB], hB, by simp [wayP, hB]⟩
 have hpos : wayE ss ts s day frm til = 0 → wayN ss ts s day frm til ≠ 1099511627776 → wayM ss ts s day frm til = wayN ss ts s day frm til ∧ wayB ss ts s day frm til = true ∧ wayP ss ts s day frm til = (wayF (wayL ss ts s day frm) ((wayN ss ts s day frm til).toNat + 1) (placeS ss til).toNat).reverse := fun h h2 => by
  have hB : wayB ss ts s day frm til = true := by simp [wayB, h, h2, farN]
  exact ⟨by simp [wayM, hB], hB, by simp [wayP, hB]⟩
 obtain ⟨M, hM⟩ : ∃ M, wayM ss ts s day frm til = M := ⟨_, rfl⟩
 obtain ⟨BB, hBB⟩ : ∃ M, wayB ss ts s day frm til = M := ⟨_, rfl⟩
 obtain ⟨PP, hPP⟩ : ∃ M, wayP ss ts s day frm til = M := ⟨_, rfl⟩
 have hNd : wayN ss ts s day frm til = ((wayL ss ts s day frm).getD (placeS ss til).toNat default).minutes := rfl
 have hLd : wayL ss ts s day frm = quickF ss (openF (hwF s day) ts) (placeS ss frm).toNat := rfl
 obtain ⟨NN, hNN⟩ : ∃ M, wayN ss ts s day frm til = M := ⟨_, rfl⟩
 obtain ⟨L, hL⟩ : ∃ M, wayL ss ts s day frm = M := ⟨_, rfl⟩
 rw [hM, hBB, hPP] at hneg hfar hpos
 rw [hNN] at hfar hpos hNd
 rw [hL] at hpos hNd hLd
 rw [hM, hBB, hPP]
 clear hM hBB hPP hNN hL
 have eE : wayE ss ts s day frm til = seenE ss ts s day (sitesB ss [frm, til]) := rfl
 have hz := fun h => seen_zero (ss := ss) (ts := ts) (s := s) (day := day) (q := sitesB ss [frm, til]) h
 have JN := fun (gr gl gb : Nat) W (hb : Below w.heap.size w W) kr kl kb => seen_sites vs vt ss ts s V day gr gl gb frm til W (hs.mono hb) (ht.mono hb) (hS.mono hb) kr kl kb
 have JP := fun no W (hb : Below w.heap.size w W) => crew_site vs vt ss no W (hs.mono hb)
 have JQ := fun (hr : RangeOk ss ts) (h base : Nat) (p : Nat) (hp : p < ss.length) W (hb : Below w.heap.size w W) (H : HillAt W base h vs vt (hwF s day)) => crew_quickest h base vs vt ss ts (hwF s day) p W H (hs.mono hb) (ht.mono hb) hr hp
 have HSs := hide hs
 obtain ⟨Ac, nc, hcc, _⟩ := hS.cells.open_
 obtain ⟨Ap, np, hpp, _⟩ := hS.pairs.open_
 obtain ⟨Ad, nd, hdd, _⟩ := hS.days.open_
 obtain ⟨As, ns, hsi, _⟩ := hS.sights.open_
 obtain ⟨Ah, nh, hch, _⟩ := hS.changes.open_
 obtain ⟨A, n, rfl, _, _, _, hA⟩ := hs.open_
 obtain ⟨A', n', rfl, _⟩ := ht.open_
 unfold Scene.v at *
 rw [hcc, hpp, hdd, hsi, hch] at JN ⊢
 clear hcc hpp hdd hsi hch
 rw [← eE] at JN hz
 replace JN := hide JN
 replace JP := hide JP
 replace JQ := hide JQ
 replace hA := hide hA
 clear hs ht hS eE
 obtain ⟨w1, hw1, hb1, kR, kS⟩ := al2 w #[.slice A ss.length n, .slice A' ts.length n'] 25 (s8 s Ac nc Ap np Ad nd As ns Ah nh) 42
 have HSw := hide (fun (W : World) (hW : Below w1.heap.size w1 W) => (show W.cell? ⟨w.heap.size, 0, none⟩ = some (.slice A ss.length n) ∧ W.cell? ⟨w.heap.size, 1, none⟩ = some (.slice A' ts.length n') ∧ W.cell? ⟨w.heap.size + 1, 0, none⟩ = some (.slice Ac s.basin.cells.length nc) ∧ W.cell? ⟨w.heap.size + 1, 1, none⟩ = some (.slice Ap s.basin.pairs.length np) ∧ W.cell? ⟨w.heap.size + 1, 2, none⟩ = some (I s.basin.gain) ∧ W.cell? ⟨w.heap.size + 1, 3, none⟩ = some (I s.basin.slack) ∧ W.cell? ⟨w.heap.size + 1, 4, none⟩ = some (I s.basin.deep) ∧ W.cell? ⟨w.heap.size + 1, 5, none⟩ = some (.slice Ad s.days.length nd) ∧ W.cell? ⟨w.heap.size + 1, 6, none⟩ = some (.slice As s.sights.length ns) ∧ W.cell? ⟨w.heap.size + 1, 7, none⟩ = some (.slice Ah s.changes.length nh) from by
  have h1 := (kR.grow hW).cells2
  have h2 := (kS.grow hW).cells8
  exact ⟨h1.1, h1.2, h2⟩))
 have zR : w.heap.size < w1.heap.size := kR.lt
 have zS : w.heap.size + 1 < w1.heap.size := kS.lt
 replace kR := hide kR
 clear kS
 obtain ⟨E, hE⟩ : ∃ E, wayE ss ts s day frm til = E := ⟨_, rfl⟩
 rw [hE] at hz JN hneg hpos ⊢
 clear hE
 go_enter Tryz.func31, Tryz.ntmps31
 go_upto_region 1 with fail
 rw [← hw1]
 clear hw1
 refine wp_zgo HSw 13 fun hHeld => ?_
 (refine zg_tk 0 ?_; refine zg_tk 1 ?_; refine zg_tk 2 ?_; refine zg_tk 3 ?_; refine zg_tk 4 ?_; refine zg_tk 5 ?_; (try go_frame))
 have wB : Below w1.heap.size w1 w1.drew := (Below.refl _ _).drew
 refine zg_ready (i := 6) (by decide) rfl (by kernel_rfl) (fun K_ hK_ => ?_)
 go_simp
 obtain ⟨v2, hv2, hs2, kv2⟩ := alvd w1 #[I frm, I til] 3
 rw [← hv2]
 clear hv2
 have Bv2 := bup wB hs2
 refine hK_.out _ _ (HSw.out _ Bv2) (fun hHeld => ?_)
 clear hK_ K_
 (try go_frame)
 refine zg_ready (i := 7) (by decide) rfl (by kernel_rfl) (fun K_ hK_ => ?_)
 go_simp
 refine (crew_sites _ _ _ _ _ v2).mono ?_
 rintro e v3 ⟨rfl, kr, kl, hs3⟩
 have Bv3 := bup Bv2 hs3
 refine hK_.out _ _ (HSw.out _ Bv3) (fun hHeld => ?_)
 clear hK_ K_
 (try go_frame)
 refine zg_ready (i := 8) (by decide) rfl (by kernel_rfl) (fun K_ hK_ => ?_)
 go_simp
 refine (JN.out _ _ _ _ (bup hb1 Bv3) kr kl (kv2.grow hs3)).mono ?_
 rintro e v4 ⟨pv, rfl, hv0, hv1, hs4⟩
 have Bv4 := bup Bv3 hs4
 refine hK_.out _ _ (HSw.out _ Bv4) (fun hHeld => ?_)
 clear hK_ K_
 (try go_frame)
 (refine zg_tk 9 ?_; refine zg_tk 10 ?_; refine zg_tk 11 ?_; refine zg_tk 12 ?_; (try go_frame))
 (refine zg_ls 13 fun K_ hK_ => ?_; go_simp; skip; refine hK_.out _ _ ?_; clear hK_ K_; (try go_frame))
 have hH := fun h => (hv0 h).elim fun hh hp => (show ∃ hh, pv = .pointer (some ⟨hh, 0, none⟩) ∧ HillAt v4 v3.heap.size hh _ _ _ from ⟨hh, hp⟩)
 clear hv0 hHeld
 have hbv := bup hb1 Bv4
 obtain ⟨rR0, rR1⟩ := (kR.out.grow Bv4).cells2
 have zR4 := (kR.out.grow Bv4).lt
 replace kR := hide (kR.out.grow Bv4)
 clear HSw zS zR wB hs2 hs3 hs4 kr kl kv2 Bv2 Bv3 Bv4 JN hb1
 by_cases h0 : E = 0
 case neg =>
  obtain ⟨rfl, rfl, rfl⟩ := hneg h0
  have hne : (E != 0) = true := by simpa using h0
  obtain rfl := hv1 h0
  replace h0 := hide h0
  clear hH hz hA JP JQ HSs kR hneg hfar hpos hNd hLd
  go_wp2_with fail
  (try simp only [Exit.inBlock, Exit.then])
  refine bodyPost_ret (results_tmp4 rfl _ _ _) rfl ⟨_, rfl, Own.nil_ _ _ _ _ _, hbv⟩
 subst h0
 obtain ⟨hro, hso, hd0, hq, hgz⟩ := hz rfl
 obtain ⟨hp1, hp2⟩ := sites_two hq
 have hl1 := placeS_lt hp1
 have hl2 := placeS_lt hp2
 have n16 := hro.n1
 obtain ⟨h, rfl, hHi⟩ := hH rfl
 have JP1 := JP.out frm v4 hbv
 have JP2 := fun W hW => JP.out til W hW
 obtain ⟨p1, hpe1⟩ : ∃ p : Nat, placeS ss frm = p := ⟨(placeS ss frm).toNat, by omega⟩
 obtain ⟨p2, hpe2⟩ : ∃ p : Nat, placeS ss til = p := ⟨(placeS ss til).toNat, by omega⟩
 rw [hpe1] at JP1 hl1 hLd
 rw [hpe2] at JP2 hl2 hNd hpos
 simp only [Int.toNat_natCast] at hLd hNd hpos
 have JQ1 := fun W hW H => JQ.out hro h v3.heap.size p1 (by omega) W hW H
 have htr : TreeOk ss.length L := by
  rw [hLd]
  unfold quickF
  refine TreeOk.rounds (TreeOk.start (by omega)) (fun t ht => ?_) _
  have h1 := hro.tr (List.mem_filter.1 ht).1
  have h2 := placeS_lt h1.a
  have h3 := placeS_lt h1.b
  have h4 := h1.a
  have h5 := h1.b
  unfold pA pB
  exact ⟨h1.minutes.1, by omega, by omega⟩
 rw [← hLd] at JQ1
 clear hLd hz hq hgz hd0 hv1 hneg hH hp1 hp2
 replace htr := hide htr
 replace JP1 := hide JP1
 replace JP2 := hide JP2
 replace JQ1 := hide JQ1
 replace hHi := hide hHi
 replace hpos := hide (hpos trivial)
 replace hfar := hide hfar
 replace hNd := hide hNd
 replace hpe1 := hide hpe1
 replace hpe2 := hide hpe2
 replace hro := hide hro
 replace hso := hide hso
 have hl2' : (p2 : Int) < (ss.length : Int) := by omega
 have hp20 : (0 : Int) ≤ (p2 : Int) := by omega
 go_wp2_with fail
 go_at_call 83
 refine JP1.out.mono ?_
 rintro e v5 ⟨rfl, hb5⟩
 have hbv5 := bup hbv hb5
 go_wp2_with fail
 go_at_call 88
 refine (JQ1.out _ hbv5 (hHi.out.below hb5)).mono ?_
 rintro e v6 ⟨g, rfl, hg6, kL, hb6⟩
 have hbv6 := bup hbv5 hb6
 clear rR0 rR1 zR4
 obtain ⟨rR0, rR1⟩ := ((kR.out.grow hb5).grow hb6).cells2
 have zR4 := ((kR.out.grow hb5).grow hb6).lt
 replace kL := hide kL
 clear JQ1 JP1 hHi
 go_wp2_with fail
 go_at_call 83
 refine (JP2.out _ hbv6).mono ?_
 rintro e v7 ⟨rfl, hb7⟩
 have hbv7 := bup hbv6 hb7
 clear rR0 rR1 zR4 JP2 hbv hbv5 hbv6
 have kL7 := kL.out.grow hb7
 obtain ⟨sl, hsl, hsg, hs0, hs1⟩ := htr.out.ok.at_ (i := p2) (by omega)
 have c0 : v7.cell? ⟨g, p2 * 3, none⟩ = some (I sl.minutes) := (kL7.cell _).trans (stArr_get hsl).1
 have zg7 := kL7.lt
 have hNN : NN = sl.minutes := by rw [hNd.out, hsg]
 rw [← hNN] at c0 hs0 hs1
 replace hNN := hide hNN
 replace hsl := hide hsl
 replace hsg := hide hsg
 replace kL7 := hide kL7
 by_cases hf : NN = 1099511627776
 case pos =>
  obtain ⟨rfl, rfl, rfl⟩ := hfar.out hf
  subst hf
  clear hpos hfar
  go_wp2_with fail
  (try simp only [Exit.inBlock, Exit.then])
  refine bodyPost_ret (results_tmp4 rfl _ _ _) rfl ⟨_, rfl, Own.nil_ _ _ _ _ _, hbv7⟩
 case neg =>
 obtain ⟨rfl, rfl, hPP⟩ := hpos.out hf
 have hfd : (M == 1099511627776) = false := by simpa using hf
 replace hPP := hide hPP
 replace hf := hide hf
 clear hfar hNd
 go_wp2_with fail
 clear c0
 have hMm : (L.getD p2 default).minutes = M := by rw [hsg.out]; exact hNN.out.symm
 have hM0 : (L.getD p2 default).minutes.toNat ≤ 1099511627776 := by rw [hMm]; omega
 have hst := hide (show ([] : List Int) ++ wayF L ((L.getD p2 default).minutes.toNat + 1) p2 = wayF L (M.toNat + 1) p2 by rw [hMm]; rfl)
 replace hMm := hide hMm
 clear hsl hsg hNN
 have sv7 := hbv7.size
 obtain ⟨N, hN⟩ : ∃ N, ss.length = N := ⟨_, rfl⟩
 rw [hN] at htr hl2 ⊢
 replace hN := hide hN
 obtain ⟨W, hW⟩ : ∃ W, wayF L (M.toNat + 1) p2 = W := ⟨_, rfl⟩
 rw [hW] at hst hPP
 clear hW
 go_loopw [17, 19] (fun a vo wr => ∃ (i : Nat) (xs : List Int), i < N ∧ a = I i ∧ Hid (Own wr v7.heap.size 3 1 intC vo xs) ∧ Hid (Below v7.heap.size v7 wr) ∧ Hid (xs ++ wayF L ((L.getD i default).minutes.toNat + 1) i = W) ∧ Hid (xs.length + (L.getD i default).minutes.toNat ≤ 1099511627776)) (fun a _ _ => (L.getD (intOf a).toNat default).minutes.toNat)
 case atStart => exact ⟨p2, [], by omega, rfl, hide (Own.nil_ _ _ _ _ _), hide (Below.refl _ _), hst, hide (by simpa using hM0)⟩
 clear hst hM0
 case round =>
  obtain ⟨i, xs, hi, rfl, ho, hb, hx, hxl⟩ := hrel
  have sr := hb.out.size
  have kLr := kL7.out.grow hb.out
  obtain ⟨si, hsi, hsgi, hi0, hi1⟩ := htr.out.ok.at_ hi
  obtain ⟨e0, e1, e2⟩ := stArr_get hsi
  have c1 : wr.cell? ⟨g, i * 3 + 1, none⟩ = some (I si.before) := (kLr.cell _).trans e1
  have c2 : wr.cell? ⟨g, i * 3 + 2, none⟩ = some (I si.track) := (kLr.cell _).trans e2
  have zg := kLr.lt
  have htri := htr.out.tree i hi
  rw [hsgi] at htri hx hxl
  have hii0 : (0 : Int) ≤ (i : Int) := by omega
  have hii1 : (i : Int) < (N : Int) := by omega
  replace kLr := hide kLr
  replace hsi := hide hsi
  clear e0 e1 e2
  rcases ilt si.before 0 with hneg' | hge
  ·have hwf : wayF L (si.minutes.toNat + 1) i = [] := by
    unfold wayF
    rw [hsgi, if_pos hneg']
   have hx2 : xs = W := by have := hx.out; rw [hwf, List.append_nil] at this; exact this
   have hbd : decide (0 ≤ si.before) = false := by simp; omega
   have hxlen : xs.length ≤ 1099511627776 := by have := hxl.out; omega
   replace hsgi := hide hsgi
   replace hneg' := hide hneg'
   replace hxlen := hide hxlen
   clear htri hwf hx hxl
   obtain ⟨A1, n1, c1', rfl⟩ := ho.out.shape
   go_wp2_with fail
   go_at_call 99
   refine (reverse_any v7.heap.size _ xs wr (by have := hxlen.out; omega) ho.out sr).mono ?_
   rintro e v9 ⟨rfl, ho9, hb9⟩
   have hbF := hide (bup hbv7 (hb.out.trans hb9))
   rw [hx2, ← hPP.out] at ho9
   replace ho9 := hide ho9
   clear c1 c2 hb9
   go_wp2_with fail
   (try simp only [Exit.inBlock, Exit.then])
   refine bodyPost_ret (results_tmp4 rfl _ _ _) rfl ⟨_, rfl, ho9.out.mono sv7, hbF.out⟩
  ·obtain ⟨t1, t2⟩ := htri hge
   obtain ⟨j, hj⟩ : ∃ j : Nat, si.before = j := ⟨si.before.toNat, by omega⟩
   rw [hj] at c1 t1 t2 hge
   simp only [Int.toNat_natCast] at t2
   have hjN : j < N := by omega
   obtain ⟨sj, _, hsgj, hj0, _⟩ := htr.out.ok.at_ hjN
   rw [hsgj] at t2
   have hwf : wayF L (si.minutes.toNat + 1) i = si.track :: wayF L (sj.minutes.toNat + 1) j := by
    have h9 := wayF_mono htr.out (sj.minutes.toNat + 1) si.minutes.toNat j hjN (by rw [hsgj]; omega) (by omega)
    rw [← h9]
    conv => lhs; unfold wayF
    rw [hsgi, hj, if_neg (by omega), Int.toNat_natCast]
   have hx2 := hide (show (xs ++ [si.track]) ++ wayF L ((L.getD j default).minutes.toNat + 1) j = W by rw [hsgj, ← hx.out, hwf]; simp)
   have hxl2 := hide (show (xs ++ [si.track]).length + (L.getD j default).minutes.toNat ≤ 1099511627776 by rw [hsgj]; have := hxl.out; simp; omega)
   have hxlen : xs.length ≤ 1099511627776 := by have := hxl.out; omega
   have hmeas := hide (show (L.getD j default).minutes.toNat < (L.getD i default).minutes.toNat by rw [hsgj, hsgi]; omega)
   have hjd : decide (0 ≤ (j : Int)) = true := by simp
   replace hsgi := hide hsgi
   replace hsgj := hide hsgj
   replace hxlen := hide hxlen
   replace hj := hide hj
   clear hwf hx hxl htri t1 t2 hi0 hi1 hj0
   go_wp2_with (at_builtin; refine wp_push el_int intC_len intC_one rfl (.tmp 56) (.tmp 62) rfl v7.heap.size rfl (ho.out.alloc _) si.track rfl ?c1 ?c2 ?c3 ?c4 ?_)
   case c1 => exact new_cells rfl _ (intC si.track)
   case c2 => have := hxlen.out; omega
   case c3 => have := hxlen.out; omega
   case c4 => simp; omega
   intro v' w6 hown hbel _
   obtain ⟨A1, n1, c1', rfl⟩ := hown.shape
   replace hown := hide hown
   have hbF := hide ((hb.out.alloc sr (.cells #[I si.track] 3)).trans hbel)
   have kLF := kL7.out.grow hbF.out
   have d1 : w6.cell? ⟨g, i * 3 + 1, none⟩ = some (I j) := (kLF.cell _).trans (by
    have h9 := (stArr_get hsi.out).2.1
    rw [hj.out] at h9
    exact h9)
   have zgF := kLF.lt
   replace kLF := hide kLF
   clear hbel c1 c2
   go_wp2_with fail
   go_roundw
   case rel => exact ⟨j, _, hjN, rfl, hown, hbF, hx2, hxl2⟩
   case measure => simp only [intOf, Int.toNat_natCast]; exact hmeas.out

theorem cut_snoc {ss : List Site} {l : List Stp} {k : Nat} {x : Site} {t : Stp} (hx : ss[k]? = some x) (ht : l[k]? = some t) :
  cutF (ss.take (k + 1)) (l.take (k + 1)) = cutF (ss.take k) (l.take k) ++ (if decide (t.minutes < farN) = true then [x.no] else []) := by
 have hz : (ss.take (k + 1)).zip (l.take (k + 1)) = (ss.take k).zip (l.take k) ++ [(x, t)] := by
  rw [List.take_succ_eq_append_getElem (List.getElem?_eq_some_iff.1 hx).1, List.take_succ_eq_append_getElem (List.getElem?_eq_some_iff.1 ht).1, (List.getElem?_eq_some_iff.1 hx).2, (List.getElem?_eq_some_iff.1 ht).2]
  rw [List.zip_append (by rw [List.length_take, List.length_take, Nat.min_eq_left (Nat.le_of_lt (List.getElem?_eq_some_iff.1 hx).1), Nat.min_eq_left (Nat.le_of_lt (List.getElem?_eq_some_iff.1 ht).1)])]
  rfl
 unfold cutF
 rw [hz, List.filter_append, List.map_append]
 congr 1
 simp only [List.filter_cons, List.filter_nil]
 split <;> simp
theorem cut_len (ss : List Site) (l : List Stp) : (cutF ss l).length ≤ ss.length := by
 unfold cutF
 rw [List.length_map]
 refine Nat.le_trans (List.length_filter_le ..) ?_
 rw [List.length_zip]
 omega
theorem crew_Cut (vs vt : Value) (ss : List Site) (ts : List Track) (s : Scene) (V : SceneV) (day frm til : Int) (w : World) (hs : Sl w 3 Site.cells vs ss) (ht : Sl w 6 Track.cells vt ts) (hS : SceneAt w s V) :
  Calls Tryz.prog 26 #[.agg #[vs, vt], s.v V, I day, I frm, I til] w fun e w' => ∃ v, e = .returned (.tuple #[v, .bool (cutB ss ts s day frm til), I (wayE ss ts s day frm til)]) ∧ Own w' w.heap.size 3 1 intC v (cutV ss ts s day frm til) ∧ Below w.heap.size w w' := by
 have hneg : wayE ss ts s day frm til ≠ 0 → cutB ss ts s day frm til = false ∧ cutV ss ts s day frm til = [] := fun h => by
  have hB : cutB ss ts s day frm til = false := by simp [cutB, h]
  exact ⟨hB, by simp [cutV, hB]⟩
 have hfar : wayN ss ts s day frm til ≠ 1099511627776 → cutB ss ts s day frm til = false ∧ cutV ss ts s day frm til = [] := fun h => by
  have hB : cutB ss ts s day frm til = false := by simp [cutB, h, farN]
  exact ⟨hB, by simp [cutV, hB]⟩
 have hpos : wayE ss ts s day frm til = 0 → wayN ss ts s day frm til = 1099511627776 → cutB ss ts s day frm til = true ∧ cutV ss ts s day frm til = cutF ss (wayL ss ts s day frm) := fun h h2 => by
  have hB : cutB ss ts s day frm til = true := by simp [cutB, h, h2, farN]
  exact ⟨hB, by simp [cutV, hB]⟩
 obtain ⟨BB, hBB⟩ : ∃ M, cutB ss ts s day frm til = M := ⟨_, rfl⟩
 obtain ⟨PP, hPP⟩ : ∃ M, cutV ss ts s day frm til = M := ⟨_, rfl⟩
 have hNd : wayN ss ts s day frm til = ((wayL ss ts s day frm).getD (placeS ss til).toNat default).minutes := rfl
 have hLd : wayL ss ts s day frm = quickF ss (openF (hwF s day) ts) (placeS ss frm).toNat := rfl
 obtain ⟨NN, hNN⟩ : ∃ M, wayN ss ts s day frm til = M := ⟨_, rfl⟩
 obtain ⟨L, hL⟩ : ∃ M, wayL ss ts s day frm = M := ⟨_, rfl⟩
 rw [hBB, hPP] at hneg hfar hpos
 rw [hNN] at hfar hpos hNd
 rw [hL] at hpos hNd hLd
 rw [hBB, hPP]
 clear hBB hPP hNN hL
 have eE : wayE ss ts s day frm til = seenE ss ts s day (sitesB ss [frm, til]) := rfl
 have hz := fun h => seen_zero (ss := ss) (ts := ts) (s := s) (day := day) (q := sitesB ss [frm, til]) h
 have JN := fun (gr gl gb : Nat) W (hb : Below w.heap.size w W) kr kl kb => seen_sites vs vt ss ts s V day gr gl gb frm til W (hs.mono hb) (ht.mono hb) (hS.mono hb) kr kl kb
 have JP := fun no W (hb : Below w.heap.size w W) => crew_site vs vt ss no W (hs.mono hb)
 have JQ := fun (hr : RangeOk ss ts) (h base : Nat) (p : Nat) (hp : p < ss.length) W (hb : Below w.heap.size w W) (H : HillAt W base h vs vt (hwF s day)) => crew_quickest h base vs vt ss ts (hwF s day) p W H (hs.mono hb) (ht.mono hb) hr hp
 have HSs := hide hs
 obtain ⟨Ac, nc, hcc, _⟩ := hS.cells.open_
 obtain ⟨Ap, np, hpp, _⟩ := hS.pairs.open_
 obtain ⟨Ad, nd, hdd, _⟩ := hS.days.open_
 obtain ⟨As, ns, hsi, _⟩ := hS.sights.open_
 obtain ⟨Ah, nh, hch, _⟩ := hS.changes.open_
 obtain ⟨A, n, rfl, _, _, _, hA⟩ := hs.open_
 obtain ⟨A', n', rfl, _⟩ := ht.open_
 unfold Scene.v at *
 rw [hcc, hpp, hdd, hsi, hch] at JN ⊢
 clear hcc hpp hdd hsi hch
 rw [← eE] at JN hz
 replace JN := hide JN
 replace JP := hide JP
 replace JQ := hide JQ
 replace hA := hide hA
 clear hs ht hS eE
 obtain ⟨w1, hw1, hb1, kR, kS⟩ := al2 w #[.slice A ss.length n, .slice A' ts.length n'] 25 (s8 s Ac nc Ap np Ad nd As ns Ah nh) 42
 have HSw := hide (fun (W : World) (hW : Below w1.heap.size w1 W) => (show W.cell? ⟨w.heap.size, 0, none⟩ = some (.slice A ss.length n) ∧ W.cell? ⟨w.heap.size, 1, none⟩ = some (.slice A' ts.length n') ∧ W.cell? ⟨w.heap.size + 1, 0, none⟩ = some (.slice Ac s.basin.cells.length nc) ∧ W.cell? ⟨w.heap.size + 1, 1, none⟩ = some (.slice Ap s.basin.pairs.length np) ∧ W.cell? ⟨w.heap.size + 1, 2, none⟩ = some (I s.basin.gain) ∧ W.cell? ⟨w.heap.size + 1, 3, none⟩ = some (I s.basin.slack) ∧ W.cell? ⟨w.heap.size + 1, 4, none⟩ = some (I s.basin.deep) ∧ W.cell? ⟨w.heap.size + 1, 5, none⟩ = some (.slice Ad s.days.length nd) ∧ W.cell? ⟨w.heap.size + 1, 6, none⟩ = some (.slice As s.sights.length ns) ∧ W.cell? ⟨w.heap.size + 1, 7, none⟩ = some (.slice Ah s.changes.length nh) from by
  have h1 := (kR.grow hW).cells2
  have h2 := (kS.grow hW).cells8
  exact ⟨h1.1, h1.2, h2⟩))
 have zR : w.heap.size < w1.heap.size := kR.lt
 have zS : w.heap.size + 1 < w1.heap.size := kS.lt
 replace kR := hide kR
 clear kS
 obtain ⟨E, hE⟩ : ∃ E, wayE ss ts s day frm til = E := ⟨_, rfl⟩
 rw [hE] at hz JN hneg hpos ⊢
 clear hE
 go_enter Tryz.func26, Tryz.ntmps26
 go_upto_region 1 with fail
 rw [← hw1]
 clear hw1
 refine wp_zgo HSw 13 fun hHeld => ?_
 (refine zg_tk 0 ?_; refine zg_tk 1 ?_; refine zg_tk 2 ?_; refine zg_tk 3 ?_; refine zg_tk 4 ?_; refine zg_tk 5 ?_; (try go_frame))
 have wB : Below w1.heap.size w1 w1.drew := (Below.refl _ _).drew
 refine zg_ready (i := 6) (by decide) rfl (by kernel_rfl) (fun K_ hK_ => ?_)
 go_simp
 obtain ⟨v2, hv2, hs2, kv2⟩ := alvd w1 #[I frm, I til] 3
 rw [← hv2]
 clear hv2
 have Bv2 := bup wB hs2
 refine hK_.out _ _ (HSw.out _ Bv2) (fun hHeld => ?_)
 clear hK_ K_
 (try go_frame)
 refine zg_ready (i := 7) (by decide) rfl (by kernel_rfl) (fun K_ hK_ => ?_)
 go_simp
 refine (crew_sites _ _ _ _ _ v2).mono ?_
 rintro e v3 ⟨rfl, kr, kl, hs3⟩
 have Bv3 := bup Bv2 hs3
 refine hK_.out _ _ (HSw.out _ Bv3) (fun hHeld => ?_)
 clear hK_ K_
 (try go_frame)
 refine zg_ready (i := 8) (by decide) rfl (by kernel_rfl) (fun K_ hK_ => ?_)
 go_simp
 refine (JN.out _ _ _ _ (bup hb1 Bv3) kr kl (kv2.grow hs3)).mono ?_
 rintro e v4 ⟨pv, rfl, hv0, hv1, hs4⟩
 have Bv4 := bup Bv3 hs4
 refine hK_.out _ _ (HSw.out _ Bv4) (fun hHeld => ?_)
 clear hK_ K_
 (try go_frame)
 (refine zg_tk 9 ?_; refine zg_tk 10 ?_; refine zg_tk 11 ?_; refine zg_tk 12 ?_; (try go_frame))
 (refine zg_ls 13 fun K_ hK_ => ?_; go_simp; skip; refine hK_.out _ _ ?_; clear hK_ K_; (try go_frame))
 have hH := fun h => (hv0 h).elim fun hh hp => (show ∃ hh, pv = .pointer (some ⟨hh, 0, none⟩) ∧ HillAt v4 v3.heap.size hh _ _ _ from ⟨hh, hp⟩)
 clear hv0 hHeld
 have hbv := bup hb1 Bv4
 obtain ⟨rR0, rR1⟩ := (kR.out.grow Bv4).cells2
 have zR4 := (kR.out.grow Bv4).lt
 replace kR := hide (kR.out.grow Bv4)
 clear HSw zS zR wB hs2 hs3 hs4 kr kl kv2 Bv2 Bv3 Bv4 JN hb1
 by_cases h0 : E = 0
 case neg =>
  obtain ⟨rfl, rfl⟩ := hneg h0
  have hne : (E != 0) = true := by simpa using h0
  obtain rfl := hv1 h0
  replace h0 := hide h0
  clear hH hz hA JP JQ HSs kR hneg hfar hpos hNd hLd
  go_wp2_with fail
  go_ret3
  exact ⟨_, rfl, Own.nil_ _ _ _ _ _, hbv⟩
 subst h0
 obtain ⟨hro, hso, hd0, hq, hgz⟩ := hz rfl
 obtain ⟨hp1, hp2⟩ := sites_two hq
 have hl1 := placeS_lt hp1
 have hl2 := placeS_lt hp2
 have n16 := hro.n1
 obtain ⟨h, rfl, hHi⟩ := hH rfl
 have JP1 := JP.out frm v4 hbv
 have JP2 := fun W hW => JP.out til W hW
 obtain ⟨p1, hpe1⟩ : ∃ p : Nat, placeS ss frm = p := ⟨(placeS ss frm).toNat, by omega⟩
 obtain ⟨p2, hpe2⟩ : ∃ p : Nat, placeS ss til = p := ⟨(placeS ss til).toNat, by omega⟩
 rw [hpe1] at JP1 hl1 hLd
 rw [hpe2] at JP2 hl2 hNd
 simp only [Int.toNat_natCast] at hLd hNd
 have JQ1 := fun W hW H => JQ.out hro h v3.heap.size p1 (by omega) W hW H
 have htr : TreeOk ss.length L := by
  rw [hLd]
  unfold quickF
  refine TreeOk.rounds (TreeOk.start (by omega)) (fun t ht => ?_) _
  have h1 := hro.tr (List.mem_filter.1 ht).1
  have h2 := placeS_lt h1.a
  have h3 := placeS_lt h1.b
  have h4 := h1.a
  have h5 := h1.b
  unfold pA pB
  exact ⟨h1.minutes.1, by omega, by omega⟩
 rw [← hLd] at JQ1
 clear hLd hz hq hgz hd0 hv1 hneg hH hp1 hp2
 replace htr := hide htr
 replace JP1 := hide JP1
 replace JP2 := hide JP2
 replace JQ1 := hide JQ1
 replace hHi := hide hHi
 replace hpos := hide (hpos rfl)
 replace hfar := hide hfar
 replace hNd := hide hNd
 replace hpe1 := hide hpe1
 replace hpe2 := hide hpe2
 replace hro := hide hro
 replace hso := hide hso
 have hl2' : (p2 : Int) < (ss.length : Int) := by omega
 have hp20 : (0 : Int) ≤ (p2 : Int) := by omega
 go_wp2_with fail
 go_at_call 83
 refine JP1.out.mono ?_
 rintro e v5 ⟨rfl, hb5⟩
 have hbv5 := bup hbv hb5
 go_wp2_with fail
 go_at_call 88
 refine (JQ1.out _ hbv5 (hHi.out.below hb5)).mono ?_
 rintro e v6 ⟨g, rfl, hg6, kL, hb6⟩
 have hbv6 := bup hbv5 hb6
 clear rR0 rR1 zR4
 obtain ⟨rR0, rR1⟩ := ((kR.out.grow hb5).grow hb6).cells2
 have zR4 := ((kR.out.grow hb5).grow hb6).lt
 replace kL := hide kL
 clear JQ1 JP1 hHi
 go_wp2_with fail
 go_at_call 83
 refine (JP2.out _ hbv6).mono ?_
 rintro e v7 ⟨rfl, hb7⟩
 have hbv7 := bup hbv6 hb7
 clear rR0 rR1 zR4 JP2 hbv hbv5 hbv6
 have kL7 := kL.out.grow hb7
 obtain ⟨sl, hsl, hsg, hs0, hs1⟩ := htr.out.ok.at_ (i := p2) (by omega)
 have c0 : v7.cell? ⟨g, p2 * 3, none⟩ = some (I sl.minutes) := (kL7.cell _).trans (stArr_get hsl).1
 have zg7 := kL7.lt
 have hNN : NN = sl.minutes := by rw [hNd.out, hsg]
 rw [← hNN] at c0 hs0 hs1
 replace hNN := hide hNN
 replace hsl := hide hsl
 replace hsg := hide hsg
 replace kL7 := hide kL7
 have zR7 : w.heap.size < v7.heap.size := by have := hbv7.size; have := (((kR.out.grow hb5).grow hb6).grow hb7).lt; omega
 have rR7 : v7.cell? ⟨w.heap.size, 0, none⟩ = some (.slice A ss.length n) := (((kR.out.grow hb5).grow hb6).grow hb7).cell 0
 by_cases hf : NN = 1099511627776
 case neg =>
  obtain ⟨rfl, rfl⟩ := hfar.out hf
  have hlt9 : decide (NN < 1099511627776) = true := by simp; omega
  replace hf := hide hf
  clear hpos hfar
  go_wp2_with fail
  go_ret3
  exact ⟨_, rfl, Own.nil_ _ _ _ _ _, hbv7⟩
 case pos =>
 obtain ⟨rfl, hPP⟩ := hpos.out hf
 subst hf
 replace hPP := hide hPP
 clear hfar hNd hpos
 go_wp2_with fail
 clear c0 rR7 zR7
 have sv7 := hbv7.size
 obtain ⟨N, hN⟩ : ∃ N, ss.length = N := ⟨_, rfl⟩
 rw [hN] at htr hl2 n16 HSs hA ⊢
 go_loopw [16, 50] (fun vo i wr => ∃ k : Nat, k ≤ N ∧ i = I k ∧ Hid (Own wr v7.heap.size 3 1 intC vo (cutF (ss.take k) (L.take k))) ∧ Hid (Below v7.heap.size v7 wr)) (fun _ i _ => N - (intOf i).toNat)
 case atStart => exact ⟨0, Nat.zero_le _, rfl, hide (Own.nil_ _ _ _ _ _), hide (Below.refl _ _)⟩
 case round =>
  obtain ⟨k, hk, rfl, ho, hb⟩ := hrel
  have sr := hb.out.size
  by_cases hlt : k < N
  ·have kLr := kL7.out.grow hb.out
   obtain ⟨sk, hsk, _, hk0, hk1⟩ := htr.out.ok.at_ hlt
   have c1 : wr.cell? ⟨g, k * 3, none⟩ = some (I sk.minutes) := (kLr.cell _).trans (stArr_get hsk).1
   have zg := kLr.lt
   obtain ⟨b, off, rfl, hbw⟩ := hA.out k hlt
   obtain ⟨x, hx⟩ := getElem?_of_lt (xs := ss) (k := k) (by omega)
   have hSl := HSs.out.mono (hbv7.trans (hb.out.mono sv7))
   rw [← hN] at hSl
   obtain ⟨_, f0, f1, f2⟩ := hSl.site_at hx
   have hbx : b < wr.heap.size := by omega
   have hk2 : (0 : Int) ≤ (k : Int) := by omega
   have hk3 : (k : Int) < (N : Int) := by omega
   have hsn := cut_snoc hx hsk
   have hcl := cut_len (ss.take k) (L.take k)
   rw [List.length_take] at hcl
   have hcl2 : (cutF (ss.take k) (L.take k)).length ≤ 16 := by omega
   obtain ⟨w5, hw5, hb5', kX⟩ := al1 wr #[I x.no, I x.kind, I x.cell] 80
   obtain ⟨x0, x1, x2⟩ := kX.cells3
   have zX := kX.lt
   have s5 := hb5'.size
   have c5 : w5.cell? ⟨g, k * 3, none⟩ = some (I sk.minutes) := (hb5'.cell (p := ⟨g, k * 3, none⟩) zg).trans c1
   have zg5 : g < w5.heap.size := by omega
   clear kX hSl hA hcl kLr c1
   replace hx := hide hx
   replace hsk := hide hsk
   replace hcl2 := hide hcl2
   by_cases hm : sk.minutes < 1099511627776
   ·rw [if_pos (decide_eq_true (show sk.minutes < farN from hm))] at hsn
    have hmd : decide (sk.minutes < 1099511627776) = true := by simpa using hm
    replace hsn := hide hsn
    replace hm := hide hm
    go_upto_region 11 with fail
    rw [← hw5]
    clear hw5 f0 f1 f2
    go_wp2_with (at_builtin; refine wp_push el_int intC_len intC_one rfl (.tmp 61) (.tmp 64) rfl v7.heap.size rfl ((ho.out.below hb5').alloc _) x.no rfl ?c1 ?c2 ?c3 ?c4 ?_)
    case c1 => exact new_cells rfl _ (intC x.no)
    case c2 => have := hcl2.out; omega
    case c3 => have := hcl2.out; omega
    case c4 => simp; omega
    intro v' w6 hown hbel _
    rw [← hsn.out] at hown
    obtain ⟨A1, n1, c1', rfl⟩ := hown.shape
    replace hown := hide hown
    have hbF := hide (((hb.out.trans (hb5'.mono sr)).alloc (by omega) (.cells #[I x.no] 3)).trans hbel)
    clear hbel x0 x1 x2 c5
    go_wp2_with fail
    go_roundw
    case rel => exact ⟨k + 1, by omega, by go_num, hown, hbF⟩
    case measure => simp [intOf]; omega
   ·rw [decide_eq_false (show ¬ sk.minutes < farN from hm), if_neg (by simp), List.append_nil] at hsn
    have hmd : decide (sk.minutes < 1099511627776) = false := by simpa using hm
    replace hsn := hide hsn
    replace hm := hide hm
    go_upto_region 11 with fail
    rw [← hw5]
    clear hw5 f0 f1 f2
    go_wp2_with fail
    go_roundw
    case rel => exact ⟨k + 1, by omega, by go_num, hide (by rw [hsn.out]; exact ho.out.below hb5'), hide (hb.out.trans (hb5'.mono sr))⟩
    case measure => simp [intOf]; omega
  ·have he : k = N := by omega
   subst he
   have ho2 := ho.out
   rw [List.take_of_length_le (by omega), List.take_of_length_le (by rw [htr.out.ok.len]; exact Nat.le_refl _), ← hPP.out] at ho2
   obtain ⟨A1, n1, c1', rfl⟩ := ho2.shape
   replace ho2 := hide ho2
   go_wp2_with fail
   go_ret3
   exact ⟨_, rfl, ho2.out.mono sv7, bup hbv7 hb.out⟩
end Go.Proofs.YtgbbljfmngmjeaaGreat
