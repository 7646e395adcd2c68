/- estraylaw19: ReachGone. -/
import Derived.Test.YtcpljmonmchloaaGreatRcP
import Derived.Test.YtcpljmonmchloaaGreatRcQ
import Derived.Deep.CutBlock
namespace Go.Proofs.YtcpljmonmchloaaGreat
open Go.RowKit Go.ChangeShapes Go.WideShapes Go.ChangeAt Go.Deep
set_option linter.unusedVariables false
set_option linter.unusedSimpArgs false

theorem kept_block {w w' : World} {b : Nat} {o : Obj} (hk : Keeps (fun _ => False) w w') (h : w.heap[b]? = some o) : w'.heap[b]? = some o := block_keep h hk (fun h => h)
theorem refs_two {w : World} {b : Nat} {x : Rf} (h : w.heap[b]? = some (.cells #[.int .i64 0, .int .u32 0, .int .i64 x.s, .int .u32 x.g] 24)) : Refs w (.slice (some ⟨b, 0, none⟩) 2 2) [⟨0, 0⟩, x] :=
  .inr ⟨b, 2, _, rfl, h, fun j r hj => by
    match j, hj with
    | 0, hj => obtain rfl := Option.some.inj hj; exact ⟨rfl, rfl⟩
    | 1, hj => obtain rfl := Option.some.inj hj; exact ⟨rfl, rfl⟩⟩
def ByRow (w : World) (v : Value) (l : List Nat) : Prop := ∃ a cap, v = .slice a l.length cap ∧ l.length ≤ cap ∧ cap ≤ maxLen ∧ (l = [] ∨ ∃ b off, a = some ⟨b, off, none⟩ ∧ b < w.heap.size ∧ ∀ (i : Nat) (x : Nat), l[i]? = some x → x < 256 ∧ w.cell? ⟨b, off + i, none⟩ = some (.int .u8 x))
def ks1 : List Flat := [.int .u8]
theorem byrow_of {w : World} {a : Option Addr} {len cap : Nat} (h1 : len ≤ cap) (h2 : cap ≤ maxLen) (h : len = 0 ∨ ∃ b off, a = some ⟨b, off, none⟩ ∧ b < w.heap.size ∧ ∀ i, i < len → CellsAt w b (off + i * ks1.length) ks1) :
    ∃ l, ByRow w (.slice a len cap) l := by
  rcases h with rfl | ⟨b, off, rfl, hb, hx⟩
  · exact ⟨[], a, cap, rfl, h1, h2, .inl rfl⟩
  · have hc : ∀ i : Nat, ∃ x : Nat, i < len → x < 256 ∧ w.cell? ⟨b, off + i, none⟩ = some (.int .u8 x) := fun i => by
      by_cases hi : i < len
      · obtain ⟨_, h0, k0⟩ := hx i hi 0 _ rfl
        obtain ⟨a0, rfl, l0⟩ := byte_of k0
        exact ⟨a0, fun _ => ⟨l0, by simpa [ks1] using h0⟩⟩
      · exact ⟨0, fun h => absurd h hi⟩
    obtain ⟨f, hf⟩ := Classical.axiomOfChoice hc
    refine ⟨(List.range len).map f, _, cap, by simp, by simpa using h1, h2, .inr ⟨b, off, rfl, hb, fun i x hi => ?_⟩⟩
    rw [List.getElem?_map] at hi
    by_cases hl : i < len
    · rw [List.getElem?_range hl] at hi
      simp only [Option.map_some, Option.some.injEq] at hi
      subst hi
      exact hf i hl
    · rw [List.getElem?_eq_none (by simpa using hl)] at hi
      cases hi
set_option maxRecDepth 100000 in
set_option maxHeartbeats 4000000 in
theorem reachGone_walk (v1 v2 : Value) (l : List Mv) (m : List Nat) (w : World) (h1 : MvRow w v1 l) (h2 : ByRow w v2 m) :
    Calls Tryz.prog 10 #[v1, v2] w fun e w' => e = .returned (.bool true) ∧ Keeps (fun _ => False) w w' := by
  obtain ⟨pa, cap, rfl, hcap, hmax, hx⟩ := h2
  have hn0 : (0 : Int) ≤ (m.length : Int) := by omega
  have hcap' : (m.length : Int) ≤ (cap : Int) := by omega
  obtain ⟨K, hK⟩ : ∃ K, min m.length 20 = K := ⟨_, rfl⟩
  have hmin : min (m.length : Int) 20 = (K : Int) := by omega
  have hK0 : (0 : Int) ≤ (K : Int) := by omega
  have hK1 : (K : Int) ≤ (m.length : Int) := by omega
  have hK2 : (K : Int) ≤ (cap : Int) := by omega
  have HX := hid hx; have HKE := hid hK
  have HPL := hid (played19 v1 l w h1)
  have hg := good19 l
  have hn40 := pl19_n l
  obtain ⟨s, hs⟩ : ∃ s, Sys.pl19 l = s := ⟨_, rfl⟩
  rw [hs] at HPL hg hn40
  have HG := hid hg; have HN40 := hid hn40
  clear hx hK h1 hs hg hn40
  go_enter Tryz.func10, Tryz.ntmps10
  go_wp2_with fail
  refine HPL.out.mono ?_
  rintro e w1 ⟨a, L, rfl, h1⟩
  have H1 := hid h1
  clear h1 HPL
  go_upto_block 0 with (fail)
  go_cut [44] (fun _ wx => ∃ A : Ar, A.many = 2 ∧ A.H.T.n = 40 ∧ Hid (Ay w.heap.size w wx a L A))
  case first =>
    go_wp2_with fail
    go_loopw [44] (fun ix wr => ∃ (k : Nat) (A : Ar), k ≤ K ∧ ix = .int .i64 k ∧ A.many = 2 ∧ A.H.T.n = 40 ∧ Hid (Ay w.heap.size w wr a L A)) (fun ix _ => K - (intOf ix).toNat)
    case atStart => exact ⟨0, s.A, by omega, rfl, HG.out.many, HN40.out, H1⟩
    case round =>
      clear H1 HG HN40
      obtain ⟨k, A, hk, rfl, hm2, hn40, HA⟩ := hrel
      have hk0 : (0 : Int) ≤ k := by omega
      by_cases hlt : k < K
      · have hkl : k < m.length := by omega
        obtain ⟨x, hxk⟩ : ∃ x, m[k]? = some x := ⟨_, List.getElem?_eq_getElem hkl⟩
        have hlt' : (k : Int) < (K : Int) := by omega
        obtain ⟨b, off, rfl, hb, hcl⟩ := HX.out.resolve_left (by intro h; rw [h] at hkl; simp at hkl)
        obtain ⟨hx256, c0⟩ := hcl k x hxk
        have c0 := (World.cell?_of_block (w := w) (w' := wr) (a := ⟨b, off + k, none⟩) (HA.out.k.block b hb (by omega))).trans c0
        have hbw : b < wr.heap.size := Nat.lt_of_lt_of_le hb HA.out.k.size
        have hxw : IntKind.i64.wrap (x : Int) = (x : Int) := IntWalk.i64_in _ (by omega)
        clear hcl hxk
        go_wp2_with fail
        refine (aheap_ok a L A wr HA.out.ar).mono ?_
        rintro e w2 ⟨b2, t2, rfl, k2, _, _, hh2⟩
        have HA2 := hid (HA.out.quiet k2)
        have HH2 := hid hh2
        clear k2 hh2 HA
        go_wp2_with fail
        refine (hall_ok b2 t2 A.H w2 HH2.out).mono ?_
        rintro e w3 ⟨v3, rfl, hr3, k3⟩
        obtain ⟨p3, c3, rfl⟩ := hr3.refs.slice
        have HA3 := hid (HA2.out.quiet k3); have R3 := hid hr3.refs
        clear hr3 k3 HA2 HH2 c0
        obtain ⟨n, hn⟩ : ∃ n, A.H.T.tk.length = n := ⟨_, rfl⟩
        have htl := tk_len A.H.T
        rw [hn] at htl
        have HN := hid hn
        rw [hn]
        by_cases hz : n = 0
        · subst hz
          go_wp2_with fail
          go_meet
          exact ⟨A, hm2, hn40, HA3⟩
        · have hzi : ¬ (n : Int) = 0 := by omega
          obtain ⟨q, hq⟩ : ∃ q, x % n = q := ⟨_, rfl⟩
          have hqn : q < n := by rw [← hq]; exact Nat.mod_lt _ (by omega)
          have hq1 : (x : Int) % (n : Int) = (q : Int) := by rw [← hq]; simp
          have hq2 : (x : Int).tmod (n : Int) = (q : Int) := by rw [Int.tmod_eq_emod_of_nonneg (by omega)]; exact hq1
          have hqw : IntKind.i64.wrap (q : Int) = (q : Int) := IntWalk.i64_in _ (by omega)
          have hq0 : (0 : Int) ≤ (q : Int) := by omega
          have hqi : (q : Int) < (n : Int) := by omega
          obtain ⟨r, hr⟩ : ∃ r, A.H.T.tk[q]? = some r := ⟨_, List.getElem?_eq_getElem (by omega)⟩
          have hth : There A.H r := (tk_iff rfl).1 (List.mem_of_getElem? hr)
          rw [hn] at R3
          obtain ⟨g, rfl, d0, d1⟩ := R3.out.cellk hr
          have HM := hid ((HA3.out.quiet ((Keeps.refl _ _).alloc (.cells #[.int .i64 r.s, .int .u32 r.g] 24))).free r)
          obtain ⟨Z, hZ⟩ : ∃ Z, A.freeR r = (Z, 0) := ⟨_, freeR_of hth⟩
          have hst := free_stale hth
          have hwf : r.Wf := there_wf HA3.out.ok hth
          have hrz : r.nz = true := There.nz HA3.out.ok hth
          have HQ3 := hid (alloc_new (w := w3) (o := .cells #[.int .i64 r.s, .int .u32 r.g] 24))
          have HA3' := hid (HA3.out.quiet ((Keeps.refl _ _).alloc (.cells #[.int .i64 r.s, .int .u32 r.g] 24)))
          have hmB : (A.freeR r).1.many = 2 := hm2
          have hnB := ((Ar.freeR_n A r).1).trans hn40
          rw [hZ] at HM hst hmB hnB
          dsimp only at HM hst hmB hnB
          clear hZ hr R3 HN htl hq hth HA3
          go_wp2_with fail
          obtain ⟨X, hX⟩ : ∃ X, w3.heap.size = X := ⟨_, rfl⟩
          refine HM.out.mono ?_
          rintro e w4 ⟨rfl, h4, k4⟩
          rw [hX] at HQ3
          have HA4 := hid h4
          have HQ4 := hid (block_keep HQ3.out k4 (foot_ne HA3'.out HQ3.out (by decide) (by decide) (by decide) (by decide)))
          obtain ⟨y0, y1, _, yl⟩ := cells2 HQ4.out
          clear h4 k4 d0 d1 HM HA3' HQ3
          obtain ⟨is, his⟩ : ∃ is, decide (r ∈ Z.rq.keys) = is := ⟨_, rfl⟩
          have HD := hid his
          clear his
          have HIS := hid (is_ok a L Z r w4 HA4.out.ar HA4.out.ok hwf)
          rw [hst, HD.out] at HIS
          go_wp2_with fail
          try rw [hX]
          refine HIS.out.mono ?_
          rintro e w5 ⟨rfl, k5⟩
          have HA5 := hid (HA4.out.quiet k5); have HQ5 := hid (block_keep HQ4.out k5 (fun h => h))
          have HPA := hid (path_ok a L Z r w5 HA5.out.ar HA5.out.ok hwf)
          rw [hst, HD.out] at HPA
          have HST := hid hst
          clear hst
          clear k5 HA4 HQ4 HIS y0 y1 yl
          obtain ⟨y0, y1, _, yl⟩ := cells2 HQ5.out
          go_wp2_with fail
          refine HPA.out.mono ?_
          rintro e w6 ⟨v6, rfl, hr6, k6⟩
          have HA6 := hid (HA5.out.quiet k6); have HQ6 := hid (block_keep HQ5.out k6 (fun h => h))
          clear k6 HA5 HQ5 HPA hr6 y0 y1 yl
          obtain ⟨y0, y1, _, yl⟩ := cells2 HQ6.out
          go_upto_region 14 with (fail)
          have HPS6 := hid (fun W (hk : Keeps (fun _ => False) w6 W) => And.intro (cells2 (block_keep HQ6.out hk (fun h => h))).1 (cells2 (block_keep HQ6.out hk (fun h => h))).2.1)
          have HTH7 := hid ((thr_one hrz).trans HST.out)
          have HWL7 := hid (show ∀ q ∈ [r], q.Wf from fun q hq => by rw [List.mem_singleton.1 hq]; exact hwf)
          have HTH9 := hid ((thr_two hrz).trans HST.out)
          have HWL9 := hid (show ∀ q ∈ [(⟨0, 0⟩ : Rf), r], q.Wf from fun q hq => by
            rcases List.mem_cons.1 hq with rfl | hq
            · exact ⟨by decide, by decide⟩
            · rw [List.mem_singleton.1 hq]; exact hwf)
          clear y0 y1 yl
          go_region_held3 (fun W => W.cell? ⟨X, 0, none⟩ = some (.int .i64 r.s) ∧ W.cell? ⟨X, 1, none⟩ = some (.int .u32 r.g))
            ((refine HPS6.out _ ?_; (repeat (first | with_reducible exact Keeps.refl _ _ | with_reducible refine Keeps.drewN ?_ _ | with_reducible refine Keeps.drew ?_ | with_reducible refine Keeps.alloc ?_ _ | with_reducible refine Keeps.trans ?_ k7 | with_reducible refine Keeps.trans ?_ k8))))
            (first
              | (go_at_call 26; refine (aheap_ok a L Z _ (HA6.out.quiet (by (repeat (first | with_reducible exact Keeps.refl _ _ | with_reducible refine Keeps.drewN ?_ _ | with_reducible refine Keeps.drew ?_ | with_reducible refine Keeps.alloc ?_ _)))).ar).mono ?_; rintro e w7 ⟨b7, t7, rfl, k7, _, _, hh7⟩)
              | (go_at_call 17; refine (from_ok b7 t7 Z.H _ [r] _ (hh7.keeps (S := fun _ => False) (by (repeat (first | with_reducible exact Keeps.refl _ _ | with_reducible refine Keeps.drewN ?_ _ | with_reducible refine Keeps.drew ?_ | with_reducible refine Keeps.alloc ?_ _))) (fun h => h) (fun h => h)) (by (first | exact refs_one alloc_new | exact refs_one (kept_block k7 alloc_new))) HWL7.out (by simp)).mono ?_; (try dsimp only); (rw [HTH7.out]); rintro e w8 ⟨v8, rfl, hr8, k8⟩))
          all_goals
            have k78 : Keeps (fun _ => False) w6 w8 := Keeps.trans (Keeps.trans (by (repeat (first | with_reducible exact Keeps.refl _ _ | with_reducible refine Keeps.drewN ?_ _ | with_reducible refine Keeps.drew ?_ | with_reducible refine Keeps.alloc ?_ _))) k7) (Keeps.trans (by (repeat (first | with_reducible exact Keeps.refl _ _ | with_reducible refine Keeps.drewN ?_ _ | with_reducible refine Keeps.drew ?_ | with_reducible refine Keeps.alloc ?_ _))) k8)
            have HA8 := hid (HA6.out.quiet k78)
            have HPS8 := hid (fun W (hk : Keeps (fun _ => False) w8 W) => HPS6.out W (k78.trans hk))
            clear k7 k8 k78 hh7 hr8
            go_upto_region 15 with (fail)
            go_region_held3 (fun W => W.cell? ⟨X, 0, none⟩ = some (.int .i64 r.s) ∧ W.cell? ⟨X, 1, none⟩ = some (.int .u32 r.g))
              ((refine HPS8.out _ ?_; (repeat (first | with_reducible exact Keeps.refl _ _ | with_reducible refine Keeps.drewN ?_ _ | with_reducible refine Keeps.drew ?_ | with_reducible refine Keeps.alloc ?_ _ | with_reducible refine Keeps.trans ?_ k9 | with_reducible refine Keeps.trans ?_ k10))))
              (first
                | (go_at_call 26; refine (aheap_ok a L Z _ (HA8.out.quiet (by (repeat (first | with_reducible exact Keeps.refl _ _ | with_reducible refine Keeps.drewN ?_ _ | with_reducible refine Keeps.drew ?_ | with_reducible refine Keeps.alloc ?_ _)))).ar).mono ?_; rintro e w9 ⟨b9, t9, rfl, k9, _, _, hh9⟩)
                | (go_at_call 18; refine (closed_ok b9 t9 Z.H _ [⟨0, 0⟩, r] _ (hh9.keeps (S := fun _ => False) (by (repeat (first | with_reducible exact Keeps.refl _ _ | with_reducible refine Keeps.drewN ?_ _ | with_reducible refine Keeps.drew ?_ | with_reducible refine Keeps.alloc ?_ _))) (fun h => h) (fun h => h)) (by (first | exact refs_two alloc_new | exact refs_two (kept_block k9 alloc_new))) HWL9.out (by simp)).mono ?_; (try dsimp only); (rw [HTH9.out]); rintro e w10 ⟨rfl, k10⟩))
            all_goals
              have k90 : Keeps (fun _ => False) w8 w10 := Keeps.trans (Keeps.trans (by (repeat (first | with_reducible exact Keeps.refl _ _ | with_reducible refine Keeps.drewN ?_ _ | with_reducible refine Keeps.drew ?_ | with_reducible refine Keeps.alloc ?_ _))) k9) (Keeps.trans (by (repeat (first | with_reducible exact Keeps.refl _ _ | with_reducible refine Keeps.drewN ?_ _ | with_reducible refine Keeps.drew ?_ | with_reducible refine Keeps.alloc ?_ _))) k10)
              have HAE := hid (HA8.out.quiet k90)
              clear k9 k10 k90 hh9
              go_wp2_with fail
              exact ⟨⟨k + 1, Z, by omega, by go_num, hmB, hnB, HAE⟩, by simp [intOf]; omega⟩
      · have hlt' : ¬ (k : Int) < (K : Int) := by omega
        obtain ⟨wo, rfl⟩ : ∃ wo : World, wo = wr := ⟨_, rfl⟩
        go_wp2_with fail
        go_meet
        exact ⟨A, hm2, hn40, HA⟩
  case rest =>
    obtain ⟨A, hm2, hn40, HA⟩ := hcut
    obtain ⟨wv, hwv⟩ : ∃ wv, wc = wv := ⟨_, rfl⟩
    rw [hwv] at HA ⊢
    clear hwv hmin hK0 hK1 hK2 hn0 hcap' HX HKE H1 HG HN40
    go_wp2_with fail
    refine (aheap_ok a L A _ HA.out.ar).mono ?_
    rintro e wa ⟨bh, th, rfl, ka, _, _, hha⟩
    have HAa := hid (HA.out.quiet ka); have HHa := hid hha
    clear ka hha
    go_wp2_with fail
    have hal := all_lost_len A
    have htl2 := tk_len A.H.T
    have HHAS := hid (fun r => has_all (A := A) (r := r))
    have HALL := hid (fun r (hr : r ∈ srt A.rq.keys) => show ckV A.H.T r.s r.g = 0 from rq_there (mem_srt.1 hr))
    obtain ⟨D, hD⟩ : ∃ D, srt A.rq.keys = D := ⟨_, rfl⟩
    obtain ⟨C, hC⟩ : ∃ C, A.lostL = C := ⟨_, rfl⟩
    obtain ⟨T, hT⟩ : ∃ T, A.H.T.tk.length = T := ⟨_, rfl⟩
    rw [hD, hC, hT] at hal
    rw [hT] at htl2
    rw [hD] at HHAS HALL
    have HD := hid hD; have HC := hid hC; have HTT := hid hT
    have hw1 : IntKind.i64.wrap ((D.length : Int) + (C.length : Int)) = (D.length : Int) + (C.length : Int) := IntWalk.i64_in _ (by omega)
    have hw2 : (D.length : Int) + (C.length : Int) = (T : Int) := by omega
    clear hD hC hT
    refine (all_ok a L A wa HAa.out.ar HAa.out.ok).mono ?_
    rintro e wb ⟨vb, rfl, hrb, kb⟩
    rw [HD.out] at hrb
    obtain ⟨pb, cb, rfl⟩ := hrb.refs.slice
    have HAb := hid (HAa.out.quiet kb); have HHb := hid (HHa.out.keeps kb (fun h => h) (fun h => h)); have RDb := hid hrb.refs
    clear hrb kb HAa HHa
    go_wp2_with fail
    refine (lost_ok a L A wb HAb.out.ar HAb.out.ok).mono ?_
    rintro e wc ⟨vc, rfl, hrc, kc⟩
    rw [HC.out] at hrc
    obtain ⟨pc, cc, rfl⟩ := hrc.refs.slice
    have HAc := hid (HAb.out.quiet kc); have HHc := hid (HHb.out.keeps kc (fun h => h) (fun h => h)); have RDc := hid (RDb.out.keeps kc (fun _ _ h => h))
    clear hrc kc HAb HHb RDb
    have HLN := hid (hlen_ok bh th A.H wc HHc.out)
    rw [HTT.out] at HLN
    go_wp2_with fail
    refine HLN.out.mono ?_
    rintro e wd ⟨rfl, kd⟩
    have HAd := hid (HAc.out.quiet kd); have HHd := hid (HHc.out.keeps kd (fun h => h) (fun h => h)); have RDd := hid (RDc.out.keeps kd (fun _ _ h => h))
    clear kd HAc HHc RDc HLN
    go_wp2_with fail
    go_loopw [141] (fun ix wr => ∃ j : Nat, j ≤ D.length ∧ ix = .int .i64 j ∧ Hid (Keeps (fun _ => False) wd wr)) (fun ix _ => D.length - (intOf ix).toNat)
    case atStart => exact ⟨0, by omega, rfl, hid (Keeps.refl _ _)⟩
    case round =>
      obtain ⟨j, hj, rfl, HK⟩ := hrel
      have hj0 : (0 : Int) ≤ j := by omega
      by_cases hjl : j < D.length
      · obtain ⟨r, hr⟩ : ∃ r, D[j]? = some r := ⟨_, List.getElem?_eq_getElem hjl⟩
        have hjl' : (j : Int) < (D.length : Int) := by omega
        obtain ⟨gd, rfl, d0, d1⟩ := (RDd.out.keeps HK.out (fun _ _ h => h)).cellk hr
        have hck := HALL.out r (List.mem_of_getElem? hr)
        have ke : Keeps (fun _ => False) wd (_ : World) := HK.out.alloc (.cells #[.int .i64 r.s, .int .u32 r.g] 24)
        have HHS := hid (hhas_any bh th A.H r.s r.g _ (HHd.out.keeps ke (fun h => h) (fun h => h)))
        rw [hck] at HHS
        have HKE2 := hid ke
        clear hr ke hck
        go_wp2_with fail
        refine HHS.out.mono ?_
        rintro e we ⟨rfl, kf⟩
        have HKF := hid (HKE2.out.trans kf)
        clear kf d0 d1
        go_wp2_with fail
        exact ⟨⟨j + 1, by omega, by go_num, HKF⟩, by simp [intOf]; omega⟩
      · have hjl' : ¬ (j : Int) < (D.length : Int) := by omega
        have HAf := hid (HAd.out.quiet HK.out); have HHf := hid (HHd.out.keeps HK.out (fun h => h) (fun h => h)); have RDf := hid (RDd.out.keeps HK.out (fun _ _ h => h))
        clear HAd HHd RDd HK hj hj0 hjl HALL
        go_wp2_with fail
        clear hjl'
        refine (origins19 a L A _ HAf.out hm2).mono ?_
        rintro e wg ⟨vg, rfl, hrg, hol, kg⟩
        obtain ⟨O, hO⟩ : ∃ O, A.glL ++ A.stks A.many = O := ⟨_, rfl⟩
        rw [hO] at hrg hol HHAS
        obtain ⟨pg, cg, rfl⟩ := hrg.refs.slice
        have HAg := hid (HAf.out.quiet kg); have HHg := hid (HHf.out.keeps kg (fun h => h) (fun h => h)); have RDg := hid (RDf.out.keeps kg (fun _ _ h => h)); have ROg := hid hrg.refs
        clear hrg kg HAf HHf RDf hO
        go_wp2_with fail
        go_loopw [153] (fun ix wr => ∃ j : Nat, j ≤ O.length ∧ ix = .int .i64 j ∧ Hid (Keeps (fun _ => False) wg wr)) (fun ix _ => O.length - (intOf ix).toNat)
        case atStart => exact ⟨0, by omega, rfl, hid (Keeps.refl _ _)⟩
        case round =>
          obtain ⟨j, hj, rfl, HK⟩ := hrel
          have hj0 : (0 : Int) ≤ j := by omega
          by_cases hjl : j < O.length
          · obtain ⟨r, hr⟩ : ∃ r, O[j]? = some r := ⟨_, List.getElem?_eq_getElem hjl⟩
            have hjl' : (j : Int) < (O.length : Int) := by omega
            obtain ⟨gd, rfl, d0, d1⟩ := (ROg.out.keeps HK.out (fun _ _ h => h)).cellk hr
            have hhs := HHAS.out r (List.mem_of_getElem? hr)
            obtain ⟨bb, hbb⟩ : ∃ bb, decide (r ∈ D) = bb := ⟨_, rfl⟩
            rw [hbb] at hhs
            have HBB := hid hbb; have HHS := hid hhs
            have hdl : D.length ≤ 65536 := by omega
            clear hr hhs hbb
            have HKW := hid HK.out
            obtain ⟨Y, hY⟩ : ∃ Y, wr.heap.size = Y := ⟨_, rfl⟩
            obtain ⟨we, hwe⟩ : ∃ we, wr.alloc (.cells #[.int .i64 r.s, .int .u32 r.g] 24) = we := ⟨_, rfl⟩
            have ke : Keeps (fun _ => False) wg we := by rw [← hwe]; exact HK.out.alloc _
            have qe : we.heap[Y]? = some (.cells #[.int .i64 r.s, .int .u32 r.g] 24) := by rw [← hwe, ← hY]; exact alloc_new
            have HKE := hid ke
            have HHe := hid (HHg.out.keeps ke (fun h => h) (fun h => h)); have RDe := hid (RDg.out.keeps ke (fun _ _ h => h))
            have HPS := hid (fun W (hk : Keeps (fun _ => False) we W) => And.intro (cells2 (block_keep qe hk (fun h => h))).1 (cells2 (block_keep qe hk (fun h => h))).2.1)
            have HWE := hid hwe; have HYY := hid hY
            clear ke qe hwe hY HK HKW
            go_upto_region 33 with (fail)
            try rw [HYY.out]
            rw [HWE.out]
            clear d0 d1
            go_region_held3 (fun W => W.cell? ⟨Y, 0, none⟩ = some (.int .i64 r.s) ∧ W.cell? ⟨Y, 1, none⟩ = some (.int .u32 r.g))
              ((refine HPS.out _ ?_; (repeat (first | with_reducible exact Keeps.refl _ _ | with_reducible refine Keeps.drewN ?_ _ | with_reducible refine Keeps.drew ?_ | with_reducible refine Keeps.alloc ?_ _ | with_reducible refine Keeps.trans ?_ kh | with_reducible refine Keeps.trans ?_ kk))))
              (first
                | (go_at_call 33; refine (hhas_any bh th A.H r.s r.g _ (HHe.out.keeps (S := fun _ => False) (by (repeat (first | with_reducible exact Keeps.refl _ _ | with_reducible refine Keeps.drewN ?_ _ | with_reducible refine Keeps.drew ?_ | with_reducible refine Keeps.alloc ?_ _ | with_reducible refine Keeps.trans ?_ kh | with_reducible refine Keeps.trans ?_ kk))) (fun h => h) (fun h => h))).mono ?_; rw [HHS.out]; rintro e wh ⟨rfl, kh⟩)
                | (go_at_call 27; refine (rcontains _ D r _ (RDe.out.keeps (S := fun _ => False) (by (repeat (first | with_reducible exact Keeps.refl _ _ | with_reducible refine Keeps.drewN ?_ _ | with_reducible refine Keeps.drew ?_ | with_reducible refine Keeps.alloc ?_ _ | with_reducible refine Keeps.trans ?_ kh | with_reducible refine Keeps.trans ?_ kk))) (fun _ _ h => h)) hdl).mono ?_; rw [HBB.out]; rintro e wk ⟨rfl, kk⟩))
            all_goals
              go_wp2_with fail
              exact ⟨⟨j + 1, by omega, by go_num, hid (by (repeat (first | with_reducible exact HKE.out | with_reducible refine Keeps.drewN ?_ _ | with_reducible refine Keeps.drew ?_ | with_reducible refine Keeps.alloc ?_ _ | with_reducible refine Keeps.trans ?_ kh | with_reducible refine Keeps.trans ?_ kk)))⟩, by simp [intOf]; omega⟩
          · have hjl' : ¬ (j : Int) < (O.length : Int) := by omega
            obtain ⟨wo, rfl⟩ : ∃ wo : World, wo = wr := ⟨_, rfl⟩
            have HAh := hid (HAg.out.quiet HK.out); have HHh := hid (HHg.out.keeps HK.out (fun h => h) (fun h => h))
            clear HAg HHg RDg ROg HK hj hj0 hjl HHAS
            go_wp2_with fail
            clear hjl'
            obtain ⟨Y, hY⟩ : ∃ Y, wo.heap.size = Y := ⟨_, rfl⟩
            obtain ⟨wq, hwq⟩ : ∃ wq, wo.alloc (.cells #[.int .i64 40, .int .u32 1, .int .i64 (-1), .int .u32 1, .int .i64 1099511627776, .int .u32 1] 24) = wq := ⟨_, rfl⟩
            have kq : Keeps (fun _ => False) wo wq := by rw [← hwq]; exact (Keeps.refl _ _).alloc _
            have qq : wq.heap[Y]? = some (.cells #[.int .i64 40, .int .u32 1, .int .i64 (-1), .int .u32 1, .int .i64 1099511627776, .int .u32 1] 24) := by rw [← hwq, ← hY]; exact alloc_new
            rw [hwq]
            try rw [hY]
            have HAq := hid (HAh.out.quiet kq); have HHq := hid (HHh.out.keeps kq (fun h => h) (fun h => h)); have HQq := hid qq
            clear hwq hY kq qq HAh HHh
            go_loopw [170] (fun ix wr => ∃ j : Nat, j ≤ 3 ∧ ix = .int .i64 j ∧ Hid (Keeps (fun _ => False) wq wr)) (fun ix _ => 3 - (intOf ix).toNat)
            case atStart => exact ⟨0, by omega, rfl, hid (Keeps.refl _ _)⟩
            case round =>
              obtain ⟨j, hj, rfl, HK⟩ := hrel
              have hj0 : (0 : Int) ≤ j := by omega
              by_cases hjl : j < 3
              · have hjl' : (j : Int) < 3 := by omega
                have hb := block_keep HQq.out HK.out (fun h => h)
                obtain ⟨r, hck, hwf, hz, d0, d1⟩ : ∃ r : Rf, ckV A.H.T r.s r.g = 3 ∧ r.Wf ∧ r.nz = true ∧ wr.cell? ⟨Y, j * 2, none⟩ = some (.int .i64 r.s) ∧ wr.cell? ⟨Y, j * 2 + 1, none⟩ = some (.int .u32 r.g) := by
                  match j, hjl with
                  | 0, _ => exact ⟨⟨40, 1⟩, far_ck hn40 (.inr (by decide)), ⟨by decide, by decide⟩, by decide, cell_at hb rfl, cell_at hb rfl⟩
                  | 1, _ => exact ⟨⟨-1, 1⟩, far_ck hn40 (.inl (by decide)), ⟨by decide, by decide⟩, by decide, cell_at hb rfl, cell_at hb rfl⟩
                  | 2, _ => exact ⟨⟨1099511627776, 1⟩, far_ck hn40 (.inr (by decide)), ⟨by decide, by decide⟩, by decide, cell_at hb rfl, cell_at hb rfl⟩
                have ke : Keeps (fun _ => False) wq (wr.alloc (.cells #[.int .i64 r.s, .int .u32 r.g] 24)) := HK.out.alloc _
                have HAe := hid (HAq.out.quiet ke)
                have HIS := hid (is_ok a L A r _ HAe.out.ar HAe.out.ok hwf)
                obtain ⟨is, his⟩ : ∃ is, decide (r ∈ A.rq.keys) = is := ⟨_, rfl⟩
                rw [hck, his] at HIS
                have HKE := hid ke
                have HQe := hid (alloc_new (w := wr) (o := .cells #[.int .i64 r.s, .int .u32 r.g] 24))
                have HTH := hid ((thr_one (H := A.H) hz).trans hck)
                have HWL := hid (show ∀ q ∈ [r], q.Wf from fun q hq => by rw [List.mem_singleton.1 hq]; exact hwf)
                clear hb hck his ke hwf hz HAe
                go_wp2_with fail
                refine HIS.out.mono ?_
                rintro e wx ⟨rfl, kx⟩
                have HKX := hid (HKE.out.trans kx); have HQX := hid (block_keep HQe.out kx (fun h => h))
                clear kx d0 d1 HIS HQe HKE
                obtain ⟨y0, y1, _, yl⟩ := cells2 HQX.out
                go_wp2_with fail
                refine (from_ok bh th A.H _ [r] _ ((HHq.out.keeps HKX.out (fun h => h) (fun h => h)).keeps ((Keeps.refl (fun _ => False) _).alloc _) (fun h => h) (fun h => h)) (refs_one alloc_new) HWL.out (by simp)).mono ?_
                rw [HTH.out]
                rintro e wy ⟨vy, rfl, hry, ky⟩
                have HKY := hid ((HKX.out.alloc _).trans ky)
                clear ky hry y0 y1 yl HQX HKX
                go_wp2_with fail
                exact ⟨⟨j + 1, by omega, by go_num, HKY⟩, by simp [intOf]; omega⟩
              · have hjl' : ¬ (j : Int) < 3 := by omega
                have HAz := hid (HAq.out.quiet HK.out)
                clear hjl HAq HHq HQq HK
                go_wp2_with fail
                refine (works19 _).mono ?_
                rintro e wz ⟨rfl, kz⟩
                go_wp2_with fail
                go_ret
                exact ⟨rfl, (HAz.out.quiet kz).k.fresh⟩
set_option maxRecDepth 100000 in
theorem reachGone_law {H : Type} {enc : TypeId × Value → H} {base : Nat} {spare : Nat → Bool} {held : Bool} {r : Reach} {b0 : Nat}
    (v0 : Value) (d0 : DataW H) (p0 : List MemPlace) {w : World} (hv0 : Value.okWide Tryz.prog w r b0 56 v0) (h0 : DataW.Trod enc Tryz.prog w base spare held 56 v0 d0 p0)
    (v1 : Value) (d1 : DataW H) (p1 : List MemPlace) (hv1 : Value.okWide Tryz.prog w r b0 71 v1) (h1 : DataW.Trod enc Tryz.prog w base spare held 71 v1 d1 p1)
    (w' : World) (e' : w' = w) :
    Calls Tryz.prog 10 #[v0, v1] w' fun e w2 => e = .returned (.bool true) ∧ Keeps (fun _ => False) w' w2 := by
  subst e'
  obtain ⟨a, n, k, rfl, e1, e2, hx⟩ := open_flat_slice (ks := ks19) Tryz.underlying56 (by kernel_rfl) (by kernel_rfl) (by decide) hv0 h0
  obtain ⟨l, hl⟩ := mvrow19_of e1 e2 hx
  obtain ⟨a', n', k', rfl, e1', e2', hx'⟩ := open_flat_slice (ks := ks1) Tryz.underlying71 (by kernel_rfl) (by kernel_rfl) (by decide) hv1 h1
  obtain ⟨m, hm⟩ := byrow_of e1' e2' hx'
  exact reachGone_walk _ _ l m _ hl hm
end Go.Proofs.YtcpljmonmchloaaGreat
