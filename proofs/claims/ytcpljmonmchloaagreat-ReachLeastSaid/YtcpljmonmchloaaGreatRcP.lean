/- estraylaw19: ReachLost. -/
import Derived.Test.YtcpljmonmchloaaGreatRcN
import Derived.Test.YtcpljmonmchloaaGreatRcO
import Derived.Test.YtcpljmonmchloaaGreatCgA
namespace Go.Proofs.YtcpljmonmchloaaGreat
open Go.RowKit Go.ChangeShapes Go.WideShapes Go.ChangeAt Go.Deep
set_option linter.unusedVariables false
set_option linter.unusedSimpArgs false

theorem Refs.not_foot {N : Nat} {w0 w : World} {a : Nat} {L : ArL} {A : Ar} {v : Value} {l : List Rf} (hr : Refs w v l) (h : Ay N w0 w a L A) : ∀ k, v.ownBlock = some k → ¬ L.foot A.many k := by
  rcases hr with ⟨rfl, _⟩ | ⟨g, cap, cur, rfl, h2, _⟩
  · intro k hk; cases hk
  · intro k hk
    obtain rfl : g = k := Option.some.inj hk
    exact foot_ne h h2 (by decide) (by decide) (by decide) (by decide)
theorem Refs.cellk {w : World} {p : Option Addr} {n c : Nat} {l : List Rf} (h : Refs w (.slice p n c) l) {k : Nat} {r : Rf} (hk : l[k]? = some r) :
    ∃ g, p = some ⟨g, 0, none⟩ ∧ w.cell? ⟨g, k * 2, none⟩ = some (.int .i64 r.s) ∧ w.cell? ⟨g, k * 2 + 1, none⟩ = some (.int .u32 r.g) := by
  rcases h with ⟨h1, rfl⟩ | ⟨g, cap, cur, h1, h2, h3⟩
  · simp at hk
  · injection h1 with h1 h4 h5
    obtain ⟨a1, a2⟩ := h3 k r hk
    exact ⟨g, h1, cell_at h2 a1, cell_at h2 a2⟩
set_option maxRecDepth 100000 in
set_option maxHeartbeats 4000000 in
theorem reachLost_walk (v1 v2 : Value) (l m : List Mv) (w : World) (h1 : MvRow w v1 l) (h2 : MvRow w v2 m) :
    Calls Tryz.prog 8 #[v1, v2] w fun e w' => e = .returned (.bool true) ∧ Keeps (fun _ => False) w w' := by
  obtain ⟨pa, cap, rfl, hcap, hmax, hx⟩ := h2
  have hn0 : (0 : Int) ≤ (m.length : Int) := by omega
  have hcap' : (m.length : Int) ≤ (cap : Int) := by omega
  obtain ⟨K, hK⟩ : ∃ K, min m.length 60 = K := ⟨_, rfl⟩
  have hmin : min (m.length : Int) 60 = (K : Int) := by omega
  have hK0 : (0 : Int) ≤ (K : Int) := by omega
  have hK1 : (K : Int) ≤ (m.length : Int) := by omega
  have hK2 : (K : Int) ≤ (cap : Int) := by omega
  have HX := hid hx; have HKE := hid hK
  have HPL := hid (played19 v1 l w h1)
  have hg := good19 l
  obtain ⟨s, hs⟩ : ∃ s, Sys.pl19 l = s := ⟨_, rfl⟩
  rw [hs] at HPL hg
  have HG := hid hg
  have HT := hid (show m.take K = m.take 60 by rw [← HKE.out]; rcases Nat.le_total m.length 60 with h | h; rw [Nat.min_eq_left h, List.take_of_length_le (Nat.le_refl _), List.take_of_length_le h]; rw [Nat.min_eq_right h])
  have hbl := lost_len s.A
  have hbn := hg.ok.a.n2
  obtain ⟨B, hB⟩ : ∃ B, s.A.lostL = B := ⟨_, rfl⟩
  rw [hB] at hbl
  have HB := hid hB
  clear hx hK h1 hs hg hB
  go_enter Tryz.func8, Tryz.ntmps8
  go_wp2_with fail
  refine HPL.out.mono ?_
  rintro e w1 ⟨a, L, rfl, h1⟩
  have H1 := hid h1
  clear h1
  go_wp2_with fail
  refine (lost_ok a L s.A w1 H1.out.ar H1.out.ok).mono ?_
  rintro e w2 ⟨v2, rfl, hr2, k2⟩
  rw [HB.out] at hr2
  obtain ⟨p2, c2, rfl⟩ := hr2.refs.slice
  have H2 := hid (show Ay w.heap.size w w2 a L (moved s (m.take 0)).A from H1.out.quiet k2)
  have R2 := hid hr2.refs
  clear hr2 k2 H1
  go_wp2_with fail
  go_loopw [36] (fun ix wr => ∃ k : Nat, k ≤ K ∧ ix = .int .i64 k ∧ Hid (Ay w.heap.size w wr a L (moved s (m.take k)).A) ∧ Hid (Refs wr (.slice p2 B.length c2) B)) (fun ix _ => K - (intOf ix).toNat)
  case atStart => exact ⟨0, by omega, rfl, H2, R2⟩
  case round =>
    clear H2 R2
    obtain ⟨k, hk, rfl, HA, HR⟩ := hrel
    have hk0 : (0 : Int) ≤ k := by omega
    by_cases hlt : k < K
    · have hkl : k < m.length := by omega
      obtain ⟨x, hxk⟩ : ∃ x, m[k]? = some x := ⟨_, List.getElem?_eq_getElem hkl⟩
      have hlt' : (k : Int) < (K : Int) := by omega
      obtain ⟨b, off, rfl, hb, hcl⟩ := HX.out.resolve_left (by intro h; rw [h] at hkl; simp at hkl)
      have hce := (hcl k x hxk).same (HA.out.k.block b hb (by omega))
      obtain ⟨hby, c0, c1, c2', c3, c4⟩ := hce
      have hbw : b < wr.heap.size := Nat.lt_of_lt_of_le hb HA.out.k.size
      have hgd : Good19 (moved s (m.take k)) := HG.out.moved _
      obtain ⟨t, ht⟩ : ∃ t, moved s (m.take k) = t := ⟨_, rfl⟩
      have hnx := moved_take hxk hgd
      rw [ht] at HA hgd hnx
      have HNX := hid hnx
      obtain ⟨wz, hwz⟩ : ∃ wz, wr.alloc (.cells #[.int .u8 x.kind, .int .u8 x.m, .int .u8 x.a, .int .u8 x.b, .int .u8 x.c] 89) = wz := ⟨_, rfl⟩
      have kz : Keeps (fun _ => False) wr wz := by rw [← hwz]; exact (Keeps.refl _ _).alloc _
      have HAZ := hid (HA.out.quiet kz); have HRZ := hid (HR.out.keeps kz (fun _ _ h => h))
      have HM := hid (step19 x HAZ.out hgd.many hby)
      unfold Mv.val at HM
      have HWZ := hid hwz
      clear hcl hxk ht hnx hgd hby hwz kz HA HR
      go_wp2_with fail
      rw [HWZ.out]
      refine HM.out.mono ?_
      rintro e w4 ⟨rfl, h4, k4⟩
      rw [← HNX.out] at h4
      have H4 := hid h4; have R4 := hid (HRZ.out.keeps k4 (HRZ.out.not_foot HAZ.out))
      clear h4 k4 c0 c1 c2' c3 c4
      go_wp2_with fail
      exact ⟨⟨k + 1, by omega, by go_num, H4, R4⟩, by simp [intOf]; omega⟩
    · obtain rfl : k = K := by omega
      have hlt' : ¬ (k : Int) < (k : Int) := by omega
      rw [HT.out] at HA
      obtain ⟨wo, rfl⟩ : ∃ wo : World, wo = wr := ⟨_, rfl⟩
      have hg2 : Good19 (moved s (m.take 60)) := HG.out.moved _
      have hls := lost_stays HG.out (m.take 60)
      rw [HB.out] at hls
      obtain ⟨t, ht⟩ : ∃ t, moved s (m.take 60) = t := ⟨_, rfl⟩
      rw [ht] at HA hg2 hls
      have hcl := lost_len t.A
      have hcn := hg2.ok.a.n2
      obtain ⟨C, hC⟩ : ∃ C, t.A.lostL = C := ⟨_, rfl⟩
      obtain ⟨D, hD⟩ : ∃ D, srt t.A.rq.keys = D := ⟨_, rfl⟩
      have hfa := frd_all hg2.ok.a hg2.nd (lost_nd _)
      have hfs := fun k r => frd_step (k := k) (r := r) hg2.ok.a hg2.nd (lost_nd t.A)
      have hft := frd_take hg2.ok.a hg2.nd (fun r hr => (lost_iff hg2.nd).1 hr) (lost_nd t.A)
      have hdl : D.length ≤ 256 := by rw [← hD, (srt_perm _).length_eq]; exact Nat.le_trans (rq_len _) hcn
      rw [hC] at hls hcl hfa hfs hft
      rw [hD] at hfa
      have HLS := hid hls; have HC := hid hC; have HD := hid hD; have HFA := hid hfa; have HFS := hid hfs; have HFT := hid hft
      clear hlt hlt' hk hk0 HX HKE HG HT hmin hK0 hK1 hK2 hn0 hcap' hls hC hD hfa hfs hft ht HPL
      go_wp2_with fail
      refine (lost_ok a L t.A wo HA.out.ar HA.out.ok).mono ?_
      rintro e w3 ⟨v3, rfl, hr3, k3⟩
      rw [HC.out] at hr3
      obtain ⟨p3, c3, rfl⟩ := hr3.refs.slice
      have H3 := hid (HA.out.quiet k3); have RB3 := hid (HR.out.keeps k3 (fun _ _ h => h)); have RC3 := hid hr3.refs
      clear hr3 k3 HA HR
      go_wp2_with fail
      refine (all_ok a L t.A w3 H3.out.ar H3.out.ok).mono ?_
      rintro e w4 ⟨v4, rfl, hr4, k4⟩
      rw [HD.out] at hr4
      obtain ⟨p4, c4, rfl⟩ := hr4.refs.slice
      have H4 := hid (H3.out.quiet k4); have RB4 := hid (RB3.out.keeps k4 (fun _ _ h => h)); have RC4 := hid (RC3.out.keeps k4 (fun _ _ h => h)); have RD4 := hid hr4.refs
      clear hr4 k4 H3 RB3 RC3
      go_wp2_with fail
      go_loopw [62] (fun ix wr => ∃ k : Nat, k ≤ B.length ∧ ix = .int .i64 k ∧ Hid (Keeps (fun _ => False) w4 wr)) (fun ix _ => B.length - (intOf ix).toNat)
      case atStart => exact ⟨0, by omega, rfl, hid (Keeps.refl _ _)⟩
      case round =>
        obtain ⟨j, hj, rfl, HK⟩ := hrel
        have hj0 : (0 : Int) ≤ j := by omega
        by_cases hlt : j < B.length
        · obtain ⟨r, hr⟩ : ∃ r, B[j]? = some r := ⟨_, List.getElem?_eq_getElem hlt⟩
          have hlt' : (j : Int) < (B.length : Int) := by omega
          obtain ⟨g, rfl, d0, d1⟩ := (RB4.out.keeps HK.out (fun _ _ h => h)).cellk hr
          have HM := hid (show decide (r ∈ C) = true from decide_eq_true (HLS.out r (List.mem_of_getElem? hr)))
          have ka : Keeps (fun _ => False) w4 (wr.alloc (.cells #[.int .i64 r.s, .int .u32 r.g] 24)) := HK.out.alloc _
          have HCT := hid (rcontains _ C r _ (RC4.out.keeps ka (fun _ _ h => h)) (by omega))
          rw [HM.out] at HCT
          have HKA := hid ka
          clear hr ka HM
          go_wp2_with fail
          refine HCT.out.mono ?_
          rintro e w5 ⟨rfl, k5⟩
          have HK5 := hid (HKA.out.trans k5)
          clear k5 d0 d1
          go_wp2_with fail
          exact ⟨⟨j + 1, by omega, by go_num, HK5⟩, by simp [intOf]; omega⟩
        · have hlt' : ¬ (j : Int) < (B.length : Int) := by omega
          obtain ⟨wp, rfl⟩ : ∃ wp : World, wp = wr := ⟨_, rfl⟩
          have H5 := hid (show Ay w.heap.size w wp a L (freeds t.A (C.take 0)) from H4.out.quiet HK.out); have RC5 := hid (RC4.out.keeps HK.out (fun _ _ h => h)); have RD5 := hid (RD4.out.keeps HK.out (fun _ _ h => h))
          clear hlt H4 RB4 RC4 RD4 HK hj hj0
          go_wp2_with fail
          clear hlt'
          go_loopw [73] (fun ix wr => ∃ k : Nat, k ≤ C.length ∧ ix = .int .i64 k ∧ Hid (Ay w.heap.size w wr a L (freeds t.A (C.take k))) ∧ Hid (Refs wr (.slice p3 C.length c3) C) ∧ Hid (Refs wr (.slice p4 D.length c4) D)) (fun ix _ => C.length - (intOf ix).toNat)
          case atStart => exact ⟨0, by omega, rfl, H5, RC5, RD5⟩
          case round =>
            clear H5 RC5 RD5
            obtain ⟨i, hi, rfl, HA, HRC, HRD⟩ := hrel
            have hi0 : (0 : Int) ≤ i := by omega
            by_cases hlt : i < C.length
            · obtain ⟨r, hr⟩ : ∃ r, C[i]? = some r := ⟨_, List.getElem?_eq_getElem hlt⟩
              have hlt' : (i : Int) < (C.length : Int) := by omega
              obtain ⟨g, rfl, d0, d1⟩ := HRC.out.cellk hr
              have hst := HFS.out i r hr
              have HST := hid hst.2
              have ka : Keeps (fun _ => False) wr (wr.alloc (.cells #[.int .i64 r.s, .int .u32 r.g] 24)) := (Keeps.refl _ _).alloc _
              have HA2 := hid (HA.out.quiet ka); have HRC2 := hid (HRC.out.keeps ka (fun _ _ h => h)); have HRD2 := hid (HRD.out.keeps ka (fun _ _ h => h))
              have HM := hid (HA2.out.free r)
              rw [hst.1] at HM
              clear hr ka hst HA HRC HRD
              go_wp2_with fail
              refine HM.out.mono ?_
              rintro e w5 ⟨rfl, h5, k5⟩
              rw [← HST.out] at h5
              have H5 := hid h5; have RC5 := hid (HRC2.out.keeps k5 (HRC2.out.not_foot HA2.out)); have RD5 := hid (HRD2.out.keeps k5 (HRD2.out.not_foot HA2.out))
              clear h5 k5 d0 d1
              go_wp2_with fail
              exact ⟨⟨i + 1, by omega, by go_num, H5, RC5, RD5⟩, by simp [intOf]; omega⟩
            · have hlt' : ¬ (i : Int) < (C.length : Int) := by omega
              obtain ⟨wq, rfl⟩ : ∃ wq : World, wq = wr := ⟨_, rfl⟩
              obtain rfl : i = C.length := by omega
              rw [List.take_length] at HA
              obtain ⟨F, hF⟩ : ∃ F, freeds t.A C = F := ⟨_, rfl⟩
              rw [hF] at HFA HA
              clear hlt hi hi0 HRC hF
              go_wp2_with fail
              refine (all_ok a L F wq HA.out.ar HA.out.ok).mono ?_
              rintro e w6 ⟨v6, rfl, hr6, k6⟩
              rw [HFA.out.1] at hr6
              have H6 := hid (HA.out.quiet k6); have RD6 := hid (HRD.out.keeps k6 (fun _ _ h => h)); have RE6 := hid hr6.refs
              clear hr6 k6 HA HRD
              go_wp2_with fail
              refine (lost_ok a L F w6 H6.out.ar H6.out.ok).mono ?_
              rintro e w7 ⟨v7, rfl, hr7, k7⟩
              rw [HFA.out.2] at hr7
              obtain ⟨p7, c7, rfl⟩ := hr7.refs.slice
              rw [List.length_nil]
              have HE7 := hid (requal v6 _ D D w7 (RE6.out.keeps k7 (fun _ _ h => h)) (RD6.out.keeps k7 (fun _ _ h => h)) (by omega))
              rw [decide_eq_true rfl] at HE7
              have H7 := hid (H6.out.quiet k7)
              clear hr7 k7 H6 RD6 RE6
              go_wp2_with fail
              refine HE7.out.mono ?_
              rintro e w8 ⟨rfl, k8⟩
              have H8 := hid (H7.out.quiet k8)
              clear k8 H7 HE7
              go_wp2_with fail
              refine (works19 w8).mono ?_
              rintro e w9 ⟨rfl, k9⟩
              have H9 := hid (H8.out.quiet k9)
              clear k9 H8
              go_wp2_with fail
              go_ret
              exact ⟨rfl, H9.out.k.fresh⟩
set_option maxRecDepth 100000 in
theorem reachLost_law {H : Type} {enc : TypeId × Value → H} {base : Nat} {spare : Nat → Bool} {held : Bool} {r : Reach} {b0 : Nat}
    (v0 : Value) (d0 : DataW H) (p0 : List MemPlace) {w : World} (hv0 : Value.okWide Tryz.prog w r b0 56 v0) (h0 : DataW.Trod enc Tryz.prog w base spare held 56 v0 d0 p0)
    (v1 : Value) (d1 : DataW H) (p1 : List MemPlace) (hv1 : Value.okWide Tryz.prog w r b0 56 v1) (h1 : DataW.Trod enc Tryz.prog w base spare held 56 v1 d1 p1)
    (w' : World) (e' : w' = w) :
    Calls Tryz.prog 8 #[v0, v1] w' fun e w2 => e = .returned (.bool true) ∧ Keeps (fun _ => False) w' w2 := by
  subst e'
  obtain ⟨a, n, k, rfl, e1, e2, hx⟩ := open_flat_slice (ks := ks19) Tryz.underlying56 (by kernel_rfl) (by kernel_rfl) (by decide) hv0 h0
  obtain ⟨l, hl⟩ := mvrow19_of e1 e2 hx
  obtain ⟨a', n', k', rfl, e1', e2', hx'⟩ := open_flat_slice (ks := ks19) Tryz.underlying56 (by kernel_rfl) (by kernel_rfl) (by decide) hv1 h1
  obtain ⟨m, hm⟩ := mvrow19_of e1' e2' hx'
  exact reachLost_walk _ _ l m _ hl hm
end Go.Proofs.YtcpljmonmchloaaGreat
