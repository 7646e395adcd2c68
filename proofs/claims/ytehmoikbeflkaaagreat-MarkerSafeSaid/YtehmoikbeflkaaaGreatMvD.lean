/- estraylaw24.MarkerSafe: the walk. -/
import Derived.Test.YtehmoikbeflkaaaGreatMvC
namespace Go.Proofs.YtehmoikbeflkaaaGreat
open Go.RowKit Go.ChangeShapes Go.WideShapes Go.ChangeAt Go.Deep
set_option linter.unusedVariables false
set_option linter.unusedSimpArgs false

set_option maxRecDepth 100000 in
set_option maxHeartbeats 8000000 in
theorem markerSafe_walk (x y z u : Nat) (l : List Tv) (v : Value) (w : World) (hx : x < 256) (hy : y < 256) (hz : z < 256) (hu : u < 256) (hm : TvRow w v l) :
    Calls Tryz.prog 8 #[.agg #[.int .u8 x, .int .u8 y, .int .u8 z, .int .u8 u], v] w fun e w' => e = .returned (.bool true) ∧ Keeps (fun _ => False) w w' := by
  obtain ⟨am, cm, rfl, _, hmc2, hmr⟩ := hm
  obtain ⟨N, hN⟩ : ∃ N, l.length = N := ⟨_, rfl⟩
  have HROW := hid (show ∀ (i : Nat) (z : Tv), l[i]? = some z → ∃ b2 o2, am = some ⟨b2, o2, none⟩ ∧ b2 < w.heap.size ∧ TvCell w b2 (o2 + i * 4) z from fun i z hz => by
    rcases hmr with rfl | ⟨b2, o2, e, hb, hc⟩
    · cases hz
    · exact ⟨b2, o2, e, hb, hc i z hz⟩)
  have HNL := hid hN
  rw [hN]
  clear hmr hmc2 hN
  by_cases h200 : 200 < N
  · have h200' : (200 : Int) < (N : Int) := by omega
    go_enter Tryz.func8, Tryz.ntmps8
    go_wp2_with fail
    refine (works24 _).mono ?_
    rintro e w1 ⟨rfl, k1⟩
    go_wp2_with fail
    go_ret
    exact ⟨rfl, ((Keeps.refl _ _).alloc _).trans k1⟩
  have h200' : ¬ (200 : Int) < (N : Int) := by omega
  have HMD := hid (fun W => smade x y z u W hx hy hz hu)
  obtain ⟨n, hn⟩ : ∃ n, 1 + x % 16 = n := ⟨_, rfl⟩
  obtain ⟨ms, hms⟩ : ∃ ms, 1 + y % 4 = ms := ⟨_, rfl⟩
  obtain ⟨st, hst⟩ : ∃ st, 1 + z % 8 = st := ⟨_, rfl⟩
  obtain ⟨bu, hbu⟩ : ∃ bu, 1 + u % 4 = bu := ⟨_, rfl⟩
  have hn1 : 1 ≤ n ∧ n ≤ 16 := by omega
  have hm1 : 1 ≤ ms ∧ ms ≤ 4 := by omega
  rw [hn, hms, hst, hbu] at HMD
  have hg0 : G24 n ms 0 (Sys.new4 n ms st bu) := G24.new (by omega) (by omega) (by omega) (by omega) st bu
  obtain ⟨S0, hS0⟩ : ∃ S0, Sys.new4 n ms st bu = S0 := ⟨_, rfl⟩
  rw [hS0] at HMD hg0
  have HG0 := hid hg0
  clear hg0 hS0 hn hms hst hbu hx hy hz hu
  go_enter Tryz.func8, Tryz.ntmps8
  go_wp2_with fail
  refine (HMD.out _).mono ?_
  rintro e w1 ⟨p, w0, a, m, LA, LM, rfl, k0, hs⟩
  have HK0 := hid (show Keeps (fun _ => False) w w0 from ((Keeps.refl _ _).alloc _).trans k0)
  have HS1 := hid (show Sx w0 w1 p a m LA LM S0 [] from ⟨_, hs, (Row.nil w1 0).refs⟩)
  clear k0 hs HMD
  go_wp2_with fail
  go_loopw [6] (fun ix wr => ∃ (i : Nat) (s : Sys) (d : List Rf), i ≤ N ∧ ix = .int .i64 i ∧ Hid (G24 n ms i s) ∧ Hid (Sx w0 wr p a m LA LM s d)) (fun ix _ => N - (intOf ix).toNat)
  case atStart => exact ⟨0, _, _, Nat.zero_le _, rfl, HG0, HS1⟩
  case round =>
    obtain ⟨i, s, d, hi, rfl, HG, HS⟩ := hrel
    have hi0 : (0 : Int) ≤ i := by omega
    by_cases hlt : i < N
    · have hlt' : (i : Int) < (N : Int) := by omega
      obtain ⟨t, ht⟩ : ∃ t, l[i]? = some t := ⟨_, List.getElem?_eq_getElem (by have := HNL.out; omega)⟩
      obtain ⟨b2, o2, rfl, hb2, htc⟩ := HROW.out i t ht
      have hkw := HK0.out.trans HS.out.kp
      have hbl := Nat.lt_of_lt_of_le hb2 hkw.size
      obtain ⟨htb, c0, c1, c2, c3⟩ := htc.same (hkw.block b2 hb2 (fun h => h))
      have hb0 := htb.1; have hb1 := htb.2.1; have hb22 := htb.2.2.1; have hb3 := htb.2.2.2
      have hg5 := HG.out.turn t
      have htu := sturn t HS.out HG.out (by omega) htb
      obtain ⟨s5, hs5⟩ : ∃ s5, t.turn s = s5 := ⟨_, rfl⟩
      obtain ⟨d5, hd5⟩ : ∃ d5, t.lost s d = d5 := ⟨_, rfl⟩
      rw [hs5, hd5] at htu
      rw [hs5] at hg5
      have HTU := hid htu; have HG5 := hid hg5
      clear hkw htc htb ht htu hg5 hs5 hd5
      go_wp2_with fail
      refine HTU.out.mono ?_
      rintro e w5 ⟨rfl, ⟨lv5, hsy, hrf⟩, _⟩
      have HSY := hid hsy; have HRF := hid hrf
      obtain ⟨x0, x1, x2, x3, xl⟩ := cells4 hsy.own
      clear hsy hrf HTU HG HS c0 c1 c2 c3 hbl hb2 hb0 hb1 hb22 hb3
      go_wp2_with fail
      refine (all_ok a LA s5.A w5 HSY.out.both.ar HG5.out.ok.a).mono ?_
      rintro e w6 ⟨v6, rfl, hr6, k6⟩
      have hal := HG5.out.all
      have hdl := rq_len s5.A
      have hcl := closed24 HG5.out.ok.a
      have hwf : ∀ r ∈ srt s5.A.rq.keys, r.Wf := fun r hr => there_wf HG5.out.ok.a (rq_there (mem_srt.1 hr))
      have hsl : (srt s5.A.rq.keys).length = s5.A.rq.keys.length := (srt_perm _).length_eq
      have hn2 := HG5.out.ok.a.n2
      obtain ⟨D, hD⟩ : ∃ D, srt s5.A.rq.keys = D := ⟨_, rfl⟩
      rw [hD] at hr6 hal hcl hwf hsl
      have hdn : D.length ≤ 256 := by omega
      obtain ⟨q6, c6, rfl⟩ := hr6.refs.slice
      have HAL := hid hal; have HCL := hid hcl; have HWF := hid hwf
      have HS6 := hid (HSY.out.same k6); have HR6 := hid hr6.refs; have HRF6 := hid (HRF.out.keeps k6 (fun _ _ h => h))
      clear hal hcl hwf hsl hn2 hdl hD hr6 k6 HSY HRF x0 x1 x2 x3 xl
      obtain ⟨x0, x1, x2, x3, xl⟩ := cells4 HS6.out.own
      go_wp2_with fail
      refine (aheap_ok a LA s5.A w6 HS6.out.both.ar).mono ?_
      rintro e w7 ⟨bh, th, rfl, k7, _, _, hh⟩
      have HH := hid hh; have HS7 := hid (HS6.out.same k7); have HR7 := hid (HR6.out.keeps k7 (fun _ _ h => h)); have HRF7 := hid (HRF6.out.keeps k7 (fun _ _ h => h))
      clear hh k7 HS6 HR6 HRF6 x0 x1 x2 x3 xl
      go_wp2_with fail
      go_loopw [10] (fun ix wq => ∃ k : Nat, k ≤ D.length ∧ ix = .int .i64 k ∧ Hid (Keeps (fun _ => False) w7 wq)) (fun ix _ => D.length - (intOf ix).toNat)
      case atStart => exact ⟨0, Nat.zero_le _, rfl, hid (Keeps.refl _ _)⟩
      case round =>
        obtain ⟨k, hk, rfl, HKQ⟩ := hrel
        have hk0 : (0 : Int) ≤ k := by omega
        by_cases hlk : k < D.length
        · have hlk' : (k : Int) < (D.length : Int) := by omega
          obtain ⟨r, hr⟩ : ∃ r, D[k]? = some r := ⟨_, List.getElem?_eq_getElem hlk⟩
          obtain ⟨g, rfl, d0, d1⟩ := (HR7.out.keeps HKQ.out (fun _ _ h => h)).cellk hr
          obtain ⟨hck, hm0, hm4⟩ := HAL.out r (List.mem_of_getElem? hr)
          have HHS := hid (fun W (hk : Keeps (fun _ => False) w7 W) => hhas_any bh th s5.A.H r.s r.g W (HH.out.keeps hk (fun h => h) (fun h => h)))
          rw [hck] at HHS
          have HMM := hid (fun W (hk : Keeps (fun _ => False) w7 W) => (HS7.out.same hk).markedM r.s)
          have HEN := hid (fun W (hk : Keeps (fun _ => False) w7 W) => mended m LM s5.M W (HS7.out.same hk).both.mm)
          obtain ⟨mk, hmk⟩ : ∃ mk, (s5.M.markedR r.s).1 = mk := ⟨_, rfl⟩
          obtain ⟨eb, heb⟩ : ∃ eb, decide (4 ≤ s5.M.K.ph) = eb := ⟨_, rfl⟩
          rw [hmk, hm0] at HMM
          rw [heb] at HEN
          have HMK := hid (show eb = true → mk = true from fun h => by rw [← hmk]; exact hm4 (of_decide_eq_true (heb.trans h)))
          have HPS := hid (show ∀ W, Keeps (fun _ => False) w7 W → (W.cell? ⟨p, 1, none⟩ = some (.pointer (some ⟨m, 0, none⟩)) ∧ W.cell? ⟨g, k * 2, none⟩ = some (.int .i64 r.s)) from fun W hk => by
            obtain ⟨_, a1, _, _, _⟩ := cells4 (HS7.out.same hk).own
            obtain ⟨g1, hg1, b0, b1⟩ := (HR7.out.keeps hk (fun _ _ h => h)).cellk hr
            injection hg1 with hg1; injection hg1 with hg1
            subst hg1
            exact ⟨a1, b0⟩)
          clear hck hm0 hm4 hmk heb hr
          go_wp2_with fail
          refine (HHS.out _ HKQ.out).mono ?_
          rintro e w8 ⟨rfl, k8⟩
          have HK8 := hid (HKQ.out.trans k8)
          clear k8 d0 d1 HHS
          go_wp2_with fail
          go_region_held3 (fun W => W.cell? ⟨p, 1, none⟩ = some (.pointer (some ⟨m, 0, none⟩)) ∧ W.cell? ⟨g, k * 2, none⟩ = some (.int .i64 r.s))
            ((refine HPS.out _ ?_; (repeat (first | with_reducible exact HK8.out | with_reducible refine Keeps.drewN ?_ _ | with_reducible refine Keeps.drew ?_ | with_reducible refine Keeps.trans ?_ k9))))
            (first | (go_at_call 46; refine (HMM.out _ HK8.out.drew).mono ?_; rintro e w9 ⟨rfl, k9⟩))
          all_goals
            have HK9 := hid (HK8.out.drew.trans k9)
            obtain ⟨y1, _⟩ := HPS.out _ HK9.out
            have HEN9 := hid (HEN.out _ HK9.out)
            clear k9 HMM HEN
            rcases eb with _ | _
            · go_wp2_with fail
              refine HEN9.out.mono ?_
              rintro e w10 ⟨rfl, h10⟩
              obtain rfl := h10.symm
              go_wp2_with fail
              exact ⟨⟨k + 1, by omega, by go_num, HK9⟩, by simp [intOf]; omega⟩
            · obtain rfl := HMK.out rfl
              go_wp2_with fail
              refine HEN9.out.mono ?_
              rintro e w10 ⟨rfl, h10⟩
              obtain rfl := h10.symm
              go_wp2_with fail
              exact ⟨⟨k + 1, by omega, by go_num, HK9⟩, by simp [intOf]; omega⟩
        · have hlk' : ¬ (k : Int) < (D.length : Int) := by omega
          have hc := closed_ok bh th s5.A.H _ D wr (HH.out.keeps HKQ.out (fun h => h) (fun h => h)) (HR7.out.keeps HKQ.out (fun _ _ h => h)) HWF.out (by omega)
          rw [HCL.out.1, HCL.out.2] at hc
          have HCC := hid hc
          clear hc
          go_wp2_with fail
          refine HCC.out.mono ?_
          rintro e w8 ⟨rfl, k8⟩
          have HK8 := hid (HKQ.out.trans k8)
          clear k8 HCC
          go_wp2_with fail
          exact ⟨⟨i + 1, s5, d5, by omega, by go_num, HG5, hid ⟨lv5, HS7.out.same HK8.out, HRF7.out.keeps HK8.out (fun _ _ h => h)⟩⟩, by simp [intOf]; omega⟩
    · have hlt' : ¬ (i : Int) < (N : Int) := by omega
      have HKW := hid (HK0.out.trans HS.out.kp)
      clear HG HS HROW
      go_wp2_with fail
      refine (works24 _).mono ?_
      rintro e w8 ⟨rfl, k8⟩
      go_wp2_with fail
      go_ret
      exact ⟨rfl, HKW.out.trans k8⟩
set_option maxRecDepth 100000 in
theorem markerSafe_law {H : Type} {enc : TypeId × Value → H} {base : Nat} {spare : Nat → Bool} {held : Bool} {r : Reach} {b0 : Nat}
    (v0 : Value) (d0 : DataW H) (p0 : List MemPlace) {w : World} (hv0 : Value.okWide Tryz.prog w r b0 69 v0) (h0 : DataW.Trod enc Tryz.prog w base spare held 69 v0 d0 p0)
    (v1 : Value) (d1 : DataW H) (p1 : List MemPlace) (hv1 : Value.okWide Tryz.prog w r b0 70 v1) (h1 : DataW.Trod enc Tryz.prog w base spare held 70 v1 d1 p1)
    (w' : World) (e' : w' = w) :
    Calls Tryz.prog 8 #[v0, v1] w' fun e w2 => e = .returned (.bool true) ∧ Keeps (fun _ => False) w' w2 := by
  subst e'
  obtain ⟨x, y, z, u, rfl, g0, g1, g2, g3⟩ := agg4_of Tryz.underlying69 (by kernel_rfl) (by kernel_rfl) hv0 h0
  obtain ⟨a, n, k, rfl, e1, e2, hx⟩ := open_flat_slice (ks := ks4) Tryz.underlying70 (by kernel_rfl) (by kernel_rfl) (by decide) hv1 h1
  obtain ⟨l, hl⟩ := tvrow_of e1 e2 hx
  exact markerSafe_walk x y z u l _ w' g0 g1 g2 g3 hl
end Go.Proofs.YtehmoikbeflkaaaGreat
