/- estraylaw24.MarkerPrecise: the walk. -/
import Derived.Test.YtehmoikbeflkaaaGreatMvC
namespace Go.Proofs.YtehmoikbeflkaaaGreat
open Go.RowKit Go.ChangeShapes Go.WideShapes Go.ChangeAt Go.Deep
set_option linter.unusedVariables false
set_option linter.unusedSimpArgs false

set_option maxRecDepth 100000 in
set_option maxHeartbeats 8000000 in
theorem markerPrecise_walk (x y z u : Nat) (l : List Tv) (v : Value) (w : World) (hx : x < 256) (hy : y < 256) (hz : z < 256) (hu : u < 256) (hm : TvRow w v l) :
    Calls Tryz.prog 6 #[.agg #[.int .u8 x, .int .u8 y, .int .u8 z, .int .u8 u], v] w fun e w' => e = .returned (.bool true) ∧ Keeps (fun _ => False) w w' := by
  obtain ⟨am, cm, rfl, _, hmc2, hmr⟩ := hm
  obtain ⟨N, hN⟩ : ∃ N, l.length = N := ⟨_, rfl⟩
  have HROW := hid (show ∀ (i : Nat) (z : Tv), l[i]? = some z → ∃ b2 o2, am = some ⟨b2, o2, none⟩ ∧ b2 < w.heap.size ∧ TvCell w b2 (o2 + i * 4) z from fun i z hz => by
    rcases hmr with rfl | ⟨b2, o2, e, hb, hc⟩
    · cases hz
    · exact ⟨b2, o2, e, hb, hc i z hz⟩)
  have HNL := hid hN
  rw [hN]
  clear hmr hmc2 hN
  by_cases h200 : 200 < N
  · have h200' : (200 : Int) < (N : Int) := by omega
    go_enter Tryz.func6, Tryz.ntmps6
    go_wp2_with fail
    refine (works24 _).mono ?_
    rintro e w1 ⟨rfl, k1⟩
    go_wp2_with fail
    go_ret
    exact ⟨rfl, ((Keeps.refl _ _).alloc _).trans k1⟩
  have h200' : ¬ (200 : Int) < (N : Int) := by omega
  have HMD := hid (fun W => smade x y z u W hx hy hz hu)
  obtain ⟨n, hn⟩ : ∃ n, 1 + x % 16 = n := ⟨_, rfl⟩
  obtain ⟨ms, hms⟩ : ∃ ms, 1 + y % 4 = ms := ⟨_, rfl⟩
  obtain ⟨st, hst⟩ : ∃ st, 1 + z % 8 = st := ⟨_, rfl⟩
  obtain ⟨bu, hbu⟩ : ∃ bu, 1 + u % 4 = bu := ⟨_, rfl⟩
  have hn1 : 1 ≤ n ∧ n ≤ 16 := by omega
  have hm1 : 1 ≤ ms ∧ ms ≤ 4 := by omega
  rw [hn, hms, hst, hbu] at HMD
  have hg0 : G24 n ms 0 (Sys.new4 n ms st bu) := G24.new (by omega) (by omega) (by omega) (by omega) st bu
  obtain ⟨S0, hS0⟩ : ∃ S0, Sys.new4 n ms st bu = S0 := ⟨_, rfl⟩
  rw [hS0] at HMD hg0
  have HG0 := hid hg0
  have HP0 := hid (show Pre [] S0 from fun h1 => by rw [← hS0] at h1; exact absurd (show 1 ≤ 0 from h1) (Nat.not_succ_le_zero 0))
  clear hg0 hS0 hn hms hst hbu hx hy hz hu
  go_enter Tryz.func6, Tryz.ntmps6
  go_wp2_with fail
  refine (HMD.out _).mono ?_
  rintro e w1 ⟨p, w0, a, m, LA, LM, rfl, k0, hs⟩
  have HK0 := hid (show Keeps (fun _ => False) w w0 from ((Keeps.refl _ _).alloc _).trans k0)
  have HS1 := hid (show Sx w0 w1 p a m LA LM S0 [] from ⟨_, hs, (Row.nil w1 0).refs⟩)
  clear k0 hs HMD
  go_wp2_with fail
  go_loopw [6] (fun ix wr => ∃ (i : Nat) (s : Sys) (d : List Rf), i ≤ N ∧ d.length ≤ 256 ∧ ix = .int .i64 i ∧ Hid (G24 n ms i s) ∧ Hid (Pre d s) ∧ Hid (Sx w0 wr p a m LA LM s d)) (fun ix _ => N - (intOf ix).toNat)
  case atStart => exact ⟨0, _, _, Nat.zero_le _, (by simp), rfl, HG0, HP0, HS1⟩
  case round =>
    obtain ⟨i, s, d, hi, hdl, rfl, HG, HP, HS⟩ := hrel
    have hi0 : (0 : Int) ≤ i := by omega
    by_cases hlt : i < N
    · have hlt' : (i : Int) < (N : Int) := by omega
      obtain ⟨t, ht⟩ : ∃ t, l[i]? = some t := ⟨_, List.getElem?_eq_getElem (by have := HNL.out; omega)⟩
      obtain ⟨b2, o2, rfl, hb2, htc⟩ := HROW.out i t ht
      have hkw := HK0.out.trans HS.out.kp
      have hbl := Nat.lt_of_lt_of_le hb2 hkw.size
      obtain ⟨htb, c0, c1, c2, c3⟩ := htc.same (hkw.block b2 hb2 (fun h => h))
      have hb0 := htb.1; have hb1 := htb.2.1; have hb22 := htb.2.2.1; have hb3 := htb.2.2.2
      obtain ⟨lv, hsy, hrf⟩ := HS.out
      have HEN := hid (mended m LM s.M wr hsy.both.mm)
      obtain ⟨x0, x1, x2, x3, xl⟩ := cells4 hsy.own
      have hg5 := HG.out.turn t
      have hp5 := HP.out.turn HG.out t
      have htu := sturn t HS.out HG.out (by omega) htb
      have hen := fun h => turn_ends HG.out t h
      obtain ⟨s5, hs5⟩ : ∃ s5, t.turn s = s5 := ⟨_, rfl⟩
      have hdl5 : (t.lost s d).length ≤ 256 := by
        unfold Tv.lost
        split
        · exact Nat.le_trans (lost_len _) HG.out.ok.a.n2
        · exact hdl
      obtain ⟨d5, hd5⟩ : ∃ d5, t.lost s d = d5 := ⟨_, rfl⟩
      rw [hd5] at hdl5
      rw [hs5, hd5] at htu hp5
      rw [hs5] at hg5 hen
      obtain ⟨was, hwas⟩ : ∃ was, decide (4 ≤ s.M.K.ph) = was := ⟨_, rfl⟩
      rw [hwas] at HEN
      have HWAS := hid (show was = false → s5.M.K.ph ≤ 4 from fun h => hen (by have := of_decide_eq_false (hwas.trans h); omega))
      have HTU := hid htu; have HG5 := hid hg5; have HP5 := hid hp5
      clear hkw htc htb ht htu hg5 hs5 hd5 hp5 hen hwas hsy hrf
      go_wp2_with fail
      refine (HEN.out).mono ?_
      rintro e w' ⟨rfl, h'⟩
      obtain rfl := h'.symm
      go_wp2_with fail
      refine HTU.out.mono ?_
      rintro e w5 ⟨rfl, ⟨lv5, hsy, hrf⟩, _⟩
      obtain ⟨q5, c5, rfl⟩ := hrf.slice
      have HSY := hid hsy; have HRF := hid hrf
      have HEN5 := hid (mended m LM s5.M w5 hsy.both.mm)
      clear x0 x1 x2 x3 xl
      obtain ⟨x0, x1, x2, x3, xl⟩ := cells4 hsy.own
      clear hsy hrf HTU HG HS HP HEN c0 c1 c2 c3 hbl hb2 hb0 hb1 hb22 hb3
      cases was
      rotate_left
      · go_wp2_with fail
        exact ⟨⟨i + 1, s5, d5, by omega, hdl5, by go_num, HG5, HP5, hid ⟨_, HSY.out, HRF.out⟩⟩, by simp [intOf]; omega⟩
      obtain ⟨eb, heb⟩ : ∃ eb, decide (4 ≤ s5.M.K.ph) = eb := ⟨_, rfl⟩
      rw [heb] at HEN5
      cases eb
      · go_wp2_with fail
        refine (HEN5.out).mono ?_
        rintro e w' ⟨rfl, h'⟩
        obtain rfl := h'.symm
        go_wp2_with fail
        exact ⟨⟨i + 1, s5, d5, by omega, hdl5, by go_num, HG5, HP5, hid ⟨_, HSY.out, HRF.out⟩⟩, by simp [intOf]; omega⟩
      have h4 : s5.M.K.ph = 4 := by have := of_decide_eq_true heb; have := HWAS.out rfl; omega
      have HDN := hid (HP5.out.done HG5.out h4)
      clear heb h4
      go_wp2_with fail
      refine (HEN5.out).mono ?_
      rintro e w' ⟨rfl, h'⟩
      obtain rfl := h'.symm
      go_wp2_with fail
      refine (aheap_ok a LA s5.A w5 HSY.out.both.ar).mono ?_
      rintro e w7 ⟨bh, th, rfl, k7, _, _, hh⟩
      have HH := hid hh; have HS7 := hid (HSY.out.same k7); have HR7 := hid (HRF.out.keeps k7 (fun _ _ h => h))
      clear hh k7 HSY HRF HEN5 x0 x1 x2 x3 xl
      go_wp2_with fail
      go_loopw [9] (fun ix wq => ∃ k : Nat, k ≤ d5.length ∧ ix = .int .i64 k ∧ Hid (Keeps (fun _ => False) w7 wq)) (fun ix _ => d5.length - (intOf ix).toNat)
      case atStart => exact ⟨0, Nat.zero_le _, rfl, hid (Keeps.refl _ _)⟩
      case round =>
        obtain ⟨k, hk, rfl, HKQ⟩ := hrel
        have hk0 : (0 : Int) ≤ k := by omega
        obtain ⟨x0, x1, x2, x3, xl⟩ := cells4 (HS7.out.same HKQ.out).own
        by_cases hlk : k < d5.length
        · have hlk' : (k : Int) < (d5.length : Int) := by omega
          obtain ⟨r, hr⟩ : ∃ r, d5[k]? = some r := ⟨_, List.getElem?_eq_getElem hlk⟩
          obtain ⟨g, rfl, d0, d1⟩ := (HR7.out.keeps HKQ.out (fun _ _ h => h)).cellk hr
          obtain ⟨hck, hmk⟩ := HDN.out r (List.mem_of_getElem? hr)
          have HHS := hid (fun W (hk : Keeps (fun _ => False) w7 W) => hhas_any bh th s5.A.H r.s r.g W (HH.out.keeps hk (fun h => h) (fun h => h)))
          rw [hck] at HHS
          have HMM := hid (fun W (hk : Keeps (fun _ => False) w7 W) => (HS7.out.same hk).markedM r.s)
          rw [hmk] at HMM
          have HPS := hid (show ∀ W, Keeps (fun _ => False) w7 W → (W.cell? ⟨p, 1, none⟩ = some (.pointer (some ⟨m, 0, none⟩)) ∧ W.cell? ⟨p, 3, none⟩ = some (.slice (some ⟨g, 0, none⟩) d5.length c5) ∧ W.cell? ⟨g, k * 2, none⟩ = some (.int .i64 r.s) ∧ W.cell? ⟨g, k * 2 + 1, none⟩ = some (.int .u32 r.g)) from fun W hk => by
            obtain ⟨_, a1, _, a3, _⟩ := cells4 (HS7.out.same hk).own
            obtain ⟨g1, hg1, b0, b1⟩ := (HR7.out.keeps hk (fun _ _ h => h)).cellk hr
            injection hg1 with hg1; injection hg1 with hg1
            subst hg1
            exact ⟨a1, a3, b0, b1⟩)
          clear hck hmk hr x0 x1 x2 xl d0 d1
          obtain ⟨wz, hwz⟩ : ∃ wz, wr = wz := ⟨_, rfl⟩
          rw [hwz] at HKQ x3 ⊢
          clear hwz
          go_wp2_with fail
          go_region_held3 (fun W => W.cell? ⟨p, 1, none⟩ = some (.pointer (some ⟨m, 0, none⟩)) ∧ W.cell? ⟨p, 3, none⟩ = some (.slice (some ⟨g, 0, none⟩) d5.length c5) ∧ W.cell? ⟨g, k * 2, none⟩ = some (.int .i64 r.s) ∧ W.cell? ⟨g, k * 2 + 1, none⟩ = some (.int .u32 r.g))
            ((refine HPS.out _ ?_; (repeat (first | with_reducible exact HKQ.out | with_reducible refine Keeps.drewN ?_ _ | with_reducible refine Keeps.drew ?_ | with_reducible refine Keeps.trans ?_ k9))))
            (first | (go_at_call 46; refine (HMM.out _ HKQ.out.drew).mono ?_; rintro e w9 ⟨rfl, k9⟩))
          all_goals
            have HK9 := hid (HKQ.out.drew.trans k9)
            obtain ⟨y1, y3, e0, e1⟩ := HPS.out _ HK9.out
            clear k9 HMM
            try clear x3
            go_wp2_with fail
            refine (HHS.out _ HK9.out).mono ?_
            rintro e w10 ⟨rfl, k10⟩
            have HK10 := hid (HK9.out.trans k10)
            clear k10 y1 y3 e0 e1
            go_wp2_with fail
            exact ⟨⟨k + 1, by omega, by go_num, HK10⟩, by simp [intOf]; omega⟩
        · have hlk' : ¬ (k : Int) < (d5.length : Int) := by omega
          go_wp2_with fail
          exact ⟨⟨i + 1, s5, d5, by omega, hdl5, by go_num, HG5, HP5, hid ⟨_, HS7.out.same HKQ.out, HR7.out.keeps HKQ.out (fun _ _ h => h)⟩⟩, by simp [intOf]; omega⟩
    · have hlt' : ¬ (i : Int) < (N : Int) := by omega
      have HKW := hid (HK0.out.trans HS.out.kp)
      clear HG HS HROW HP
      go_wp2_with fail
      refine (works24 _).mono ?_
      rintro e w8 ⟨rfl, k8⟩
      go_wp2_with fail
      go_ret
      exact ⟨rfl, HKW.out.trans k8⟩
set_option maxRecDepth 100000 in
theorem markerPrecise_law {H : Type} {enc : TypeId × Value → H} {base : Nat} {spare : Nat → Bool} {held : Bool} {r : Reach} {b0 : Nat}
    (v0 : Value) (d0 : DataW H) (p0 : List MemPlace) {w : World} (hv0 : Value.okWide Tryz.prog w r b0 69 v0) (h0 : DataW.Trod enc Tryz.prog w base spare held 69 v0 d0 p0)
    (v1 : Value) (d1 : DataW H) (p1 : List MemPlace) (hv1 : Value.okWide Tryz.prog w r b0 70 v1) (h1 : DataW.Trod enc Tryz.prog w base spare held 70 v1 d1 p1)
    (w' : World) (e' : w' = w) :
    Calls Tryz.prog 6 #[v0, v1] w' fun e w2 => e = .returned (.bool true) ∧ Keeps (fun _ => False) w' w2 := by
  subst e'
  obtain ⟨x, y, z, u, rfl, g0, g1, g2, g3⟩ := agg4_of Tryz.underlying69 (by kernel_rfl) (by kernel_rfl) hv0 h0
  obtain ⟨a, n, k, rfl, e1, e2, hx⟩ := open_flat_slice (ks := ks4) Tryz.underlying70 (by kernel_rfl) (by kernel_rfl) (by decide) hv1 h1
  obtain ⟨l, hl⟩ := tvrow_of e1 e2 hx
  exact markerPrecise_walk x y z u l _ w' g0 g1 g2 g3 hl
end Go.Proofs.YtehmoikbeflkaaaGreat
