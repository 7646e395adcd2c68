/- estraylaw24.MarkerClean: the walk. -/
import Derived.Test.YtehmoikbeflkaaaGreatMvC
namespace Go.Proofs.YtehmoikbeflkaaaGreat
open Go.RowKit Go.ChangeShapes Go.WideShapes Go.ChangeAt Go.Deep
set_option linter.unusedVariables false
set_option linter.unusedSimpArgs false

set_option maxRecDepth 100000 in
set_option maxHeartbeats 8000000 in
theorem markerClean_walk (x y z u tv : Nat) (l : List Tv) (v : Value) (w : World) (hx : x < 256) (hy : y < 256) (hz : z < 256) (hu : u < 256) (htv : tv < 256) (hm : TvRow w v l) :
    Calls Tryz.prog 7 #[.agg #[.int .u8 x, .int .u8 y, .int .u8 z, .int .u8 u], v, .int .u8 tv] w fun e w' => e = .returned (.bool true) ∧ Keeps (fun _ => False) w w' := by
  obtain ⟨am, cm, rfl, _, hmc2, hmr⟩ := hm
  obtain ⟨N, hN⟩ : ∃ N, l.length = N := ⟨_, rfl⟩
  have HROW := hid (show ∀ (i : Nat) (z : Tv), l[i]? = some z → ∃ b2 o2, am = some ⟨b2, o2, none⟩ ∧ b2 < w.heap.size ∧ TvCell w b2 (o2 + i * 4) z from fun i z hz => by
    rcases hmr with rfl | ⟨b2, o2, e, hb, hc⟩
    · cases hz
    · exact ⟨b2, o2, e, hb, hc i z hz⟩)
  have HNL := hid hN
  rw [hN]
  clear hmr hmc2 hN
  by_cases h120 : 120 < N
  · have h120' : (120 : Int) < (N : Int) := by omega
    go_enter Tryz.func7, Tryz.ntmps7
    go_wp2_with fail
    refine (works24 _).mono ?_
    rintro e w1 ⟨rfl, k1⟩
    go_wp2_with fail
    go_ret
    exact ⟨rfl, ((Keeps.refl _ _).alloc _).trans k1⟩
  have h120' : ¬ (120 : Int) < (N : Int) := by omega
  have HMD := hid (fun W => smade x y z u W hx hy hz hu)
  obtain ⟨n, hn⟩ : ∃ n, 1 + x % 16 = n := ⟨_, rfl⟩
  obtain ⟨ms, hms⟩ : ∃ ms, 1 + y % 4 = ms := ⟨_, rfl⟩
  obtain ⟨st, hst⟩ : ∃ st, 1 + z % 8 = st := ⟨_, rfl⟩
  obtain ⟨bu, hbu⟩ : ∃ bu, 1 + u % 4 = bu := ⟨_, rfl⟩
  have hn1 : 1 ≤ n ∧ n ≤ 16 := by omega
  have hm1 : 1 ≤ ms ∧ ms ≤ 4 := by omega
  rw [hn, hms, hst, hbu] at HMD
  have hg0 : G24 n ms 0 (Sys.new4 n ms st bu) := G24.new (by omega) (by omega) (by omega) (by omega) st bu
  obtain ⟨S0, hS0⟩ : ∃ S0, Sys.new4 n ms st bu = S0 := ⟨_, rfl⟩
  rw [hS0] at HMD hg0
  have HG0 := hid hg0
  obtain ⟨q, hq⟩ : ∃ q, tv % 4 = q := ⟨_, rfl⟩
  have hq4 : q < 4 := by omega
  have hq1 : (tv : Int) % 4 = (q : Int) := by omega
  have hq2 : (tv : Int).tmod 4 = (q : Int) := by rw [Int.tmod_eq_emod_of_nonneg (by omega)]; exact hq1
  have hqa : IntKind.u8.wrap (q : Int) = (q : Int) := u8_wrap (by omega)
  have hqb : IntKind.i64.wrap (q : Int) = (q : Int) := IntWalk.i64_in _ (by omega)
  have hqc : IntKind.i64.wrap (1 + (q : Int)) = 1 + (q : Int) := IntWalk.i64_in _ (by omega)
  clear hg0 hS0 hn hms hst hbu hx hy hz hu hq htv
  go_enter Tryz.func7, Tryz.ntmps7
  go_wp2_with fail
  refine (HMD.out _).mono ?_
  rintro e w1 ⟨p, w0, a, m, LA, LM, rfl, k0, hs⟩
  have HK0 := hid (show Keeps (fun _ => False) w w0 from ((Keeps.refl _ _).alloc _).trans k0)
  have HS1 := hid (show Sx w0 w1 p a m LA LM S0 [] from ⟨_, hs, (Row.nil w1 0).refs⟩)
  clear k0 hs HMD
  go_wp2_with fail
  go_loopw [8] (fun ix wr => ∃ (i : Nat) (s : Sys) (d : List Rf), i ≤ N ∧ ix = .int .i64 i ∧ Hid (G24 n ms i s) ∧ Hid (Sx w0 wr p a m LA LM s d)) (fun ix _ => N - (intOf ix).toNat)
  case atStart => exact ⟨0, _, _, Nat.zero_le _, rfl, HG0, HS1⟩
  case round =>
    obtain ⟨i, s, d, hi, rfl, HG, HS⟩ := hrel
    have hi0 : (0 : Int) ≤ i := by omega
    by_cases hlt : i < N
    · have hlt' : (i : Int) < (N : Int) := by omega
      obtain ⟨t, ht⟩ : ∃ t, l[i]? = some t := ⟨_, List.getElem?_eq_getElem (by have := HNL.out; omega)⟩
      obtain ⟨b2, o2, rfl, hb2, htc⟩ := HROW.out i t ht
      have hkw := HK0.out.trans HS.out.kp
      have hbl := Nat.lt_of_lt_of_le hb2 hkw.size
      obtain ⟨htb, c0, c1, c2, c3⟩ := htc.same (hkw.block b2 hb2 (fun h => h))
      have hb0 := htb.1; have hb1 := htb.2.1; have hb22 := htb.2.2.1; have hb3 := htb.2.2.2
      have HTU := hid (sturn t HS.out HG.out (by omega) htb)
      have HG5 := hid (HG.out.turn t)
      clear hkw htc htb ht
      go_wp2_with fail
      refine HTU.out.mono ?_
      rintro e w5 ⟨rfl, hs5, _⟩
      have HS5 := hid hs5
      clear hs5 HTU HG HS c0 c1 c2 c3 hbl hb2 hb0 hb1 hb22 hb3
      go_wp2_with fail
      exact ⟨⟨i + 1, _, _, by omega, by go_num, HG5, HS5⟩, by simp [intOf]; omega⟩
    · have hlt' : ¬ (i : Int) < (N : Int) := by omega
      have HSZ := hid (show ∃ lv, Sy w0 wr p a m LA LM s lv ∧ Refs wr lv d from HS.out)
      obtain ⟨lv, hsy, hrf⟩ := HS.out
      obtain ⟨x0, x1, x2, x3, xl⟩ := cells4 hsy.own
      have has := asizes_ok a LA s.A wr hsy.both.ar
      rw [show s.A.H.T.n = n from HG.out.ok.n.trans HG.out.n] at has
      have HAS := hid has
      have HI := hid (show In24 n ms 0 0 s from ⟨HG.out.mono (by omega), fun h => by omega, fun h => by omega, fun h => by omega⟩)
      clear hsy hrf HROW hlt hi hi0 HG HSZ has
      go_wp2_with fail
      refine HAS.out.mono ?_
      rintro e w6 ⟨rfl, k6⟩
      have HS6 := hid (HS.out.same k6)
      clear k6 HS HAS x0 x1 x2 x3 xl hlt'
      go_wp2_with fail
      go_loopw [11] (fun ix wr => ∃ (c : Nat) (s : Sys) (d : List Rf), c ≤ 1 + q ∧ ix = .int .i64 c ∧ Hid (In24 n ms c 0 s) ∧ Hid (2 ≤ c → s.A.lostL = []) ∧ Hid (Sx w0 wr p a m LA LM s d)) (fun ix _ => 1 + q - (intOf ix).toNat)
      case atStart => exact ⟨0, _, _, Nat.zero_le _, rfl, HI, hid (fun h => by omega), HS6⟩
      case round =>
        obtain ⟨c, s, d, hc, rfl, HI, HL, HS⟩ := hrel
        have hc0 : (0 : Int) ≤ c := by omega
        by_cases hlc : c < 1 + q
        · have hlc' : (c : Int) < 1 + (q : Int) := by omega
          go_wp2_with fail
          go_loopw [12] (fun ix wr => ∃ (j : Nat) (s : Sys) (d : List Rf), j ≤ 22 ∧ ix = .int .i64 j ∧ Hid (In24 n ms c j s) ∧ Hid (Sx w0 wr p a m LA LM s d)) (fun ix _ => 22 - (intOf ix).toNat)
          case atStart => exact ⟨0, _, _, Nat.zero_le _, rfl, HI, HS⟩
          case round =>
            obtain ⟨j, s, d, hj, rfl, HI, HS⟩ := hrel
            have hj0 : (0 : Int) ≤ j := by omega
            have hj100 : ¬ (100 : Int) < (j : Int) := by omega
            obtain ⟨lv, hsy, hrf⟩ := HS.out
            obtain ⟨x0, x1, x2, x3, xl⟩ := cells4 hsy.own
            have HPH := hid (mphase m LM s.M wr hsy.both.mm)
            obtain ⟨go, hgo⟩ : ∃ go, decide (s.M.K.ph ≠ 0 ∨ j = 0) = go := ⟨_, rfl⟩
            have HGO := hid hgo
            obtain ⟨wz, hwz⟩ : ∃ wz, wr = wz := ⟨_, rfl⟩
            rw [hwz] at HS HPH x0 x1 x2 x3 xl hsy hrf ⊢
            have HSY := hid hsy; have HRF := hid hrf
            clear hsy hrf hgo hwz
            go_upto_region 15 with (fail)
            go_cut [64] (fun s64 wx => s64 = .bool go ∧ wx = wz)
            case first =>
              by_cases h0 : s.M.K.ph = 0
              · have hph := HPH.out
                rw [h0] at hph
                have HPZ := hid (show Calls Tryz.prog 49 #[.pointer (some ⟨m, 0, none⟩)] wz (fun e w' => e = .returned (.int .i64 0) ∧ w' = wz) from hph)
                clear hph
                by_cases hjz : j = 0
                · obtain rfl : go = true := by rw [← HGO.out]; simp [hjz]
                  have hjz' : ((j : Int) == 0) = true := by simp [hjz]
                  clear hjz
                  go_wp2_with fail
                  refine (HPZ.out).mono ?_
                  rintro e w' ⟨rfl, h'⟩
                  obtain rfl := h'.symm
                  go_wp2_with fail
                  go_meet
                  exact ⟨rfl, rfl⟩
                · obtain rfl : go = false := by rw [← HGO.out]; simp [hjz, h0]
                  have hjz' : ((j : Int) == 0) = false := by simp; omega
                  go_wp2_with fail
                  refine (HPZ.out).mono ?_
                  rintro e w' ⟨rfl, h'⟩
                  obtain rfl := h'.symm
                  go_wp2_with fail
                  go_meet
                  exact ⟨rfl, rfl⟩
              · obtain rfl : go = true := by rw [← HGO.out]; simp [h0]
                have h0' : ((s.M.K.ph : Int) == 0) = false := by simp; omega
                go_wp2_with fail
                refine (HPH.out).mono ?_
                rintro e w' ⟨rfl, h'⟩
                obtain rfl := h'.symm
                go_wp2_with fail
                go_meet
                exact ⟨rfl, rfl⟩
            case rest =>
            obtain ⟨rfl, hwc⟩ := hcut
            rw [hwc]
            clear hwc HPH
            cases go
            · have h00 := of_decide_eq_false HGO.out
              have h0 : s.M.K.ph = 0 := Decidable.not_not.1 fun h => h00 (.inl h)
              have hj1 : 1 ≤ j := Nat.pos_of_ne_zero fun h => h00 (.inr h)
              have hnx := HI.out.next (by omega) hj1 h0
              have HW := hid (fun i (hi : i < n) => HI.out.white h0 hi)
              have HI2 := hid hnx.1; have HL2 := hid hnx.2
              clear h00 h0 hj1 hnx HGO HI
              go_wp2_with fail
              clear x0 x1 x2 x3 xl
              go_loopw [14] (fun ix wq => ∃ k : Nat, k ≤ n ∧ ix = .int .i64 k ∧ Hid (Keeps (fun _ => False) wz wq)) (fun ix _ => n - (intOf ix).toNat)
              case atStart => exact ⟨0, Nat.zero_le _, rfl, hid (Keeps.refl _ _)⟩
              case round =>
                obtain ⟨k, hk, rfl, HKQ⟩ := hrel
                have hk0 : (0 : Int) ≤ k := by omega
                by_cases hlk : k < n
                · have hlk' : (k : Int) < (n : Int) := by omega
                  obtain ⟨x0, x1, x2, x3, xl⟩ := cells4 (HSY.out.same HKQ.out).own
                  have HMM := hid ((HSY.out.same HKQ.out).markedM k)
                  rw [HW.out k hlk] at HMM
                  go_wp2_with fail
                  refine HMM.out.mono ?_
                  rintro e w9 ⟨rfl, k9⟩
                  have HK9 := hid (HKQ.out.trans k9)
                  clear k9 HMM x0 x1 x2 x3 xl
                  go_wp2_with fail
                  exact ⟨⟨k + 1, by omega, by go_num, HK9⟩, by simp [intOf]; omega⟩
                · have hlk' : ¬ (k : Int) < (n : Int) := by omega
                  go_wp2_with fail
                  exact ⟨⟨c + 1, s, d, by omega, by go_num, HI2, hid (fun h => HL2.out (by omega)), hid (HS.out.same HKQ.out)⟩, by simp [intOf]; omega⟩
            · have hgo := of_decide_eq_true HGO.out
              have hir := HI.out.rnd hgo
              have hj2 : j + 1 ≤ 22 := hir.lt (by omega)
              have hmk : s.M.K.many = ms := HI.out.g.k
              have HIR := hid hir; have HMK := hid hmk
              have HAO := hid (fun k => Sys.acks_next HI.out.g.ok k)
              clear hgo hir hmk HSY HRF
              go_wp2_with fail
              clear x0 x1 x2 x3 xl
              go_loopw [13] (fun ix wq => ∃ k : Nat, k ≤ ms ∧ ix = .int .i64 k ∧ Hid (Sx w0 wq p a m LA LM (s.acks k) d)) (fun ix _ => ms - (intOf ix).toNat)
              case atStart => exact ⟨0, Nat.zero_le _, rfl, HS⟩
              case round =>
                obtain ⟨k, hk, rfl, HQ⟩ := hrel
                have hk0 : (0 : Int) ≤ k := by omega
                obtain ⟨lvk, hsy, hrf⟩ := HQ.out
                obtain ⟨hokk, _, _, hcyk, hmk, _⟩ := HAO.out k
                obtain ⟨x0, x1, x2, x3, xl⟩ := cells4 hsy.own
                rw [hmk, HMK.out] at x2
                by_cases hlk : k < ms
                · have hlk' : (k : Int) < (ms : Int) := by omega
                  have HA := hid (fun W (hk : Keeps (fun _ => False) wr W) => (hsy.same hk).ack hokk k)
                  have HRF := hid hrf; have HSY := hid hsy
                  clear hokk hcyk hmk hsy hrf
                  go_wp2_with fail
                  go_region_held3 (fun W => W.cell? ⟨p, 1, none⟩ = some (.pointer (some ⟨m, 0, none⟩)) ∧ W.cell? ⟨p, 0, none⟩ = some (.pointer (some ⟨a, 0, none⟩)))
                    ((first | exact ⟨x1, x0⟩ | exact ⟨(cells4 hs3.own).2.1, (cells4 hs3.own).1⟩))
                    (first | (go_at_call 50; refine (HA.out _ (Keeps.refl _ _).drew).mono ?_; rintro e w3 ⟨⟨u3, v3, rfl⟩, hs3, hk3⟩))
                  all_goals
                    have HS3 := hid (show Sx w0 w3 p a m LA LM (s.acks (k + 1)) d from ((HSY.out.same ((Keeps.refl _ _).drew)).sx (HRF.out.keeps ((Keeps.refl (fun _ => False) _).drew) (fun _ _ h => h)) hs3 hk3).1)
                    clear hs3 hk3 x0 x1 x2 x3 xl HA HQ
                    go_wp2_with fail
                    exact ⟨⟨k + 1, by omega, by go_num, HS3⟩, by simp [intOf]; omega⟩
                · have hlk' : ¬ (k : Int) < (ms : Int) := by omega
                  obtain rfl : k = ms := by omega
                  have hco := scoll HQ.out (HI.out.g.acks k) (by omega)
                  rw [show (s.acks k).coll = s.rnd by unfold Sys.rnd; rw [HMK.out]] at hco
                  have HCO := hid hco
                  clear hco hokk hcyk hmk hsy hrf
                  go_wp2_with fail
                  refine HCO.out.mono ?_
                  rintro e w4 ⟨rfl, hs4, _⟩
                  have HS4 := hid hs4
                  clear hs4 HCO HQ x0 x1 x2 x3 xl
                  go_wp2_with fail
                  exact ⟨⟨j + 1, _, _, by omega, by go_num, HIR, HS4⟩, by simp [intOf]; omega⟩
        · have hlc' : ¬ (c : Int) < 1 + (q : Int) := by omega
          obtain rfl : c = 1 + q := by omega
          obtain ⟨lv, hsy, hrf⟩ := HS.out
          obtain ⟨x0, x1, x2, x3, xl⟩ := cells4 hsy.own
          have HLO := hid (lost_ok a LA s.A wr hsy.both.ar HI.out.g.ok.a)
          have HKW := hid (HK0.out.trans HS.out.kp)
          have HLZ := hid (show q ≠ 0 → s.A.lostL.length = 0 from fun h => by rw [HL.out (by omega)]; rfl)
          clear hsy hrf HS HI HL
          go_wp2_with fail
          refine HLO.out.mono ?_
          rintro e w5 ⟨v5, rfl, hr5, k5⟩
          obtain ⟨q5, c5, rfl⟩ := hr5.refs.slice
          have HK5 := hid (HKW.out.trans k5)
          clear hr5 k5 HLO HKW x0 x1 x2 x3 xl
          by_cases hqz : q = 0
          · have hqz' : ((q : Int) == 0) = true := by simp [hqz]
            go_wp2_with fail
            refine (works24 _).mono ?_
            rintro e w8 ⟨rfl, k8⟩
            go_wp2_with fail
            go_ret
            exact ⟨rfl, HK5.out.trans k8⟩
          · have hqz' : ((q : Int) == 0) = false := by simp; omega
            rw [HLZ.out hqz]
            go_wp2_with fail
            refine (works24 _).mono ?_
            rintro e w8 ⟨rfl, k8⟩
            go_wp2_with fail
            go_ret
            exact ⟨rfl, HK5.out.trans k8⟩
set_option maxRecDepth 100000 in
theorem markerClean_law {H : Type} {enc : TypeId × Value → H} {base : Nat} {spare : Nat → Bool} {held : Bool} {r : Reach} {b0 : Nat}
    (v0 : Value) (d0 : DataW H) (p0 : List MemPlace) {w : World} (hv0 : Value.okWide Tryz.prog w r b0 69 v0) (h0 : DataW.Trod enc Tryz.prog w base spare held 69 v0 d0 p0)
    (v1 : Value) (d1 : DataW H) (p1 : List MemPlace) (hv1 : Value.okWide Tryz.prog w r b0 70 v1) (h1 : DataW.Trod enc Tryz.prog w base spare held 70 v1 d1 p1)
    (a2 : Int) (h2 : (Lit.int .u8 a2).wf = true) (w' : World) (e' : w' = w) :
    Calls Tryz.prog 7 #[v0, v1, .int .u8 a2] w' fun e w2 => e = .returned (.bool true) ∧ Keeps (fun _ => False) w' w2 := by
  subst e'
  obtain ⟨x, y, z, u, rfl, g0, g1, g2, g3⟩ := agg4_of Tryz.underlying69 (by kernel_rfl) (by kernel_rfl) hv0 h0
  obtain ⟨x2, rfl, g4⟩ := u8_nat24 h2
  obtain ⟨a, n, k, rfl, e1, e2, hx⟩ := open_flat_slice (ks := ks4) Tryz.underlying70 (by kernel_rfl) (by kernel_rfl) (by decide) hv1 h1
  obtain ⟨l, hl⟩ := tvrow_of e1 e2 hx
  exact markerClean_walk x y z u x2 l _ w' g0 g1 g2 g3 g4 hl
end Go.Proofs.YtehmoikbeflkaaaGreat
