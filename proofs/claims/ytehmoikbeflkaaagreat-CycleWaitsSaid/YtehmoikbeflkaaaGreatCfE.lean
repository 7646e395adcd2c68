/- estraylaw26.CycleWaits: the walk. -/
import Derived.Test.YtehmoikbeflkaaaGreatCfB
import Derived.Test.YtehmoikbeflkaaaGreatCfD
import Derived.Test.YtehmoikbeflkaaaGreatNgB
namespace Go.Proofs.YtehmoikbeflkaaaGreat
open Go.RowKit Go.ChangeShapes Go.WideShapes Go.ChangeAt Go.Deep
set_option linter.unusedVariables false
set_option linter.unusedSimpArgs false
set_option linter.unusedSectionVars false

section
variable {w0 w w' : World} {p a m b c : Nat} {LA : ArL} {LM : MkL} {k : Col} {f : List Rf}
theorem pair_nostep (h : Pair w0 w p a m b c LA LM k []) (hok : k.Ok) (hb : k.C.begun < 4611686018427387904) : Calls Tryz.prog 77 #[.pointer (some ⟨p, 0, none⟩), .int .i64 0] w
    fun e w' => e = .returned (.tuple #[]) ∧ Pair w0 w' p a m b c LA LM (k.stepR false).c [] ∧ PKeep w w' p (foot3 LA LM b c k.s) := by
  refine (pstep h hok 0 (by omega) (by have := cy_le' hok; omega) (by simp)).mono ?_
  rintro e w' ⟨rfl, hp, hk⟩
  have hp' : Pair w0 w' p a m b c LA LM (k.stepR false).c ((k.stepR false).more []) := hp
  rw [more_no] at hp'
  exact ⟨rfl, hp', hk⟩
theorem pair_sizes' (h : Pair w0 w p a m b c LA LM k f) (hok : k.Ok) : Calls Tryz.prog 48 #[.pointer (some ⟨a, 0, none⟩)] w fun e w' => e = .returned (.tuple #[.int .i64 k.s.M.P.n, .int .i64 k.s.M.K.many]) ∧ Keeps (fun _ => False) w w' := by
  have := asizes_ok a LA k.s.A w h.q.tr.both.ar
  rw [hok.s.n, hok.s.k] at this
  exact this
theorem Wr.begun {d : Col} {t : Nat} (h : Wr d t k) : k.C.begun = d.s.M.K.cy + 1 := h.w.f.bg
theorem acks_C (k : Col) : ∀ n, (k.acks n).C = k.C
  | 0 => rfl
  | n + 1 => acks_C k n
end

set_option maxRecDepth 100000 in
set_option maxHeartbeats 40000000 in
theorem cycleWaits_walk (x y z u : Nat) (l : List Mv) (v : Value) (w : World) (hx : x < 256) (hy : y < 256) (hz : z < 256) (hu : u < 256) (hm : MvRow w v l) :
    Calls Tryz.prog 12 #[.int .u8 x, .int .u8 y, .int .u8 z, .int .u8 u, v] w fun e w' => e = .returned (.bool true) ∧ Keeps (fun _ => False) w w' := by
  obtain ⟨am, cm, rfl, _, hmc2, hmr⟩ := hm
  obtain ⟨N, hN⟩ : ∃ N, (l).length = N := ⟨_, rfl⟩
  have HROW := hid (show ∀ (i : Nat) (z : Mv), (l)[i]? = some z → ∃ b2 o2, am = some ⟨b2, o2, none⟩ ∧ b2 < w.heap.size ∧ MvCell w b2 (o2 + i * 5) z from fun i z hz => by
    rcases hmr with rfl | ⟨b2, o2, e, hb, hc⟩
    · cases hz
    · exact ⟨b2, o2, e, hb, hc i z hz⟩)
  have HN := hid hN
  rw [hN]
  clear hmr hmc2 hN
  by_cases h80 : 80 < N
  · have h80' : (80 : Int) < (N : Int) := by omega
    go_enter Tryz.func12, Tryz.ntmps12
    go_wp2_with fail
    refine (works26 _).mono ?_
    rintro e w1 ⟨rfl, k1⟩
    go_wp2_with fail
    go_ret
    exact ⟨rfl, k1⟩
  have h80' : ¬ (80 : Int) < (N : Int) := by omega
  have HC := hid (fun W => config26 x y z u W hx hy hz hu)
  obtain ⟨n, hn⟩ : ∃ n, 1 + x % 24 = n := ⟨_, rfl⟩
  obtain ⟨ms, hms⟩ : ∃ ms, 1 + y % 4 = ms := ⟨_, rfl⟩
  obtain ⟨st, hst⟩ : ∃ st, 1 + z % 8 = st := ⟨_, rfl⟩
  obtain ⟨bu, hbu⟩ : ∃ bu, 1 + u % 4 = bu := ⟨_, rfl⟩
  have hn1 : 1 ≤ n ∧ n ≤ 24 := by omega
  have hm1 : 1 ≤ ms ∧ ms ≤ 4 := by omega
  rw [hn, hms, hst, hbu] at HC
  have HB := hid (fun W => begin26 n ms st bu (fun _ => 0) W (by omega) (by omega) (by omega) (by omega) (by omega) (by omega) (by omega) (by omega))
  have hok := Col.new_ok (n := n) (k := ms) (s := st) (p := bu) (by omega) (by omega) (by omega) (by omega)
  have hk1 : (Col.new n ms st bu).s.M.K.many = ms := rfl
  have hk2 : (Col.new n ms st bu).s.M.P.n = n := rfl
  have hk3 : (Col.new n ms st bu).C.begun = 0 := rfl
  have hsn := Sane.new n ms st bu
  obtain ⟨K0, hK0⟩ : ∃ K0, Col.new n ms st bu = K0 := ⟨_, rfl⟩
  rw [hK0] at HB hok hk1 hk2 hk3 hsn
  have HOK := hid hok; have HKM := hid hk1; have HKN := hid hk2; have HBG := hid hk3; have HSN := hid hsn
  clear hok hk1 hk2 hk3 hK0 hn hms hst hbu hx hy hz hu hsn
  have hn2 : (n : Int) ≤ 24 := by omega
  have hn0 : (1 : Int) ≤ n := by omega
  have hm2 : (ms : Int) ≤ 4 := by omega
  have hm0 : (1 : Int) ≤ ms := by omega
  go_enter Tryz.func12, Tryz.ntmps12
  go_wp2_with fail
  refine (HC.out _).mono ?_
  rintro e w1 ⟨rfl, k1⟩
  have HK1 := hid k1
  clear k1
  go_wp2_with fail
  refine (HB.out _).mono ?_
  rintro e w2 ⟨p, rfl, w0, a, m, b, c, LA, LM, k0, hp⟩
  have HK0 := hid (HK1.out.trans k0)
  have HP0 := hid (show Pair w0 w2 p a m b c LA LM (K0.tn l 0).1 (K0.tn l 0).2 from hp)
  clear k0 hp HK1
  go_wp2_with fail
  go_loopw [13] (fun ix wr => ∃ i : Nat, i ≤ N ∧ ix = .int .i64 i ∧ Hid (Pair w0 wr p a m b c LA LM (K0.tn l i).1 (K0.tn l i).2)) (fun ix _ => N - (intOf ix).toNat)
  case atStart => exact ⟨0, Nat.zero_le _, rfl, HP0⟩
  case round =>
    obtain ⟨i, hi, rfl, HP⟩ := hrel
    by_cases hlt : i < N
    · obtain ⟨z, hz⟩ : ∃ z, l[i]? = some z := ⟨_, List.getElem?_eq_getElem (by have := HN.out; omega)⟩
      obtain ⟨b2, o2, rfl, hb2, hzc⟩ := HROW.out i z hz
      have hkw := HK0.out.trans HP.out.kp
      have hbl := Nat.lt_of_lt_of_le hb2 hkw.size
      obtain ⟨hzb, g0, g1, g2, g3, g4⟩ := hzc.same (hkw.block b2 hb2 (fun h => h))
      have hlt' : (i : Int) < (N : Int) := by omega
      have hi0 : (0 : Int) ≤ i := by omega
      have HPL := hid (pplay HP.out HOK.out hz hzb (by have := HBG.out; omega) (by omega))
      clear hkw hzc hb2 hz hzb
      go_wp2_with fail
      refine HPL.out.mono ?_
      rintro e w3 ⟨rfl, hp3, _⟩
      have HP3 := hid hp3
      clear hp3
      go_wp2_with fail
      exact ⟨⟨i + 1, by omega, by go_num, HP3⟩, by simp [intOf]; omega⟩
    obtain rfl : i = N := by omega
    have hlt' : ¬ (i : Int) < (i : Int) := by omega
    obtain ⟨t1, t2, t3, t4⟩ := Col.tn_ok HOK.out l i (by have := HN.out; omega)
    rw [HBG.out] at t3
    have hsn := HSN.out.tn HOK.out l i (by have := HN.out; omega)
    have HEN := hid (ends26 Sane (fun _ _ h1 h2 => h2.step h1 true) (fun _ _ j h1 h2 => h2.ack h1 j) HP.out t1 (by omega) (by omega) hsn)
    obtain ⟨K1, hK1⟩ : ∃ K1, (K0.tn l i).1 = K1 := ⟨_, rfl⟩
    obtain ⟨F1, hF1⟩ : ∃ F1, (K0.tn l i).2 = F1 := ⟨_, rfl⟩
    rw [hK1, hF1] at HEN
    rw [hK1] at t1 t2 t3
    rw [hF1] at t4
    have HT2 := hid (t2.1.trans HKM.out); have HT3 := hid t3; have HT4 := hid t4; have HT5 := hid (t2.2.1.trans HKN.out)
    clear hK1 hF1 t1 t2 t3 t4 hlt HP HP0 HC HB HROW HN hsn
    go_wp2_with fail
    clear hlt'
    refine HEN.out.mono ?_
    rintro e w3 ⟨d, g, j, rfl, hph, has, hj, he⟩
    have hdm : d.s.M.K.many = ms := he.like.1.trans HT2.out
    have hdn : d.s.M.P.n = n := he.like.2.1.trans HT5.out
    have hdb : d.C.begun ≤ 640 + 8000 := by have := he.bg; have := HT3.out; omega
    have hcy : d.s.M.K.cy ≤ 8640 := Nat.le_trans (cy_le' he.ok) hdb
    have HDO := hid he.ok; have HDP := hid hph
    have HWR := hid (Wr.begin he.ok he.inv.cl hph)
    have HPL := hid (plost he.pr he.ok)
    have hhl : d.s.A.handles.length ≤ 256 := Nat.le_trans (List.length_filter_le _ _) (Nat.le_trans (lost_len _) he.ok.s.a.n2)
    have HP3 := hid he.pr
    have HAS := hid (fun W (h : Pair w0 W p a m b c LA LM d []) => pair_ask' h (by omega))
    rw [Col.ask_idle hph] at HAS
    have HSZ := hid (fun W (h : Pair w0 W p a m b c LA LM d []) => pair_sizes' h he.ok)
    rw [hdm, hdn] at HSZ
    have HMN := hid (And.intro hdm (And.intro hdn hcy))
    obtain ⟨H, hH⟩ : ∃ H, d.s.A.handles = H := ⟨_, rfl⟩
    rw [hH] at HPL hhl
    have HHH := hid hH
    clear hdm hdn hdb hcy hj he hph has hH HEN HT2 HT3 HT4 HT5
    go_wp2_with fail
    refine HPL.out.mono ?_
    rintro e w4 ⟨vl, rfl, hrl, k4⟩
    obtain ⟨pl, cl, rfl⟩ := hrl.refs.slice
    have hp4 := HP3.out.same k4
    have HR4 := hid hrl.refs
    obtain ⟨vf, hvf, hvr⟩ := hp4.ex
    have ff2 := frozen_block hvf 2; have x2 := cell_at (i := 2) hvf rfl
    obtain ⟨x0, x1, xl⟩ := pair_cells hp4
    obtain ⟨w5, hw5⟩ : ∃ w5, w4.setCell ⟨p, 2, none⟩ (.slice none 0 0) = w5 := ⟨_, rfl⟩
    have hp5 := pair_nil hp4
    have c5 : w5.cell? ⟨p, 2, none⟩ = some (.slice none 0 0) := by rw [← hw5]; exact cell_at ((set_block hvf 2 _).trans rfl) rfl
    rw [hw5] at hp5
    have hk5 : Keeps (fun y => y = p) w4 w5 := by rw [← hw5]; exact keeps_set1 _ _ _ _
    have HP5 := hid hp5; have HW5 := hid hw5
    have HL5 := hid (show Lst w5 p (.slice pl H.length cl) H from ⟨hrl.refs.keeps hk5 (fun y hy e => by
      rcases hrl.refs with ⟨h1, _⟩ | ⟨g, cap, cur, h1, h2, _⟩
      · rw [h1] at hy; cases hy
      · rw [h1] at hy
        obtain rfl : g = y := Option.some.inj hy
        exact type_ne h2 hvf (by decide) e), fun y u hy hu => by
      obtain rfl := Option.some.inj (hu.symm.trans c5)
      intro h; cases h⟩)
    clear hrl k4 hp4 hvf hvr hw5 hp5 c5 hk5 HP3 HPL HR4
    go_wp2_with fail
    rw [HW5.out]
    clear x0 x1 xl ff2 x2
    obtain ⟨x0, x1, xl⟩ := pair_cells HP5.out
    go_wp2_with fail
    refine (HSZ.out _ HP5.out).mono ?_
    rintro e w6 ⟨rfl, k6⟩
    have HP6 := hid (HP5.out.same k6); have HL6 := hid (HL5.out.same HP5.out k6)
    clear k6 HP5 HL5 HSZ HW5 x0 x1 xl
    obtain ⟨x0, x1, xl⟩ := pair_cells HP6.out
    go_wp2_with fail
    refine (HAS.out _ HP6.out).mono ?_
    rintro e w7 ⟨rfl, hp7, k7⟩
    have HP7 := hid hp7; have HL7 := hid (HL6.out.pk HP6.out k7)
    clear hp7 k7 HP6 HL6 HAS x0 x1 xl
    go_wp2_with fail
    go_loopw [18] (fun ix wr => ∃ (t : Nat) (k : Col), t ≤ 3 * n + 5 ∧ ix = .int .i64 t ∧ Hid (Wr d t k) ∧ Hid (Pair w0 wr p a m b c LA LM k []) ∧ Hid (Lst wr p (.slice pl H.length cl) H)) (fun ix _ => 3 * n + 5 - (intOf ix).toNat)
    case atStart => exact ⟨0, d.begin, Nat.zero_le _, rfl, HWR, HP7, HL7⟩
    case round =>
      clear HP7 HL7 HWR
      obtain ⟨t, k, ht, rfl, HW, HP, HL⟩ := hrel
      have ht0 : (0 : Int) ≤ t := by omega
      obtain ⟨wq, hwq⟩ : ∃ wq, wr = wq := ⟨_, rfl⟩
      rw [hwq] at HP HL ⊢
      clear hwq
      have hkm : k.s.M.K.many = ms := HW.out.like.1.trans HMN.out.1
      by_cases hlt : t < 3 * n + 5
      · have hlt' : (t : Int) < 3 * (n : Int) + 5 := by omega
        have HKM2 := hid hkm
        clear hkm
        go_wp2_with fail
        go_loopw [19] (fun ix wz => ∃ q : Nat, q ≤ ms ∧ ix = .int .i64 q ∧ Hid (Pair w0 wz p a m b c LA LM (k.acks q) []) ∧ Hid (Lst wz p (.slice pl H.length cl) H)) (fun ix _ => ms - (intOf ix).toNat)
        case atStart => exact ⟨0, Nat.zero_le _, rfl, HP, HL⟩
        case round =>
          obtain ⟨q, hq, rfl, HQ, HLQ⟩ := hrel
          have hq0 : (0 : Int) ≤ q := by omega
          obtain ⟨wy, hwy⟩ : ∃ wy, wr = wy := ⟨_, rfl⟩
          rw [hwy] at HQ HLQ ⊢
          clear hwy
          obtain ⟨z0, z1, zl⟩ := pair_cells HQ.out
          have hokq := (Col.acks_ok HW.out.ok q).1
          by_cases hlq : q < ms
          · have hlq' : (q : Int) < (ms : Int) := by omega
            have HA := hid (fun W (h : Pair w0 W p a m b c LA LM (k.acks q) []) => pair_ack h hokq q)
            clear hokq
            go_wp2_with fail
            go_region_held3 (fun W => W.cell? ⟨p, 1, none⟩ = some (.pointer (some ⟨c, 0, none⟩)) ∧ W.cell? ⟨p, 0, none⟩ = some (.pointer (some ⟨a, 0, none⟩)))
              ((first | exact ⟨z1, z0⟩ | exact ⟨(pair_cells hp3).2.1, (pair_cells hp3).1⟩))
              (first | (go_at_call 76; refine (HA.out _ (HQ.out.same (Keeps.refl _ _).drew)).mono ?_; rintro e w8 ⟨⟨u3, v3, rfl⟩, hp3, kp3⟩))
            have HQ3 := hid (show Pair w0 w8 p a m b c LA LM (k.acks (q + 1)) [] from hp3)
            have HL3 := hid ((HLQ.out.same HQ.out (Keeps.refl _ _).drew).pk (HQ.out.same (Keeps.refl _ _).drew) kp3)
            clear hp3 kp3 HA HQ HLQ z0 z1 zl
            go_wp2_with fail
            exact ⟨⟨q + 1, by omega, by go_num, HQ3, HL3⟩, by simp [intOf]; omega⟩
          · have hlq' : ¬ (q : Int) < (ms : Int) := by omega
            obtain rfl : q = ms := by omega
            have hbg : (k.acks q).C.begun = d.s.M.K.cy + 1 := by rw [acks_C]; exact HW.out.begun
            have HST := hid (pair_nostep HQ.out hokq (by have := HMN.out.2.2; omega))
            have HW2 := hid HW.out.next
            have HRD := hid (show ((k.acks q).stepR false).c = k.round0 from by unfold Col.round0; rw [HKM2.out])
            rw [HRD.out] at HST
            clear hbg hokq
            go_wp2_with fail
            refine HST.out.mono ?_
            rintro e w9 ⟨rfl, hp9, k9⟩
            have HP9 := hid hp9; have HL9 := hid (HLQ.out.pk HQ.out k9)
            clear hp9 k9 HST HQ HLQ z0 z1 zl
            go_wp2_with fail
            exact ⟨⟨t + 1, _, by omega, by go_num, HW2, HP9, HL9⟩, by simp [intOf]; omega⟩
      have hlt' : ¬ (t : Int) < 3 * (n : Int) + 5 := by omega
      obtain ⟨dn1, dn2⟩ := HW.out.done HDO.out (by have := HMN.out.2.1; omega)
      rw [HHH.out] at dn1 dn2
      obtain ⟨x0, x1, xl⟩ := pair_cells HP.out
      obtain ⟨fx, fn, f2, hrf, f3⟩ := HP.out.found
      obtain ⟨ph, hpp⟩ : ∃ ph, k.s.M.K.ph = ph := ⟨_, rfl⟩
      have hcp := cyphase HP.out.q
      rw [hpp] at hcp dn1 dn2
      have HCP := hid hcp
      have hed := ends26 (fun k f => Fw d k f) (fun _ _ h1 h2 => h2.step h1 true) (fun _ _ j h1 h2 => h2.ack h1 j) HP.out HW.out.ok (by have := HW.out.begun; have := HMN.out.2.2; omega) (by simp) HW.out.w
      have HEN := hid hed
      have HHT := hid (show H ≠ [] → ∀ r ∈ H, ckV k.s.A.H.T r.s r.g = 0 from fun hn r hr => by
        rw [(dn2 hn).2]
        rw [← HHH.out] at hr
        exact ((lost_iff HDO.out.safe.nd).1 (List.mem_filter.1 hr).1).1)
      have HHP := hid (fun W (hk : Keeps (fun _ => False) wq W) => aheap_ok a LA k.s.A W (HP.out.same hk).q.tr.both.ar)
      have hz0 : H.length = 0 → ph = 0 := fun h => dn1 (List.eq_nil_of_length_eq_zero h)
      have hz4 : H.length ≠ 0 → ph = 4 := fun h => (dn2 (fun e => h (by rw [e]; rfl))).1
      have HNZ := hid (show ∀ r ∈ H, H ≠ [] from fun r hr e => by rw [e] at hr; cases hr)
      have HF3 := hid f3
      clear hcp hed dn1 dn2 hpp hrf hkm f3
      go_upto_region 25 with (fail)
      go_cut [133] (fun s133 wx => s133 = .bool false ∧ wx = wq)
      case first =>
        by_cases hh : H.length = 0
        · obtain rfl := hz0 hh
          have hh1 : ¬ (0 : Int) < (H.length : Int) := by omega
          have hh2 : ((H.length : Int) == 0) = true := beq_iff_eq.2 (by omega)
          clear hh hz0 hz4
          go_wp2_with fail
          refine (HCP.out).mono ?_
          rintro e w' ⟨rfl, h'⟩
          obtain rfl := h'.symm
          go_wp2_with fail
          go_meet
          exact ⟨rfl, rfl⟩
        · obtain rfl := hz4 hh
          have hh1 : (0 : Int) < (H.length : Int) := by omega
          have hh2 : ((H.length : Int) == 0) = false := beq_eq_false_iff_ne.2 (by omega)
          clear hh hz0 hz4
          go_wp2_with fail
          refine (HCP.out).mono ?_
          rintro e w' ⟨rfl, h'⟩
          obtain rfl := h'.symm
          go_wp2_with fail
          go_meet
          exact ⟨rfl, rfl⟩
      case rest =>
      obtain ⟨rfl, hwc⟩ := hcut
      rw [hwc]
      clear hwc hz0 hz4 HCP f2
      go_wp2_with fail
      clear x0 x1
      go_loopw [20] (fun ix wr => ∃ j : Nat, j ≤ H.length ∧ ix = .int .i64 j ∧ Hid (Keeps (fun _ => False) wq wr)) (fun ix _ => H.length - (intOf ix).toNat)
      case atStart => exact ⟨0, Nat.zero_le _, rfl, hid (Keeps.refl _ _)⟩
      case round =>
        obtain ⟨j, hj, rfl, HKQ⟩ := hrel
        have hj0 : (0 : Int) ≤ j := by omega
        obtain ⟨wy, hwy⟩ : ∃ wy, wr = wy := ⟨_, rfl⟩
        rw [hwy] at HKQ ⊢
        clear hwy
        by_cases hlj : j < H.length
        · have hlj' : (j : Int) < (H.length : Int) := by omega
          obtain ⟨r, hr⟩ : ∃ r, H[j]? = some r := ⟨_, List.getElem?_eq_getElem hlj⟩
          obtain ⟨g, rfl, d0, d1⟩ := (HL.out.refs.keeps HKQ.out (fun _ _ h => h)).cellk hr
          have hck := HHT.out (HNZ.out r (List.mem_of_getElem? hr)) r (List.mem_of_getElem? hr)
          have HSS := hid (fun W (hk : Keeps (fun _ => False) wq W) => (show W.cell? ⟨p, 0, none⟩ = some (.pointer (some ⟨a, 0, none⟩)) ∧ W.cell? ⟨g, j * 2, none⟩ = some (.int .i64 r.s) ∧ W.cell? ⟨g, j * 2 + 1, none⟩ = some (.int .u32 r.g) from by
            obtain ⟨g1, hg1, b0, b1⟩ := (HL.out.refs.keeps hk (fun _ _ h => h)).cellk hr
            injection hg1 with hg1; injection hg1 with hg1
            subst hg1
            exact ⟨(pair_cells (HP.out.same hk)).1, b0, b1⟩))
          have HHS := hid (fun W b t (hh : HpAt W b t k.s.A.H) => hhas_any b t k.s.A.H r.s r.g W hh)
          rw [hck] at HHS
          clear hr hck d0 d1
          go_upto_region 30 with (fail)
          go_region_held3 (fun W => W.cell? ⟨p, 0, none⟩ = some (.pointer (some ⟨a, 0, none⟩)) ∧ W.cell? ⟨g, j * 2, none⟩ = some (.int .i64 r.s) ∧ W.cell? ⟨g, j * 2 + 1, none⟩ = some (.int .u32 r.g))
            ((refine HSS.out _ ?_; (repeat (first | with_reducible exact HKQ.out | with_reducible refine Keeps.drewN ?_ _ | with_reducible refine Keeps.drew ?_ | with_reducible refine Keeps.trans ?_ (by with_reducible assumption)))))
            (first
              | (go_at_call 15; refine (HHP.out _ (by (repeat (first | with_reducible exact HKQ.out | with_reducible refine Keeps.drewN ?_ _ | with_reducible refine Keeps.drew ?_ | with_reducible refine Keeps.trans ?_ (by with_reducible assumption))))).mono ?_; rintro e w22 ⟨b', t', rfl, k22, _, _, hh⟩)
              | (go_at_call 47; refine (HHS.out _ b' t' (hh.keeps (S := fun _ => False) (by (repeat (first | with_reducible exact Keeps.refl _ _ | with_reducible refine Keeps.drewN ?_ _ | with_reducible refine Keeps.drew ?_))) (fun h => h) (fun h => h))).mono ?_; rintro e w23 ⟨rfl, k23⟩))
          all_goals
            have HKC := hid (show Keeps (fun _ => False) wq w23 from (by repeat (first | with_reducible exact HKQ.out | with_reducible refine Keeps.drewN ?_ _ | with_reducible refine Keeps.drew ?_ | with_reducible refine Keeps.trans ?_ (by with_reducible assumption))))
            clear k22 k23 hh
            go_wp2_with fail
            exact ⟨⟨j + 1, by omega, by go_num, HKC⟩, by simp [intOf]; omega⟩
        have hlj' : ¬ (j : Int) < (H.length : Int) := by omega
        have HPZ := hid (HP.out.same HKQ.out)
        have HLZ := hid (HL.out.same HP.out HKQ.out)
        have HEZ := hid (ends26 (fun k f => Fw d k f) (fun _ _ h1 h2 => h2.step h1 true) (fun _ _ j h1 h2 => h2.ack h1 j) HPZ.out HW.out.ok (by have := HW.out.begun; have := HMN.out.2.2; omega) (by simp) HW.out.w)
        clear HHT HHP HNZ HF3 HEN HP HL
        go_wp2_with fail
        clear hlj'
        refine HEZ.out.mono ?_
        rintro e w8 ⟨d2, g2, j2, rfl, hph2, has2, hj2, he2⟩
        have hg2 := he2.inv.eq HDO.out hph2
        rw [HHH.out] at hg2
        have HP8 := hid he2.pr; have HL8 := hid (HLZ.out.pk HPZ.out he2.kp)
        rw [hg2] at HP8
        obtain ⟨fx, fn, f2, hrf, f3⟩ := HP8.out.found
        obtain ⟨x0, x1, xl⟩ := pair_cells HP8.out
        have HRF := hid hrf; have F2 := hid f2; have F3 := hid f3
        clear he2 hph2 has2 hj2 hg2 hrf HPZ HLZ HEZ f3
        go_wp2_with fail
        clear f2 x0 x1
        go_loopw [21] (fun ix wr => ∃ i : Nat, i ≤ H.length ∧ ix = .int .i64 i ∧ Hid (Keeps (fun _ => False) w8 wr)) (fun ix _ => H.length - (intOf ix).toNat)
        case atStart => exact ⟨0, Nat.zero_le _, rfl, hid (Keeps.refl _ _)⟩
        case round =>
          obtain ⟨i, hi, rfl, HKQ⟩ := hrel
          have hi0 : (0 : Int) ≤ i := by omega
          obtain ⟨wy, hwy⟩ : ∃ wy, wr = wy := ⟨_, rfl⟩
          rw [hwy] at HKQ ⊢
          clear hwy
          by_cases hli : i < H.length
          · have hli' : (i : Int) < (H.length : Int) := by omega
            obtain ⟨r, hr⟩ : ∃ r, H[i]? = some r := ⟨_, List.getElem?_eq_getElem hli⟩
            obtain ⟨g, rfl, d0, d1⟩ := (HL8.out.refs.keeps HKQ.out (fun _ _ h => h)).cellk hr
            obtain ⟨gf, rfl, e0, e1⟩ := (HRF.out.keeps HKQ.out (fun _ _ h => h)).cellk hr
            have f2' := cell_keep F2.out xl HKQ.out
            have HSS := hid (fun W (hk : Keeps (fun _ => False) w8 W) => (show W.cell? ⟨p, 2, none⟩ = some (.slice (some ⟨gf, 0, none⟩) H.length fn) ∧ W.cell? ⟨gf, i * 2, none⟩ = some (.int .i64 r.s) ∧ W.cell? ⟨gf, i * 2 + 1, none⟩ = some (.int .u32 r.g) ∧ W.cell? ⟨g, i * 2, none⟩ = some (.int .i64 r.s) ∧ W.cell? ⟨g, i * 2 + 1, none⟩ = some (.int .u32 r.g) from by
              obtain ⟨g1, hg1, b0, b1⟩ := (HL8.out.refs.keeps hk (fun _ _ h => h)).cellk hr
              injection hg1 with hg1; injection hg1 with hg1
              obtain ⟨g3, hg3, b2, b3⟩ := (HRF.out.keeps hk (fun _ _ h => h)).cellk hr
              injection hg3 with hg3; injection hg3 with hg3
              subst hg1; subst hg3
              exact ⟨cell_keep F2.out xl hk, b2, b3, b0, b1⟩))
            have hneq := fun W => neq_ref W r.s r.g r.s r.g
            simp only [beq_self_eq_true, Bool.and_self, Bool.not_true] at hneq
            clear hr d0 d1 e0 e1 f2'
            go_upto_region 37 with (fail)
            go_region_held3 (fun W => W.cell? ⟨p, 2, none⟩ = some (.slice (some ⟨gf, 0, none⟩) H.length fn) ∧ W.cell? ⟨gf, i * 2, none⟩ = some (.int .i64 r.s) ∧ W.cell? ⟨gf, i * 2 + 1, none⟩ = some (.int .u32 r.g) ∧ W.cell? ⟨g, i * 2, none⟩ = some (.int .i64 r.s) ∧ W.cell? ⟨g, i * 2 + 1, none⟩ = some (.int .u32 r.g))
              ((refine HSS.out _ ?_; (repeat (first | with_reducible exact HKQ.out | with_reducible refine Keeps.drewN ?_ _ | with_reducible refine Keeps.drew ?_))))
              (fail)
            all_goals
              have HKC := hid (show Keeps (fun _ => False) w8 _ from HKQ.out.drew)
              go_wp2_with fail
              exact ⟨⟨i + 1, by omega, by go_num, HKC⟩, by simp [intOf]; omega⟩
          have hli' : ¬ (i : Int) < (H.length : Int) := by omega
          have f3' := cell_keep F3.out xl HKQ.out
          obtain ⟨x0, x1, xl'⟩ := pair_cells (HP8.out.same HKQ.out)
          have HKF := hid ((HK0.out.trans HP8.out.kp).trans HKQ.out)
          go_wp2_with fail
          refine (works26 _).mono ?_
          rintro e w9 ⟨rfl, k9⟩
          go_wp2_with fail
          go_ret
          exact ⟨rfl, HKF.out.trans k9⟩
set_option maxRecDepth 100000 in
theorem cycleWaits_law {H : Type} {enc : TypeId × Value → H} {base : Nat} {spare : Nat → Bool} {held : Bool} {r : Reach} {b0 : Nat}
    (a0 : Int) (h0 : (Lit.int .u8 a0).wf = true) (a1 : Int) (h1 : (Lit.int .u8 a1).wf = true) (a2 : Int) (h2 : (Lit.int .u8 a2).wf = true) (a3 : Int) (h3 : (Lit.int .u8 a3).wf = true)
    (v4 : Value) (d4 : DataW H) (p4 : List MemPlace) {w : World} (hv4 : Value.okWide Tryz.prog w r b0 104 v4) (h4 : DataW.Trod enc Tryz.prog w base spare held 104 v4 d4 p4)
    (w' : World) (e' : w' = w) :
    Calls Tryz.prog 12 #[.int .u8 a0, .int .u8 a1, .int .u8 a2, .int .u8 a3, v4] w' fun e w2 => e = .returned (.bool true) ∧ Keeps (fun _ => False) w' w2 := by
  subst e'
  obtain ⟨x0, rfl, g0⟩ := u8_natC h0
  obtain ⟨x1, rfl, g1⟩ := u8_natC h1
  obtain ⟨x2, rfl, g2⟩ := u8_natC h2
  obtain ⟨x3, rfl, g3⟩ := u8_natC h3
  obtain ⟨a, n, k, rfl, e1, e2, hx⟩ := open_flat_slice (ks := ks5) Tryz.underlying104 (by kernel_rfl) (by kernel_rfl) (by decide) hv4 h4
  obtain ⟨l, hl⟩ := mvrow_of e1 e2 hx
  exact cycleWaits_walk x0 x1 x2 x3 l _ w' g0 g1 g2 g3 hl
end Go.Proofs.YtehmoikbeflkaaaGreat
