/- estraylaw26.CycleFinds: the walk. -/
import Derived.Test.YtehmoikbeflkaaaGreatCfB
import Derived.Test.YtehmoikbeflkaaaGreatNgB
import Derived.Deep.CutBlock
namespace Go.Proofs.YtehmoikbeflkaaaGreat
open Go.RowKit Go.ChangeShapes Go.WideShapes Go.ChangeAt Go.Deep
set_option linter.unusedVariables false
set_option linter.unusedSimpArgs false
set_option linter.unusedSectionVars false

set_option maxRecDepth 100000 in
set_option maxHeartbeats 40000000 in
theorem cycleFinds_walk (x y z u : Nat) (l more : List Mv) (v v2 : Value) (w : World) (hx : x < 256) (hy : y < 256) (hz : z < 256) (hu : u < 256) (hm : MvRow w v l) (hmo : MvRow w v2 more) :
    Calls Tryz.prog 11 #[.int .u8 x, .int .u8 y, .int .u8 z, .int .u8 u, v, v2] w fun e w' => e = .returned (.bool true) ∧ Keeps (fun _ => False) w w' := by
  obtain ⟨am, cm, rfl, _, hmc2, hmr⟩ := hm
  obtain ⟨N, hN⟩ : ∃ N, (l).length = N := ⟨_, rfl⟩
  have HROW := hid (show ∀ (i : Nat) (z : Mv), (l)[i]? = some z → ∃ b2 o2, am = some ⟨b2, o2, none⟩ ∧ b2 < w.heap.size ∧ MvCell w b2 (o2 + i * 5) z from fun i z hz => by
    rcases hmr with rfl | ⟨b2, o2, e, hb, hc⟩
    · cases hz
    · exact ⟨b2, o2, e, hb, hc i z hz⟩)
  have HN := hid hN
  rw [hN]
  clear hmr hmc2 hN
  obtain ⟨am2, cm2, rfl, _, hmc2, hmr⟩ := hmo
  obtain ⟨N2, hN⟩ : ∃ N, (more).length = N := ⟨_, rfl⟩
  have HROW2 := hid (show ∀ (i : Nat) (z : Mv), (more)[i]? = some z → ∃ b2 o2, am2 = some ⟨b2, o2, none⟩ ∧ b2 < w.heap.size ∧ MvCell w b2 (o2 + i * 5) z from fun i z hz => by
    rcases hmr with rfl | ⟨b2, o2, e, hb, hc⟩
    · cases hz
    · exact ⟨b2, o2, e, hb, hc i z hz⟩)
  have HN2 := hid hN
  rw [hN]
  clear hmr hmc2 hN
  by_cases h60 : 60 < N
  · have h60' : (60 : Int) < (N : Int) := by omega
    go_enter Tryz.func11, Tryz.ntmps11
    go_wp2_with fail
    refine (works26 _).mono ?_
    rintro e w1 ⟨rfl, k1⟩
    go_wp2_with fail
    go_ret
    exact ⟨rfl, k1⟩
  have h60' : ¬ (60 : Int) < (N : Int) := by omega
  by_cases h61 : 60 < N2
  · have h61' : (60 : Int) < (N2 : Int) := by omega
    go_enter Tryz.func11, Tryz.ntmps11
    go_wp2_with fail
    refine (works26 _).mono ?_
    rintro e w1 ⟨rfl, k1⟩
    go_wp2_with fail
    go_ret
    exact ⟨rfl, k1⟩
  have h61' : ¬ (60 : Int) < (N2 : Int) := by omega
  have HC := hid (fun W => config26 x y z u W hx hy hz hu)
  obtain ⟨n, hn⟩ : ∃ n, 1 + x % 24 = n := ⟨_, rfl⟩
  obtain ⟨ms, hms⟩ : ∃ ms, 1 + y % 4 = ms := ⟨_, rfl⟩
  obtain ⟨st, hst⟩ : ∃ st, 1 + z % 8 = st := ⟨_, rfl⟩
  obtain ⟨bu, hbu⟩ : ∃ bu, 1 + u % 4 = bu := ⟨_, rfl⟩
  have hn1 : 1 ≤ n ∧ n ≤ 24 := by omega
  have hm1 : 1 ≤ ms ∧ ms ≤ 4 := by omega
  rw [hn, hms, hst, hbu] at HC
  have HB := hid (fun W => begin26 n ms st bu (fun _ => 0) W (by omega) (by omega) (by omega) (by omega) (by omega) (by omega) (by omega) (by omega))
  have hok := Col.new_ok (n := n) (k := ms) (s := st) (p := bu) (by omega) (by omega) (by omega) (by omega)
  have hk1 : (Col.new n ms st bu).s.M.K.many = ms := rfl
  have hk2 : (Col.new n ms st bu).s.M.P.n = n := rfl
  have hk3 : (Col.new n ms st bu).C.begun = 0 := rfl
  have hsn := Sane.new n ms st bu
  obtain ⟨K0, hK0⟩ : ∃ K0, Col.new n ms st bu = K0 := ⟨_, rfl⟩
  rw [hK0] at HB hok hk1 hk2 hk3 hsn
  have HOK := hid hok; have HKM := hid hk1; have HKN := hid hk2; have HBG := hid hk3; have HSN := hid hsn
  clear hok hk1 hk2 hk3 hK0 hn hms hst hbu hx hy hz hu hsn
  have hn2 : (n : Int) ≤ 24 := by omega
  have hn0 : (1 : Int) ≤ n := by omega
  have hm2 : (ms : Int) ≤ 4 := by omega
  have hm0 : (1 : Int) ≤ ms := by omega
  go_enter Tryz.func11, Tryz.ntmps11
  go_wp2_with fail
  refine (HC.out _).mono ?_
  rintro e w1 ⟨rfl, k1⟩
  have HK1 := hid k1
  clear k1
  go_wp2_with fail
  refine (HB.out _).mono ?_
  rintro e w2 ⟨p, rfl, w0, a, m, b, c, LA, LM, k0, hp⟩
  have HK0 := hid (HK1.out.trans k0)
  have HP0 := hid (show Pair w0 w2 p a m b c LA LM (K0.tn l 0).1 (K0.tn l 0).2 from hp)
  clear k0 hp HK1
  go_wp2_with fail
  go_loopw [15] (fun ix wr => ∃ i : Nat, i ≤ N ∧ ix = .int .i64 i ∧ Hid (Pair w0 wr p a m b c LA LM (K0.tn l i).1 (K0.tn l i).2)) (fun ix _ => N - (intOf ix).toNat)
  case atStart => exact ⟨0, Nat.zero_le _, rfl, HP0⟩
  case round =>
    obtain ⟨i, hi, rfl, HP⟩ := hrel
    by_cases hlt : i < N
    · obtain ⟨z, hz⟩ : ∃ z, l[i]? = some z := ⟨_, List.getElem?_eq_getElem (by have := HN.out; omega)⟩
      obtain ⟨b2, o2, rfl, hb2, hzc⟩ := HROW.out i z hz
      have hkw := HK0.out.trans HP.out.kp
      have hbl := Nat.lt_of_lt_of_le hb2 hkw.size
      obtain ⟨hzb, g0, g1, g2, g3, g4⟩ := hzc.same (hkw.block b2 hb2 (fun h => h))
      have hlt' : (i : Int) < (N : Int) := by omega
      have hi0 : (0 : Int) ≤ i := by omega
      have HPL := hid (pplay HP.out HOK.out hz hzb (by have := HBG.out; omega) (by omega))
      clear hkw hzc hb2 hz hzb
      go_wp2_with fail
      refine HPL.out.mono ?_
      rintro e w3 ⟨rfl, hp3, _⟩
      have HP3 := hid hp3
      clear hp3
      go_wp2_with fail
      exact ⟨⟨i + 1, by omega, by go_num, HP3⟩, by simp [intOf]; omega⟩
    obtain rfl : i = N := by omega
    have hlt' : ¬ (i : Int) < (i : Int) := by omega
    obtain ⟨t1, t2, t3, t4⟩ := Col.tn_ok HOK.out l i (by have := HN.out; omega)
    rw [HBG.out] at t3
    have hsn := HSN.out.tn HOK.out l i (by have := HN.out; omega)
    have HEN := hid (ends26 Sane (fun _ _ h1 h2 => h2.step h1 true) (fun _ _ j h1 h2 => h2.ack h1 j) HP.out t1 (by omega) (by omega) hsn)
    obtain ⟨K1, hK1⟩ : ∃ K1, (K0.tn l i).1 = K1 := ⟨_, rfl⟩
    obtain ⟨F1, hF1⟩ : ∃ F1, (K0.tn l i).2 = F1 := ⟨_, rfl⟩
    rw [hK1, hF1] at HEN
    rw [hK1] at t1 t2 t3
    rw [hF1] at t4
    have HT2 := hid (t2.1.trans HKM.out); have HT3 := hid t3; have HT4 := hid t4; have HT5 := hid (t2.2.1.trans HKN.out)
    clear hK1 hF1 t1 t2 t3 t4 hlt HP HP0 HC HB HROW HN hsn
    go_wp2_with fail
    clear hlt'
    refine HEN.out.mono ?_
    rintro e w3 ⟨d, g, j, rfl, hph, has, hj, he⟩
    have hdb : d.C.begun ≤ 640 + 8000 := by have := he.bg; have := HT3.out; omega
    obtain ⟨vf, hvf, _⟩ := he.pr.ex
    have ff2 := frozen_block hvf 2; have x2 := cell_at (i := 2) hvf rfl
    obtain ⟨x0, x1, xl⟩ := pair_cells he.pr
    obtain ⟨w4, hw4⟩ : ∃ w4, w3.setCell ⟨p, 2, none⟩ (.slice none 0 0) = w4 := ⟨_, rfl⟩
    have hp4 := pair_nil he.pr
    have c4 : w4.cell? ⟨p, 2, none⟩ = some (.slice none 0 0) := by rw [← hw4]; exact cell_at ((set_block hvf 2 _).trans rfl) rfl
    have l4 : p < w4.heap.size := by rw [← hw4]; simpa using xl
    rw [hw4] at hp4
    have HP4 := hid hp4; have HW4 := hid hw4
    have HDO := hid he.ok; have HDP := hid hph
    have HF0 := hid (Ff.begin he.ok he.inv.cl hph)
    obtain ⟨E, hE⟩ : ∃ E, d.s.M.K.cy = E := ⟨_, rfl⟩
    have hbE : d.C.begun = E := by have h := he.ok.bg; rw [if_pos hph, hE] at h; omega
    have hE2 : E ≤ 8640 := by omega
    obtain ⟨b1, b2, b3⟩ := Col.begin_ok he.ok hph
    have HB1 := hid b1
    obtain ⟨d1, hd1⟩ : ∃ d1, d.begin = d1 := ⟨_, rfl⟩
    rw [hE, hd1] at HF0
    rw [hd1] at HB1
    have HPL := hid (plost HP4.out he.ok)
    obtain ⟨L, hL⟩ : ∃ L, d.s.lostS = L := ⟨_, rfl⟩
    obtain ⟨G, hG⟩ : ∃ G, d.s.A.H.T.gn = G := ⟨_, rfl⟩
    obtain ⟨D, hD⟩ : ∃ D : Nat → Bool, (fun j => (d.s.A.H.ob j).h) = D := ⟨_, rfl⟩
    have hhm : ∀ r ∈ d.s.A.handles, ∃ i : Nat, r = ⟨i, G i⟩ ∧ L i ∧ D i = true := fun r hr => by
      obtain ⟨i, h1, h2, h3⟩ := handles_mem he.ok.safe.nd hr
      exact ⟨i, by rw [← hG]; exact h1, by rw [← hL]; exact h2, by rw [← hD]; exact h3⟩
    have HHM := hid hhm
    rw [hL, hG, hD] at HF0
    have hhl : d.s.A.handles.length ≤ 256 := Nat.le_trans (List.length_filter_le _ _) (Nat.le_trans (lost_len _) he.ok.s.a.n2)
    obtain ⟨H, hH⟩ : ∃ H, d.s.A.handles = H := ⟨_, rfl⟩
    rw [hH] at HPL HHM hhl
    have HAS := hid (fun W (h : Pair w0 W p a m b c LA LM d []) => pair_ask' h (by omega))
    rw [Col.ask_idle hph, hd1] at HAS
    have HB0 := hid (fun W (h : Pair w0 W p a m b c LA LM d []) => cybegun h.q)
    rw [hbE] at HB0
    have HBN := hid (fun W (h : Pair w0 W p a m b c LA LM d1 []) => (show Calls Tryz.prog 72 #[.pointer (some ⟨c, 0, none⟩)] W (fun e w' => e = .returned (.int .i64 ((E : Int) + 1)) ∧ w' = W) from by
      have h1 := cybegun h.q
      rw [show d1.C.begun = E + 1 by rw [← hd1]; show d.C.begun + 1 = E + 1; omega, Int.natCast_add] at h1
      exact h1))
    have HD1 := hid hd1
    have hE3 : (E : Int) ≤ 8640 := by omega
    have hE4 : (0 : Int) ≤ E := by omega
    have C4 := hid c4
    clear c4 hhm hL hG hD hp4 hw4 he hph has hE hbE b1 b2 b3 hd1 hH hvf hdb hj HEN HT2 HT3 HT4 HT5
    go_wp2_with fail
    rw [HW4.out]
    clear x0 x1 xl ff2 x2
    refine HPL.out.mono ?_
    rintro e w5 ⟨vl, rfl, hrl, k5⟩
    obtain ⟨pl, cl, rfl⟩ := hrl.refs.slice
    have HP5 := hid (HP4.out.same k5)
    have HL5 := hid (show Lst w5 p (.slice pl H.length cl) H from ⟨hrl.refs, fun y u hy hu => by
      obtain rfl := Option.some.inj (hu.symm.trans ((World.cell?_of_block (w := w4) (w' := w5) (a := ⟨p, 2, none⟩) (k5.block p l4 (fun h => h))).trans C4.out))
      intro h; cases h⟩)
    clear hrl k5 HP4 HPL HW4 C4 l4
    obtain ⟨x0, x1, xl⟩ := pair_cells HP5.out
    go_wp2_with fail
    refine ((HB0.out _ HP5.out)).mono ?_
    rintro e w' ⟨rfl, h'⟩
    obtain rfl := h'.symm
    go_wp2_with fail
    refine (HAS.out _ HP5.out).mono ?_
    rintro e w6 ⟨rfl, hp6, k6⟩
    have HP6 := hid hp6; have HL6 := hid (HL5.out.pk HP5.out k6)
    clear hp6 k6 HP5 HL5 HAS HB0 x0 x1 xl
    obtain ⟨x0, x1, xl⟩ := pair_cells HP6.out
    go_wp2_with fail
    refine ((HBN.out _ HP6.out)).mono ?_
    rintro e w' ⟨rfl, h'⟩
    obtain rfl := h'.symm
    go_upto_block 2 with (fail)
    clear x0 x1 xl HBN
    go_cut [19, 20] (fun _ _ wx => ∃ (k : Col) (F : List Rf), Hid (Ff L G D E k F) ∧ Hid k.Ok ∧ F.length ≤ 480 ∧ Hid (Pair w0 wx p a m b c LA LM k F) ∧ Hid (Lst wx p (.slice pl H.length cl) H))
    case first =>
      go_wp2_with fail
      go_loopw [19, 20] (fun ix _ wr => ∃ (t : Nat) (k : Col) (F : List Rf), t ≤ N2 ∧ ix = .int .i64 t ∧ Hid (Ff L G D E k F) ∧ Hid k.Ok ∧ F.length ≤ 8 * t ∧ Hid (Pair w0 wr p a m b c LA LM k F) ∧ Hid (Lst wr p (.slice pl H.length cl) H)) (fun ix _ _ => N2 - (intOf ix).toNat)
      case atStart => exact ⟨0, d1, [], Nat.zero_le _, rfl, HF0, HB1, (by simp), HP6, HL6⟩
      case round =>
        obtain ⟨t, k, F, ht, rfl, HF, HK, hfl, HP, HL⟩ := hrel
        have ht0 : (0 : Int) ≤ t := by omega
        obtain ⟨wq, hwq⟩ : ∃ wq, wr = wq := ⟨_, rfl⟩
        rw [hwq] at HP HL ⊢
        clear hwq HP6 HL6 HF0 HB1
        by_cases hlt : t < N2
        · have hlt' : (t : Int) < (N2 : Int) := by omega
          obtain ⟨cy, hcy⟩ : ∃ cy, k.s.M.K.cy = cy := ⟨_, rfl⟩
          have hed := cyended HP.out.q
          rw [hcy] at hed
          have HED := hid hed
          obtain ⟨x0, x1, xl⟩ := pair_cells HP.out
          have hfc := HF.out.cy HK.out
          rw [hcy] at hfc
          by_cases hp : k.s.M.K.ph = 0
          · have hne : ((cy : Int) == (E : Int)) = false := by
              have := hfc.1 hp
              exact beq_eq_false_iff_ne.2 (by omega)
            clear hed hfc hp hcy
            go_wp2_with fail
            refine (HED.out).mono ?_
            rintro e w' ⟨rfl, h'⟩
            obtain rfl := h'.symm
            go_wp2_with fail
            go_meet
            exact ⟨k, F, HF, HK, by omega, HP, HL⟩
          · have hne : ((cy : Int) == (E : Int)) = true := by
              have := hfc.2 hp
              exact beq_iff_eq.2 (by omega)
            obtain ⟨x2, hx2⟩ : ∃ z, more[t]? = some z := ⟨_, List.getElem?_eq_getElem (by have := HN2.out; omega)⟩
            obtain ⟨b2, o2, rfl, hb2, hzc⟩ := HROW2.out t x2 hx2
            have hkw := HK0.out.trans HP.out.kp
            have hbl := Nat.lt_of_lt_of_le hb2 hkw.size
            obtain ⟨hzb, g0, g1, g2, g3, g4⟩ := hzc.same (hkw.block b2 hb2 (fun h => h))
            have hbg := HF.out.bg
            have HTU := hid (fun o => pturn x2.tame26 (HP.out.same ((Keeps.refl _ _).alloc o)) HK.out (tame26_byte hzb) (by omega) (by omega))
            have HOKT := hid (turn26_ok x2.tame26 HK.out F)
            have HFT := hid (HF.out.turn HK.out x2.tame26 (tame26_ok x2).1 (tame26_ok x2).2)
            have HLA := hid (fun o => HL.out.same HP.out ((Keeps.refl _ _).alloc o))
            have HPA := hid (fun o => HP.out.same ((Keeps.refl _ _).alloc o))
            obtain ⟨kd, km, ka, kb, kc⟩ := x2
            obtain ⟨q, hq⟩ : ∃ q, kd % 16 = q := ⟨_, rfl⟩
            have hq16 : q < 16 := by rw [← hq]; exact Nat.mod_lt _ (by decide)
            have hq1 : (kd : Int) % 16 = (q : Int) := by omega
            have hq2 : (kd : Int).tmod 16 = (q : Int) := by rw [Int.tmod_eq_emod_of_nonneg (by omega)]; exact hq1
            have hqw : IntKind.u8.wrap (q : Int) = (q : Int) := IntWalk.u8_in _ (by omega)
            dsimp only at g0 g1 g2 g3 g4
            clear hed hfc hp hcy hkw hzc hb2 hx2 hzb hbg
            by_cases h12 : q = 12
            · subst h12
              have htv : (Mv.mk kd km ka kb kc).tame26 = ⟨13, km, 0, kb, kc⟩ := by unfold Mv.tame26; simp [hq]
              rw [htv] at HTU HOKT HFT
              dsimp only [Mv.val] at HTU
              clear htv hq
              go_wp2_with fail
              refine (HED.out).mono ?_
              rintro e w' ⟨rfl, h'⟩
              obtain rfl := h'.symm
              go_wp2_with fail
              refine (HTU.out _).mono ?_
              rintro e w7 ⟨rfl, hp7, k7⟩
              have HP7 := hid hp7; have HL7 := hid ((HLA.out _).pk (HPA.out _) k7)
              clear hp7 k7 HTU HP HL HLA HPA HED g0 g1 g2 g3 g4 x0 x1 xl hbl
              obtain ⟨o1, o2, o3, o4⟩ := HOKT.out
              go_wp2_with fail
              exact ⟨⟨t + 1, _, _, by omega, by go_num, HFT, hid o1, by omega, HP7, HL7⟩, by simp [intOf]; omega⟩
            · by_cases h13 : 12 < q
              · have htv : (Mv.mk kd km ka kb kc).tame26 = ⟨kd, km, 0, kb, kc⟩ := by unfold Mv.tame26; simp [hq, h12, h13]
                have hi1 : ((q : Int) == 12) = false := beq_eq_false_iff_ne.2 (by omega)
                have hi2 : (12 : Int) < (q : Int) := by omega
                rw [htv] at HTU HOKT HFT
                dsimp only [Mv.val] at HTU
                clear htv hq
                go_wp2_with fail
                refine (HED.out).mono ?_
                rintro e w' ⟨rfl, h'⟩
                obtain rfl := h'.symm
                go_wp2_with fail
                refine (HTU.out _).mono ?_
                rintro e w7 ⟨rfl, hp7, k7⟩
                have HP7 := hid hp7; have HL7 := hid ((HLA.out _).pk (HPA.out _) k7)
                clear hp7 k7 HTU HP HL HLA HPA HED g0 g1 g2 g3 g4 x0 x1 xl hbl
                obtain ⟨o1, o2, o3, o4⟩ := HOKT.out
                go_wp2_with fail
                exact ⟨⟨t + 1, _, _, by omega, by go_num, HFT, hid o1, by omega, HP7, HL7⟩, by simp [intOf]; omega⟩
              · have htv : (Mv.mk kd km ka kb kc).tame26 = ⟨kd, km, ka, kb, kc⟩ := by unfold Mv.tame26; simp [hq, h12, h13]
                have hi1 : ((q : Int) == 12) = false := beq_eq_false_iff_ne.2 (by omega)
                have hi2 : ¬ (12 : Int) < (q : Int) := by omega
                rw [htv] at HTU HOKT HFT
                dsimp only [Mv.val] at HTU
                clear htv hq
                go_wp2_with fail
                refine (HED.out).mono ?_
                rintro e w' ⟨rfl, h'⟩
                obtain rfl := h'.symm
                go_wp2_with fail
                refine (HTU.out _).mono ?_
                rintro e w7 ⟨rfl, hp7, k7⟩
                have HP7 := hid hp7; have HL7 := hid ((HLA.out _).pk (HPA.out _) k7)
                clear hp7 k7 HTU HP HL HLA HPA HED g0 g1 g2 g3 g4 x0 x1 xl hbl
                obtain ⟨o1, o2, o3, o4⟩ := HOKT.out
                go_wp2_with fail
                exact ⟨⟨t + 1, _, _, by omega, by go_num, HFT, hid o1, by omega, HP7, HL7⟩, by simp [intOf]; omega⟩
        · have hlt' : ¬ (t : Int) < (N2 : Int) := by omega
          go_wp2_with fail
          go_meet
          exact ⟨k, F, HF, HK, by omega, HP, HL⟩
    case rest =>
    obtain ⟨k, F, HF, HK, hfl, HP, HL⟩ := hcut
    obtain ⟨wq, hwq⟩ : ∃ wq, wc = wq := ⟨_, rfl⟩
    rw [hwq] at HP HL ⊢
    have hbg := HF.out.bg
    have HEN := hid (ends26 (fun k f => Ff L G D E k f) (fun _ _ h1 h2 => h2.step h1 true) (fun _ _ j h1 h2 => h2.ack h1 j) HP.out HK.out (by omega) (by omega) HF.out)
    clear hwq hbg HP6 HL6 HF0 HB1 HROW2 HN2
    go_wp2_with fail
    refine HEN.out.mono ?_
    rintro e w8 ⟨d2, g2, j2, rfl, hph2, has2, hj2, he2⟩
    have HP8 := hid he2.pr; have HL8 := hid (HL.out.pk HP.out he2.kp)
    have hed := cyended he2.pr.q
    rw [(he2.inv.cy he2.ok).1 hph2, Int.natCast_add] at hed
    have HED := hid (show Calls Tryz.prog 74 #[.pointer (some ⟨c, 0, none⟩)] w8 (fun e w' => e = .returned (.int .i64 ((E : Int) + 1)) ∧ w' = w8) from hed)
    have HFO := hid (fun r (hr : r ∈ H) => (show cnt r g2 = 1 ∧ (ckV d2.s.A.H.T r.s r.g == 0) = false from by
      obtain ⟨i, rfl, h2, h3⟩ := HHM.out r hr
      exact he2.inv.found hph2 h2 h3))
    have HON := hid (fun r (hr : r ∈ g2) => he2.inv.once hph2 hr)
    have hgl : g2.length ≤ 8480 := by have := he2.ln; omega
    obtain ⟨fx, fn, f2, hrf, f3⟩ := he2.pr.found
    obtain ⟨x0, x1, xl⟩ := pair_cells he2.pr
    have HRF := hid hrf; have F2 := hid f2
    have HHP := hid (fun W (hk : Keeps (fun _ => False) w8 W) => aheap_ok a LA d2.s.A W (HP8.out.same hk).q.tr.both.ar)
    clear hed he2 hph2 has2 hj2 HP HL HEN HF HK HHM hrf
    go_wp2_with fail
    refine (HED.out).mono ?_
    rintro e w' ⟨rfl, h'⟩
    obtain rfl := h'.symm
    go_wp2_with fail
    clear f3
    go_loopw [21] (fun ix wr => ∃ k : Nat, k ≤ H.length ∧ ix = .int .i64 k ∧ Hid (Keeps (fun _ => False) w8 wr)) (fun ix _ => H.length - (intOf ix).toNat)
    case atStart => exact ⟨0, Nat.zero_le _, rfl, hid (Keeps.refl _ _)⟩
    case round =>
      obtain ⟨k, hk, rfl, HKQ⟩ := hrel
      have hk0 : (0 : Int) ≤ k := by omega
      obtain ⟨wq, hwq⟩ : ∃ wq, wr = wq := ⟨_, rfl⟩
      rw [hwq] at HKQ ⊢
      clear hwq
      by_cases hlk : k < H.length
      · have hlk' : (k : Int) < (H.length : Int) := by omega
        obtain ⟨r, hr⟩ : ∃ r, H[k]? = some r := ⟨_, List.getElem?_eq_getElem hlk⟩
        obtain ⟨g, rfl, d0, d1⟩ := (HL8.out.refs.keeps HKQ.out (fun _ _ h => h)).cellk hr
        obtain ⟨hc1, hc2⟩ := HFO.out r (List.mem_of_getElem? hr)
        have HSS := hid (fun W (hk : Keeps (fun _ => False) w8 W) => (show W.cell? ⟨p, 2, none⟩ = some (.slice fx g2.length fn) ∧ W.cell? ⟨p, 0, none⟩ = some (.pointer (some ⟨a, 0, none⟩)) ∧ W.cell? ⟨g, k * 2, none⟩ = some (.int .i64 r.s) ∧ W.cell? ⟨g, k * 2 + 1, none⟩ = some (.int .u32 r.g) from by
          obtain ⟨g1, hg1, b0, b1⟩ := (HL8.out.refs.keeps hk (fun _ _ h => h)).cellk hr
          injection hg1 with hg1; injection hg1 with hg1
          subst hg1
          exact ⟨cell_keep F2.out xl hk, (pair_cells (HP8.out.same hk)).1, b0, b1⟩))
        have HHAS := hid (fun W (hk : Keeps (fun _ => False) w8 W) => has26 _ g2 r W (HRF.out.keeps hk (fun _ _ h => h)) (by omega))
        rw [hc1] at HHAS
        have HHS := hid (fun W b t (hh : HpAt W b t d2.s.A.H) => hhas_any b t d2.s.A.H r.s r.g W hh)
        rw [hc2] at HHS
        clear hr hc1 hc2 d0 d1
        go_upto_region 31 with (fail)
        go_cut [169] (fun s169 wx => s169 = .bool false ∧ Keeps (fun _ => False) w8 wx)
        case first =>
          go_region_held3 (fun W => W.cell? ⟨p, 2, none⟩ = some (.slice fx g2.length fn) ∧ W.cell? ⟨p, 0, none⟩ = some (.pointer (some ⟨a, 0, none⟩)) ∧ W.cell? ⟨g, k * 2, none⟩ = some (.int .i64 r.s) ∧ W.cell? ⟨g, k * 2 + 1, none⟩ = some (.int .u32 r.g))
            ((refine HSS.out _ ?_; (repeat (first | with_reducible exact HKQ.out | with_reducible refine Keeps.drewN ?_ _ | with_reducible refine Keeps.drew ?_ | with_reducible refine Keeps.trans ?_ (by with_reducible assumption)))))
            (first
              | (go_at_call 75; refine (HHAS.out _ (by (repeat (first | with_reducible exact HKQ.out | with_reducible refine Keeps.drewN ?_ _ | with_reducible refine Keeps.drew ?_ | with_reducible refine Keeps.trans ?_ (by with_reducible assumption))))).mono ?_; rintro e w21 ⟨rfl, k21⟩)
              | (go_at_call 15; refine (HHP.out _ (by (repeat (first | with_reducible exact HKQ.out | with_reducible refine Keeps.drewN ?_ _ | with_reducible refine Keeps.drew ?_ | with_reducible refine Keeps.trans ?_ (by with_reducible assumption))))).mono ?_; rintro e w22 ⟨b', t', rfl, k22, _, _, hh⟩)
              | (go_at_call 47; refine (HHS.out _ b' t' (hh.keeps (S := fun _ => False) (by (repeat (first | with_reducible exact Keeps.refl _ _ | with_reducible refine Keeps.drewN ?_ _ | with_reducible refine Keeps.drew ?_))) (fun h => h) (fun h => h))).mono ?_; rintro e w23 ⟨rfl, k23⟩))
          all_goals
            go_wp2_with fail
            go_meet
            refine ⟨rfl, ?_⟩
            repeat (first | with_reducible exact HKQ.out | with_reducible refine Keeps.drewN ?_ _ | with_reducible refine Keeps.drew ?_ | with_reducible refine Keeps.trans ?_ (by with_reducible assumption))
        case rest =>
        obtain ⟨rfl, hkc⟩ := hcut
        have HKC := hid hkc
        clear hkc HSS HHAS HHS
        go_wp2_with fail
        exact ⟨⟨k + 1, by omega, by go_num, HKC⟩, by simp [intOf]; omega⟩
      have hlk' : ¬ (k : Int) < (H.length : Int) := by omega
      go_wp2_with fail
      clear hlk'
      go_loopw [22] (fun ix wr => ∃ k : Nat, k ≤ g2.length ∧ ix = .int .i64 k ∧ Hid (Keeps (fun _ => False) w8 wr)) (fun ix _ => g2.length - (intOf ix).toNat)
      case atStart => exact ⟨0, Nat.zero_le _, rfl, HKQ⟩
      case round =>
        clear HKQ
        obtain ⟨k, hk, rfl, HKQ⟩ := hrel
        have hk0 : (0 : Int) ≤ k := by omega
        obtain ⟨wq, hwq⟩ : ∃ wq, wr = wq := ⟨_, rfl⟩
        rw [hwq] at HKQ ⊢
        clear hwq
        obtain ⟨x0, x1, xl'⟩ := pair_cells (HP8.out.same HKQ.out)
        have f2' := cell_keep F2.out xl HKQ.out
        by_cases hlk : k < g2.length
        · have hlk' : (k : Int) < (g2.length : Int) := by omega
          obtain ⟨r, hr⟩ : ∃ r, g2[k]? = some r := ⟨_, List.getElem?_eq_getElem hlk⟩
          obtain ⟨g, rfl, d0, d1⟩ := (HRF.out.keeps HKQ.out (fun _ _ h => h)).cellk hr
          have hc1 := HON.out r (List.mem_of_getElem? hr)
          have HSS := hid (fun W (hk : Keeps (fun _ => False) w8 W) => (show W.cell? ⟨p, 2, none⟩ = some (.slice (some ⟨g, 0, none⟩) g2.length fn) ∧ W.cell? ⟨g, k * 2, none⟩ = some (.int .i64 r.s) ∧ W.cell? ⟨g, k * 2 + 1, none⟩ = some (.int .u32 r.g) from by
            obtain ⟨g1, hg1, b0, b1⟩ := (HRF.out.keeps hk (fun _ _ h => h)).cellk hr
            injection hg1 with hg1; injection hg1 with hg1
            subst hg1
            exact ⟨cell_keep F2.out xl hk, b0, b1⟩))
          have HHAS := hid (fun W (hk : Keeps (fun _ => False) w8 W) => has26 _ g2 r W (HRF.out.keeps hk (fun _ _ h => h)) (by omega))
          rw [hc1] at HHAS
          clear hr hc1 d0 d1
          go_wp2_with fail
          clear f2' x0 x1 xl'
          go_region_held3 (fun W => W.cell? ⟨p, 2, none⟩ = some (.slice (some ⟨g, 0, none⟩) g2.length fn) ∧ W.cell? ⟨g, k * 2, none⟩ = some (.int .i64 r.s) ∧ W.cell? ⟨g, k * 2 + 1, none⟩ = some (.int .u32 r.g))
            ((refine HSS.out _ ?_; (repeat (first | with_reducible exact HKQ.out | with_reducible refine Keeps.drewN ?_ _ | with_reducible refine Keeps.drew ?_ | with_reducible refine Keeps.trans ?_ (by with_reducible assumption)))))
            (first
              | (go_at_call 75; refine (HHAS.out _ (by (repeat (first | with_reducible exact HKQ.out | with_reducible refine Keeps.drewN ?_ _ | with_reducible refine Keeps.drew ?_)))).mono ?_; rintro e w21 ⟨rfl, k21⟩))
          all_goals
            have HKC := hid (Keeps.trans (show Keeps (fun _ => False) w8 _ from by (repeat (first | with_reducible exact HKQ.out | with_reducible refine Keeps.drewN ?_ _ | with_reducible refine Keeps.drew ?_))) k21)
            clear k21
            go_wp2_with fail
            exact ⟨⟨k + 1, by omega, by go_num, HKC⟩, by simp [intOf]; omega⟩
        have hlk' : ¬ (k : Int) < (g2.length : Int) := by omega
        have HKF := hid ((HK0.out.trans HP8.out.kp).trans HKQ.out)
        go_wp2_with fail
        refine (works26 _).mono ?_
        rintro e w9 ⟨rfl, k9⟩
        go_wp2_with fail
        go_ret
        exact ⟨rfl, HKF.out.trans k9⟩
set_option maxRecDepth 100000 in
theorem cycleFinds_law {H : Type} {enc : TypeId × Value → H} {base : Nat} {spare : Nat → Bool} {held : Bool} {r : Reach} {b0 : Nat}
    (a0 : Int) (h0 : (Lit.int .u8 a0).wf = true) (a1 : Int) (h1 : (Lit.int .u8 a1).wf = true) (a2 : Int) (h2 : (Lit.int .u8 a2).wf = true) (a3 : Int) (h3 : (Lit.int .u8 a3).wf = true)
    (v4 : Value) (d4 : DataW H) (p4 : List MemPlace) {w : World} (hv4 : Value.okWide Tryz.prog w r b0 104 v4) (h4 : DataW.Trod enc Tryz.prog w base spare held 104 v4 d4 p4)
    (v5 : Value) (d5 : DataW H) (p5 : List MemPlace) (hv5 : Value.okWide Tryz.prog w r b0 104 v5) (h5 : DataW.Trod enc Tryz.prog w base spare held 104 v5 d5 p5)
    (w' : World) (e' : w' = w) :
    Calls Tryz.prog 11 #[.int .u8 a0, .int .u8 a1, .int .u8 a2, .int .u8 a3, v4, v5] w' fun e w2 => e = .returned (.bool true) ∧ Keeps (fun _ => False) w' w2 := by
  subst e'
  obtain ⟨x0, rfl, g0⟩ := u8_natC h0
  obtain ⟨x1, rfl, g1⟩ := u8_natC h1
  obtain ⟨x2, rfl, g2⟩ := u8_natC h2
  obtain ⟨x3, rfl, g3⟩ := u8_natC h3
  obtain ⟨a, n, k, rfl, e1, e2, hx⟩ := open_flat_slice (ks := ks5) Tryz.underlying104 (by kernel_rfl) (by kernel_rfl) (by decide) hv4 h4
  obtain ⟨l, hl⟩ := mvrow_of e1 e2 hx
  obtain ⟨a', n', k', rfl, e1', e2', hx'⟩ := open_flat_slice (ks := ks5) Tryz.underlying104 (by kernel_rfl) (by kernel_rfl) (by decide) hv5 h5
  obtain ⟨m, hm⟩ := mvrow_of e1' e2' hx'
  exact cycleFinds_walk x0 x1 x2 x3 l m _ _ w' g0 g1 g2 g3 hl hm
end Go.Proofs.YtehmoikbeflkaaaGreat
