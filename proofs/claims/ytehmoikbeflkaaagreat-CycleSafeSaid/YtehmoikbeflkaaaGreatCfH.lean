/- estraylaw26.CycleSafe: the walk. -/
import Derived.Test.YtehmoikbeflkaaaGreatCfL
import Derived.Test.YtehmoikbeflkaaaGreatCfF
import Derived.Test.YtehmoikbeflkaaaGreatCfG
import Derived.Test.YtehmoikbeflkaaaGreatNgB
namespace Go.Proofs.YtehmoikbeflkaaaGreat
open Go.RowKit Go.ChangeShapes Go.WideShapes Go.ChangeAt Go.Deep
set_option linter.unusedVariables false
set_option linter.unusedSimpArgs false
set_option linter.unusedSectionVars false

theorem Lsf.fresh {w0 w w' : World} {p a m b c : Nat} {LA : ArL} {LM : MkL} {k : Col} {f L : List Rf} {v : Value} (h : Pair w0 w p a m b c LA LM k f) (hk : Keeps (fun _ => False) w w') (hr : Row w' w.heap.size v L) : Lsf w' p v L := by
  refine ⟨hr.refs, fun y u hy hu => ?_⟩
  obtain ⟨u2, h1, h2⟩ := h.ex
  obtain rfl := Option.some.inj (hu.symm.trans (cell_at (block_keep h1 hk (fun h => h)) rfl))
  intro e
  have := (hr.lt _ hy).1
  have := (h2.lt _ e).2
  omega
set_option maxRecDepth 100000 in
set_option maxHeartbeats 40000000 in
theorem cycleSafe_walk (x y z u : Nat) (l : List Mv) (v : Value) (w : World) (hx : x < 256) (hy : y < 256) (hz : z < 256) (hu : u < 256) (hm : MvRow w v l) :
    Calls Tryz.prog 13 #[.int .u8 x, .int .u8 y, .int .u8 z, .int .u8 u, v] w fun e w' => e = .returned (.bool true) ∧ Keeps (fun _ => False) w w' := by
  obtain ⟨am, cm, rfl, _, hmc2, hmr⟩ := hm
  obtain ⟨N, hN⟩ : ∃ N, (l).length = N := ⟨_, rfl⟩
  have HROW := hid (show ∀ (i : Nat) (z : Mv), (l)[i]? = some z → ∃ b2 o2, am = some ⟨b2, o2, none⟩ ∧ b2 < w.heap.size ∧ MvCell w b2 (o2 + i * 5) z from fun i z hz => by
    rcases hmr with rfl | ⟨b2, o2, e, hb, hc⟩
    · cases hz
    · exact ⟨b2, o2, e, hb, hc i z hz⟩)
  have HN := hid hN
  rw [hN]
  clear hmr hmc2 hN
  by_cases h60 : 120 < N
  · have h60' : (120 : Int) < (N : Int) := by omega
    go_enter Tryz.func13, Tryz.ntmps13
    go_wp2_with fail
    refine (works26 _).mono ?_
    rintro e w1 ⟨rfl, k1⟩
    go_wp2_with fail
    go_ret
    exact ⟨rfl, k1⟩
  have h60' : ¬ (120 : Int) < (N : Int) := by omega
  have HC := hid (fun W => config26 x y z u W hx hy hz hu)
  obtain ⟨n, hn⟩ : ∃ n, 1 + x % 24 = n := ⟨_, rfl⟩
  obtain ⟨ms, hms⟩ : ∃ ms, 1 + y % 4 = ms := ⟨_, rfl⟩
  obtain ⟨st, hst⟩ : ∃ st, 1 + z % 8 = st := ⟨_, rfl⟩
  obtain ⟨bu, hbu⟩ : ∃ bu, 1 + u % 4 = bu := ⟨_, rfl⟩
  have hn1 : 1 ≤ n ∧ n ≤ 24 := by omega
  have hm1 : 1 ≤ ms ∧ ms ≤ 4 := by omega
  rw [hn, hms, hst, hbu] at HC
  have HB := hid (fun W => begin26 n ms st bu (fun _ => 0) W (by omega) (by omega) (by omega) (by omega) (by omega) (by omega) (by omega) (by omega))
  have hok := Col.new_ok (n := n) (k := ms) (s := st) (p := bu) (by omega) (by omega) (by omega) (by omega)
  have hk1 : (Col.new n ms st bu).s.M.K.many = ms := rfl
  have hk2 : (Col.new n ms st bu).s.M.P.n = n := rfl
  have hk3 : (Col.new n ms st bu).C.begun = 0 := rfl
  obtain ⟨K0, hK0⟩ : ∃ K0, Col.new n ms st bu = K0 := ⟨_, rfl⟩
  rw [hK0] at HB hok hk1 hk2 hk3
  have HOK := hid hok; have HKM := hid hk1; have HKN := hid hk2; have HBG := hid hk3
  clear hok hk1 hk2 hk3 hK0 hn hms hst hbu hx hy hz hu
  have hn2 : (n : Int) ≤ 24 := by omega
  have hn0 : (1 : Int) ≤ n := by omega
  have hm2 : (ms : Int) ≤ 4 := by omega
  have hm0 : (1 : Int) ≤ ms := by omega
  go_enter Tryz.func13, Tryz.ntmps13
  go_wp2_with fail
  refine (HC.out _).mono ?_
  rintro e w1 ⟨rfl, k1⟩
  have HK1 := hid k1
  clear k1
  go_wp2_with fail
  refine (HB.out _).mono ?_
  rintro e w2 ⟨p, rfl, w0, a, m, b, c, LA, LM, k0, hp⟩
  have HK0 := hid (HK1.out.trans k0)
  have HP0 := hid hp
  clear k0 hp HK1 HKM HKN
  go_wp2_with fail
  go_loopw [13] (fun ix wr => ∃ (i : Nat) (d : Col) (F : List Rf), i ≤ N ∧ ix = .int .i64 i ∧ d.C.begun ≤ 8 * i ∧ F.length ≤ 8 * i ∧ Hid (Pair w0 wr p a m b c LA LM d F) ∧ Hid d.Ok ∧ Hid (Fdd d F)) (fun ix _ => N - (intOf ix).toNat)
  case atStart => exact ⟨0, K0, [], Nat.zero_le _, rfl, by rw [HBG.out]; exact Nat.le_refl _, Nat.le_refl _, HP0, HOK, hid (fun r hr => by cases hr)⟩
  case round =>
    clear HP0 HC HB HOK HBG
    obtain ⟨i, d, F, hi, rfl, hbg, hfl, HP, HD, HF⟩ := hrel
    have hi0 : (0 : Int) ≤ i := by omega
    obtain ⟨wq, hwq⟩ : ∃ wq, wr = wq := ⟨_, rfl⟩
    rw [hwq] at HP ⊢
    clear hwq
    by_cases hlt : i < N
    · have hlt' : (i : Int) < (N : Int) := by omega
      have HAL := hid (all_ok a LA d.s.A wq HP.out.q.tr.both.ar HD.out.s.a)
      obtain ⟨B, hB⟩ : ∃ B, srt d.s.A.rq.keys = B := ⟨_, rfl⟩
      have hBl : B.length ≤ 256 := by rw [← hB, (srt_perm _).length_eq]; exact Nat.le_trans (rq_len _) HD.out.s.a.n2
      rw [hB] at HAL
      have HBK := hid hB
      clear hB
      obtain ⟨x0, x1, xl⟩ := pair_cells HP.out
      go_wp2_with fail
      refine HAL.out.mono ?_
      rintro e w3 ⟨vb, rfl, hrb, kb⟩
      obtain ⟨pb, cb, rfl⟩ := hrb.refs.slice
      have HP3 := hid (HP.out.same kb)
      have HL3 := hid (Lsf.fresh HP.out kb hrb)
      obtain ⟨z, hz⟩ : ∃ z, l[i]? = some z := ⟨_, List.getElem?_eq_getElem (by have := HN.out; omega)⟩
      obtain ⟨b2, o2, rfl, hb2, hzc⟩ := HROW.out i z hz
      have hkw := HK0.out.trans HP3.out.kp
      have hbl := Nat.lt_of_lt_of_le hb2 hkw.size
      obtain ⟨hzb, g0, g1, g2, g3, g4⟩ := hzc.same (hkw.block b2 hb2 (fun h => h))
      have HKD := hid (fun W (hk : Keeps (fun _ => False) w0 W) => (hzc.same ((HK0.out.trans hk).block b2 hb2 (fun h => h))).c0)
      have HBL := hid (fun W (hk : Keeps (fun _ => False) w0 W) => Nat.lt_of_lt_of_le hb2 (HK0.out.trans hk).size)
      have HPL := hid (pturn z HP3.out HD.out hzb (by omega) (by omega))
      have HT := hid (HF.out.turn HD.out z)
      have HO := hid (turn26_ok z HD.out F)
      obtain ⟨d2, hd2⟩ : ∃ d2, (z.turn26 d F).1 = d2 := ⟨_, rfl⟩
      obtain ⟨F2, hF2⟩ : ∃ F2, (z.turn26 d F).2 = F2 := ⟨_, rfl⟩
      rw [hd2, hF2] at HPL HT HO
      clear hkw hzc hb2 hz hd2 hF2 hrb kb HAL HP HF x0 x1 xl
      go_wp2_with fail
      refine HPL.out.mono ?_
      rintro e w4 ⟨rfl, hp4, k4⟩
      have HP4 := hid hp4; have HL4 := hid (HL3.out.pk HP3.out k4)
      obtain ⟨o1, _, o3, o4⟩ := HO.out
      have HO2 := hid o1; have HF2 := hid HT.out.1
      have hbg2 : d2.C.begun ≤ 8 * (i + 1) := by omega
      have hfl2 : F2.length ≤ 8 * (i + 1) := by omega
      have HCU := hid (fun (h : 9 < z.kind % 16) => (show srt d2.s.A.rq.keys = B from ((HT.out.2 h).keys HD.out.safe.nd o1.safe.nd).trans HBK.out))
      obtain ⟨fx, fn, f2, hrf, f3⟩ := HP4.out.found
      obtain ⟨x0, x1, xl⟩ := pair_cells HP4.out
      have HRF := hid hrf; have FC2 := hid f2
      clear hp4 k4 HPL HP3 HL3 HT HO o1 o3 o4 hrf hbg hfl HD HBK g0 g1 g2 g3 g4 hbl
      go_wp2_with fail
      clear f2 f3 x0 x1 hlt'
      go_loopw [16] (fun ix wr => ∃ j : Nat, j ≤ F2.length ∧ ix = .int .i64 j ∧ Hid (Keeps (fun _ => False) w4 wr)) (fun ix _ => F2.length - (intOf ix).toNat)
      case atStart => exact ⟨0, Nat.zero_le _, rfl, hid (Keeps.refl _ _)⟩
      case round =>
        obtain ⟨j, hj, rfl, HKQ⟩ := hrel
        have hj0 : (0 : Int) ≤ j := by omega
        obtain ⟨wy, hwy⟩ : ∃ wy, wr = wy := ⟨_, rfl⟩
        rw [hwy] at HKQ ⊢
        clear hwy
        have f2' := cell_keepF FC2.out xl HKQ.out
        obtain ⟨x0, x1, xl'⟩ := pair_cells (HP4.out.same HKQ.out)
        by_cases hlj : j < F2.length
        · have hlj' : (j : Int) < (F2.length : Int) := by omega
          obtain ⟨r, hr⟩ : ∃ r, F2[j]? = some r := ⟨_, List.getElem?_eq_getElem hlj⟩
          have hrm := List.mem_of_getElem? hr
          obtain ⟨g, rfl, d0, d1⟩ := (HRF.out.keeps HKQ.out (fun _ _ h => h)).cellk hr
          have hpr := preached (HP4.out.same HKQ.out) HO2.out r (HF2.out r hrm).2
          rw [decide_eq_false (HF2.out.no HO2.out hrm), Bool.false_and] at hpr
          have HPR := hid hpr
          clear hr hrm hpr
          go_wp2_with fail
          refine HPR.out.mono ?_
          rintro e w5 ⟨rfl, k5⟩
          have HK5 := hid (HKQ.out.trans k5)
          clear k5 HPR HKQ f2' x0 x1 xl' d0 d1
          go_wp2_with fail
          exact ⟨⟨j + 1, by omega, by go_num, HK5⟩, by simp [intOf]; omega⟩
        have hlj' : ¬ (j : Int) < (F2.length : Int) := by omega
        have hkd := HKD.out wy ((HP4.out.same HKQ.out).kp)
        have hbl := HBL.out wy ((HP4.out.same HKQ.out).kp)
        obtain ⟨q, hq⟩ : ∃ q, z.kind % 16 = q := ⟨_, rfl⟩
        have hq1 : (z.kind : Int) % 16 = (q : Int) := by omega
        have hq2 : (z.kind : Int).tmod 16 = (q : Int) := by rw [Int.tmod_eq_emod_of_nonneg (by omega)]; exact hq1
        have hqw : IntKind.u8.wrap (q : Int) = (q : Int) := IntWalk.u8_in _ (by omega)
        rw [hq] at HCU
        clear hq
        have HPY := hid (HP4.out.same HKQ.out)
        have HLY := hid (HL4.out.same HP4.out HKQ.out)
        by_cases h9 : 9 < q
        · have h9' : (9 : Int) < (q : Int) := by omega
          have HAL := hid (all_ok a LA d2.s.A wy HPY.out.q.tr.both.ar HO2.out.s.a)
          rw [HCU.out h9] at HAL
          clear HCU HP4 HL4 HKQ HRF FC2
          go_wp2_with fail
          clear hlj'
          refine HAL.out.mono ?_
          rintro e w6 ⟨va, rfl, hra, ka⟩
          obtain ⟨pa, ca, rfl⟩ := hra.refs.slice
          have HP6 := hid (HPY.out.same ka); have HL6 := hid (HLY.out.same HPY.out ka); have HR6 := hid hra.refs
          clear hra ka HAL HPY HLY f2' x0 x1 xl' hkd hbl
          go_wp2_with fail
          go_loopw [19] (fun ix wr => ∃ t : Nat, t ≤ B.length ∧ ix = .int .i64 t ∧ Hid (Keeps (fun _ => False) w6 wr)) (fun ix _ => B.length - (intOf ix).toNat)
          case atStart => exact ⟨0, Nat.zero_le _, rfl, hid (Keeps.refl _ _)⟩
          case round =>
            obtain ⟨t, ht, rfl, HKT⟩ := hrel
            have ht0 : (0 : Int) ≤ t := by omega
            obtain ⟨wt, hwt⟩ : ∃ wt, wr = wt := ⟨_, rfl⟩
            rw [hwt] at HKT ⊢
            clear hwt
            by_cases hlk : t < B.length
            · have hlk' : (t : Int) < (B.length : Int) := by omega
              obtain ⟨r, hr⟩ : ∃ r, B[t]? = some r := ⟨_, List.getElem?_eq_getElem hlk⟩
              obtain ⟨g, rfl, d0, d1⟩ := (HL6.out.refs.keeps HKT.out (fun _ _ h => h)).cellk hr
              obtain ⟨gf, rfl, e0, e1⟩ := (HR6.out.keeps HKT.out (fun _ _ h => h)).cellk hr
              have HSS := hid (fun W (hk : Keeps (fun _ => False) w6 W) => (show W.cell? ⟨gf, t * 2, none⟩ = some (.int .i64 r.s) ∧ W.cell? ⟨gf, t * 2 + 1, none⟩ = some (.int .u32 r.g) ∧ W.cell? ⟨g, t * 2, none⟩ = some (.int .i64 r.s) ∧ W.cell? ⟨g, t * 2 + 1, none⟩ = some (.int .u32 r.g) from by
                obtain ⟨g1, hg1, b0, b1⟩ := (HL6.out.refs.keeps hk (fun _ _ h => h)).cellk hr
                injection hg1 with hg1; injection hg1 with hg1
                obtain ⟨g3, hg3, b2, b3⟩ := (HR6.out.keeps hk (fun _ _ h => h)).cellk hr
                injection hg3 with hg3; injection hg3 with hg3
                subst hg1; subst hg3
                exact ⟨b2, b3, b0, b1⟩))
              have hneq := fun W => neq_ref W r.s r.g r.s r.g
              simp only [beq_self_eq_true, Bool.and_self, Bool.not_true] at hneq
              clear hr d0 d1 e0 e1
              go_upto_region 25 with (fail)
              go_region_held3 (fun W => W.cell? ⟨gf, t * 2, none⟩ = some (.int .i64 r.s) ∧ W.cell? ⟨gf, t * 2 + 1, none⟩ = some (.int .u32 r.g) ∧ W.cell? ⟨g, t * 2, none⟩ = some (.int .i64 r.s) ∧ W.cell? ⟨g, t * 2 + 1, none⟩ = some (.int .u32 r.g))
                ((refine HSS.out _ ?_; (repeat (first | with_reducible exact HKT.out | with_reducible refine Keeps.drewN ?_ _ | with_reducible refine Keeps.drew ?_))))
                (fail)
              all_goals
                have HKC := hid (show Keeps (fun _ => False) w6 _ from HKT.out.drew)
                go_wp2_with fail
                exact ⟨⟨t + 1, by omega, by go_num, HKC⟩, by simp [intOf]; omega⟩
            have hlk' : ¬ (t : Int) < (B.length : Int) := by omega
            have HPE := hid (HP6.out.same HKT.out)
            go_wp2_with fail
            exact ⟨⟨i + 1, d2, F2, by omega, by go_num, hbg2, hfl2, HPE, HO2, HF2⟩, by simp [intOf]; omega⟩
        · have h9' : ¬ (9 : Int) < (q : Int) := by omega
          clear HCU HP4 HL4 HKQ HRF FC2 HLY
          go_wp2_with fail
          exact ⟨⟨i + 1, d2, F2, by omega, by go_num, hbg2, hfl2, HPY, HO2, HF2⟩, by simp [intOf]; omega⟩
    · have hlt' : ¬ (i : Int) < (N : Int) := by omega
      have HKF := hid (HK0.out.trans HP.out.kp)
      go_wp2_with fail
      refine (works26 _).mono ?_
      rintro e w9 ⟨rfl, k9⟩
      go_wp2_with fail
      go_ret
      exact ⟨rfl, HKF.out.trans k9⟩
set_option maxRecDepth 100000 in
theorem cycleSafe_law {H : Type} {enc : TypeId × Value → H} {base : Nat} {spare : Nat → Bool} {held : Bool} {r : Reach} {b0 : Nat}
    (a0 : Int) (h0 : (Lit.int .u8 a0).wf = true) (a1 : Int) (h1 : (Lit.int .u8 a1).wf = true) (a2 : Int) (h2 : (Lit.int .u8 a2).wf = true) (a3 : Int) (h3 : (Lit.int .u8 a3).wf = true)
    (v4 : Value) (d4 : DataW H) (p4 : List MemPlace) {w : World} (hv4 : Value.okWide Tryz.prog w r b0 104 v4) (h4 : DataW.Trod enc Tryz.prog w base spare held 104 v4 d4 p4)
    (w' : World) (e' : w' = w) :
    Calls Tryz.prog 13 #[.int .u8 a0, .int .u8 a1, .int .u8 a2, .int .u8 a3, v4] w' fun e w2 => e = .returned (.bool true) ∧ Keeps (fun _ => False) w' w2 := by
  subst e'
  obtain ⟨x0, rfl, g0⟩ := u8_natF h0
  obtain ⟨x1, rfl, g1⟩ := u8_natF h1
  obtain ⟨x2, rfl, g2⟩ := u8_natF h2
  obtain ⟨x3, rfl, g3⟩ := u8_natF h3
  obtain ⟨a, n, k, rfl, e1, e2, hx⟩ := open_flat_slice (ks := ks5) Tryz.underlying104 (by kernel_rfl) (by kernel_rfl) (by decide) hv4 h4
  obtain ⟨l, hl⟩ := mvrow_of e1 e2 hx
  exact cycleSafe_walk x0 x1 x2 x3 l _ w' g0 g1 g2 g3 hl
end Go.Proofs.YtehmoikbeflkaaaGreat
