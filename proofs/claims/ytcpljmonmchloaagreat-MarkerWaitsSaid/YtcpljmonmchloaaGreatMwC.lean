/- estraylaw24.MarkerWaits: turn, and the walk. -/
import Derived.Test.YtcpljmonmchloaaGreatMwB
import Derived.Test.YtcpljmonmchloaaGreatCgA
namespace Go.Proofs.YtcpljmonmchloaaGreat
open Go.RowKit Go.ChangeShapes Go.WideShapes Go.ChangeAt Go.Deep
set_option linter.unusedVariables false
set_option linter.unusedSimpArgs false
set_option linter.unusedSectionVars false

section
variable {w0 w w' : World} {p a m : Nat} {LA : ArL} {LM : MkL} {s : Sys} {lv : Value}

set_option maxRecDepth 100000 in
set_option maxHeartbeats 2000000 in
theorem sturn_mu (x : Tv) (h : Sy w0 w p a m LA LM s lv) (hok : s.Ok) (hx : x.Byte) (hk : x.kind < 160) :
    Calls Tryz.prog 56 #[.pointer (some ⟨p, 0, none⟩), x.val] w fun e w' => e = .returned (.tuple #[]) ∧ Sy w0 w' p a m LA LM ((x.mo s).doR s) lv ∧ Keeps (foot2 LA LM s) w w' := by
  have HMU := hid (fun W (hk : Keeps (fun _ => False) w W) => mutate_ok x (h.same hk) hok hx)
  have hki : (x.kind : Int) < 160 := by omega
  obtain ⟨wA, hwA⟩ : ∃ wA, w.alloc (.cells #[.int .u8 x.kind, .int .u8 x.m, .int .u8 x.a, .int .u8 x.b] 109) = wA := ⟨_, rfl⟩
  have kA : Keeps (fun _ => False) w wA := by rw [← hwA]; exact (Keeps.refl _ _).alloc _
  have qA : wA.heap[w.heap.size]? = some (.cells #[.int .u8 x.kind, .int .u8 x.m, .int .u8 x.a, .int .u8 x.b] 109) := by rw [← hwA]; exact alloc_new
  have HKA := hid kA; have HWA := hid hwA; have HSA := hid (h.same kA)
  have hfl := h.both.footlt
  have HCF := hid (fun W (hk : Keeps (foot2 LA LM s) wA W) => And.intro (cells4 (block_keep qA hk (fun hf => by have := hfl _ hf; omega))) (cells4 (block_keep (block_keep h.own kA (fun h => h)) hk h.pfoot)))
  obtain ⟨b0, b1, b2, b3, bl⟩ := cells4 qA
  obtain ⟨x0, x1, x2, x3, xl⟩ := cells4 (h.same kA).own
  unfold Tv.val
  clear h hok hx hk hwA kA qA hfl
  go_enter Tryz.func56, Tryz.ntmps56
  go_upto_region 2 with (fail)
  rw [HWA.out]
  go_wp2_with fail
  refine (HMU.out _ HKA.out).mono ?_
  rintro e w3 ⟨rfl, hs3, hk3⟩
  have HS3 := hid hs3; have HK3 := hid (HKA.out.up.trans hk3)
  clear hs3 hk3
  go_wp2_with fail
  go_end0
  exact ⟨rfl, HS3.out, HK3.out⟩
set_option maxRecDepth 100000 in
set_option maxHeartbeats 2000000 in
theorem sturn_ack (x : Tv) (h : Sy w0 w p a m LA LM s lv) (hok : s.Ok) (hx : x.Byte) (hk1 : 160 ≤ x.kind) (hk2 : x.kind < 200) :
    Calls Tryz.prog 56 #[.pointer (some ⟨p, 0, none⟩), x.val] w fun e w' => e = .returned (.tuple #[]) ∧ Sy w0 w' p a m LA LM ⟨s.A, (s.M.ackR s.A (x.m % s.M.K.many : Nat)).M⟩ lv ∧ Keeps (foot2 LA LM s) w w' := by
  have hmany := hok.m.k1
  have hx1 := hx.2.1
  have hki1 : ¬ (x.kind : Int) < 160 := by omega
  have hki2 : (x.kind : Int) < 200 := by omega
  have hz : ¬ (s.M.K.many : Int) = 0 := by omega
  obtain ⟨mk, hmk⟩ : ∃ mk, x.m % s.M.K.many = mk := ⟨_, rfl⟩
  have hwm : IntKind.i64.wrap (x.m : Int) = (x.m : Int) := IntWalk.i64_in _ (by omega)
  have hm1 : (x.m : Int) % (s.M.K.many : Int) = (mk : Int) := by rw [← hmk]; simp
  have hm2 : (x.m : Int).tmod (s.M.K.many : Int) = (mk : Int) := by rw [Int.tmod_eq_emod_of_nonneg (by omega)]; exact hm1
  have hwk : IntKind.i64.wrap (mk : Int) = (mk : Int) := IntWalk.i64_in _ (by have := Nat.mod_lt x.m (show s.M.K.many > 0 by omega); have := hok.m.k4; omega)
  have hzn : ¬ s.M.K.many = 0 := by omega
  rw [hmk]
  have HAK := hid (fun W (hk : Keeps (fun _ => False) w W) => (h.same hk).ack hok mk)
  obtain ⟨wA, hwA⟩ : ∃ wA, w.alloc (.cells #[.int .u8 x.kind, .int .u8 x.m, .int .u8 x.a, .int .u8 x.b] 109) = wA := ⟨_, rfl⟩
  have kA : Keeps (fun _ => False) w wA := by rw [← hwA]; exact (Keeps.refl _ _).alloc _
  have qA : wA.heap[w.heap.size]? = some (.cells #[.int .u8 x.kind, .int .u8 x.m, .int .u8 x.a, .int .u8 x.b] 109) := by rw [← hwA]; exact alloc_new
  have HKA := hid kA; have HWA := hid hwA; have HSA := hid (h.same kA)
  have hfl := h.both.footlt
  have HCF := hid (fun W (hk : Keeps (foot2 LA LM s) wA W) => And.intro (cells4 (block_keep qA hk (fun hf => by have := hfl _ hf; omega))) (cells4 (block_keep (block_keep h.own kA (fun h => h)) hk h.pfoot)))
  obtain ⟨b0, b1, b2, b3, bl⟩ := cells4 qA
  obtain ⟨x0, x1, x2, x3, xl⟩ := cells4 (h.same kA).own
  unfold Tv.val
  have HPS := hid (fun W (hk : Keeps (foot2 LA LM s) wA W) => And.intro (HCF.out W hk).2.2.1 (And.intro (HCF.out W hk).2.1 (And.intro (HCF.out W hk).2.2.2.1 (HCF.out W hk).1.2.1)))
  clear h hok hx hk1 hk2 hwA kA qA hfl hmk
  go_enter Tryz.func56, Tryz.ntmps56
  go_upto_region 2 with (fail)
  rw [HWA.out]
  go_wp2_with fail
  clear b0 b1 b2 b3 bl x0 x1 x2 x3 xl
  go_region_held3 (fun W => W.cell? ⟨p, 1, none⟩ = some (.pointer (some ⟨m, 0, none⟩)) ∧ W.cell? ⟨p, 0, none⟩ = some (.pointer (some ⟨a, 0, none⟩)) ∧ W.cell? ⟨p, 2, none⟩ = some (.int .i64 s.M.K.many) ∧ W.cell? ⟨w.heap.size, 1, none⟩ = some (.int .u8 x.m))
    ((refine HPS.out _ ?_; (repeat (first | with_reducible exact Keeps.refl _ _ | with_reducible refine Keeps.drewN ?_ _ | with_reducible refine Keeps.drew ?_ | with_reducible refine Keeps.trans ?_ hk3))))
    (first | (go_at_call 61; refine (HAK.out _ HKA.out.drew).mono ?_; rintro e w3 ⟨⟨u3, v3, rfl⟩, hs3, hk3⟩))
  all_goals
    have hk4 : Keeps (foot2 LA LM s) w w3 := Keeps.trans (Keeps.up HKA.out.drew) hk3
    have HS3 := hid hs3; have HK3 := hid hk4
    clear hs3 hk3 hk4
    go_wp2_with fail
    go_end0
    exact ⟨rfl, HS3.out, HK3.out⟩
set_option maxRecDepth 100000 in
set_option maxHeartbeats 2000000 in
theorem sturn_col1 (x : Tv) (h : Sy w0 w p a m LA LM s lv) (hok : s.Ok) (hx : x.Byte) (hk : 200 ≤ x.kind) (hcy : s.M.K.cy < 4611686018427387904) (hp : s.M.K.ph = 1) :
    Calls Tryz.prog 56 #[.pointer (some ⟨p, 0, none⟩), x.val] w fun e w' => e = .returned (.tuple #[]) ∧ Sy w0 w' p a m LA LM s.step lv ∧ Keeps (foot2 LA LM s) w w' := by
  have HCO := hid (fun W (hk : Keeps (fun _ => False) w W) => scollect1 (h.same hk) hok hcy hp)
  have hki1 : ¬ (x.kind : Int) < 160 := by omega
  have hki2 : ¬ (x.kind : Int) < 200 := by omega
  obtain ⟨wA, hwA⟩ : ∃ wA, w.alloc (.cells #[.int .u8 x.kind, .int .u8 x.m, .int .u8 x.a, .int .u8 x.b] 109) = wA := ⟨_, rfl⟩
  have kA : Keeps (fun _ => False) w wA := by rw [← hwA]; exact (Keeps.refl _ _).alloc _
  have qA : wA.heap[w.heap.size]? = some (.cells #[.int .u8 x.kind, .int .u8 x.m, .int .u8 x.a, .int .u8 x.b] 109) := by rw [← hwA]; exact alloc_new
  have HKA := hid kA; have HWA := hid hwA; have HSA := hid (h.same kA)
  have hfl := h.both.footlt
  have HCF := hid (fun W (hk : Keeps (foot2 LA LM s) wA W) => And.intro (cells4 (block_keep qA hk (fun hf => by have := hfl _ hf; omega))) (cells4 (block_keep (block_keep h.own kA (fun h => h)) hk h.pfoot)))
  obtain ⟨b0, b1, b2, b3, bl⟩ := cells4 qA
  obtain ⟨x0, x1, x2, x3, xl⟩ := cells4 (h.same kA).own
  unfold Tv.val
  clear h hok hx hk hwA kA qA hfl hcy hp
  go_enter Tryz.func56, Tryz.ntmps56
  go_upto_region 2 with (fail)
  rw [HWA.out]
  go_wp2_with fail
  refine (HCO.out _ HKA.out).mono ?_
  rintro e w3 ⟨rfl, hs3, hk3⟩
  have HS3 := hid hs3; have HK3 := hid (HKA.out.up.trans hk3)
  clear hs3 hk3
  go_wp2_with fail
  go_end0
  exact ⟨rfl, HS3.out, HK3.out⟩
theorem sturn_wt (x : Tv) {q : Nat} (h : Sy w0 w p a m LA LM s lv) (hq : Wt q s) (hx : x.Byte) (hn : ¬ (160 ≤ x.kind ∧ x.kind < 200 ∧ x.m % s.M.K.many = q)) :
    Calls Tryz.prog 56 #[.pointer (some ⟨p, 0, none⟩), x.val] w fun e w' => e = .returned (.tuple #[]) ∧ ∃ t, Sy w0 w' p a m LA LM t lv ∧ Wt q t ∧ t.M.K.many = s.M.K.many := by
  by_cases h1 : x.kind < 160
  · refine (sturn_mu x h hq.ok hx h1).mono ?_
    rintro e w' ⟨rfl, hs, _⟩
    exact ⟨rfl, _, hs, hq.mo _, by rw [((x.mo s).next hq.ok).K]⟩
  by_cases h2 : x.kind < 200
  · refine (sturn_ack x h hq.ok hx (by omega) h2).mono ?_
    rintro e w' ⟨rfl, hs, _⟩
    exact ⟨rfl, _, hs, hq.ack (fun e => hn ⟨by omega, h2, e⟩), (Sys.ack_next hq.ok _).2.2.2.1⟩
  · refine (sturn_col1 x h hq.ok hx (by omega) (by rw [hq.cy]; decide) hq.ph).mono ?_
    rintro e w' ⟨rfl, hs, _⟩
    rw [hq.step] at hs
    exact ⟨rfl, _, hs, hq, rfl⟩
end

end Go.Proofs.YtcpljmonmchloaaGreat

/- estraylaw24.MarkerWaits: the walk. -/
namespace Go.Proofs.YtcpljmonmchloaaGreat
open Go.RowKit Go.ChangeShapes Go.WideShapes Go.ChangeAt Go.Deep
set_option linter.unusedVariables false
set_option linter.unusedSimpArgs false

set_option maxRecDepth 100000 in
set_option maxHeartbeats 8000000 in
theorem markerWaits_walk (x y z u sv : Nat) (l : List Tv) (v : Value) (w : World) (hx : x < 256) (hy : y < 256) (hz : z < 256) (hu : u < 256) (hsv : sv < 256) (hm : TvRow w v l) :
    Calls Tryz.prog 12 #[.agg #[.int .u8 x, .int .u8 y, .int .u8 z, .int .u8 u], v, .int .u8 sv] w fun e w' => e = .returned (.bool true) ∧ Keeps (fun _ => False) w w' := by
  obtain ⟨am, cm, rfl, _, hmc2, hmr⟩ := hm
  obtain ⟨N, hN⟩ : ∃ N, l.length = N := ⟨_, rfl⟩
  have HROW := hid (show ∀ (i : Nat) (z : Tv), l[i]? = some z → ∃ b2 o2, am = some ⟨b2, o2, none⟩ ∧ b2 < w.heap.size ∧ TvCell w b2 (o2 + i * 4) z from fun i z hz => by
    rcases hmr with rfl | ⟨b2, o2, e, hb, hc⟩
    · cases hz
    · exact ⟨b2, o2, e, hb, hc i z hz⟩)
  have HNL := hid hN
  rw [hN]
  clear hmr hmc2 hN
  by_cases h120 : 120 < N
  · have h120' : (120 : Int) < (N : Int) := by omega
    go_enter Tryz.func12, Tryz.ntmps12
    go_wp2_with fail
    refine (works24 _).mono ?_
    rintro e w1 ⟨rfl, k1⟩
    go_wp2_with fail
    go_ret
    exact ⟨rfl, ((Keeps.refl _ _).alloc _).trans k1⟩
  have h120' : ¬ (120 : Int) < (N : Int) := by omega
  have HMD := hid (fun W => smade x y z u W hx hy hz hu)
  obtain ⟨n, hn⟩ : ∃ n, 1 + x % 16 = n := ⟨_, rfl⟩
  obtain ⟨ms, hms⟩ : ∃ ms, 1 + y % 4 = ms := ⟨_, rfl⟩
  obtain ⟨st, hst⟩ : ∃ st, 1 + z % 8 = st := ⟨_, rfl⟩
  obtain ⟨bu, hbu⟩ : ∃ bu, 1 + u % 4 = bu := ⟨_, rfl⟩
  have hn1 : 1 ≤ n ∧ n ≤ 24 := by omega
  have hm1 : 1 ≤ ms ∧ ms ≤ 4 := by omega
  rw [hn, hms, hst, hbu] at HMD
  obtain ⟨q, hq⟩ : ∃ q, sv % ms = q := ⟨_, rfl⟩
  have hql : q < ms := by rw [← hq]; exact Nat.mod_lt _ (by omega)
  obtain ⟨g1, g2, g3⟩ := Wt.begin (n := n) (k := ms) (st := st) (b := bu) (q := q) (by omega) (by omega) (by omega) (by omega) hql
  have g4 : (Sys.new4 n ms st bu).M.K.many = ms := rfl
  obtain ⟨S0, hS0⟩ : ∃ S0, Sys.new4 n ms st bu = S0 := ⟨_, rfl⟩
  rw [hS0] at HMD g1 g2 g3 g4
  have HG1 := hid g1; have HG2 := hid g2; have HG3 := hid g3; have HG4 := hid g4
  have hmz : ¬ (ms : Int) = 0 := by omega
  have hwv : IntKind.i64.wrap (sv : Int) = (sv : Int) := IntWalk.i64_in _ (by omega)
  have hq1 : (sv : Int) % (ms : Int) = (q : Int) := by rw [← hq]; simp
  have hq2 : (sv : Int).tmod (ms : Int) = (q : Int) := by rw [Int.tmod_eq_emod_of_nonneg (by omega)]; exact hq1
  clear g1 g2 g3 g4 hS0 hn hms hst hbu hq hx hy hz hu
  have hm2 : (ms : Int) ≤ 4 := by omega
  have hm0 : (1 : Int) ≤ ms := by omega
  go_enter Tryz.func12, Tryz.ntmps12
  go_wp2_with fail
  refine (HMD.out _).mono ?_
  rintro e w1 ⟨p, w0, a, m, LA, LM, rfl, k0, hs⟩
  have HK0 := hid (show Keeps (fun _ => False) w w0 from ((Keeps.refl _ _).alloc _).trans k0)
  have HS1 := hid hs
  obtain ⟨x0, x1, x2, x3, xl⟩ := cells4 hs.own
  rw [HG4.out] at x2
  have HBG := hid hs.beginM
  rw [HG2.out] at HBG
  clear k0 hs HMD
  go_wp2_with fail
  refine HBG.out.mono ?_
  rintro e w2 ⟨rfl, hs2, _⟩
  have HS2 := hid hs2
  clear hs2 HBG HS1 x0 x1 x2 x3 xl hq1 hq2 hwv
  go_wp2_with fail
  go_loopw [9] (fun ix wr => ∃ (i : Nat) (s : Sys), i ≤ N ∧ ix = .int .i64 i ∧ Wt q s ∧ s.M.K.many = ms ∧ Hid (Sy w0 wr p a m LA LM s (.slice none 0 0))) (fun ix _ => N - (intOf ix).toNat)
  case atStart => exact ⟨0, _, Nat.zero_le _, rfl, HG1.out, HG3.out, HS2⟩
  case round =>
    obtain ⟨i, s, hi, rfl, hwt, hsm, HS⟩ := hrel
    have HWT := hid hwt; have HSM := hid hsm
    have hi0 : (0 : Int) ≤ i := by omega
    obtain ⟨x0, x1, x2, x3, xl⟩ := cells4 HS.out.own
    rw [hsm] at x2
    by_cases hlt : i < N
    · have hlt' : (i : Int) < (N : Int) := by omega
      obtain ⟨t, ht⟩ : ∃ t, l[i]? = some t := ⟨_, List.getElem?_eq_getElem (by have := HNL.out; omega)⟩
      obtain ⟨b2, o2, rfl, hb2, htc⟩ := HROW.out i t ht
      have hkw := HK0.out.trans HS.out.both.kp
      have hbl := Nat.lt_of_lt_of_le hb2 hkw.size
      obtain ⟨htb, c0, c1, c2, c3⟩ := htc.same (hkw.block b2 hb2 (fun h => h))
      have htb' := htb
      obtain ⟨hb0, hb1, _, _⟩ := htb'
      obtain ⟨mk, hmk⟩ : ∃ mk, t.m % ms = mk := ⟨_, rfl⟩
      have hwm : IntKind.i64.wrap (t.m : Int) = (t.m : Int) := IntWalk.i64_in _ (by omega)
      have hk1 : (t.m : Int) % (ms : Int) = (mk : Int) := by rw [← hmk]; simp
      have hk2 : (t.m : Int).tmod (ms : Int) = (mk : Int) := by rw [Int.tmod_eq_emod_of_nonneg (by omega)]; exact hk1
      obtain ⟨cs, hcs⟩ : ∃ cs, decide (160 ≤ t.kind ∧ t.kind < 200 ∧ mk = q) = cs := ⟨_, rfl⟩
      have HCS := hid hcs
      have HTB := hid htb; have HMK := hid hmk; have HKW := hid hkw
      obtain ⟨wz, hwz⟩ : ∃ wz, wr = wz := ⟨_, rfl⟩
      rw [hwz] at HS x0 x1 x2 x3 xl hbl c0 c1 c2 c3 hkw ⊢
      clear hkw htc htb ht hcs hwz hwt hsm
      go_upto_region 12 with (fail)
      go_cut [66] (fun s66 wx => s66 = .bool cs ∧ ∃ nq, wx = wz.drewN nq)
      case first =>
        by_cases h1 : 160 ≤ t.kind
        · have h1' : (160 : Int) ≤ (t.kind : Int) := by omega
          by_cases h2 : t.kind < 200
          · have h2' : (t.kind : Int) < 200 := by omega
            by_cases h3 : mk = q
            · have h3' : ((mk : Int) == (q : Int)) = true := by rw [h3]; simp
              have hc : cs = true := by rw [← HCS.out]; simp [h1, h2, h3]
              subst hc
              clear h1 h2 h3
              go_quiet (fail)
              go_wp2_with fail
              go_meet
              exact ⟨rfl, _, rfl⟩
            · have h3' : ((mk : Int) == (q : Int)) = false := by simp; omega
              have hc : cs = false := by rw [← HCS.out]; simp [h3]
              subst hc
              clear h1 h2 h3
              go_quiet (fail)
              go_wp2_with fail
              go_meet
              exact ⟨rfl, _, rfl⟩
          · have h2' : ¬ (t.kind : Int) < 200 := by omega
            have hc : cs = false := by rw [← HCS.out]; simp [h2]
            subst hc
            clear h1 h2
            go_quiet (fail)
            go_wp2_with fail
            go_meet
            exact ⟨rfl, _, rfl⟩
        · have h1' : ¬ (160 : Int) ≤ (t.kind : Int) := by omega
          have hc : cs = false := by rw [← HCS.out]; simp [h1]
          subst hc
          clear h1
          go_quiet (fail)
          go_wp2_with fail
          go_meet
          exact ⟨rfl, _, rfl⟩
      case rest =>
      obtain ⟨rfl, nq, hwx⟩ := hcut
      have kx : Keeps (fun _ => False) wz wc := by rw [hwx]; exact (Keeps.refl _ _).drewN _
      have HSX := hid (HS.out.same kx)
      obtain ⟨wv, hwv⟩ : ∃ wv, wc = wv := ⟨_, rfl⟩
      have hbl2 := Nat.lt_of_lt_of_le hbl kx.size
      have d0 := cell_keep24 c0 hbl kx; have d1 := cell_keep24 c1 hbl kx; have d2 := cell_keep24 c2 hbl kx; have d3 := cell_keep24 c3 hbl kx
      rw [hwv] at HSX hbl2 d0 d1 d2 d3 ⊢
      clear hwv hwx kx x0 x1 x2 x3 xl c0 c1 c2 c3 hbl HS
      cases cs
      · have hnc := of_decide_eq_false HCS.out
        have HTU := hid (sturn_wt t HSX.out HWT.out HTB.out (by rw [HSM.out, HMK.out]; exact hnc))
        clear hnc
        go_wp2_with fail
        refine HTU.out.mono ?_
        rintro e w5 ⟨rfl, s5, hs5, hw5, hm5⟩
        have HS5 := hid hs5; have HW5 := hid hw5; have HM5 := hid (hm5.trans HSM.out)
        have HPH := hid (show Calls Tryz.prog 59 #[.pointer (some ⟨m, 0, none⟩)] w5 (fun e w' => e = .returned (.int .i64 1) ∧ w' = w5) from by
          have h := mphase m LM s5.M w5 hs5.both.mm; rw [hw5.ph] at h; exact h)
        have HEN := hid (show Calls Tryz.prog 55 #[.pointer (some ⟨m, 0, none⟩)] w5 (fun e w' => e = .returned (.bool false) ∧ w' = w5) from by
          have h := mended m LM s5.M w5 hs5.both.mm; rw [hw5.ph] at h; exact h)
        have HCY := hid (show Calls Tryz.prog 60 #[.pointer (some ⟨m, 0, none⟩)] w5 (fun e w' => e = .returned (.int .i64 0) ∧ w' = w5) from by
          have h := mcycles m LM s5.M w5 hs5.both.mm; rw [hw5.cy] at h; exact h)
        obtain ⟨x0, x1, x2, x3, xl⟩ := cells4 hs5.own
        clear hs5 hw5 hm5
        go_wp2_with fail
        refine (HPH.out).mono ?_
        rintro e w' ⟨rfl, h'⟩
        obtain rfl := h'.symm
        go_wp2_with fail
        refine (HEN.out).mono ?_
        rintro e w' ⟨rfl, h'⟩
        obtain rfl := h'.symm
        go_wp2_with fail
        refine (HCY.out).mono ?_
        rintro e w' ⟨rfl, h'⟩
        obtain rfl := h'.symm
        go_wp2_with fail
        refine ⟨⟨i + 1, s5, ?_, ?_, HW5.out, HM5.out, HS5⟩, ?_⟩
        · omega
        · go_num
        · simp [intOf]; omega
      · go_wp2_with fail
        refine ⟨⟨i + 1, s, ?_, ?_, HWT.out, HSM.out, HSX⟩, ?_⟩
        · omega
        · go_num
        · simp [intOf]; omega
    · have hlt' : ¬ (i : Int) < (N : Int) := by omega
      have hpf := hwt.all
      rw [hsm] at hpf
      have HPF := hid hpf
      clear hwt hsm hpf HROW hlt
      go_wp2_with fail
      clear x0 x1 x2 x3 xl
      go_loopw [10] (fun ix wq => ∃ k : Nat, k ≤ ms ∧ ix = .int .i64 k ∧ Hid (Sy w0 wq p a m LA LM (s.acks k) (.slice none 0 0))) (fun ix _ => ms - (intOf ix).toNat)
      case atStart => exact ⟨0, Nat.zero_le _, rfl, HS⟩
      case round =>
        obtain ⟨k, hk, rfl, HQ⟩ := hrel
        have hk0 : (0 : Int) ≤ k := by omega
        obtain ⟨hokk, _, _, hcyk, hmk, _⟩ := Sys.acks_next HWT.out.ok k
        obtain ⟨x0, x1, x2, x3, xl⟩ := cells4 HQ.out.own
        rw [hmk, HSM.out] at x2
        by_cases hlk : k < ms
        · have hlk' : (k : Int) < (ms : Int) := by omega
          have HA := hid (fun W (hk : Keeps (fun _ => False) wr W) => (HQ.out.same hk).ack hokk k)
          clear hokk hcyk hmk
          go_wp2_with fail
          go_region_held3 (fun W => W.cell? ⟨p, 1, none⟩ = some (.pointer (some ⟨m, 0, none⟩)) ∧ W.cell? ⟨p, 0, none⟩ = some (.pointer (some ⟨a, 0, none⟩)))
            ((first | exact ⟨x1, x0⟩ | exact ⟨(cells4 hs3.own).2.1, (cells4 hs3.own).1⟩))
            (first | (go_at_call 61; refine (HA.out _ (Keeps.refl _ _).drew).mono ?_; rintro e w3 ⟨⟨u3, v3, rfl⟩, hs3, hk3⟩))
          have HS3 := hid (show Sy w0 w3 p a m LA LM (s.acks (k + 1)) (.slice none 0 0) from hs3)
          clear hs3 hk3 x0 x1 x2 x3 xl HA HQ
          go_wp2_with fail
          refine ⟨⟨k + 1, ?_, ?_, HS3⟩, ?_⟩
          · omega
          · go_num
          · simp [intOf]; omega
        · have hlk' : ¬ (k : Int) < (ms : Int) := by omega
          obtain rfl : k = ms := by omega
          have HST := hid (fun W (hk : Keeps (fun _ => False) wr W) => (HQ.out.same hk).stepM hokk (by rw [hcyk, HWT.out.cy]; decide))
          have HPX := hid (fun W (h : Sy w0 W p a m LA LM (s.acks k).step (.slice none 0 0)) => mphase m LM _ W h.both.mm)
          rw [HPF.out] at HPX
          clear hokk hcyk hmk
          go_wp2_with fail
          go_upto_region 20 with (fail)
          go_cut [6] (fun s6 wx => s6 = .bool true ∧ Keeps (fun _ => False) w0 wx)
          case first =>
            go_region_held3 (fun W => W.cell? ⟨p, 1, none⟩ = some (.pointer (some ⟨m, 0, none⟩)) ∧ W.cell? ⟨p, 0, none⟩ = some (.pointer (some ⟨a, 0, none⟩)))
              ((first | exact ⟨x1, x0⟩ | exact ⟨(cells4 hs3.own).2.1, (cells4 hs3.own).1⟩ | exact ⟨(cells4 (hs3.same k9).own).2.1, (cells4 (hs3.same k9).own).1⟩))
              (first
                | (go_at_call 62; refine (HST.out _ (Keeps.refl _ _).drew).mono ?_; rintro e w3 ⟨rfl, hs3, hk3⟩)
                | (go_at_call 59; refine (HPX.out _ hs3).mono ?_; rintro e w4 ⟨rfl, h4⟩; obtain rfl := h4.symm)
                | (go_at_call 53; refine (works24 _).mono ?_; rintro e w9 ⟨rfl, k9⟩))
            all_goals
              go_wp2_with fail
              go_meet
              exact ⟨rfl, (hs3.same k9).both.kp⟩
          case rest =>
          obtain ⟨rfl, hkf⟩ := hcut
          go_wp2_with fail
          go_ret
          exact ⟨rfl, HK0.out.trans hkf⟩
set_option maxRecDepth 100000 in
theorem agg_flat {H : Type} {enc : TypeId × Value → H} {P : Program} {w : World} {base : Nat} {spare : Nat → Bool} {held : Bool} {t : TypeId} {fs : Array Field} {ks : List Flat} {r : Reach} {b0 : Nat} {v : Value} {d : DataW H} {p : List MemPlace} (ht : P.underlying t = some (.struct fs)) (hfl : flat P 8 t = some ks) (hC : P.cellsOf t = ks.length)
    (hv : Value.okWide P w r b0 t v) (h : DataW.Trod enc P w base spare held t v d p) : ∃ cs, v = .agg cs ∧ cs.size = ks.length ∧ ∀ (i : Nat) (k : Flat), ks[i]? = some k → ∃ u, cs[i]? = some u ∧ k.Ok u := by
  obtain ⟨cs, rfl, hs⟩ := okWide_struct ht hv
  obtain ⟨fuel, hf⟩ := h
  refine ⟨cs, rfl, hs.trans hC, fun i k hk => ?_⟩
  obtain ⟨u, hu, hok⟩ := flat_at 8 t ks hfl _ _ _ hf i k hk
  refine ⟨u, ?_, hok⟩
  simpa [Value.cells] using hu
set_option maxRecDepth 100000 in
theorem agg4_of {H : Type} {enc : TypeId × Value → H} {w : World} {base : Nat} {spare : Nat → Bool} {held : Bool} {t : TypeId} {fs : Array Field} {r : Reach} {b0 : Nat} {v : Value} {d : DataW H} {p : List MemPlace} (ht : Tryz.prog.underlying t = some (.struct fs)) (hfl : flat Tryz.prog 8 t = some ks4) (hC : Tryz.prog.cellsOf t = 4)
    (hv : Value.okWide Tryz.prog w r b0 t v) (h : DataW.Trod enc Tryz.prog w base spare held t v d p) : ∃ x y z u : Nat, v = .agg #[.int .u8 x, .int .u8 y, .int .u8 z, .int .u8 u] ∧ x < 256 ∧ y < 256 ∧ z < 256 ∧ u < 256 := by
  obtain ⟨cs, rfl, hs, hc⟩ := agg_flat ht hfl hC hv h
  obtain ⟨u0, h0, k0⟩ := hc 0 _ rfl
  obtain ⟨u1, h1, k1⟩ := hc 1 _ rfl
  obtain ⟨u2, h2, k2⟩ := hc 2 _ rfl
  obtain ⟨u3, h3, k3⟩ := hc 3 _ rfl
  obtain ⟨n0, rfl, l0⟩ := byte_of k0
  obtain ⟨n1, rfl, l1⟩ := byte_of k1
  obtain ⟨n2, rfl, l2⟩ := byte_of k2
  obtain ⟨n3, rfl, l3⟩ := byte_of k3
  refine ⟨n0, n1, n2, n3, ?_, l0, l1, l2, l3⟩
  congr 1
  apply Array.ext_getElem?
  intro i
  match i with
  | 0 => rw [h0]; rfl
  | 1 => rw [h1]; rfl
  | 2 => rw [h2]; rfl
  | 3 => rw [h3]; rfl
  | i + 4 => rw [Array.getElem?_eq_none (by rw [hs]; simp [ks4]), Array.getElem?_eq_none (by simp)]
set_option maxRecDepth 100000 in
theorem u8_nat24 {x : Int} (h : (Lit.int .u8 x).wf = true) : ∃ k : Nat, x = k ∧ k < 256 := by
  have e1 : IntKind.u8.min = 0 := by decide
  have e2 : IntKind.u8.max = 255 := by decide
  simp [Lit.wf, e1, e2] at h
  exact ⟨x.toNat, by omega, by omega⟩
set_option maxRecDepth 100000 in
theorem markerWaits_law {H : Type} {enc : TypeId × Value → H} {base : Nat} {spare : Nat → Bool} {held : Bool} {r : Reach} {b0 : Nat}
    (v0 : Value) (d0 : DataW H) (p0 : List MemPlace) {w : World} (hv0 : Value.okWide Tryz.prog w r b0 100 v0) (h0 : DataW.Trod enc Tryz.prog w base spare held 100 v0 d0 p0)
    (v1 : Value) (d1 : DataW H) (p1 : List MemPlace) (hv1 : Value.okWide Tryz.prog w r b0 101 v1) (h1 : DataW.Trod enc Tryz.prog w base spare held 101 v1 d1 p1)
    (a2 : Int) (h2 : (Lit.int .u8 a2).wf = true) (w' : World) (e' : w' = w) :
    Calls Tryz.prog 12 #[v0, v1, .int .u8 a2] w' fun e w2 => e = .returned (.bool true) ∧ Keeps (fun _ => False) w' w2 := by
  subst e'
  obtain ⟨x, y, z, u, rfl, g0, g1, g2, g3⟩ := agg4_of Tryz.underlying100 (by kernel_rfl) (by kernel_rfl) hv0 h0
  obtain ⟨x2, rfl, g4⟩ := u8_nat24 h2
  obtain ⟨a, n, k, rfl, e1, e2, hx⟩ := open_flat_slice (ks := ks4) Tryz.underlying101 (by kernel_rfl) (by kernel_rfl) (by decide) hv1 h1
  obtain ⟨l, hl⟩ := tvrow_of e1 e2 hx
  exact markerWaits_walk x y z u x2 l _ w' g0 g1 g2 g3 g4 hl
end Go.Proofs.YtcpljmonmchloaaGreat
