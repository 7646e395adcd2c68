/- estraylaw26.CycleEnds: the walk. -/
import Derived.Test.YtafcjciolekdkaaGreatCyM
import Derived.Test.YtafcjciolekdkaaGreatCgA
namespace Go.Proofs.YtafcjciolekdkaaGreat
open Go.RowKit Go.ChangeShapes Go.WideShapes Go.ChangeAt Go.Deep
set_option linter.unusedVariables false
set_option linter.unusedSimpArgs false

section
variable {w0 w w' : World} {p a m b c : Nat} {LA : ArL} {LM : MkL} {k : Col} {f : List Rf}
theorem EndAt.start (I : Col → List Rf → Prop) (h : Pair w0 w p a m b c LA LM k f) (hok : k.Ok) (hi : I k f) : EndAt w0 w w p a m b c LA LM I k f 0 k f :=
  ⟨hok, Col.Like.refl k, Nat.le_refl _, Nat.le_refl _, hi, h, h.keep0 (ft := foot3 LA LM b c k.s) (Keeps.refl _ _) (by obtain ⟨v, h1, _⟩ := h.ex; exact h.q.pairfoot h1)⟩
theorem psizes (h : Pair w0 w p a m b c LA LM k f) (hok : k.Ok) : Calls Tryz.prog 49 #[.pointer (some ⟨a, 0, none⟩)] w fun e w' => e = .returned (.tuple #[.int .i64 k.s.M.P.n, .int .i64 k.s.M.K.many]) ∧ Keeps (fun _ => False) w w' := by
  have := asizes_ok a LA k.s.A w h.q.tr.both.ar
  rw [hok.s.n, hok.s.k] at this
  exact this
end

set_option maxRecDepth 100000 in
set_option maxHeartbeats 8000000 in
theorem cycleEnds_walk (x y z u sv : Nat) (l : List Mv) (v : Value) (w : World) (hx : x < 256) (hy : y < 256) (hz : z < 256) (hu : u < 256) (hsv : sv < 256) (hm : MvRow w v l) :
    Calls Tryz.prog 6 #[.int .u8 x, .int .u8 y, .int .u8 z, .int .u8 u, v, .int .u8 sv] w fun e w' => e = .returned (.bool true) ∧ Keeps (fun _ => False) w w' := by
  obtain ⟨am, cm, rfl, _, hmc2, hmr⟩ := hm
  obtain ⟨N, hN⟩ : ∃ N, l.length = N := ⟨_, rfl⟩
  have HROW := hid (show ∀ (i : Nat) (z : Mv), l[i]? = some z → ∃ b2 o2, am = some ⟨b2, o2, none⟩ ∧ b2 < w.heap.size ∧ MvCell w b2 (o2 + i * 5) z from fun i z hz => by
    rcases hmr with rfl | ⟨b2, o2, e, hb, hc⟩
    · cases hz
    · exact ⟨b2, o2, e, hb, hc i z hz⟩)
  have HNL := hid hN
  rw [hN]
  clear hmr hmc2 hN
  by_cases h80 : 80 < N
  · have h80' : (80 : Int) < (N : Int) := by omega
    go_enter Tryz.func6, Tryz.ntmps6
    go_wp2_with fail
    refine (works26 _).mono ?_
    rintro e w1 ⟨rfl, k1⟩
    go_wp2_with fail
    go_ret
    exact ⟨rfl, k1⟩
  have h80' : ¬ (80 : Int) < (N : Int) := by omega
  have HC := hid (fun W => config26 x y z u W hx hy hz hu)
  obtain ⟨n, hn⟩ : ∃ n, 1 + x % 24 = n := ⟨_, rfl⟩
  obtain ⟨ms, hms⟩ : ∃ ms, 1 + y % 4 = ms := ⟨_, rfl⟩
  obtain ⟨st, hst⟩ : ∃ st, 1 + z % 8 = st := ⟨_, rfl⟩
  obtain ⟨bu, hbu⟩ : ∃ bu, 1 + u % 4 = bu := ⟨_, rfl⟩
  have hn1 : 1 ≤ n ∧ n ≤ 24 := by omega
  have hm1 : 1 ≤ ms ∧ ms ≤ 4 := by omega
  rw [hn, hms, hst, hbu] at HC
  have HB := hid (fun W => begin26 n ms st bu (fun _ => 0) W (by omega) (by omega) (by omega) (by omega) (by omega) (by omega) (by omega) (by omega))
  have hok := Col.new_ok (n := n) (k := ms) (s := st) (p := bu) (by omega) (by omega) (by omega) (by omega)
  have hk1 : (Col.new n ms st bu).s.M.K.many = ms := rfl
  have hk2 : (Col.new n ms st bu).s.M.P.n = n := rfl
  have hk3 : (Col.new n ms st bu).C.begun = 0 := rfl
  obtain ⟨K0, hK0⟩ : ∃ K0, Col.new n ms st bu = K0 := ⟨_, rfl⟩
  rw [hK0] at HB hok hk1 hk2 hk3
  have HOK := hid hok; have HKM := hid hk1; have HKN := hid hk2; have HBG := hid hk3
  clear hok hk1 hk2 hk3 hK0 hn hms hst hbu hx hy hz hu
  have hn2 : (n : Int) ≤ 24 := by omega
  have hn0 : (1 : Int) ≤ n := by omega
  have hm2 : (ms : Int) ≤ 4 := by omega
  have hm0 : (1 : Int) ≤ ms := by omega
  go_enter Tryz.func6, Tryz.ntmps6
  go_wp2_with fail
  refine (HC.out _).mono ?_
  rintro e w1 ⟨rfl, k1⟩
  have HK1 := hid k1
  clear k1
  go_wp2_with fail
  refine (HB.out _).mono ?_
  rintro e w2 ⟨p, rfl, w0, a, m, b, c, LA, LM, k0, hp⟩
  have HK0 := hid (HK1.out.trans k0)
  have HP0 := hid (show Pair w0 w2 p a m b c LA LM (K0.tn l 0).1 (K0.tn l 0).2 from hp)
  clear k0 hp HK1
  go_wp2_with fail
  go_loopw [15] (fun ix wr => ∃ i : Nat, i ≤ N ∧ ix = .int .i64 i ∧ Hid (Pair w0 wr p a m b c LA LM (K0.tn l i).1 (K0.tn l i).2)) (fun ix _ => N - (intOf ix).toNat)
  case atStart => exact ⟨0, Nat.zero_le _, rfl, HP0⟩
  case round =>
    obtain ⟨i, hi, rfl, HP⟩ := hrel
    by_cases hlt : i < N
    · obtain ⟨z, hz⟩ : ∃ z, l[i]? = some z := ⟨_, List.getElem?_eq_getElem (by have := HNL.out; omega)⟩
      obtain ⟨b2, o2, rfl, hb2, hzc⟩ := HROW.out i z hz
      have hkw := HK0.out.trans HP.out.kp
      have hbl := Nat.lt_of_lt_of_le hb2 hkw.size
      obtain ⟨hzb, g0, g1, g2, g3, g4⟩ := hzc.same (hkw.block b2 hb2 (fun h => h))
      have hlt' : (i : Int) < (N : Int) := by omega
      have hi0 : (0 : Int) ≤ i := by omega
      have HPL := hid (pplay HP.out HOK.out hz hzb (by have := HBG.out; omega) (by omega))
      clear hkw hzc hb2 hz hzb
      go_wp2_with fail
      refine HPL.out.mono ?_
      rintro e w3 ⟨rfl, hp3, _⟩
      have HP3 := hid hp3
      clear hp3
      go_wp2_with fail
      exact ⟨⟨i + 1, by omega, by go_num, HP3⟩, by simp [intOf]; omega⟩
    obtain rfl : i = N := by omega
    have hlt' : ¬ (i : Int) < (i : Int) := by omega
    obtain ⟨t1, t2, t3, t4⟩ := Col.tn_ok HOK.out l i (by have := HNL.out; omega)
    rw [HBG.out] at t3
    have HEN := hid (ends26 (fun _ _ => True) (fun _ _ _ _ => trivial) (fun _ _ _ _ _ => trivial) HP.out t1 (by omega) (by omega) trivial)
    obtain ⟨K1, hK1⟩ : ∃ K1, (K0.tn l i).1 = K1 := ⟨_, rfl⟩
    obtain ⟨F1, hF1⟩ : ∃ F1, (K0.tn l i).2 = F1 := ⟨_, rfl⟩
    rw [hK1, hF1] at HEN
    rw [hK1] at t1 t2 t3
    rw [hF1] at t4
    have HT2 := hid (t2.1.trans HKM.out); have HT3 := hid t3; have HT4 := hid t4; have HT5 := hid (t2.2.1.trans HKN.out)
    clear hK1 hF1 t1 t2 t3 t4 hlt HP HP0 HC HB HROW HNL
    go_wp2_with fail
    refine HEN.out.mono ?_
    rintro e w3 ⟨d, g, j, rfl, hph, has, hj, he⟩
    have hdm : d.s.M.K.many = ms := he.like.1.trans HT2.out
    have hdn : d.s.M.P.n = n := he.like.2.1.trans HT5.out
    have hdb : d.C.begun ≤ 640 + 8000 := by have := he.bg; have := HT3.out; omega
    have hdl : g.length ≤ 640 + 8000 := by have := he.ln; have := HT4.out; omega
    have hdc : d.s.M.K.cy ≤ 8640 := Nat.le_trans (cy_le' he.ok) (by omega)
    obtain ⟨r1, r2, r3, r4⟩ := Runs.start he.ok hph
    obtain ⟨b1, b2, _⟩ := Col.begin_cy he.ok hph
    have b2' : d.askR.1.C.begun = d.s.M.K.cy + 1 := by rw [Col.ask_idle hph]; exact b2
    rw [hdn] at r1
    have HPD := hid he.pr; have HDK := hid he.ok
    have HSZ := hid (psizes he.pr he.ok)
    rw [hdm, hdn] at HSZ
    have HAS1 := hid (fun W (h : Pair w0 W p a m b c LA LM d g) => pair_ask h (by omega))
    have HAS2 := hid (fun W (h : Pair w0 W p a m b c LA LM d.askR.1 g) => pair_ask h (by omega))
    have HEN1 := hid (fun W (h : Pair w0 W p a m b c LA LM d g) => cyended h.q)
    have HBE1 := hid (fun W (h : Pair w0 W p a m b c LA LM d.askR.1 g) => cybegun h.q)
    rw [r3] at HAS1
    rw [r4] at HAS2
    rw [b2'] at HBE1
    obtain ⟨E, hE⟩ : ∃ E, d.s.M.K.cy = E := ⟨_, rfl⟩
    rw [hE] at HEN1 HBE1 r1 hdc
    rw [Int.natCast_add, show ((1 : Nat) : Int) = 1 from rfl] at HBE1
    obtain ⟨d1, hd1⟩ : ∃ d1, d.askR.1 = d1 := ⟨_, rfl⟩
    rw [hd1] at HAS1 HAS2 HBE1 r1 r2
    obtain ⟨e0, he0⟩ : ∃ e0, d1.askR.1 = e0 := ⟨_, rfl⟩
    rw [he0] at HAS2 r1 r2
    have HR1 := hid r1
    have hE2 : (E : Int) ≤ 8640 := by omega
    have hE0 : (0 : Int) ≤ E := by omega
    have HEG := hid hdl
    have hms0 : e0.s.M.K.many = ms := by
      rw [← he0, ← hd1]
      exact ((Col.ask_ok (Col.ask_ok he.ok).1).2.1.trans (Col.ask_ok he.ok).2.1).trans hdm
    have HMS := hid hms0
    clear r1 r2 r3 r4 b1 b2 b2' hE hd1 he0 hms0 hdm hdn hdb hdl he hph has HEN HT2 HT3 HT4 HT5
    obtain ⟨x0, x1, xl⟩ := pair_cells HPD.out
    go_wp2_with fail
    refine HSZ.out.mono ?_
    rintro e w4 ⟨rfl, k4⟩
    have HP4 := hid (HPD.out.same k4)
    clear k4 x0 x1 xl HPD HSZ
    obtain ⟨x0, x1, xl⟩ := pair_cells HP4.out
    go_wp2_with fail
    refine ((HEN1.out _ HP4.out)).mono ?_
    rintro e w' ⟨rfl, h'⟩
    obtain rfl := h'.symm
    go_wp2_with fail
    refine (HAS1.out _ HP4.out).mono ?_
    rintro e w5 ⟨rfl, hp5⟩
    have HP5 := hid hp5
    clear hp5 x0 x1 xl HP4 HAS1
    obtain ⟨x0, x1, xl⟩ := pair_cells HP5.out
    go_wp2_with fail
    refine ((HBE1.out _ HP5.out)).mono ?_
    rintro e w' ⟨rfl, h'⟩
    obtain rfl := h'.symm
    go_wp2_with fail
    refine (HAS2.out _ HP5.out).mono ?_
    rintro e we ⟨rfl, hp6⟩
    have HP6 := hid hp6
    have HE0 := hid (EndAt.start (fun _ _ => True) hp6 HR1.out.ok trivial)
    clear hp6 x0 x1 xl HP5 HAS2 HBE1 HEN1
    obtain ⟨g0, hg0⟩ : ∃ g0, g = g0 := ⟨_, rfl⟩
    rw [hg0] at HE0 HP6 HEG
    clear hg0
    have HBB := hid (show e0.C.begun + 10000 < 4611686018427387904 by have := HR1.out.bg; omega)
    have HGG := hid (show g0.length + 10000 ≤ 100000 by have := HEG.out; omega)
    go_wp2_with fail
    go_loopw [19] (fun ix wr => ∃ (t : Nat) (D : Col) (G : List Rf), t ≤ 3 * n + 4 ∧ ix = .int .i64 t ∧ Runs E n true D t ∧ Hid (EndAt w0 we wr p a m b c LA LM (fun _ _ => True) e0 g0 t D G)) (fun ix _ => 3 * n + 4 - (intOf ix).toNat)
    case atStart => exact ⟨0, e0, g0, Nat.zero_le _, rfl, HR1.out, HE0⟩
    case round =>
      obtain ⟨t, D, G, ht, rfl, hr, HE⟩ := hrel
      have hDm : D.s.M.K.many = ms := HE.out.like.1.trans HMS.out
      have ht' : (t : Int) ≤ 3 * (n : Int) + 4 := by omega
      have ht0 : (0 : Int) ≤ t := by omega
      have HR := hid hr
      have HDM := hid hDm
      by_cases hp : D.s.M.K.ph = 0
      · obtain ⟨o1, o2⟩ := hr.off hp
        have hne : ((E : Int) + 1 == (E : Int)) = false := by simp; omega
        have hnt : ¬ 3 * (n : Int) + 4 < (t : Int) := by omega
        have HP := hid hp
        clear hr hp hDm
        obtain ⟨wq, hwq⟩ : ∃ wq, wr = wq := ⟨_, rfl⟩
        have HPQ := hid HE.out.pr
        have HGL := hid HE.out.ln
        rw [hwq] at HPQ ⊢
        clear HE hwq
        obtain ⟨b1, b2, _⟩ := Col.begin_cy HR.out.ok HP.out
        have hph1 := (Col.begin_ok HR.out.ok HP.out).2.2
        have HED := hid (show Calls Tryz.prog 50 #[.pointer (some ⟨c, 0, none⟩)] wq (fun e w' => e = .returned (.int .i64 ((E : Int) + 1)) ∧ w' = wq) from by
          have h := cyended HPQ.out.q; rw [o1, Int.natCast_add] at h; exact h)
        have HPH := hid (show Calls Tryz.prog 42 #[.pointer (some ⟨c, 0, none⟩)] wq (fun e w' => e = .returned (.int .i64 0) ∧ w' = wq) from by
          have h := cyphase HPQ.out.q; rw [HP.out] at h; exact h)
        have HBE := hid (show Calls Tryz.prog 51 #[.pointer (some ⟨c, 0, none⟩)] wq (fun e w' => e = .returned (.int .i64 ((E : Int) + 1)) ∧ w' = wq) from by
          have h := cybegun HPQ.out.q; rw [HR.out.bg, Int.natCast_add] at h; exact h)
        have hst := pair_step1 HPQ.out HR.out.ok (by have := HR.out.bg; omega) (by have := HGL.out; have := HEG.out; omega)
        rw [Col.step_begin HP.out HR.out.asked] at hst
        have HST := hid (show Calls Tryz.prog 52 #[.pointer (some ⟨p, 0, none⟩), .int .i64 1] wq (fun e w' => e = .returned (.tuple #[]) ∧ Pair w0 w' p a m b c LA LM D.begin G) from hst)
        have HPH1 := hid (fun W (h : Pair w0 W p a m b c LA LM D.begin G) => cyphase h.q)
        have HBE1 := hid (fun W (h : Pair w0 W p a m b c LA LM D.begin G) => cybegun h.q)
        have HED1 := hid (fun W (h : Pair w0 W p a m b c LA LM D.begin G) => cyended h.q)
        rw [hph1, show ((1 : Nat) : Int) = 1 from rfl] at HPH1
        rw [b2, o1, show ((E + 1 + 1 : Nat) : Int) = (E : Int) + 2 by omega] at HBE1
        rw [b1, o1, show ((E + 1 : Nat) : Int) = (E : Int) + 1 by omega] at HED1
        have hsm : sv % ms < ms := Nat.mod_lt _ (by omega)
        have HSL := hid (Still.begin (s := sv % ms) HR.out.ok HP.out (by rw [HDM.out]; exact hsm))
        have hbb : D.begin.C.begun = E + 2 := by rw [b2, o1]
        obtain ⟨d2, hd2⟩ : ∃ d2, D.begin = d2 := ⟨_, rfl⟩
        have hd2m : d2.s.M.K.many = ms := by rw [← hd2]; exact (Col.begin_ok HR.out.ok HP.out).2.1.1.trans HDM.out
        rw [hd2] at HST HPH1 HBE1 HED1 HSL hbb
        have HD2M := hid hd2m
        have HBB2 := hid (show d2.C.begun + 10000 < 4611686018427387904 by omega)
        have HGG2 := hid (show G.length + 10000 ≤ 100000 by have := HGL.out; have := HEG.out; omega)
        have hsz : ¬ (ms : Int) = 0 := by omega
        have hmod : (sv : Int) % (ms : Int) = ((sv % ms : Nat) : Int) := by simp
        have htmod : (sv : Int).tmod (ms : Int) = ((sv % ms : Nat) : Int) := by rw [Int.tmod_eq_emod_of_nonneg (by omega)]; exact hmod
        obtain ⟨s, hs⟩ : ∃ s, sv % ms = s := ⟨_, rfl⟩
        rw [hs] at HSL hmod htmod hsm
        obtain ⟨fx, fn, f2, _, f3⟩ := HPQ.out.found
        obtain ⟨x0, x1, xl⟩ := pair_cells HPQ.out
        clear b1 b2 hph1 hst hd2 hbb hd2m o1 hs HE0 HR1
        go_wp2_with fail
        refine (HED.out).mono ?_
        rintro e w' ⟨rfl, h'⟩
        obtain rfl := h'.symm
        go_wp2_with fail
        refine (HED.out).mono ?_
        rintro e w' ⟨rfl, h'⟩
        obtain rfl := h'.symm
        go_wp2_with fail
        refine (HPH.out).mono ?_
        rintro e w' ⟨rfl, h'⟩
        obtain rfl := h'.symm
        go_wp2_with fail
        refine (HBE.out).mono ?_
        rintro e w' ⟨rfl, h'⟩
        obtain rfl := h'.symm
        go_wp2_with fail
        refine HST.out.mono ?_
        rintro e w7 ⟨rfl, hp7⟩
        have HP7 := hid hp7
        have HE7 := hid (EndAt.start (fun k _ => Still s k) hp7 HSL.out.ok HSL.out)
        clear hp7 x0 x1 xl f2 f3 HED HPH HBE HST HPQ
        obtain ⟨x0, x1, xl⟩ := pair_cells HP7.out
        go_wp2_with fail
        refine ((HPH1.out _ HP7.out)).mono ?_
        rintro e w' ⟨rfl, h'⟩
        obtain rfl := h'.symm
        go_wp2_with fail
        refine ((HBE1.out _ HP7.out)).mono ?_
        rintro e w' ⟨rfl, h'⟩
        obtain rfl := h'.symm
        go_wp2_with fail
        refine ((HED1.out _ HP7.out)).mono ?_
        rintro e w' ⟨rfl, h'⟩
        obtain rfl := h'.symm
        go_wp2_with fail
        clear x0 x1 xl hne hnt o2
        go_loopw [21] (fun ix wr => ∃ (i : Nat) (D : Col) (G2 : List Rf), i ≤ 5 ∧ ix = .int .i64 i ∧ Hid (EndAt w0 w7 wr p a m b c LA LM (fun k _ => Still s k) d2 G i D G2)) (fun ix _ => 5 - (intOf ix).toNat)
        case atStart => exact ⟨0, d2, G, Nat.zero_le _, rfl, HE7⟩
        case round =>
          obtain ⟨i, D3, G3, hi, rfl, HE3⟩ := hrel
          have hi0 : (0 : Int) ≤ i := by omega
          by_cases hlt : i < 5
          · have hlt' : (i : Int) < 5 := by omega
            go_wp2_with fail
            go_loopw [22] (fun ix wq => ∃ (q : Nat) (D4 : Col), q ≤ ms ∧ ix = .int .i64 q ∧ Hid (EndAt w0 w7 wq p a m b c LA LM (fun k _ => Still s k) d2 G i D4 G3)) (fun ix _ => ms - (intOf ix).toNat)
            case atStart => exact ⟨0, D3, Nat.zero_le _, rfl, HE3⟩
            case round =>
              obtain ⟨q, D4, hq, rfl, HQ⟩ := hrel
              have hq0 : (0 : Int) ≤ q := by omega
              obtain ⟨z0, z1, zl⟩ := pair_cells HQ.out.pr
              by_cases hlq : q < ms
              · have hlq' : (q : Int) < (ms : Int) := by omega
                by_cases hqs : q = s
                · have hqb : ((q : Int) != (s : Int)) = false := by rw [hqs]; simp
                  clear hqs z0 z1 zl
                  go_wp2_with fail
                  refine ⟨⟨q + 1, D4, ?_, ?_, HQ⟩, ?_⟩
                  · omega
                  · go_num
                  · simp [intOf]; omega
                · have hqb : ((q : Int) != (s : Int)) = true := by simp; omega
                  have HA := hid (fun W (hE : EndAt w0 w7 W p a m b c LA LM (fun k _ => Still s k) d2 G i D4 G3) => hE.ack q (fun k f _ h => h.ack hqs))
                  clear hqs
                  go_wp2_with fail
                  go_region_held3 (fun W => W.cell? ⟨p, 1, none⟩ = some (.pointer (some ⟨c, 0, none⟩)) ∧ W.cell? ⟨p, 0, none⟩ = some (.pointer (some ⟨a, 0, none⟩)))
                    ((first | exact ⟨z1, z0⟩ | exact ⟨(pair_cells he5.pr).2.1, (pair_cells he5.pr).1⟩))
                    (first | (go_at_call 38; refine (HA.out _ (HQ.out.same (Keeps.refl _ _).drew)).mono ?_; rintro e w5 ⟨⟨u3, v3, rfl⟩, he5⟩))
                  have HE5 := hid he5
                  clear he5 z0 z1 zl HA HQ
                  go_wp2_with fail
                  refine ⟨⟨q + 1, _, ?_, ?_, HE5⟩, ?_⟩
                  · omega
                  · go_num
                  · simp [intOf]; omega
              · have hlq' : ¬ (q : Int) < (ms : Int) := by omega
                have HST := hid (HQ.out.step (fun k f _ h => h.step true) HBB2.out HGG2.out (by omega))
                clear z0 z1 zl
                go_wp2_with fail
                refine HST.out.mono ?_
                rintro e w8 ⟨rfl, he8⟩
                have HE8 := hid he8
                clear he8
                go_wp2_with fail
                refine ⟨⟨i + 1, _, _, ?_, ?_, HE8⟩, ?_⟩
                · omega
                · go_num
                · simp [intOf]; omega
          · have hlt' : ¬ (i : Int) < 5 := by omega
            have HPH3 := hid (show Calls Tryz.prog 42 #[.pointer (some ⟨c, 0, none⟩)] _ (fun e w' => e = .returned (.int .i64 1) ∧ w' = _) from by
              have h := cyphase HE3.out.pr.q; rw [HE3.out.inv.ph] at h; exact h)
            obtain ⟨fx, fn, f2, _, f3⟩ := HE3.out.pr.found
            obtain ⟨x0, x1, xl⟩ := pair_cells HE3.out.pr
            go_wp2_with fail
            refine (HPH3.out).mono ?_
            rintro e w' ⟨rfl, h'⟩
            obtain rfl := h'.symm
            go_wp2_with fail
            refine (works26 _).mono ?_
            rintro e w9 ⟨rfl, k9⟩
            go_wp2_with fail
            go_ret
            exact ⟨rfl, (HK0.out.trans HE3.out.pr.kp).trans k9⟩
      · obtain ⟨o1, o2⟩ := hr.on hp
        have hmu := Col.mu_pos hr.ok hp
        have HED := hid (cyended HE.out.pr.q)
        rw [o1] at HED
        have HNX := hid (show Runs E n true ((Col.acks D ms).stepR true).c (t + 1) from by have h := hr.next hp; unfold Col.round at h; rw [hDm] at h; exact h)
        have htl : t < 3 * n + 3 := by omega
        obtain ⟨x0, x1, xl⟩ := pair_cells HE.out.pr
        clear hr hp hDm hmu o1 o2
        go_wp2_with fail
        refine (HED.out).mono ?_
        rintro e w' ⟨rfl, h'⟩
        obtain rfl := h'.symm
        go_wp2_with fail
        clear x0 x1 xl HED
        go_loopw [20] (fun ix wq => ∃ q : Nat, q ≤ ms ∧ ix = .int .i64 q ∧ Hid (EndAt w0 we wq p a m b c LA LM (fun _ _ => True) e0 g0 t (Col.acks D q) G)) (fun ix _ => ms - (intOf ix).toNat)
        case atStart => exact ⟨0, Nat.zero_le _, rfl, HE⟩
        case round =>
          obtain ⟨q, hq, rfl, HQ⟩ := hrel
          by_cases hlq : q < ms
          · have hlq' : (q : Int) < (ms : Int) := by omega
            have hq0 : (0 : Int) ≤ q := by omega
            obtain ⟨z0, z1, zl⟩ := pair_cells HQ.out.pr
            have HA := hid (fun W (hE : EndAt w0 we W p a m b c LA LM (fun _ _ => True) e0 g0 t (Col.acks D q) G) => hE.ack q (fun _ _ _ _ => trivial))
            go_wp2_with fail
            go_region_held3 (fun W => W.cell? ⟨p, 1, none⟩ = some (.pointer (some ⟨c, 0, none⟩)) ∧ W.cell? ⟨p, 0, none⟩ = some (.pointer (some ⟨a, 0, none⟩)))
              ((first | exact ⟨z1, z0⟩ | exact ⟨(pair_cells he3.pr).2.1, (pair_cells he3.pr).1⟩))
              (first | (go_at_call 38; refine (HA.out _ (HQ.out.same (Keeps.refl _ _).drew)).mono ?_; rintro e w3 ⟨⟨u3, v3, rfl⟩, he3⟩))
            rw [acks_succ] at he3
            have HE3 := hid he3
            clear he3 z0 z1 zl HA HQ
            go_wp2_with fail
            refine ⟨⟨q + 1, ?_, ?_, HE3⟩, ?_⟩
            · omega
            · go_num
            · simp [intOf]; omega
          have hlq' : ¬ (q : Int) < (ms : Int) := by omega
          obtain rfl : q = ms := by omega
          have HST := hid (HQ.out.step (fun _ _ _ _ => trivial) HBB.out HGG.out (by omega))
          go_wp2_with fail
          refine HST.out.mono ?_
          rintro e w6 ⟨rfl, he6⟩
          have HE6 := hid he6
          clear he6
          go_wp2_with fail
          refine ⟨⟨t + 1, _, _, ?_, ?_, HNX.out, HE6⟩, ?_⟩
          · omega
          · go_num
          · simp [intOf]; omega
theorem u8_nat {x : Int} (h : (Lit.int .u8 x).wf = true) : ∃ k : Nat, x = k ∧ k < 256 := by
  have e1 : IntKind.u8.min = 0 := by decide
  have e2 : IntKind.u8.max = 255 := by decide
  simp [Lit.wf, e1, e2] at h
  exact ⟨x.toNat, by omega, by omega⟩
set_option maxRecDepth 100000 in
theorem cycleEnds_law {H : Type} {enc : TypeId × Value → H} {base : Nat} {spare : Nat → Bool} {held : Bool} {r : Reach} {b0 : Nat} (a0 : Int) (h0 : (Lit.int .u8 a0).wf = true) (a1 : Int) (h1 : (Lit.int .u8 a1).wf = true) (a2 : Int) (h2 : (Lit.int .u8 a2).wf = true) (a3 : Int) (h3 : (Lit.int .u8 a3).wf = true)
    (v : Value) (d : DataW H) (p : List MemPlace) {w : World} (hv : Value.okWide Tryz.prog w r b0 80 v) (h : DataW.Trod enc Tryz.prog w base spare held 80 v d p) (a5 : Int) (h5 : (Lit.int .u8 a5).wf = true) (w' : World) (e' : w' = w) :
    Calls Tryz.prog 6 #[.int .u8 a0, .int .u8 a1, .int .u8 a2, .int .u8 a3, v, .int .u8 a5] w' fun e w2 => e = .returned (.bool true) ∧ Keeps (fun _ => False) w' w2 := by
  subst e'
  obtain ⟨x0, rfl, g0⟩ := u8_nat h0
  obtain ⟨x1, rfl, g1⟩ := u8_nat h1
  obtain ⟨x2, rfl, g2⟩ := u8_nat h2
  obtain ⟨x3, rfl, g3⟩ := u8_nat h3
  obtain ⟨x5, rfl, g5⟩ := u8_nat h5
  obtain ⟨a, n, k, rfl, e1, e2, hx⟩ := open_flat_slice (ks := ks5) Tryz.underlying80 (by kernel_rfl) (by kernel_rfl) (by decide) hv h
  obtain ⟨l, hl⟩ := mvrow_of e1 e2 hx
  exact cycleEnds_walk x0 x1 x2 x3 x5 l _ w' g0 g1 g2 g3 g5 hl
end Go.Proofs.YtafcjciolekdkaaGreat
