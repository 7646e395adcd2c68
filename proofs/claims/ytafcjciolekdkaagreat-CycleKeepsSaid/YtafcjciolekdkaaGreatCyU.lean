/- estraylaw26.CycleKeeps: the walk. -/
import Derived.Test.YtafcjciolekdkaaGreatCyR
import Derived.Test.YtafcjciolekdkaaGreatCyS
namespace Go.Proofs.YtafcjciolekdkaaGreat
open Go.RowKit Go.ChangeShapes Go.WideShapes Go.ChangeAt Go.Deep
set_option linter.unusedVariables false
set_option linter.unusedSimpArgs false

def RR (rr : Option (Nat × Int)) (r : Rf) : Prop := (rr = none ∧ r = .no) ∨ ∃ i g, rr = some (i, g) ∧ r = ⟨i, g⟩ ∧ 1 ≤ g
section
variable {w0 w w' : World} {p a m b c : Nat} {LA : ArL} {LM : MkL} {k : Col} {f : List Rf}
theorem pmake (h : Quad w0 w a m b c LA LM k) (hok : k.Ok) : Calls Tryz.prog 53 #[.pointer (some ⟨a, 0, none⟩), .int .i64 0, .int .i64 0, .bool true] w
    fun e w' => e = .returned (.tuple #[(k.s.A.makeR 0 0 true).now.val, .int .i64 (k.s.A.makeR 0 0 true).e]) ∧ Quad w0 w' a m b c LA LM ⟨⟨(k.s.A.makeR 0 0 true).A, k.s.M⟩, k.C⟩ ∧ Keeps (foot3 LA LM b c k.s) w w' := by
  refine (amake_any a LA k.s.A 0 0 true w h.tr.both.ar hok.s.a).mono ?_
  rintro e w' ⟨rfl, h2, h3⟩
  obtain ⟨q1, q2⟩ := h.arF h2 h3 (Ar.makeR_n _ _ _ _).2
  exact ⟨rfl, q1, q2⟩
theorem pdrop {A : Ar} (h : Quad w0 w a m b c LA LM ⟨⟨A, k.s.M⟩, k.C⟩) (j : Int) : Calls Tryz.prog 57 #[.pointer (some ⟨a, 0, none⟩), .int .i64 0, .int .i64 j] w
    fun e w' => (∃ v x, e = .returned (.tuple #[v, .int .i64 x])) ∧ Quad w0 w' a m b c LA LM ⟨⟨(A.dropR 0 j).A, k.s.M⟩, k.C⟩ ∧ Keeps (foot3 LA LM b c ⟨A, k.s.M⟩) w w' := by
  refine (adrop_any a LA A 0 j w h.tr.both.ar).mono ?_
  rintro e w' ⟨rfl, h2, h3⟩
  obtain ⟨q1, q2⟩ := h.arF h2 h3 (Ar.dropR_n _ _ _).2
  exact ⟨⟨_, _, rfl⟩, q1, q2⟩
end

set_option maxRecDepth 100000 in
set_option maxHeartbeats 40000000 in
theorem cycleKeeps_walk (x y z u av : Nat) (l : List Mv) (v : Value) (w : World) (hx : x < 256) (hy : y < 256) (hz : z < 256) (hu : u < 256) (hav : av < 256) (hm : MvRow w v l) :
    Calls Tryz.prog 7 #[.int .u8 x, .int .u8 y, .int .u8 z, .int .u8 u, v, .int .u8 av] w fun e w' => e = .returned (.bool true) ∧ Keeps (fun _ => False) w w' := by
  obtain ⟨am, cm, rfl, _, hmc2, hmr⟩ := hm
  obtain ⟨N, hN⟩ : ∃ N, l.length = N := ⟨_, rfl⟩
  have HROW := hid (show ∀ (i : Nat) (z : Mv), l[i]? = some z → ∃ b2 o2, am = some ⟨b2, o2, none⟩ ∧ b2 < w.heap.size ∧ MvCell w b2 (o2 + i * 5) z from fun i z hz => by
    rcases hmr with rfl | ⟨b2, o2, e, hb, hc⟩
    · cases hz
    · exact ⟨b2, o2, e, hb, hc i z hz⟩)
  have HNL := hid hN
  rw [hN]
  clear hmr hmc2 hN
  by_cases h80 : 60 < N
  · have h80' : (60 : Int) < (N : Int) := by omega
    go_enter Tryz.func7, Tryz.ntmps7
    go_wp2_with fail
    refine (works26 _).mono ?_
    rintro e w1 ⟨rfl, k1⟩
    go_wp2_with fail
    go_ret
    exact ⟨rfl, k1⟩
  have h80' : ¬ (60 : Int) < (N : Int) := by omega
  have HC := hid (fun W => config26 x y z u W hx hy hz hu)
  obtain ⟨n, hn⟩ : ∃ n, 1 + x % 24 = n := ⟨_, rfl⟩
  obtain ⟨ms, hms⟩ : ∃ ms, 1 + y % 4 = ms := ⟨_, rfl⟩
  obtain ⟨st, hst⟩ : ∃ st, 1 + z % 8 = st := ⟨_, rfl⟩
  obtain ⟨bu, hbu⟩ : ∃ bu, 1 + u % 4 = bu := ⟨_, rfl⟩
  have hn1 : 1 ≤ n ∧ n ≤ 24 := by omega
  have hm1 : 1 ≤ ms ∧ ms ≤ 4 := by omega
  rw [hn, hms, hst, hbu] at HC
  have HB := hid (fun W => begin26 n ms st bu (fun _ => 0) W (by omega) (by omega) (by omega) (by omega) (by omega) (by omega) (by omega) (by omega))
  have hok := Col.new_ok (n := n) (k := ms) (s := st) (p := bu) (by omega) (by omega) (by omega) (by omega)
  have hk1 : (Col.new n ms st bu).s.M.K.many = ms := rfl
  have hk2 : (Col.new n ms st bu).s.M.P.n = n := rfl
  have hk3 : (Col.new n ms st bu).C.begun = 0 := rfl
  have hsn := Sane.new n ms st bu
  obtain ⟨K0, hK0⟩ : ∃ K0, Col.new n ms st bu = K0 := ⟨_, rfl⟩
  rw [hK0] at HB hok hk1 hk2 hk3 hsn
  have HOK := hid hok; have HKM := hid hk1; have HKN := hid hk2; have HBG := hid hk3; have HSN := hid hsn
  have hav0 : (av : Int) < 256 := by omega
  clear hok hk1 hk2 hk3 hK0 hn hms hst hbu hx hy hz hu hsn
  have hn2 : (n : Int) ≤ 24 := by omega
  have hn0 : (1 : Int) ≤ n := by omega
  have hm2 : (ms : Int) ≤ 4 := by omega
  have hm0 : (1 : Int) ≤ ms := by omega
  go_enter Tryz.func7, Tryz.ntmps7
  go_wp2_with fail
  refine (HC.out _).mono ?_
  rintro e w1 ⟨rfl, k1⟩
  have HK1 := hid k1
  clear k1
  go_wp2_with fail
  refine (HB.out _).mono ?_
  rintro e w2 ⟨p, rfl, w0, a, m, b, c, LA, LM, k0, hp⟩
  have HK0 := hid (HK1.out.trans k0)
  have HP0 := hid (show Pair w0 w2 p a m b c LA LM (K0.tn l 0).1 (K0.tn l 0).2 from hp)
  clear k0 hp HK1
  go_wp2_with fail
  go_loopw [15] (fun ix wr => ∃ i : Nat, i ≤ N ∧ ix = .int .i64 i ∧ Hid (Pair w0 wr p a m b c LA LM (K0.tn l i).1 (K0.tn l i).2)) (fun ix _ => N - (intOf ix).toNat)
  case atStart => exact ⟨0, Nat.zero_le _, rfl, HP0⟩
  case round =>
    obtain ⟨i, hi, rfl, HP⟩ := hrel
    by_cases hlt : i < N
    · obtain ⟨z, hz⟩ : ∃ z, l[i]? = some z := ⟨_, List.getElem?_eq_getElem (by have := HNL.out; omega)⟩
      obtain ⟨b2, o2, rfl, hb2, hzc⟩ := HROW.out i z hz
      have hkw := HK0.out.trans HP.out.kp
      have hbl := Nat.lt_of_lt_of_le hb2 hkw.size
      obtain ⟨hzb, g0, g1, g2, g3, g4⟩ := hzc.same (hkw.block b2 hb2 (fun h => h))
      have hlt' : (i : Int) < (N : Int) := by omega
      have hi0 : (0 : Int) ≤ i := by omega
      have HPL := hid (pplay HP.out HOK.out hz hzb (by have := HBG.out; omega) (by omega))
      clear hkw hzc hb2 hz hzb
      go_wp2_with fail
      refine HPL.out.mono ?_
      rintro e w3 ⟨rfl, hp3, _⟩
      have HP3 := hid hp3
      clear hp3
      go_wp2_with fail
      exact ⟨⟨i + 1, by omega, by go_num, HP3⟩, by simp [intOf]; omega⟩
    obtain rfl : i = N := by omega
    have hlt' : ¬ (i : Int) < (i : Int) := by omega
    obtain ⟨t1, t2, t3, t4⟩ := Col.tn_ok HOK.out l i (by have := HNL.out; omega)
    rw [HBG.out] at t3
    have hsn := HSN.out.tn HOK.out l i (by have := HNL.out; omega)
    have HEN := hid (ends26 Sane (fun _ _ h1 h2 => h2.step h1 true) (fun _ _ j h1 h2 => h2.ack h1 j) HP.out t1 (by omega) (by omega) hsn)
    obtain ⟨K1, hK1⟩ : ∃ K1, (K0.tn l i).1 = K1 := ⟨_, rfl⟩
    obtain ⟨F1, hF1⟩ : ∃ F1, (K0.tn l i).2 = F1 := ⟨_, rfl⟩
    rw [hK1, hF1] at HEN
    rw [hK1] at t1 t2 t3
    rw [hF1] at t4
    have HT2 := hid (t2.1.trans HKM.out); have HT3 := hid t3; have HT4 := hid t4; have HT5 := hid (t2.2.1.trans HKN.out)
    clear hK1 hF1 t1 t2 t3 t4 hlt HP HP0 HC HB HROW HNL hsn
    go_wp2_with fail
    refine HEN.out.mono ?_
    rintro e w3 ⟨d, g, j, rfl, hph, has, hj, he⟩
    have hdm : d.s.M.K.many = ms := he.like.1.trans HT2.out
    have hdn : d.s.M.P.n = n := he.like.2.1.trans HT5.out
    have hdb : d.C.begun ≤ 640 + 8000 := by have := he.bg; have := HT3.out; omega
    have hdl : g.length ≤ 640 + 8000 := by have := he.ln; have := HT4.out; omega
    have hdc : d.s.M.K.cy ≤ 8640 := Nat.le_trans (cy_le' he.ok) (by omega)
    have r1 := Runs.start1 he.ok hph
    obtain ⟨b1, b2, b3⟩ := Col.begin_ok he.ok hph
    obtain ⟨c1, c2, _⟩ := Col.begin_cy he.ok hph
    have hin : In none d.begin g := ⟨by have h := he.inv.ask he.ok; rw [Col.ask_idle hph] at h; exact h, rfl, fun i g e => by cases e⟩
    rw [hdn] at r1
    have HAS1 := hid (show Calls Tryz.prog 40 #[.pointer (some ⟨c, 0, none⟩)] w3 (fun e w' => e = .returned (.bool true) ∧ Pair w0 w' p a m b c LA LM d.begin g) from by
      have h := pair_ask he.pr (by omega); rw [Col.ask_idle hph] at h; exact h)
    have HEN1 := hid (fun W (h : Pair w0 W p a m b c LA LM d.begin g) => cyended h.q)
    have HSZ := hid (fun W (h : Pair w0 W p a m b c LA LM d.begin g) => psizes h b1)
    rw [b2.1, b2.2.1, hdm, hdn] at HSZ
    obtain ⟨E, hE⟩ : ∃ E, d.s.M.K.cy = E := ⟨_, rfl⟩
    rw [c1, hE] at HEN1
    rw [hE] at r1 hdc
    have HEB := hid b2
    obtain ⟨d1, hd1⟩ : ∃ d1, d.begin = d1 := ⟨_, rfl⟩
    have hd1m : d1.s.M.K.many = ms := by rw [← hd1]; exact b2.1.trans hdm
    rw [hd1] at r1 hin HAS1 HEN1 HSZ
    have HR1 := hid r1; have HIN := hid hin; have HGL := hid hdl; have HD1M := hid hd1m
    have hE2 : (E : Int) ≤ 8640 := by omega
    have hE0 : (0 : Int) ≤ E := by omega
    obtain ⟨x0, x1, xl⟩ := pair_cells he.pr
    clear r1 hin hdm hdn hdb hdl hph has he b1 b2 b3 c1 c2 hE hd1 hd1m HEN HT2 HT3 HT4 HT5 HEB
    go_wp2_with fail
    refine HAS1.out.mono ?_
    rintro e w4 ⟨rfl, hp4⟩
    have HP4 := hid hp4
    clear hp4 x0 x1 xl HAS1
    obtain ⟨x0, x1, xl⟩ := pair_cells HP4.out
    go_wp2_with fail
    refine (HSZ.out _ HP4.out).mono ?_
    rintro e w5 ⟨rfl, k5⟩
    have HP5 := hid (HP4.out.same k5)
    clear k5 x0 x1 xl HP4 HSZ
    obtain ⟨x0, x1, xl⟩ := pair_cells HP5.out
    go_wp2_with fail
    refine ((HEN1.out _ HP5.out)).mono ?_
    rintro e w' ⟨rfl, h'⟩
    obtain rfl := h'.symm
    have hdz : ¬ 3 * (n : Int) + 4 = 0 := by omega
    obtain ⟨kk, hkk⟩ : ∃ kk : Nat, (av : Int) % (3 * (n : Int) + 4) = kk := ⟨((av : Int) % (3 * (n : Int) + 4)).toNat, by have := Int.emod_nonneg (av : Int) hdz; omega⟩
    have hkt : (av : Int).tmod (3 * (n : Int) + 4) = kk := by rw [Int.tmod_eq_emod_of_nonneg (by omega)]; exact hkk
    go_wp2_with fail
    obtain ⟨w6, hw6⟩ : ∃ w6, w5.alloc (.cells #[.int .i64 0, .int .u32 0] 38) = w6 := ⟨_, rfl⟩
    have k6 : Keeps (fun _ => False) w5 w6 := by rw [← hw6]; exact (Keeps.refl _ _).alloc _
    have q6 : w6.heap[w5.heap.size]? = some (.cells #[.int .i64 0, .int .u32 0] 38) := by rw [← hw6]; exact alloc_new
    have hlB : w0.heap.size ≤ w5.heap.size := HP5.out.kp.size
    have hka : KAt w0 w6 p a m b c LA LM w5.heap.size .no d1 g := by
      refine ⟨HP5.out.same k6, q6, fun v hv e => ?_⟩
      obtain ⟨u, h1, h2⟩ := HP5.out.ex
      have e2 : v = u := Option.some.inj (hv.symm.trans (cell_at (block_keep h1 k6 (fun h => h)) rfl))
      rw [e2] at e
      have := (h2.lt _ e).2
      omega
    rw [hw6]
    obtain ⟨B, hB⟩ : ∃ B, w5.heap.size = B := ⟨_, rfl⟩
    rw [hB] at hka hlB ⊢
    have HKA := hid hka; have HLB := hid hlB
    clear hw6 k6 q6 hlB hka hB x0 x1 xl HP5 hkk
    go_loopw [21] (fun ix wr => ∃ (t : Nat) (D : Col) (G : List Rf) (rr : Option (Nat × Int)) (r : Rf), t ≤ 3 * n + 4 ∧ ix = .int .i64 t ∧ Runs E n false D t ∧ D.s.M.K.many = ms ∧ In rr D G ∧ RR rr r ∧ G.length ≤ 8640 + t ∧ Hid (KAt w0 wr p a m b c LA LM B r D G)) (fun ix _ => 3 * n + 4 - (intOf ix).toNat)
    case atStart => exact ⟨0, d1, g, none, .no, Nat.zero_le _, rfl, HR1.out, HD1M.out, HIN.out, .inl ⟨rfl, rfl⟩, by have := HGL.out; omega, HKA⟩
    case round =>
      obtain ⟨t, D, G, rr, r, ht, rfl, hr, hDm, hin, hrr, hgl, HK⟩ := hrel
      have ht' : (t : Int) ≤ 3 * (n : Int) + 4 := by omega
      have ht0 : (0 : Int) ≤ t := by omega
      have HR := hid hr; have HDM := hid hDm; have HI := hid hin; have HG := hid hgl
      by_cases hp : D.s.M.K.ph = 0
      · obtain ⟨o1, o2⟩ := hr.off hp
        have hne : ((E : Int) + 1 == (E : Int)) = false := by simp; omega
        obtain ⟨wq, hwq⟩ : ∃ wq, wr = wq := ⟨_, rfl⟩
        rw [hwq] at HK ⊢
        clear hwq
        have HED := hid (show Calls Tryz.prog 50 #[.pointer (some ⟨c, 0, none⟩)] wq (fun e w' => e = .returned (.int .i64 ((E : Int) + 1)) ∧ w' = wq) from by
          have h := cyended HK.out.pr.q; rw [o1, Int.natCast_add] at h; exact h)
        obtain ⟨fx, fn, f2, hrf, f3⟩ := HK.out.pr.found
        obtain ⟨x0, x1, xl⟩ := pair_cells HK.out.pr
        obtain ⟨q0, q1, _, ql⟩ := cells2 HK.out.rb
        have HP := hid hp; have HRF := hid hrf
        clear hr hp hDm hin hgl o1 o2 hrf
        rcases hrr with ⟨hn', hr'⟩ | ⟨i, g', hn', hr', hg1⟩
        · subst hr'
          have q0' : wq.cell? ⟨B, 0, none⟩ = some (.int .i64 0) := q0
          have q1' : wq.cell? ⟨B, 1, none⟩ = some (.int .u32 0) := q1
          have heq := fun W => eql_ref W 0 0 0 0
          clear q0 q1 hn'
          go_wp2_with fail
          refine (HED.out).mono ?_
          rintro e w' ⟨rfl, h'⟩
          obtain rfl := h'.symm
          go_wp2_with fail
          refine (HED.out).mono ?_
          rintro e w' ⟨rfl, h'⟩
          obtain rfl := h'.symm
          go_wp2_with fail
          refine (works26 _).mono ?_
          rintro e w9 ⟨rfl, k9⟩
          go_wp2_with fail
          go_ret
          exact ⟨rfl, (HK0.out.trans HK.out.pr.kp).trans k9⟩
        · subst hr'
          have heq := fun W => eql_ref W i g' 0 0
          have hgz : (g' == 0) = false := by simpa using (by omega : ¬ g' = 0)
          simp only [hgz, Bool.and_false] at heq
          have hkp := HI.out.kept i g' hn'
          obtain ⟨lo1, lo2, lo3⟩ := hkp.lost HR.out.ok
          have HLO := hid (And.intro lo1 (And.intro lo2 lo3)); have HNO := hid hkp.no
          have HHAS := hid (fun W (hk : Keeps (fun _ => False) wq W) => has26 _ G ⟨i, g'⟩ W (HRF.out.keeps hk (fun _ _ h => h)) (by have := HG.out; omega))
          rw [cnt_none hkp.no] at HHAS
          have HHP := hid (fun W (hk : Keeps (fun _ => False) wq W) => aheap_ok a LA D.s.A W (HK.out.same hk).pr.q.tr.both.ar)
          have HHS := hid (fun W b t (hh : HpAt W b t D.s.A.H) => hhas_any b t D.s.A.H i g' W hh)
          rw [hkp.there] at HHS
          have HSS := hid (fun W (hk : Keeps (fun _ => False) wq W) => And.intro (cell_keep f2 xl hk) (HK.out.same hk).cs)
          have hbeg := Fin.begin (g0 := G) HR.out.ok HI.out.sane.cl HP.out
          have hbo := (Col.begin_ok HR.out.ok HP.out).1
          have hbb : D.begin.C.begun = E + 2 := by
            have h := (Col.begin_cy HR.out.ok HP.out).2.1
            have h2 := HR.out.bg
            show D.C.begun + 1 = _
            omega
          have HASK := hid (fun W (h : KAt w0 W p a m b c LA LM B ⟨i, g'⟩ D G) => h.ask (by have := HR.out.bg; omega))
          rw [Col.ask_idle HP.out] at HASK
          have HENDS := hid (fun W (h : KAt w0 W p a m b c LA LM B ⟨i, g'⟩ D.begin G) => h.ends (fun k f => Fin D.s.lostS D.s.A.H.T.gn (fun j => (D.s.A.H.ob j).h) G k f) (fun _ _ h1 h2 => Fin.step h2 h1 true) (fun _ _ j h1 h2 => Fin.ack h2 h1 j) hbo (by omega) (by have := HG.out; omega) hbeg)
          clear hkp lo1 lo2 lo3 hbeg hbo hbb hn' hgz
          go_wp2_with fail
          refine (HED.out).mono ?_
          rintro e w' ⟨rfl, h'⟩
          obtain rfl := h'.symm
          go_wp2_with fail
          refine (HED.out).mono ?_
          rintro e w' ⟨rfl, h'⟩
          obtain rfl := h'.symm
          go_upto_region 38 with (fail)
          go_cut [204] (fun s204 wx => s204 = .bool false ∧ Keeps (fun _ => False) wq wx)
          case first =>
            go_region_held3 (fun W => W.cell? ⟨p, 2, none⟩ = some (.slice fx G.length fn) ∧ W.cell? ⟨p, 0, none⟩ = some (.pointer (some ⟨a, 0, none⟩)) ∧ W.cell? ⟨p, 1, none⟩ = some (.pointer (some ⟨c, 0, none⟩)) ∧ W.cell? ⟨B, 0, none⟩ = some (.int .i64 i) ∧ W.cell? ⟨B, 1, none⟩ = some (.int .u32 g'))
              ((refine HSS.out _ ?_; (repeat (first | with_reducible exact Keeps.refl _ _ | with_reducible refine Keeps.drewN ?_ _ | with_reducible refine Keeps.drew ?_ | with_reducible refine Keeps.trans ?_ (by with_reducible assumption)))))
              (first
                | (go_at_call 58; refine (HHAS.out _ (by (repeat (first | with_reducible exact Keeps.refl _ _ | with_reducible refine Keeps.drewN ?_ _ | with_reducible refine Keeps.drew ?_ | with_reducible refine Keeps.trans ?_ (by with_reducible assumption))))).mono ?_; rintro e w21 ⟨rfl, k21⟩)
                | (go_at_call 12; refine (HHP.out _ (by (repeat (first | with_reducible exact Keeps.refl _ _ | with_reducible refine Keeps.drewN ?_ _ | with_reducible refine Keeps.drew ?_ | with_reducible refine Keeps.trans ?_ (by with_reducible assumption))))).mono ?_; rintro e w22 ⟨b', t', rfl, k22, _, _, hh⟩)
                | (go_at_call 59; refine (HHS.out _ b' t' (hh.keeps (S := fun _ => False) (by (repeat (first | with_reducible exact Keeps.refl _ _ | with_reducible refine Keeps.drewN ?_ _ | with_reducible refine Keeps.drew ?_))) (fun h => h) (fun h => h))).mono ?_; rintro e w23 ⟨rfl, k23⟩))
            all_goals
              go_wp2_with fail
              go_meet
              refine ⟨rfl, ?_⟩
              repeat (first | with_reducible exact Keeps.refl _ _ | with_reducible refine Keeps.drewN ?_ _ | with_reducible refine Keeps.drew ?_ | with_reducible refine Keeps.trans ?_ (by with_reducible assumption))
          case rest =>
          obtain ⟨rfl, hkc⟩ := hcut
          have HKC := hid (HK.out.same hkc)
          obtain ⟨wv, hwv⟩ : ∃ wv, wc = wv := ⟨_, rfl⟩
          rw [hwv] at HKC ⊢
          clear hkc hwv x0 x1 xl q0 q1 ql f2 f3 HSS HHS HHP HHAS HED
          obtain ⟨x0, x1, q0, q1⟩ := HKC.out.cs
          go_upto_region 40 with (fail)
          go_cut [12] (fun s12 wx => s12 = .bool true ∧ Keeps (fun _ => False) w0 wx)
          case first =>
            refine wp_region_noPanic ?_
            refine wp_region_held_drew (S := (fun W => W.cell? ⟨p, 0, none⟩ = some (.pointer (some ⟨a, 0, none⟩)) ∧ W.cell? ⟨p, 1, none⟩ = some (.pointer (some ⟨c, 0, none⟩)) ∧ W.cell? ⟨B, 0, none⟩ = some (.int .i64 i) ∧ W.cell? ⟨B, 1, none⟩ = some (.int .u32 g'))) (by kernel_rfl) ?_ (fun hHeld => ?_)
            · exact ⟨x0, x1, q0, q1⟩
            refine wpAnyH_take (i := 0) (v := ?_) rfl (by kernel_rfl) (by kernel_rfl) (by kernel_rfl) (fun _ _ _ h => h) (Or.inl ⟨by rfl, ?_⟩) (by assumption) ?_
            rotate_left
            · (intro w hSw; (try dsimp only at hSw); simp only [List.getElem_toArray, List.getElem_cons_zero, List.getElem_cons_succ]; go_simp; (first | done | with_reducible rfl))
            simp only [List.getElem_toArray, List.getElem_cons_zero, List.getElem_cons_succ, Act.put, List.setIfInBounds_toArray, List.set_cons_zero, List.set_cons_succ]
            refine wpAnyH_take (i := 1) (v := ?_) rfl (by kernel_rfl) (by kernel_rfl) (by kernel_rfl) (fun _ _ _ h => h) (Or.inl ⟨by rfl, ?_⟩) (by assumption) ?_
            rotate_left
            · (intro w hSw; (try dsimp only at hSw); simp only [List.getElem_toArray, List.getElem_cons_zero, List.getElem_cons_succ]; go_simp; (first | done | with_reducible rfl))
            simp only [List.getElem_toArray, List.getElem_cons_zero, List.getElem_cons_succ, Act.put, List.setIfInBounds_toArray, List.set_cons_zero, List.set_cons_succ]
            refine wpAnyH_take (i := 2) (v := ?_) rfl (by kernel_rfl) (by kernel_rfl) (by kernel_rfl) (fun _ _ _ h => h) (Or.inl ⟨by rfl, ?_⟩) (by assumption) ?_
            rotate_left
            · (intro w hSw; (try dsimp only at hSw); simp only [List.getElem_toArray, List.getElem_cons_zero, List.getElem_cons_succ]; go_simp; (first | done | with_reducible rfl))
            simp only [List.getElem_toArray, List.getElem_cons_zero, List.getElem_cons_succ, Act.put, List.setIfInBounds_toArray, List.set_cons_zero, List.set_cons_succ]
            refine wpAnyH_take (i := 3) (v := ?_) rfl (by kernel_rfl) (by kernel_rfl) (by kernel_rfl) (fun _ _ _ h => h) (Or.inl ⟨by rfl, ?_⟩) (by assumption) ?_
            rotate_left
            · (intro w hSw; (try dsimp only at hSw); simp only [List.getElem_toArray, List.getElem_cons_zero, List.getElem_cons_succ]; go_simp; (first | done | with_reducible rfl))
            simp only [List.getElem_toArray, List.getElem_cons_zero, List.getElem_cons_succ, Act.put, List.setIfInBounds_toArray, List.set_cons_zero, List.set_cons_succ]
            refine wpAnyH_ready (rs := [4]) (by kernel_rfl) (by simp) ?_
            refine AllReadyH.cons rfl (fun K hK => ?_) ?_
            rotate_left
            · exact AllReadyH.nil
            go_simp
            go_at_call 40; refine (HASK.out _ (HKC.out.same (by (repeat (first | with_reducible exact Keeps.refl _ _ | with_reducible refine Keeps.drewN ?_ _ | with_reducible refine Keeps.drew ?_))))).mono ?_; rintro e w20 ⟨rfl, ha20⟩
            refine hK.out _ _ ?_ (fun hHeld => ?_)
            · exact ha20.cs
            clear hK K
            try dsimp only [Act.put, List.setIfInBounds_toArray, List.set_cons_zero, List.set_cons_succ]
            refine wpAnyH_take (i := 5) (v := ?_) rfl (by kernel_rfl) (by kernel_rfl) (by kernel_rfl) (fun _ _ _ h => h) (Or.inl ⟨by rfl, ?_⟩) (by assumption) ?_
            rotate_left
            · (intro w hSw; (try dsimp only at hSw); simp only [List.getElem_toArray, List.getElem_cons_zero, List.getElem_cons_succ]; go_simp; (first | done | with_reducible rfl))
            simp only [List.getElem_toArray, List.getElem_cons_zero, List.getElem_cons_succ, Act.put, List.setIfInBounds_toArray, List.set_cons_zero, List.set_cons_succ]
            refine wpAnyH_take (i := 6) (v := ?_) rfl (by kernel_rfl) (by kernel_rfl) (by kernel_rfl) (fun _ _ _ h => h) (Or.inl ⟨by rfl, ?_⟩) (by assumption) ?_
            rotate_left
            · (intro w hSw; (try dsimp only at hSw); simp only [List.getElem_toArray, List.getElem_cons_zero, List.getElem_cons_succ]; go_simp; (first | done | with_reducible rfl))
            simp only [List.getElem_toArray, List.getElem_cons_zero, List.getElem_cons_succ, Act.put, List.setIfInBounds_toArray, List.set_cons_zero, List.set_cons_succ]
            refine wpAnyH_ready (rs := [7]) (by kernel_rfl) (by simp) ?_
            refine AllReadyH.cons rfl (fun K hK => ?_) ?_
            rotate_left
            · exact AllReadyH.nil
            go_simp
            go_at_call 48; refine (HENDS.out _ (ha20.same (by (repeat (first | with_reducible exact Keeps.refl _ _ | with_reducible refine Keeps.drewN ?_ _ | with_reducible refine Keeps.drew ?_))))).mono ?_; rintro e w21 ⟨d2, g2, rfl, hph2, hfin2, hgl2, ha21⟩; obtain ⟨hct2, hno2⟩ := hfin2.found hph2 HLO.out.1 HLO.out.2.2 HLO.out.2.1 HNO.out; obtain ⟨fx2, fn2, f22, hrf2, f23⟩ := ha21.pr.found
            refine hK.out _ _ ?_ (fun hHeld => ?_)
            · exact ha21.cs
            clear hK K
            try dsimp only [Act.put, List.setIfInBounds_toArray, List.set_cons_zero, List.set_cons_succ]
            refine wpAnyH_take (i := 8) (v := ?_) rfl (by kernel_rfl) (by kernel_rfl) (by kernel_rfl) (fun _ _ _ h => h) (Or.inl ⟨by rfl, ?_⟩) (by assumption) ?_
            rotate_left
            · (intro w hSw; (try dsimp only at hSw); simp only [List.getElem_toArray, List.getElem_cons_zero, List.getElem_cons_succ]; go_simp; (first | done | with_reducible rfl))
            simp only [List.getElem_toArray, List.getElem_cons_zero, List.getElem_cons_succ, Act.put, List.setIfInBounds_toArray, List.set_cons_zero, List.set_cons_succ]
            refine wpAnyH_take (i := 9) (v := ?_) rfl (by kernel_rfl) (by kernel_rfl) (by kernel_rfl) (fun _ _ _ h => h) (Or.inl ⟨by rfl, ?_⟩) (by assumption) ?_
            rotate_left
            · (intro w hSw; (try dsimp only at hSw); simp only [List.getElem_toArray, List.getElem_cons_zero, List.getElem_cons_succ]; go_simp; (first | done | with_reducible rfl))
            simp only [List.getElem_toArray, List.getElem_cons_zero, List.getElem_cons_succ, Act.put, List.setIfInBounds_toArray, List.set_cons_zero, List.set_cons_succ]
            refine wpAnyH_take (i := 10) (v := ?_) rfl (by kernel_rfl) (by kernel_rfl) (by kernel_rfl) (fun _ _ _ h => h) (Or.inl ⟨by rfl, ?_⟩) (by assumption) ?_
            rotate_left
            · (intro w hSw; (try dsimp only at hSw); simp only [List.getElem_toArray, List.getElem_cons_zero, List.getElem_cons_succ]; go_simp; (first | done | with_reducible rfl))
            simp only [List.getElem_toArray, List.getElem_cons_zero, List.getElem_cons_succ, Act.put, List.setIfInBounds_toArray, List.set_cons_zero, List.set_cons_succ]
            refine wpAnyH_take (i := 11) (v := ?_) rfl (by kernel_rfl) (by kernel_rfl) (by kernel_rfl) (fun _ _ _ h => h) (Or.inl ⟨by rfl, ?_⟩) (by assumption) ?_
            rotate_left
            · (intro w hSw; (try dsimp only at hSw); simp only [List.getElem_toArray, List.getElem_cons_zero, List.getElem_cons_succ]; go_simp; (first | done | with_reducible rfl))
            simp only [List.getElem_toArray, List.getElem_cons_zero, List.getElem_cons_succ, Act.put, List.setIfInBounds_toArray, List.set_cons_zero, List.set_cons_succ]
            refine wpAnyH_take (i := 12) (v := ?_) rfl (by kernel_rfl) (by kernel_rfl) (by kernel_rfl) (fun _ _ _ h => h) (Or.inl ⟨by rfl, ?_⟩) (by assumption) ?_
            rotate_left
            · (intro w hSw; (try dsimp only at hSw); simp only [List.getElem_toArray, List.getElem_cons_zero, List.getElem_cons_succ]; go_simp; (first | done | with_reducible rfl))
            simp only [List.getElem_toArray, List.getElem_cons_zero, List.getElem_cons_succ, Act.put, List.setIfInBounds_toArray, List.set_cons_zero, List.set_cons_succ]
            refine wpAnyH_take (i := 14) (v := ?_) rfl (by kernel_rfl) (by kernel_rfl) (by kernel_rfl) (fun _ _ _ h => h) (Or.inl ⟨by rfl, ?_⟩) (by assumption) ?_
            rotate_left
            · (intro w hSw; (try dsimp only at hSw); simp only [List.getElem_toArray, List.getElem_cons_zero, List.getElem_cons_succ]; go_simp; (first | done | with_reducible rfl))
            simp only [List.getElem_toArray, List.getElem_cons_zero, List.getElem_cons_succ, Act.put, List.setIfInBounds_toArray, List.set_cons_zero, List.set_cons_succ]
            refine wpAnyH_ready (rs := [13]) (by kernel_rfl) (by simp) ?_
            refine AllReadyH.cons rfl (fun K hK => ?_) ?_
            rotate_left
            · exact AllReadyH.nil
            go_simp
            refine hK.out _ _ ?_ (fun hHeld => ?_)
            · exact ha21.cs
            clear hK K
            try dsimp only [Act.put, List.setIfInBounds_toArray, List.set_cons_zero, List.set_cons_succ]
            refine wpAnyH_ready (rs := [15]) (by kernel_rfl) (by simp) ?_
            refine AllReadyH.cons rfl (fun K hK => ?_) ?_
            rotate_left
            · exact AllReadyH.nil
            go_simp
            go_at_call 58; refine (has26 _ g2 ⟨i, g'⟩ _ (hrf2.keeps (S := fun _ => False) (by (repeat (first | with_reducible exact Keeps.refl _ _ | with_reducible refine Keeps.drewN ?_ _ | with_reducible refine Keeps.drew ?_))) (fun _ _ h => h)) hgl2).mono ?_; rw [hct2]; rintro e w22 ⟨rfl, k22⟩; have ha22 := ha21.same (Keeps.trans (S := fun _ => False) (by (repeat (first | with_reducible exact Keeps.refl _ _ | with_reducible refine Keeps.drewN ?_ _ | with_reducible refine Keeps.drew ?_))) k22)
            refine hK.out _ _ ?_ (fun hHeld => ?_)
            · exact ha22.cs
            clear hK K
            try dsimp only [Act.put, List.setIfInBounds_toArray, List.set_cons_zero, List.set_cons_succ]
            refine wpAnyH_take (i := 16) (v := ?_) rfl (by kernel_rfl) (by kernel_rfl) (by kernel_rfl) (fun _ _ _ h => h) (Or.inl ⟨by rfl, ?_⟩) (by assumption) ?_
            rotate_left
            · (intro w hSw; (try dsimp only at hSw); simp only [List.getElem_toArray, List.getElem_cons_zero, List.getElem_cons_succ]; go_simp; (first | done | with_reducible rfl))
            simp only [List.getElem_toArray, List.getElem_cons_zero, List.getElem_cons_succ, Act.put, List.setIfInBounds_toArray, List.set_cons_zero, List.set_cons_succ]
            refine wpAnyH_take (i := 17) (v := ?_) rfl (by kernel_rfl) (by kernel_rfl) (by kernel_rfl) (fun _ _ _ h => h) (Or.inl ⟨by rfl, ?_⟩) (by assumption) ?_
            rotate_left
            · (intro w hSw; (try dsimp only at hSw); simp only [List.getElem_toArray, List.getElem_cons_zero, List.getElem_cons_succ]; go_simp; (first | done | with_reducible rfl))
            simp only [List.getElem_toArray, List.getElem_cons_zero, List.getElem_cons_succ, Act.put, List.setIfInBounds_toArray, List.set_cons_zero, List.set_cons_succ]
            refine wpAnyH_take (i := 18) (v := ?_) rfl (by kernel_rfl) (by kernel_rfl) (by kernel_rfl) (fun _ _ _ h => h) (Or.inl ⟨by rfl, ?_⟩) (by assumption) ?_
            rotate_left
            · (intro w hSw; (try dsimp only at hSw); simp only [List.getElem_toArray, List.getElem_cons_zero, List.getElem_cons_succ]; go_simp; (first | done | with_reducible rfl))
            simp only [List.getElem_toArray, List.getElem_cons_zero, List.getElem_cons_succ, Act.put, List.setIfInBounds_toArray, List.set_cons_zero, List.set_cons_succ]
            refine wpAnyH_take (i := 19) (v := ?_) rfl (by kernel_rfl) (by kernel_rfl) (by kernel_rfl) (fun _ _ _ h => h) (Or.inl ⟨by rfl, ?_⟩) (by assumption) ?_
            rotate_left
            · (intro w hSw; (try dsimp only at hSw); simp only [List.getElem_toArray, List.getElem_cons_zero, List.getElem_cons_succ]; go_simp; (first | done | with_reducible rfl))
            simp only [List.getElem_toArray, List.getElem_cons_zero, List.getElem_cons_succ, Act.put, List.setIfInBounds_toArray, List.set_cons_zero, List.set_cons_succ]
            refine wpAnyH_take (i := 20) (v := ?_) rfl (by kernel_rfl) (by kernel_rfl) (by kernel_rfl) (fun _ _ _ h => h) (Or.inl ⟨by rfl, ?_⟩) (by assumption) ?_
            rotate_left
            · (intro w hSw; (try dsimp only at hSw); simp only [List.getElem_toArray, List.getElem_cons_zero, List.getElem_cons_succ]; go_simp; (first | done | with_reducible rfl))
            simp only [List.getElem_toArray, List.getElem_cons_zero, List.getElem_cons_succ, Act.put, List.setIfInBounds_toArray, List.set_cons_zero, List.set_cons_succ]
            refine wpAnyH_take (i := 21) (v := ?_) rfl (by kernel_rfl) (by kernel_rfl) (by kernel_rfl) (fun _ _ _ h => h) (Or.inl ⟨by rfl, ?_⟩) (by assumption) ?_
            rotate_left
            · (intro w hSw; (try dsimp only at hSw); simp only [List.getElem_toArray, List.getElem_cons_zero, List.getElem_cons_succ]; go_simp; (first | done | with_reducible rfl))
            simp only [List.getElem_toArray, List.getElem_cons_zero, List.getElem_cons_succ, Act.put, List.setIfInBounds_toArray, List.set_cons_zero, List.set_cons_succ]
            refine wpAnyH_take (i := 22) (v := ?_) rfl (by kernel_rfl) (by kernel_rfl) (by kernel_rfl) (fun _ _ _ h => h) (Or.inl ⟨by rfl, ?_⟩) (by assumption) ?_
            rotate_left
            · (intro w hSw; (try dsimp only at hSw); simp only [List.getElem_toArray, List.getElem_cons_zero, List.getElem_cons_succ]; go_simp; (first | done | with_reducible rfl))
            simp only [List.getElem_toArray, List.getElem_cons_zero, List.getElem_cons_succ, Act.put, List.setIfInBounds_toArray, List.set_cons_zero, List.set_cons_succ]
            refine wpAnyH_take (i := 24) (v := ?_) rfl (by kernel_rfl) (by kernel_rfl) (by kernel_rfl) (fun _ _ _ h => h) (Or.inl ⟨by rfl, ?_⟩) (by assumption) ?_
            rotate_left
            · (intro w hSw; (try dsimp only at hSw); simp only [List.getElem_toArray, List.getElem_cons_zero, List.getElem_cons_succ]; go_simp; (first | done | with_reducible rfl))
            simp only [List.getElem_toArray, List.getElem_cons_zero, List.getElem_cons_succ, Act.put, List.setIfInBounds_toArray, List.set_cons_zero, List.set_cons_succ]
            refine wpAnyH_ready (rs := [23]) (by kernel_rfl) (by simp) ?_
            refine AllReadyH.cons rfl (fun K hK => ?_) ?_
            rotate_left
            · exact AllReadyH.nil
            go_simp
            go_at_call 12; refine (aheap_ok a LA d2.s.A _ (ha22.same (by (repeat (first | with_reducible exact Keeps.refl _ _ | with_reducible refine Keeps.drewN ?_ _ | with_reducible refine Keeps.drew ?_)))).pr.q.tr.both.ar).mono ?_; rintro e w23 ⟨b', t', rfl, k23, _, _, hh⟩; have ha23 := ha22.same (Keeps.trans (S := fun _ => False) (by (repeat (first | with_reducible exact Keeps.refl _ _ | with_reducible refine Keeps.drewN ?_ _ | with_reducible refine Keeps.drew ?_))) k23)
            refine hK.out _ _ ?_ (fun hHeld => ?_)
            · exact ha23.cs
            clear hK K
            try dsimp only [Act.put, List.setIfInBounds_toArray, List.set_cons_zero, List.set_cons_succ]
            refine wpAnyH_ready (rs := [25]) (by kernel_rfl) (by simp) ?_
            refine AllReadyH.cons rfl (fun K hK => ?_) ?_
            rotate_left
            · exact AllReadyH.nil
            go_simp
            go_at_call 59; refine (hhas_any b' t' d2.s.A.H i g' _ (hh.keeps (S := fun _ => False) (by (repeat (first | with_reducible exact Keeps.refl _ _ | with_reducible refine Keeps.drewN ?_ _ | with_reducible refine Keeps.drew ?_))) (fun h => h) (fun h => h))).mono ?_; rw [hno2]; rintro e w24 ⟨rfl, k24⟩; have ha24 := ha23.same (Keeps.trans (S := fun _ => False) (by (repeat (first | with_reducible exact Keeps.refl _ _ | with_reducible refine Keeps.drewN ?_ _ | with_reducible refine Keeps.drew ?_))) k24)
            refine hK.out _ _ ?_ (fun hHeld => ?_)
            · exact ha24.cs
            clear hK K
            try dsimp only [Act.put, List.setIfInBounds_toArray, List.set_cons_zero, List.set_cons_succ]
            refine wpAnyH_take (i := 26) (v := ?_) rfl (by kernel_rfl) (by kernel_rfl) (by kernel_rfl) (fun _ _ _ h => h) (Or.inl ⟨by rfl, ?_⟩) (by assumption) ?_
            rotate_left
            · (intro w hSw; (try dsimp only at hSw); simp only [List.getElem_toArray, List.getElem_cons_zero, List.getElem_cons_succ]; go_simp; (first | done | with_reducible rfl))
            simp only [List.getElem_toArray, List.getElem_cons_zero, List.getElem_cons_succ, Act.put, List.setIfInBounds_toArray, List.set_cons_zero, List.set_cons_succ]
            refine wpAnyH_take (i := 27) (v := ?_) rfl (by kernel_rfl) (by kernel_rfl) (by kernel_rfl) (fun _ _ _ h => h) (Or.inl ⟨by rfl, ?_⟩) (by assumption) ?_
            rotate_left
            · (intro w hSw; (try dsimp only at hSw); simp only [List.getElem_toArray, List.getElem_cons_zero, List.getElem_cons_succ]; go_simp; (first | done | with_reducible rfl))
            simp only [List.getElem_toArray, List.getElem_cons_zero, List.getElem_cons_succ, Act.put, List.setIfInBounds_toArray, List.set_cons_zero, List.set_cons_succ]
            refine wpAnyH_take (i := 28) (v := ?_) rfl (by kernel_rfl) (by kernel_rfl) (by kernel_rfl) (fun _ _ _ h => h) (Or.inl ⟨by rfl, ?_⟩) (by assumption) ?_
            rotate_left
            · (intro w hSw; (try dsimp only at hSw); simp only [List.getElem_toArray, List.getElem_cons_zero, List.getElem_cons_succ]; go_simp; (first | done | with_reducible rfl))
            simp only [List.getElem_toArray, List.getElem_cons_zero, List.getElem_cons_succ, Act.put, List.setIfInBounds_toArray, List.set_cons_zero, List.set_cons_succ]
            refine wpAnyH_ready (rs := [29]) (by kernel_rfl) (by simp) ?_
            refine AllReadyH.cons rfl (fun K hK => ?_) ?_
            rotate_left
            · exact AllReadyH.nil
            go_simp
            go_at_call 44; refine (works26 _).mono ?_; rintro e w25 ⟨rfl, k25⟩; have ha25 := ha24.same (Keeps.trans (S := fun _ => False) (by (repeat (first | with_reducible exact Keeps.refl _ _ | with_reducible refine Keeps.drewN ?_ _ | with_reducible refine Keeps.drew ?_))) k25)
            refine hK.out _ _ ?_ (fun hHeld => ?_)
            · exact ha25.cs
            clear hK K
            try dsimp only [Act.put, List.setIfInBounds_toArray, List.set_cons_zero, List.set_cons_succ]
            refine wpAnyH_take (i := 30) (v := ?_) rfl (by kernel_rfl) (by kernel_rfl) (by kernel_rfl) (fun _ _ _ h => h) (Or.inl ⟨by rfl, ?_⟩) (by assumption) ?_
            rotate_left
            · (intro w hSw; (try dsimp only at hSw); simp only [List.getElem_toArray, List.getElem_cons_zero, List.getElem_cons_succ]; go_simp; (first | done | with_reducible rfl))
            simp only [List.getElem_toArray, List.getElem_cons_zero, List.getElem_cons_succ, Act.put, List.setIfInBounds_toArray, List.set_cons_zero, List.set_cons_succ]
            refine wpAnyH_take (i := 31) (v := ?_) rfl (by kernel_rfl) (by kernel_rfl) (by kernel_rfl) (fun _ _ _ h => h) (Or.inl ⟨by rfl, ?_⟩) (by assumption) ?_
            rotate_left
            · (intro w hSw; (try dsimp only at hSw); simp only [List.getElem_toArray, List.getElem_cons_zero, List.getElem_cons_succ]; go_simp; (first | done | with_reducible rfl))
            simp only [List.getElem_toArray, List.getElem_cons_zero, List.getElem_cons_succ, Act.put, List.setIfInBounds_toArray, List.set_cons_zero, List.set_cons_succ]
            refine wpAnyH_done (by kernel_rfl) ?_ _
            refine NoPanic.normal ?_
            all_goals
              go_wp2_with fail
              go_meet
              exact ⟨rfl, ha25.pr.kp⟩
          case rest =>
          obtain ⟨rfl, hkf⟩ := hcut
          go_wp2_with fail
          go_ret
          exact ⟨rfl, HK0.out.trans hkf⟩
      · obtain ⟨o1, o2⟩ := hr.on hp
        have hmu := Col.mu_pos hr.ok hp
        have HED := hid (cyended HK.out.pr.q)
        rw [o1] at HED
        have HPH := hid (cyphase HK.out.pr.q)
        have HP := hid hp
        have htl : t < 3 * n + 3 := by omega
        obtain ⟨x0, x1, xl⟩ := pair_cells HK.out.pr
        obtain ⟨q0, q1, _, ql⟩ := cells2 HK.out.rb
        obtain ⟨ph, hph⟩ : ∃ ph, D.s.M.K.ph = ph := ⟨_, rfl⟩
        rw [hph] at HPH
        have HPE := hid hph
        clear hr hp hDm hin hgl hmu o1 o2 hph
        obtain ⟨bt, hbt⟩ : ∃ bt, decide ((kk ≤ t ∧ rr = none) ∧ 2 ≤ ph) = bt := ⟨_, rfl⟩
        have HBT := hid hbt; have HRR := hid hrr
        clear hbt hrr
        obtain ⟨wz, hwz⟩ : ∃ wz, wr = wz := ⟨_, rfl⟩
        rw [hwz] at HED HPH HK x0 x1 xl q0 q1 ql ⊢
        clear hwz
        go_wp2_with fail
        refine (HED.out).mono ?_
        rintro e w' ⟨rfl, h'⟩
        obtain rfl := h'.symm
        go_upto_region 19 with (fail)
        go_cut [115] (fun s115 wx => s115 = .bool bt ∧ wx = wz)
        case first =>
          by_cases hkt : kk ≤ t
          · have hkt' : (kk : Int) ≤ (t : Int) := by omega
            rcases HRR.out with ⟨hn', hr'⟩ | ⟨i, g', hn', hr', hg1⟩
            · rw [hr'] at q0 q1
              have q0' : wz.cell? ⟨B, 0, none⟩ = some (.int .i64 0) := q0
              have q1' : wz.cell? ⟨B, 1, none⟩ = some (.int .u32 0) := q1
              have heq := fun W => eql_ref W 0 0 0 0
              have hb2 : decide (2 ≤ ph) = bt := by rw [← HBT.out]; simp [hkt, hn']
              clear q0 q1
              by_cases h2 : 2 ≤ ph
              · have h2' : (2 : Int) ≤ (ph : Int) := by omega
                rw [decide_eq_true h2] at hb2
                subst hb2
                clear hkt h2 hn' hr'
                go_wp2_with fail
                refine (HPH.out).mono ?_
                rintro e w' ⟨rfl, h'⟩
                obtain rfl := h'.symm
                go_wp2_with fail
                go_meet
                exact ⟨rfl, rfl⟩
              · have h2' : ¬ (2 : Int) ≤ (ph : Int) := by omega
                rw [decide_eq_false h2] at hb2
                subst hb2
                clear hkt h2 hn' hr'
                go_wp2_with fail
                refine (HPH.out).mono ?_
                rintro e w' ⟨rfl, h'⟩
                obtain rfl := h'.symm
                go_wp2_with fail
                go_meet
                exact ⟨congrArg Value.bool (decide_eq_false (by omega)), rfl⟩
            · rw [hr'] at q0 q1
              have heq := fun W => eql_ref W i g' 0 0
              have hgz : (g' == 0) = false := by simpa using (by omega : ¬ g' = 0)
              simp only [hgz, Bool.and_false] at heq
              have hb2 : bt = false := by rw [← HBT.out]; simp [hn']
              subst hb2
              clear hkt hn' hr'
              go_wp2_with fail
              go_meet
              exact ⟨rfl, rfl⟩
          · have hkt' : ¬ (kk : Int) ≤ (t : Int) := by omega
            have hb2 : bt = false := by rw [← HBT.out]; simp [hkt]
            subst hb2
            clear hkt
            go_wp2_with fail
            go_meet
            exact ⟨rfl, rfl⟩
        case rest =>
        obtain ⟨rfl, hwx⟩ := hcut
        obtain rfl := hwx
        go_upto_if 115 with (fail)
        go_cut [115] (fun s115 wx => ∃ (D' : Col) (rr' : Option (Nat × Int)) (r' : Rf), Runs E n false D' t ∧ D'.s.M.K.ph ≠ 0 ∧ D'.s.M.K.many = ms ∧ In rr' D' G ∧ RR rr' r' ∧ KAt w0 wx p a m b c LA LM B r' D' G)
        case first =>
          cases bt
          · go_wp2_with fail
            go_meet
            exact ⟨D, rr, r, HR.out, HP.out, HDM.out, HI.out, HRR.out, HK.out⟩
          · have hb := of_decide_eq_true HBT.out
            obtain ⟨⟨hkt, hn'⟩, h2⟩ := hb
            have hr' : r = .no := by
              rcases HRR.out with ⟨_, h⟩ | ⟨i, g', h, _⟩
              · exact h
              · rw [hn'] at h; cases h
            subst hn'
            subst hr'
            rw [← HPE.out] at h2
            have HMK := hid (pmake HK.out.pr.q HR.out.ok)
            clear hkt
            go_wp2_with fail
            refine HMK.out.mono ?_
            rintro e w8 ⟨rfl, hq8, hk8⟩
            have ha8 := HK.out.keep hk8 hq8
            by_cases he : (D.s.A.makeR 0 0 true).e = 0
            · obtain ⟨i, g', hR, hst, hgn, hi, h1⟩ := make_ok HR.out.ok.s he
              obtain ⟨l1, l2, l3, l4, l5, l6⟩ := late_ok HR.out HI.out h2 hR hst hgn hi h1
              rw [hR] at ha8 ⊢
              dsimp only [Rf.val] at ha8 ⊢
              obtain ⟨A1, hA1⟩ : ∃ A1, D.s.A.made 0 i g' (Ob.new 0 true) = A1 := ⟨_, rfl⟩
              have hm1 : 0 < A1.many := by
                rw [← hA1]
                have := HR.out.ok.s.k; have := HDM.out
                show 0 < D.s.A.many
                omega
              have hlate : D.late i g' = ⟨⟨(A1.dropR 0 (((A1.rt 0).n : Nat) - 1 : Int)).A, (D.s.M.madeR ⟨i, g'⟩).1⟩, D.C⟩ := by unfold Col.late; rw [hA1]
              rw [hA1] at ha8 l6
              have HL6 := hid l6
              have HL1 := hid l1; have HL2 := hid l2; have HL3 := hid l3; have HL4 := hid l4; have HLT := hid hlate; have HM1 := hid hm1; have HG1 := hid h1
              obtain ⟨w9, hw9⟩ : ∃ w9, w8.alloc (.cells #[.int .i64 i, .int .u32 g'] 38) = w9 := ⟨_, rfl⟩
              obtain ⟨T, hT⟩ : ∃ T, w8.heap.size = T := ⟨_, rfl⟩
              have k9 : Keeps (fun _ => False) w8 w9 := by rw [← hw9]; exact (Keeps.refl _ _).alloc _
              have q9 : w9.heap[T]? = some (.cells #[.int .i64 i, .int .u32 g'] 38) := by rw [← hw9, ← hT]; exact alloc_new
              have HA9 := hid (ha8.same k9)
              have HQ9 := hid q9
              have HW9 := hid hw9; have HT9 := hid hT
              have HMK2 := hid (fun W (h : KAt w0 W p a m b c LA LM B .no ⟨⟨A1, D.s.M⟩, D.C⟩ G) => cymarker h.pr.q)
              have HMD := hid (fun W (h : KAt w0 W p a m b c LA LM B .no ⟨⟨A1, D.s.M⟩, D.C⟩ G) => h.pr.q.made ⟨i, g'⟩)
              rw [l5] at HMD
              clear he hR hst hgn hi l1 l2 l3 l4 l5 l6 hA1 hm1 hlate hq8 hk8 ha8 k9 q9 hw9 hT h1 x0 x1 xl q0 q1 ql h2 HMK
              go_upto_region 22 with (fail)
              rw [HW9.out, HT9.out]
              obtain ⟨x0, x1, xl⟩ := pair_cells HA9.out.pr
              obtain ⟨q0, q1, _, ql⟩ := cells2 HQ9.out
              go_cut [133] (fun s133 wx => s133 = .bool false ∧ KAt w0 wx p a m b c LA LM B .no ⟨⟨A1, (D.s.M.madeR ⟨i, g'⟩).1⟩, D.C⟩ G ∧ wx.heap[T]? = some (.cells #[.int .i64 i, .int .u32 g'] 38))
              case first =>
                go_region_held3 (fun W => W.cell? ⟨p, 1, none⟩ = some (.pointer (some ⟨c, 0, none⟩)) ∧ W.cell? ⟨T, 0, none⟩ = some (.int .i64 i) ∧ W.cell? ⟨T, 1, none⟩ = some (.int .u32 g'))
                  ((first | exact ⟨x1, q0, q1⟩ | exact ⟨(pair_cells (HA9.out.keep hk12 hq11).pr).2.1, (cells2 (block_keep HQ9.out hk12 (HA9.out.pr.q.rowfoot HQ9.out))).1, (cells2 (block_keep HQ9.out hk12 (HA9.out.pr.q.rowfoot HQ9.out))).2.1⟩))
                  (first
                    | (go_at_call 54; refine (HMK2.out _ (HA9.out.same (by (repeat (first | with_reducible exact Keeps.refl _ _ | with_reducible refine Keeps.drewN ?_ _ | with_reducible refine Keeps.drew ?_))))).mono ?_; rintro e w10 ⟨rfl, rfl⟩)
                    | (go_at_call 55; refine (HMD.out _ (HA9.out.same (by (repeat (first | with_reducible exact Keeps.refl _ _ | with_reducible refine Keeps.drewN ?_ _ | with_reducible refine Keeps.drew ?_))))).mono ?_; rintro e w11 ⟨rfl, hq11, hk11⟩; have hk12 : Keeps (foot3 LA LM b c ⟨A1, D.s.M⟩) w9 w11 := Keeps.trans (by (repeat (first | with_reducible exact Keeps.refl _ _ | with_reducible refine Keeps.drewN ?_ _ | with_reducible refine Keeps.drew ?_))) hk11))
                all_goals
                  go_wp2_with fail
                  go_meet
                  exact ⟨rfl, HA9.out.keep hk12 hq11, block_keep HQ9.out hk12 (HA9.out.pr.q.rowfoot HQ9.out)⟩
              case rest =>
              obtain ⟨rfl, ha10, hq10⟩ := hcut
              obtain ⟨wm, hwm⟩ : ∃ wm, wc = wm := ⟨_, rfl⟩
              rw [hwm] at ha10 hq10 ⊢
              have HA10 := hid ha10; have HQ10 := hid hq10
              clear ha10 hq10 hwm x0 x1 xl q0 q1 ql HMK2 HMD HA9 HQ9 HW9
              obtain ⟨x0, x1, xl⟩ := pair_cells HA10.out.pr
              have HSA := hid (astackall_ok a LA A1 0 wm HA10.out.pr.q.tr.both.ar HM1.out)
              go_wp2_with fail
              refine HSA.out.mono ?_
              rintro e w13 ⟨vs, rfl, hrs, k13⟩
              obtain ⟨ax, cx, e13⟩ := hrs.refs.slice
              subst e13
              have hln : (A1.rt 0).l.length = (A1.rt 0).n := by simp [Sk.l]
              have HN1 := hid (fun W (h : KAt w0 W p a m b c LA LM B .no ⟨⟨A1, (D.s.M.madeR ⟨i, g'⟩).1⟩, D.C⟩ G) => pdrop (k := ⟨⟨A1, (D.s.M.madeR ⟨i, g'⟩).1⟩, D.C⟩) h.pr.q (((A1.rt 0).n : Nat) - 1 : Int))
              have HA13 := hid (HA10.out.same k13)
              have HQ13 := hid (block_keep HQ10.out k13 (fun h => h))
              rw [hln]
              clear hrs k13 hln HSA HA10 HQ10 x0 x1 xl
              obtain ⟨x0, x1, xl⟩ := pair_cells HA13.out.pr
              obtain ⟨nn, hnn⟩ : ∃ nn, (A1.rt 0).n = nn := ⟨_, rfl⟩
              have HNN := hid hnn
              have hnn2 : (nn : Int) ≤ 33 := by have := HL6.out; omega
              have hnn0 : (0 : Int) ≤ nn := by omega
              rw [hnn] at HN1 ⊢
              clear hnn
              go_wp2_with fail
              refine (HN1.out _ HA13.out).mono ?_
              rintro e w14 ⟨⟨v14, x14, rfl⟩, hq14, hk14⟩
              have HA14 := hid (HA13.out.keep hk14 hq14)
              have HQ14 := hid (block_keep HQ13.out hk14 (HA13.out.pr.q.rowfoot HQ13.out))
              clear hq14 hk14 x0 x1 xl HN1 HA13 HQ13
              obtain ⟨q0, q1, _, ql⟩ := cells2 HQ14.out
              obtain ⟨y0, y1, yf, yl⟩ := cells2 HA14.out.rb
              have yf0 := yf 0; have yf1 := yf 1
              clear yf
              go_wp2_with fail
              go_meet
              refine ⟨D.late i g', some (i, g'), ⟨i, g'⟩, HL1.out, by rw [HL2.out]; exact HP.out, HL4.out.1.trans HDM.out, HL3.out, .inr ⟨i, g', rfl, rfl, HG1.out⟩, ?_⟩
              rw [HLT.out, HNN.out]
              exact HA14.out.write HLB.out ⟨i, g'⟩
            · have hA := make_err he
              have hne : ((D.s.A.makeR 0 0 true).e == 0) = false := by simpa using he
              rw [hA] at ha8
              obtain ⟨xe, hxe⟩ : ∃ xe, (D.s.A.makeR 0 0 true).e = xe := ⟨_, rfl⟩
              obtain ⟨xr, hxr⟩ : ∃ xr, (D.s.A.makeR 0 0 true).now = xr := ⟨_, rfl⟩
              rw [hxe] at hne ⊢
              rw [hxr]
              dsimp only [Rf.val]
              have HA8 := hid ha8
              clear ha8 hA hxe hxr he hq8 hk8 h2 x0 x1 xl q0 q1 ql HMK
              go_wp2_with fail
              go_meet
              exact ⟨D, none, .no, HR.out, HP.out, HDM.out, HI.out, .inl ⟨rfl, rfl⟩, HA8.out.same ((Keeps.refl _ _).alloc _)⟩
        case rest =>
        obtain ⟨D', rr', r', r1, r2, r3, r4, r5, r6⟩ := hcut
        have HRD := hid r1; have HMD := hid r3; have HID := hid r4; have HRR2 := hid r5; have HKD := hid r6
        have HNX := hid (show Runs E n false ((Col.acks D' ms).stepR true).c (t + 1) from by have h := r1.next r2; unfold Col.round at h; rw [r3] at h; exact h)
        obtain ⟨wy, hwy⟩ : ∃ wy, wc = wy := ⟨_, rfl⟩
        rw [hwy] at HKD ⊢
        clear r1 r2 r3 r4 r5 r6 hwy x0 x1 xl q0 q1 ql HED HPH HK HR HI HRR HBT HDM HP
        go_wp2_with fail
        go_loopw [26] (fun ix wq => ∃ q : Nat, q ≤ ms ∧ ix = .int .i64 q ∧ Hid (KAt w0 wq p a m b c LA LM B r' (Col.acks D' q) G)) (fun ix _ => ms - (intOf ix).toNat)
        case atStart => exact ⟨0, Nat.zero_le _, rfl, HKD⟩
        case round =>
          obtain ⟨q, hq, rfl, HQ⟩ := hrel
          have hq0 : (0 : Int) ≤ q := by omega
          obtain ⟨hokq, _⟩ := Col.acks_ok HRD.out.ok q
          by_cases hlq : q < ms
          · have hlq' : (q : Int) < (ms : Int) := by omega
            obtain ⟨z0, z1, zl⟩ := pair_cells HQ.out.pr
            have HA := hid (fun W (hE : KAt w0 W p a m b c LA LM B r' (Col.acks D' q) G) => hE.ack hokq q)
            clear hokq
            go_wp2_with fail
            go_region_held3 (fun W => W.cell? ⟨p, 1, none⟩ = some (.pointer (some ⟨c, 0, none⟩)) ∧ W.cell? ⟨p, 0, none⟩ = some (.pointer (some ⟨a, 0, none⟩)))
              ((first | exact ⟨z1, z0⟩ | exact ⟨(pair_cells he3.pr).2.1, (pair_cells he3.pr).1⟩))
              (first | (go_at_call 38; refine (HA.out _ (HQ.out.same (Keeps.refl _ _).drew)).mono ?_; rintro e w3 ⟨⟨u3, v3, rfl⟩, he3⟩))
            rw [acks_succ] at he3
            have HE3 := hid he3
            clear he3 z0 z1 zl HA HQ
            go_wp2_with fail
            refine ⟨⟨q + 1, ?_, ?_, HE3⟩, ?_⟩
            · omega
            · go_num
            · simp [intOf]; omega
          have hlq' : ¬ (q : Int) < (ms : Int) := by omega
          obtain rfl : q = ms := by omega
          have hbg : (Col.acks D' q).C.begun = E + 1 := HRD.out.bg
          have HST := hid (HQ.out.step hokq (by omega) (by have := HG.out; omega))
          have HIA := hid ((HID.out.acks HRD.out.ok q).step hokq true)
          have hml := more_len ((Col.acks D' q).stepR true) G
          have HG2 := hid (show (((Col.acks D' q).stepR true).more G).length ≤ 8640 + (t + 1) by have := HG.out; omega)
          have hmm : ((Col.acks D' q).stepR true).c.s.M.K.many = q := (Col.step_ok hokq true).2.1.trans ((Col.acks_ok HRD.out.ok q).2.1.trans HMD.out)
          have HMM := hid hmm
          clear hokq hbg hml hmm hlq
          go_wp2_with fail
          refine HST.out.mono ?_
          rintro e w6 ⟨rfl, he6⟩
          have HE6 := hid he6
          clear he6
          go_wp2_with fail
          refine ⟨⟨t + 1, _, _, rr', r', ?_, ?_, HNX.out, HMM.out, HIA.out, HRR2.out, HG2.out, HE6⟩, ?_⟩
          · omega
          · go_num
          · simp [intOf]; omega
set_option maxRecDepth 100000 in
theorem cycleKeeps_law {H : Type} {enc : TypeId × Value → H} {base : Nat} {spare : Nat → Bool} {held : Bool} {r : Reach} {b0 : Nat} (a0 : Int) (h0 : (Lit.int .u8 a0).wf = true) (a1 : Int) (h1 : (Lit.int .u8 a1).wf = true) (a2 : Int) (h2 : (Lit.int .u8 a2).wf = true) (a3 : Int) (h3 : (Lit.int .u8 a3).wf = true)
    (v : Value) (d : DataW H) (p : List MemPlace) {w : World} (hv : Value.okWide Tryz.prog w r b0 80 v) (h : DataW.Trod enc Tryz.prog w base spare held 80 v d p) (a5 : Int) (h5 : (Lit.int .u8 a5).wf = true) (w' : World) (e' : w' = w) :
    Calls Tryz.prog 7 #[.int .u8 a0, .int .u8 a1, .int .u8 a2, .int .u8 a3, v, .int .u8 a5] w' fun e w2 => e = .returned (.bool true) ∧ Keeps (fun _ => False) w' w2 := by
  subst e'
  obtain ⟨x0, rfl, g0⟩ := u8_nat h0
  obtain ⟨x1, rfl, g1⟩ := u8_nat h1
  obtain ⟨x2, rfl, g2⟩ := u8_nat h2
  obtain ⟨x3, rfl, g3⟩ := u8_nat h3
  obtain ⟨x5, rfl, g5⟩ := u8_nat h5
  obtain ⟨a, n, k, rfl, e1, e2, hx⟩ := open_flat_slice (ks := ks5) Tryz.underlying80 (by kernel_rfl) (by kernel_rfl) (by decide) hv h
  obtain ⟨l, hl⟩ := mvrow_of e1 e2 hx
  exact cycleKeeps_walk x0 x1 x2 x3 x5 l _ w' g0 g1 g2 g3 g5 hl
end Go.Proofs.YtafcjciolekdkaaGreat
