/- estraylaw25.SweepClean: the walk. -/
import Derived.Test.YtehmoikbeflkaaaGreatNgF
import Derived.Test.YtehmoikbeflkaaaGreatScA
import Derived.Test.YtehmoikbeflkaaaGreatScC
import Derived.Deep.CutBlock
namespace Go.Proofs.YtehmoikbeflkaaaGreat
open Go.RowKit Go.ChangeShapes Go.WideShapes Go.ChangeAt Go.Deep
set_option linter.unusedVariables false
set_option linter.unusedSimpArgs false

theorem tk_by (T : Tb) : BySlot T.tk := by
  unfold Tb.tk BySlot
  generalize T.n = n
  induction n with
  | zero => simp [Tb.inn]
  | succ n ih =>
    by_cases h : T.st n = 1
    · rw [Tb.inn_yes h, List.map_append]
      refine List.pairwise_append.2 ⟨ih, by simp, fun x hx y hy => ?_⟩
      obtain ⟨⟨i, g⟩, hi, rfl⟩ := List.mem_map.1 hx
      have hlt := (Tb.inn_mem hi).2.2
      obtain rfl : y = rfOf (n, T.gn n) := by simpa using hy
      show ((i : Nat) : Int) ≤ (n : Nat)
      omega
    · rw [Tb.inn_no h]; exact ih
theorem tk_srt {A : Ar} {l : List Rf} (nd : Nd A) (hl : l.Nodup) (hm : ∀ r, r ∈ l ↔ Rch A r) (hd : ∀ r, r ∈ A.H.T.tk ↔ Rch A r) : A.H.T.tk = srt l := by
  refine srt_unique ((List.perm_ext_iff_of_nodup (tk_nd _) hl).2 fun r => (hd r).trans (hm r).symm) (tk_by _) (oneSlot_there fun r hr => nd r ((hm r).1 hr))
section
variable {w0 w w' : World} {a m b : Nat} {LA : ArL} {LM : MkL} {s : Sys} {S : Sw}
theorem trio_go (h : Trio w0 w a m b LA LM s S) (hok : s.Ok) (hcy : s.M.K.cy < 4611686018427387904) : Calls Tryz.prog 61 #[.pointer (some ⟨m, 0, none⟩)] w
    fun e w' => e = .returned (.int .i64 s.M.goR.2) ∧ Trio w0 w' a m b LA LM s.ended S ∧ Keeps (fun y => y = b ∨ foot2 LA LM s y) w w' := by
  refine (duo_go_any h.both hok.m hcy).mono ?_
  rintro e w' ⟨rfl, h1⟩
  have hk : Keeps (foot2 LA LM s) w w' := h1.2.mono (fun _ _ h => .inr h)
  exact ⟨rfl, trio_mv h hk h1.1, hk.mono (fun _ _ h => .inr h)⟩
theorem trio_mark (h : Trio w0 w a m b LA LM s S) {v : Value} {x y : Nat} {l mid : List Mv} (hv : SetupAt w0 v x y l mid) (hok : s.Ok) (hp : s.M.K.ph = 0) (hn : s.M.P.n = 1 + x % 24) (hm : s.M.K.many = 1 + y % 2) (hcy : s.M.K.cy < 4611686018427387904) :
    Calls Tryz.prog 62 #[v, .pointer (some ⟨a, 0, none⟩), .pointer (some ⟨m, 0, none⟩)] w fun e w' => e = .returned (.bool true) ∧ Trio w0 w' a m b LA LM (s.marked mid) S ∧ Keeps (fun y => y = b ∨ foot2 LA LM s y) w w' := by
  refine (mark25 a m v x y l mid s w h.both hv hok hp hn hm hcy).mono ?_
  rintro e w' ⟨rfl, h1, h2⟩
  exact ⟨rfl, trio_mv h h2 h1, h2.mono (fun _ _ h => .inr h)⟩
end

set_option maxRecDepth 100000 in
set_option maxHeartbeats 8000000 in
theorem sweepClean_walk (v : Value) (x y : Nat) (l mid : List Mv) (w : World) (hv : SetupAt w v x y l mid) :
    Calls Tryz.prog 10 #[v] w fun e w' => e = .returned (.bool true) ∧ Keeps (fun _ => False) w w' := by
  obtain ⟨hx, hy, v1, v2, rfl, hr1, hr2⟩ := hv
  have hv' : SetupAt w (.agg #[.int .u8 x, .int .u8 y, v1, .slice none 0 0]) x y l [] := ⟨hx, hy, _, _, rfl, hr1, ⟨none, 0, rfl, Nat.le_refl _, Nat.zero_le _, .inl rfl⟩⟩
  have HBG := hid (fun W (hk : Keeps (fun _ => False) w W) => begun25 _ x y l [] W (hv'.keeps0 hk))
  have HV := hid (fun W (hk : Keeps (fun _ => False) w W) => hv'.keeps0 hk)
  have HSZ := hid (fun W => sizes25 x y v1 (.slice none 0 0) W hx hy)
  obtain ⟨n, hn⟩ : ∃ n, 1 + x % 24 = n := ⟨_, rfl⟩
  obtain ⟨ms, hms⟩ : ∃ ms, 1 + y % 2 = ms := ⟨_, rfl⟩
  have hn24 : 1 ≤ n ∧ n ≤ 24 := by omega
  have HNX := hid hn; have HMX := hid hms
  rw [hn, hms] at HBG HSZ
  have hcl := made_cln (n := n) (ms := ms) (by omega) (by omega) (by omega) (by omega) l
  obtain ⟨s0, hs0⟩ : ∃ s, Sys.made n ms l [] = s := ⟨_, rfl⟩
  rw [hs0] at HBG hcl
  have HCL := hid hcl
  obtain ⟨wA, hwA⟩ : ∃ wA, w.alloc (.cells #[.int .u8 x, .int .u8 y, v1, .slice none 0 0] 92) = wA := ⟨_, rfl⟩
  have kA : Keeps (fun _ => False) w wA := by rw [← hwA]; exact (Keeps.refl _ _).alloc _
  have qA : wA.heap[w.heap.size]? = some (.cells #[.int .u8 x, .int .u8 y, v1, .slice none 0 0] 92) := by rw [← hwA]; exact alloc_new
  have HKA := hid kA; have HWA := hid hwA
  obtain ⟨B, hB⟩ : ∃ B, w.heap.size = B := ⟨_, rfl⟩
  rw [hB] at qA
  have HQ := hid (fun W (hk : Keeps (fun _ => False) wA W) => cells4 (block_keep qA hk (fun h => h)))
  have HB := hid hB
  obtain ⟨b0, b1, b2, b3, bl⟩ := HQ.out wA (Keeps.refl _ _)
  clear hwA kA qA hB hr1 hr2 hv' hn hms hs0 hcl
  go_enter Tryz.func10, Tryz.ntmps10
  go_upto_region 2 with (fail)
  rw [HWA.out]
  try rw [HB.out]
  go_wp2_with fail
  refine (HBG.out _ HKA.out).mono ?_
  rintro e w1 ⟨a, m, b, LA, LM, w0, rfl, k0, ht⟩
  have HK0 := hid (show Keeps (fun _ => False) w w0 from HKA.out.trans k0)
  have HT1 := hid ht; have HQ0 := hid (fun W (hk : Keeps (fun _ => False) w0 W) => HQ.out W (k0.trans hk))
  clear k0 ht HBG b0 b1 b2 b3 bl HQ
  obtain ⟨b0, b1, b2, b3, bl⟩ := HQ0.out _ HT1.out.kp
  go_wp2_with fail
  refine (HSZ.out _).mono ?_
  rintro e w2 ⟨rfl, k2⟩
  have HT2 := hid (HT1.out.same k2)
  clear k2 HT1 HSZ b0 b1 b2 b3 bl
  go_wp2_with fail
  go_loopw [33] (fun ix wr => ∃ (i : Nat) (s : Sys) (S : Sw), i ≤ n ∧ ix = .int .i64 i ∧ Hid (Sc s0 n i s S) ∧ Hid (Trio w0 wr a m b LA LM s S)) (fun ix _ => n - (intOf ix).toNat)
  case atStart => exact ⟨0, s0, _, Nat.zero_le _, rfl, hid (Sc.zero HCL.out.ok HCL.out.safe HCL.out.ph HCL.out.nn), HT2⟩
  case round =>
    clear HT2
    obtain ⟨i, s, S, hi, rfl, HS, HT⟩ := hrel
    have hi0 : (0 : Int) ≤ i := by omega
    by_cases hlt : i < n
    · have hlt' : (i : Int) < (n : Int) := by omega
      obtain ⟨fr, hkp⟩ := HS.out.kp
      have HST := hid (trio_step HT.out hkp.ok (hkp.chk hlt))
      have HS2 := hid (HS.out.next hlt)
      clear hkp
      go_wp2_with fail
      refine HST.out.mono ?_
      rintro e w3 ⟨rfl, h3, k3⟩
      have HT3 := hid h3
      obtain ⟨r, hr⟩ : ∃ r, (S.stepR s).r = r := ⟨_, rfl⟩
      rw [hr]
      dsimp only [Rf.val]
      clear h3 k3 hr HST HS
      go_wp2_with fail
      exact ⟨⟨i + 1, _, _, by omega, by go_num, HS2, hid (HT3.out.same ((Keeps.refl _ _).alloc _))⟩, by simp [intOf]; omega⟩
    obtain rfl : i = n := by omega
    have hlt' : ¬ (i : Int) < (i : Int) := by omega
    obtain ⟨wB, hwB⟩ : ∃ wB, wr = wB := ⟨_, rfl⟩
    rw [hwB] at HT ⊢
    have hend := HS.out.ended HCL.out
    have hdn := HS.out.done HCL.out.ok HCL.out.nn HCL.out.all
    have hag := HS.out.again HCL.out
    obtain ⟨fr, hkp⟩ := HS.out.kp
    have hS : S = ⟨i, i, fr.length⟩ := hkp.S
    have HND := hid hkp.safe.nd
    have HE := hid hend; have HD := hid hdn; have HG := hid hag
    clear hwB hend hdn hag hkp HS
    go_wp2_with fail
    clear hlt'
    refine (aheap_ok a LA s.A wB HT.out.both.ar).mono ?_
    rintro e w3 ⟨bh, th, rfl, k3, _, _, hh⟩
    have HT3 := hid (HT.out.same k3); have HH3 := hid hh
    clear k3 hh HT
    go_wp2_with fail
    refine (hall_ok bh th s.A.H w3 HH3.out).mono ?_
    rintro e w4 ⟨v4, rfl, hr4, k4⟩
    obtain ⟨p4, c4, rfl⟩ := hr4.refs.slice
    have HT4 := hid (HT3.out.same k4); have RA4 := hid hr4.refs
    have HLA := hid (fun k (hk : (Value.slice p4 s.A.H.T.tk.length c4).ownBlock = some k) => (hr4.lt k hk).2)
    have htl := tk_len s.A.H.T
    clear k4 hr4 HT3 HH3
    go_wp2_with fail
    refine (reached25x a LA s.A w4 HT4.out.both.ar HE.out.2.2.2.2.2.2.2.2.2.1 HND.out).mono ?_
    rintro e w5 ⟨v5, rfl, l5, hr5, hnd5, hm5, hl5, k5⟩
    obtain ⟨p5, c5, rfl⟩ := hr5.refs.slice
    have HT5 := hid (HT4.out.same k5); have RA5 := hid (RA4.out.keeps k5 (fun _ _ h => h)); have RW5 := hid hr5
    have hsrt := tk_srt HND.out hnd5 hm5 HD.out
    have HTH := hid (fun r (hr : r ∈ l5) => HND.out r ((hm5 r).1 hr))
    have hN2 := HE.out.2.2.2.2.2.2.2.2.1
    have HSR := hid hsrt
    clear k5 hr5 hnd5 hm5 RA4 hsrt
    go_wp2_with fail
    refine (sort25_ok _ l5 w4.heap.size w5 RW5.out (fun r hr => by have h := (HTH.out r hr).lt; omega) (oneSlot_there HTH.out) (by omega)).mono ?_
    rintro e w6 ⟨rfl, hr6, k6⟩
    have HT6 := hid (HT4.out.farN HT5.out rfl rfl (k6.mono fun y _ hy => (RW5.out.lt y hy).1))
    have RA6 := hid (RA5.out.keeps k6 (fun k hk he => by have h1 := HLA.out k hk; have h2 := (RW5.out.lt k he).1; omega))
    have RW6 := hid (show Refs w6 (.slice p5 l5.length c5) s.A.H.T.tk from by rw [HSR.out]; exact hr6.refs)
    clear hr6 k6 HT4 HT5 RA5 RW5 HTH
    have hcy : s.M.K.cy ≤ 1 := HE.out.2.2.2.2.2.2.1
    have HGO := hid (fun W (h : Trio w0 W a m b LA LM s S) => trio_go h HE.out.2.2.2.2.2.2.2.2.2.2 (by omega))
    rw [HE.out.2.2.2.2.2.1] at HGO
    have HPH := hid (fun W (h : Trio w0 W a m b LA LM s.ended S) => mphase m LM s.ended.M W h.both.mm)
    rw [HE.out.2.1] at HPH
    have HMK := hid (fun W (h : Trio w0 W a m b LA LM s.ended S) => trio_mark h (HV.out w0 HK0.out) HE.out.1 HE.out.2.1 (by rw [HNX.out]; exact HE.out.2.2.1) (by rw [HMX.out]; exact HE.out.2.2.2.1) (by have := HE.out.2.2.2.2.1; omega))
    have HBE := hid (fun W (h : Trio w0 W a m b LA LM (s.ended.marked []) S) => trio_begin h)
    have hSz : S.size = i := by rw [hS]
    rw [hSz] at HBE
    have heq := requal _ _ s.A.H.T.tk s.A.H.T.tk w6 RA6.out RW6.out (by omega)
    rw [decide_eq_true rfl] at heq
    have HEQ := hid heq
    clear heq hS hSz
    go_wp2_with fail
    refine HEQ.out.mono ?_
    rintro e w7 ⟨rfl, k7⟩
    have HT7 := hid (HT6.out.same k7); have RA7 := hid (RA6.out.keeps k7 (fun _ _ h => h))
    clear k7 HEQ HT6 RA6 RW6
    go_wp2_with fail
    refine (HGO.out _ HT7.out).mono ?_
    rintro e w8 ⟨rfl, h8, k8⟩
    have HT8 := hid h8; have RA8 := hid (HT7.out.refs RA7.out k8)
    clear h8 k8 HT7 RA7 HGO
    go_wp2_with fail
    refine ((HPH.out _ HT8.out)).mono ?_
    rintro e w' ⟨rfl, h'⟩
    obtain rfl := h'.symm
    obtain ⟨b0, b1, b2, b3, bl⟩ := HQ0.out _ HT8.out.kp
    go_wp2_with fail
    refine (HMK.out _ HT8.out).mono ?_
    rintro e w9 ⟨rfl, h9, k9⟩
    have HT9 := hid h9; have RA9 := hid (HT8.out.refs RA8.out k9)
    clear h9 k9 HT8 RA8 HMK HPH b0 b1 b2 b3 bl
    go_wp2_with fail
    refine (HBE.out _ HT9.out).mono ?_
    rintro e w10 ⟨rfl, h10, k10⟩
    have HT10 := hid h10; have RA10 := hid (HT9.out.refs RA9.out (k10.mono fun _ _ h => .inl h))
    clear h10 k10 HT9 RA9 HBE
    obtain ⟨g1, g2, g3, g4, g5⟩ := HG.out
    have HG5 := hid g5; have HG1 := hid g1; have HG3 := hid g3; have HG4 := hid g4
    have hn3 : (s.ended.marked []).A.H.T.n = i := by rw [g2]; exact HE.out.2.2.2.2.2.2.2.2.1
    have hA : (s.ended.marked []).A = s.A := g2
    obtain ⟨u, hu⟩ : ∃ u, s.ended.marked [] = u := ⟨_, rfl⟩
    rw [hu] at HT10 HG5 HG1 HG3 HG4 hn3 hA
    have hneq := fun W => neq_nz Rf.no W
    rw [show Rf.no.nz = false from rfl] at hneq
    clear g1 g2 g3 g4 g5 hu HG HD HND HSR
    go_wp2_with fail
    go_loopw [80] (fun ix wr => ∃ (j : Nat), j ≤ i ∧ ix = .int .i64 j ∧ Hid (Trio w0 wr a m b LA LM u ⟨i, j, 0⟩) ∧ Hid (Refs wr (.slice p4 s.A.H.T.tk.length c4) s.A.H.T.tk)) (fun ix _ => i - (intOf ix).toNat)
    case atStart => exact ⟨0, Nat.zero_le _, rfl, HT10, RA10⟩
    case round =>
      clear HT10 RA10
      obtain ⟨j, hj, rfl, HT, RA⟩ := hrel
      have hj0 : (0 : Int) ≤ j := by omega
      by_cases hlj : j < i
      · have hlj' : (j : Int) < (i : Int) := by omega
        have hst := trio_step HT.out HG1.out (by have e1 := HG3.out; have e2 := HG4.out; unfold Sw.chk; rw [if_neg (by dsimp only; omega), if_neg (by dsimp only; omega)])
        rw [HG5.out j hlj] at hst
        dsimp only [Rf.val, Rf.no] at hst
        dsimp only [Rf.no] at hneq
        have HST := hid hst
        clear hst
        go_wp2_with fail
        refine HST.out.mono ?_
        rintro e w11 ⟨rfl, h11, k11⟩
        have HT11 := hid (h11.same ((Keeps.refl _ _).alloc (.cells #[.int .i64 0, .int .u32 0] 33))); have RA11 := hid ((HT.out.refs RA.out k11).keeps ((Keeps.refl (fun _ => False) _).alloc (.cells #[.int .i64 0, .int .u32 0] 33)) (fun _ _ h => h))
        clear h11 k11 HST HT RA
        go_wp2_with fail
        exact ⟨⟨j + 1, by omega, by go_num, HT11, RA11⟩, by simp [intOf]; omega⟩
      obtain rfl : j = i := by omega
      have hlj' : ¬ (j : Int) < (j : Int) := by omega
      obtain ⟨wE, hwE⟩ : ∃ wE, wr = wE := ⟨_, rfl⟩
      rw [hwE] at HT RA ⊢
      clear hwE
      have HFR := hid (swfreed_ok b ⟨j, j, 0⟩ wE HT.out.sw)
      go_wp2_with fail
      clear hlj'
      refine (HFR.out).mono ?_
      rintro e w' ⟨rfl, h'⟩
      obtain rfl := h'.symm
      go_wp2_with fail
      refine (aheap_ok a LA u.A wE HT.out.both.ar).mono ?_
      rintro e w12 ⟨bg, tg, rfl, k12, _, _, hg⟩
      have HT12 := hid (HT.out.same k12); have RA12 := hid (RA.out.keeps k12 (fun _ _ h => h)); have HH12 := hid hg
      clear k12 hg HT RA HFR
      go_wp2_with fail
      refine (hall_ok bg tg u.A.H w12 HH12.out).mono ?_
      rintro e w13 ⟨v13, rfl, hr13, k13⟩
      rw [hA] at hr13
      have heq := requal _ _ s.A.H.T.tk s.A.H.T.tk w13 hr13.refs (RA12.out.keeps k13 (fun _ _ h => h)) (by omega)
      rw [decide_eq_true rfl] at heq
      have HEQ := hid heq; have HKF := hid (HK0.out.trans (HT12.out.same k13).kp)
      clear heq hr13 k13 HT12 RA12 HH12
      go_wp2_with fail
      refine HEQ.out.mono ?_
      rintro e w14 ⟨rfl, k14⟩
      have HKG := hid (HKF.out.trans k14)
      clear k14 HEQ HKF
      go_wp2_with fail
      refine (works25 _).mono ?_
      rintro e w15 ⟨rfl, k15⟩
      go_wp2_with fail
      go_ret
      exact ⟨rfl, HKG.out.trans k15⟩
set_option maxRecDepth 100000 in
theorem sweepClean_law {H : Type} {enc : TypeId × Value → H} {base : Nat} {spare : Nat → Bool} {held : Bool} {r : Reach} {b0 : Nat} (v : Value) (d : DataW H) (p : List MemPlace) {w : World} (hv : Value.okWide Tryz.prog w r b0 92 v)
    (h : DataW.Trod enc Tryz.prog w base spare held 92 v d p) (w' : World) (e' : w' = w) : Calls Tryz.prog 10 #[v] w' fun e w2 => e = .returned (.bool true) ∧ Keeps (fun _ => False) w' w2 := by
  subst e'
  obtain ⟨x, y, l, mid, hs⟩ := setup25_shape hv h
  exact sweepClean_walk v x y l mid w' hs
end Go.Proofs.YtehmoikbeflkaaaGreat
