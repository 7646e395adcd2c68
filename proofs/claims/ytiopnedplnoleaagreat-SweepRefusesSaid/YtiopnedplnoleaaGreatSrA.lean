/- estraylaw25.SweepRefuses: the walk. -/
import Derived.Test.YtiopnedplnoleaaGreatNgE
import Derived.Test.YtiopnedplnoleaaGreatEqR
import Derived.Test.YtiopnedplnoleaaGreatCgA
namespace Go.Proofs.YtiopnedplnoleaaGreat
open Go.RowKit Go.ChangeShapes Go.WideShapes Go.ChangeAt Go.Deep
set_option linter.unusedVariables false
set_option linter.unusedSimpArgs false

theorem step_at {b a m : Nat} {S : Sw} {LA : ArL} {LM : MkL} {A : Ar} {M : Mk} {w : World} {k : Int} (hs : SwAt w b S) (ha : ArIn w a LA A) (hm : MkIn w m LM M) (hc : S.chk A M = k) (hk : (k == 0) = false) :
    Calls Tryz.prog 47 #[.pointer (some ⟨b, 0, none⟩), .pointer (some ⟨a, 0, none⟩), .pointer (some ⟨m, 0, none⟩)] w fun e w' => e = .returned (.tuple #[.agg #[.int .i64 0, .int .u32 0], .bool false, .int .i64 k]) ∧ Keeps (fun _ => False) w w' :=
  swstep_err (w0 := w) (LA := LA) (LM := LM) _ _ b w k hk (fun W hW => by
    rw [← hc]; exact swcheck b a m S LA LM A M W (hs.keeps hW (fun h => h)) (ha.keeps0 hW) (hm.keeps0 hW))

/-- a case that is refused -/
structure RefRow (w : World) (vs va vm : Value) (k : Int) : Prop where
  ex : ∃ n f : Nat, ∀ W, Keeps (fun _ => False) w W → (Calls Tryz.prog 38 #[vs] W fun e w' => e = .returned (.int .i64 n) ∧ w' = W) ∧ (Calls Tryz.prog 40 #[vs] W fun e w' => e = .returned (.int .i64 f) ∧ w' = W)
  st : ∀ W, Keeps (fun _ => False) w W → Calls Tryz.prog 47 #[vs, va, vm] W fun e w' => e = .returned (.tuple #[.agg #[.int .i64 0, .int .u32 0], .bool false, .int .i64 k]) ∧ Keeps (fun _ => False) W w'
theorem RefRow.of {b a m : Nat} {S : Sw} {LA : ArL} {LM : MkL} {A : Ar} {M : Mk} {w : World} {k : Int} (hs : SwAt w b S) (ha : ArIn w a LA A) (hm : MkIn w m LM M) (hc : S.chk A M = k) (hk : (k == 0) = false) :
    RefRow w (.pointer (some ⟨b, 0, none⟩)) (.pointer (some ⟨a, 0, none⟩)) (.pointer (some ⟨m, 0, none⟩)) k :=
  ⟨⟨S.next, S.n, fun W hW => ⟨swat_ok b S W (hs.keeps hW (fun h => h)), swfreed_ok b S W (hs.keeps hW (fun h => h))⟩⟩, fun W hW => step_at (hs.keeps hW (fun h => h)) (ha.keeps0 hW) (hm.keeps0 hW) hc hk⟩

theorem Trio.farB {w0 w w' : World} {a m b : Nat} {LA : ArL} {LM : MkL} {s : Sys} {S : Sw} (h : Trio w0 w a m b LA LM s S) {W : World} (hW : Trio w0 W a m b LA LM s S) (hk : Keeps (fun y => w.heap.size ≤ y) W w') : Trio w0 w' a m b LA LM s S :=
  ⟨Both.far h.both hW.both rfl rfl hk, hW.sw.keeps hk (by have := lt_block h.sw.own; omega), h.hb⟩

theorem chk_bad {S : Sw} {A : Ar} {M : Mk} (h : A.H.T.n ≠ S.size ∨ M.P.n ≠ S.size) : S.chk A M = 2 := if_pos h
theorem chk_state {S : Sw} {A : Ar} {M : Mk} (h1 : A.H.T.n = S.size) (h2 : M.P.n = S.size) (h : S.next = S.size ∨ M.K.ph ≠ 5) : S.chk A M = 8 := by
  unfold Sw.chk; rw [if_neg (by omega), if_pos h]

set_option maxRecDepth 100000 in
set_option maxHeartbeats 4000000 in
theorem sweepRefuses_walk (v : Value) (x y far : Nat) (l mid : List Mv) (w : World) (hv : SetupAt w v x y l mid) (hf : far < 65536) :
    Calls Tryz.prog 9 #[v, .int .u16 far] w fun e w' => e = .returned (.bool true) ∧ Keeps (fun _ => False) w w' := by
  have HBG := hid (fun W (hk : Keeps (fun _ => False) w W) => begun25 v x y l mid W (hv.keeps0 hk))
  obtain ⟨hx, hy, v1, v2, rfl, _, _⟩ := hv
  have HSZ := hid (fun W => sizes25 x y v1 v2 W hx hy)
  have HALL := hid (made_all (n := 1 + x % 24) (ms := 1 + y % 2) (by omega) (by omega) (by omega) (by omega) l mid)
  obtain ⟨n, hnn⟩ : ∃ n, 1 + x % 24 = n := ⟨_, rfl⟩
  obtain ⟨ms, hmm⟩ : ∃ ms, 1 + y % 2 = ms := ⟨_, rfl⟩
  have hn24 : 1 ≤ n ∧ n ≤ 24 := by omega
  have hms : 1 ≤ ms ∧ ms ≤ 2 := by omega
  rw [hnn, hmm] at HALL HBG HSZ
  obtain ⟨s, hs⟩ : ∃ s, Sys.made n ms l mid = s := ⟨_, rfl⟩
  rw [hs] at HBG HALL
  have HS8 := hid (cells4 (w := w.alloc (.cells #[.int .u8 x, .int .u8 y, v1, v2] 83)) alloc_new)
  have HKB := hid (fun W (hk : Keeps (fun _ => False) (w.alloc (.cells #[.int .u8 x, .int .u8 y, v1, v2] 83)) W) => cells4 (block_keep (alloc_new (w := w)) hk (fun h => h)))
  clear hs hnn hmm
  go_enter Tryz.func9, Tryz.ntmps9
  go_wp2_with fail
  refine (HBG.out _ ((Keeps.refl _ _).alloc _)).mono ?_
  rintro e w1 ⟨a, m, b, LA, LM, w0, rfl, k0, ht⟩
  have HK0 := hid (show Keeps (fun _ => False) w w0 from ((Keeps.refl _ _).alloc _).trans k0)
  have HT1 := hid ht
  obtain ⟨z0, z1, z2, z3, zl⟩ := HKB.out _ (k0.trans ht.kp)
  clear k0 ht HBG HS8
  go_wp2_with fail
  refine (HSZ.out _).mono ?_
  rintro e w2 ⟨rfl, k2⟩
  have HT2 := hid (HT1.out.same k2)
  clear k2 HT1 z0 z1 z2 z3 zl HKB HSZ
  go_wp2_with fail
  have HN1 := hid (fun W => show Calls Tryz.prog 35 #[.int .i64 ((n : Int) + 1)] W _ from swnew_ok (n + 1) W (by omega) (by omega))
  have HN0 := hid (fun W => swnew_ok n W (by omega) (by omega))
  have HA1 := hid (fun W => anew_ok ((n : Int) + 1) ms 1 W (by omega) (by omega) (by omega) (by omega) (by omega) (by omega))
  rw [show ((n : Int) + 1).toNat = n + 1 by omega] at HA1
  have HM0 := hid (fun W => mnew_ok n ms 2 2 W (by omega) (by omega) (by omega) (by omega) (by omega) (by omega) (by omega) (by omega))
  have HM1 := hid (fun W => show Calls Tryz.prog 19 #[.int .i64 ((n : Int) + 1), .int .i64 ms, .int .i64 2, .int .i64 2] W _ from mnew_ok (n + 1) ms 2 2 W (by omega) (by omega) (by omega) (by omega) (by omega) (by omega) (by omega) (by omega))
  refine (aheap_ok a LA s.A w2 HT2.out.both.ar).mono ?_
  rintro e w3 ⟨bh, bt, rfl, k3, _, _, hh3⟩
  have HT3 := hid (HT2.out.same k3); have HH3 := hid hh3
  clear k3 hh3 HT2
  go_wp2_with fail
  refine (hall_ok bh bt s.A.H w3 HH3.out).mono ?_
  rintro e w4 ⟨va, rfl, hr4, k4⟩
  have HT4 := hid (HT3.out.same k4); have HR4 := hid hr4.refs
  clear k4 hr4 HT3 HH3
  go_wp2_with fail
  refine (HN1.out w4).mono ?_
  rintro e w5 ⟨rfl, k5, hs5⟩
  obtain ⟨b1, hb1⟩ : ∃ b1, w4.heap.size = b1 := ⟨_, rfl⟩
  rw [hb1] at hs5 ⊢
  have HB1 := hid hb1; have HK5 := hid k5; have HS5 := hid hs5
  clear hb1 k5 hs5
  go_wp2_with fail
  refine (HA1.out w5).mono ?_
  rintro e w6 ⟨a2, rfl, k6, ha6⟩
  have HK6 := hid (HK5.out.trans k6); have HA6 := hid ha6; have HS6 := hid (HS5.out.keeps k6 (fun h => h)); have HL5 := hid (show b1 < w5.heap.size from lt_block HS5.out.own)
  clear k6 ha6 HS5 HK5
  go_wp2_with fail
  refine (HM0.out w6).mono ?_
  rintro e w7 ⟨rfl, k7, LM2, hm7, bm7⟩
  obtain ⟨m2, hm2⟩ : ∃ m2, w6.heap.size = m2 := ⟨_, rfl⟩
  rw [hm2] at hm7 bm7 ⊢
  have hlm : w5.heap.size ≤ w6.heap.size := by
    obtain ⟨_, _, hb⟩ := HA6.out
    have := hb.a; omega
  have HK7 := hid (HK6.out.trans k7); have HA7 := hid (HA6.out.keeps k7 (fun _ _ _ h => h)); have HS7 := hid (HS6.out.keeps k7 (fun h => h)); have HM7 := hid hm7; have HBM7 := hid bm7
  have HL6 := hid (show b1 < m2 by have := HL5.out; omega)
  clear k7 hm7 bm7 hm2 HS6 HA6 HK6
  go_wp2_with fail
  refine (HM1.out w7).mono ?_
  rintro e w8 ⟨rfl, k8, LM3, hm8, bm8⟩
  obtain ⟨m3, hm3⟩ : ∃ m3, w7.heap.size = m3 := ⟨_, rfl⟩
  rw [hm3] at hm8 bm8 ⊢
  have HK8 := hid (HK7.out.trans k8); have HA8 := hid (HA7.out.keeps k8 (fun _ _ _ h => h)); have HS8 := hid (HS7.out.keeps k8 (fun h => h)); have HM8 := hid (HM7.out.keeps0 k8); have HMM8 := hid hm8; have HBM8 := hid bm8
  have HL7 := hid (show b1 < m3 by rw [← hm3]; exact lt_block HS7.out.own)
  clear k8 hm8 bm8 hm3 HS7 HA7 HK7 HM7
  go_wp2_with fail
  refine (HN0.out w8).mono ?_
  rintro e w9 ⟨rfl, k9, hs9⟩
  obtain ⟨b3, hb3⟩ : ∃ b3, w8.heap.size = b3 := ⟨_, rfl⟩
  rw [hb3] at hs9 ⊢
  have HK9 := hid (HK8.out.trans k9); have HA9 := hid (HA8.out.keeps k9 (fun _ _ _ h => h)); have HS9 := hid (HS8.out.keeps k9 (fun h => h)); have HM9 := hid (HM8.out.keeps0 k9); have HMM9 := hid (HMM8.out.keeps0 k9); have HSS9 := hid hs9
  have HL8 := hid (show b1 < b3 by rw [← hb3]; exact lt_block HS8.out.own)
  clear k9 hs9 hb3 HS8 HA8 HK8 HM8 HMM8
  go_wp2_with fail
  refine (swbegin_ok b1 _ w9 HS9.out).mono ?_
  rintro e w10 ⟨rfl, k10, hs10⟩
  have HT10 := hid (HT4.out.farB (HT4.out.same HK9.out) (k10.mono (fun y _ h => by have := HB1.out; omega)))
  have HA10 := hid (HA9.out.keeps k10 (fun y h1 h2 h3 => by have := HL5.out; omega))
  have HM10 := hid (HM9.out.keeps k10 (by have := HBM7.out.m; have := HL6.out; omega) (by have := HBM7.out.c; have := HL6.out; omega) (by have := HBM7.out.p; have := HL6.out; omega) (by have := HBM7.out.s; have := HL6.out; omega) (by have := HBM7.out.rb; have := HL6.out; omega) (fun j hj => by have := HBM7.out.bb j hj; have := HL6.out; omega))
  have HMM10 := hid (HMM9.out.keeps k10 (by have := HBM8.out.m; have := HL7.out; omega) (by have := HBM8.out.c; have := HL7.out; omega) (by have := HBM8.out.p; have := HL7.out; omega) (by have := HBM8.out.s; have := HL7.out; omega) (by have := HBM8.out.rb; have := HL7.out; omega) (fun j hj => by have := HBM8.out.bb j hj; have := HL7.out; omega))
  have HSS10 := hid (HSS9.out.keeps k10 (by have := HL8.out; omega))
  have HR10 := hid ((HR4.out.keeps HK9.out (fun _ _ h => h)).keeps k10 (fun k hk h => by
    have := HB1.out
    rcases HR4.out with ⟨rfl, _⟩ | ⟨g, cap, cur, rfl, hg, _⟩
    · cases hk
    · have := lt_block hg
      have hk' : g = k := Option.some.inj hk
      omega))
  have HS10 := hid hs10
  clear k10 hs10 HT4 HK9 HA9 HS9 HM9 HMM9 HSS9 HR4 HL5 HL6 HL7 HL8 HB1 HBM7 HBM8 HN1 HN0 HA1 HM0 HM1
  go_wp2_with fail
  obtain ⟨wL, hwL⟩ : ∃ wL, w10.alloc (.cells #[.pointer (some ⟨b1, 0, none⟩), .pointer (some ⟨a, 0, none⟩), .pointer (some ⟨m, 0, none⟩), .int .i64 2, .pointer (some ⟨b, 0, none⟩), .pointer (some ⟨a2, 0, none⟩), .pointer (some ⟨m, 0, none⟩), .int .i64 2,
    .pointer (some ⟨b, 0, none⟩), .pointer (some ⟨a, 0, none⟩), .pointer (some ⟨m3, 0, none⟩), .int .i64 2, .pointer (some ⟨b, 0, none⟩), .pointer (some ⟨a, 0, none⟩), .pointer (some ⟨m2, 0, none⟩), .int .i64 8,
    .pointer (some ⟨b3, 0, none⟩), .pointer (some ⟨a, 0, none⟩), .pointer (some ⟨m, 0, none⟩), .int .i64 8, .pointer (some ⟨b3, 0, none⟩), .pointer (some ⟨a2, 0, none⟩), .pointer (some ⟨m, 0, none⟩), .int .i64 2] 115) = wL := ⟨_, rfl⟩
  have kL : Keeps (fun _ => False) w10 wL := by rw [← hwL]; exact (Keeps.refl _ _).alloc _
  have qL := alloc_new' (w := w10) (n := w10.heap.size) (o := .cells #[.pointer (some ⟨b1, 0, none⟩), .pointer (some ⟨a, 0, none⟩), .pointer (some ⟨m, 0, none⟩), .int .i64 2, .pointer (some ⟨b, 0, none⟩), .pointer (some ⟨a2, 0, none⟩), .pointer (some ⟨m, 0, none⟩), .int .i64 2,
    .pointer (some ⟨b, 0, none⟩), .pointer (some ⟨a, 0, none⟩), .pointer (some ⟨m3, 0, none⟩), .int .i64 2, .pointer (some ⟨b, 0, none⟩), .pointer (some ⟨a, 0, none⟩), .pointer (some ⟨m2, 0, none⟩), .int .i64 8,
    .pointer (some ⟨b3, 0, none⟩), .pointer (some ⟨a, 0, none⟩), .pointer (some ⟨m, 0, none⟩), .int .i64 8, .pointer (some ⟨b3, 0, none⟩), .pointer (some ⟨a2, 0, none⟩), .pointer (some ⟨m, 0, none⟩), .int .i64 2] 115) rfl
  rw [hwL] at qL ⊢
  clear hwL
  obtain ⟨LA2, ha2, _⟩ := HA10.out
  obtain ⟨hok, hph, hcy, hmany, hnn⟩ := HALL.out
  have hTn : s.A.H.T.n = n := hok.n.trans hnn
  have HTL := hid (HT10.out.same kL)
  have HRL := hid (HR10.out.keeps kL (fun _ _ h => h))
  have a2L := ha2.keeps0 kL
  have m2L := HM10.out.keeps0 kL
  have m3L := HMM10.out.keeps0 kL
  have b1L := HS10.out.keeps kL (fun h => h)
  have b3L := HSS10.out.keeps kL (fun h => h)
  have tL := HTL.out
  have hrow : ∀ j, j < 6 → ∃ (vs va vm : Nat) (k : Int), (∀ W, Keeps (fun _ => False) wL W → W.cell? ⟨w10.heap.size, j * 4, none⟩ = some (.pointer (some ⟨vs, 0, none⟩)) ∧ W.cell? ⟨w10.heap.size, j * 4 + 1, none⟩ = some (.pointer (some ⟨va, 0, none⟩)) ∧ W.cell? ⟨w10.heap.size, j * 4 + 2, none⟩ = some (.pointer (some ⟨vm, 0, none⟩)) ∧ W.cell? ⟨w10.heap.size, j * 4 + 3, none⟩ = some (.int .i64 k)) ∧ RefRow wL (.pointer (some ⟨vs, 0, none⟩)) (.pointer (some ⟨va, 0, none⟩)) (.pointer (some ⟨vm, 0, none⟩)) k := by
    intro j hj
    match j, hj with
    | 0, _ => exact ⟨_, _, _, 2, fun W hk => have hq := block_keep qL hk (fun h => h); ⟨cell_at hq rfl, cell_at hq rfl, cell_at hq rfl, cell_at hq rfl⟩, RefRow.of b1L tL.both.ar tL.both.mm (chk_bad (.inl (by dsimp only; omega))) rfl⟩
    | 1, _ => exact ⟨_, _, _, 2, fun W hk => have hq := block_keep qL hk (fun h => h); ⟨cell_at hq rfl, cell_at hq rfl, cell_at hq rfl, cell_at hq rfl⟩, RefRow.of tL.sw a2L tL.both.mm (chk_bad (.inl (by show n + 1 ≠ n; omega))) rfl⟩
    | 2, _ => exact ⟨_, _, _, 2, fun W hk => have hq := block_keep qL hk (fun h => h); ⟨cell_at hq rfl, cell_at hq rfl, cell_at hq rfl, cell_at hq rfl⟩, RefRow.of tL.sw tL.both.ar m3L (chk_bad (.inr (by show n + 1 ≠ n; omega))) rfl⟩
    | 3, _ => exact ⟨_, _, _, 8, fun W hk => have hq := block_keep qL hk (fun h => h); ⟨cell_at hq rfl, cell_at hq rfl, cell_at hq rfl, cell_at hq rfl⟩, RefRow.of tL.sw tL.both.ar m2L (chk_state hTn rfl (.inr (by show (0 : Nat) ≠ 5; decide))) rfl⟩
    | 4, _ => exact ⟨_, _, _, 8, fun W hk => have hq := block_keep qL hk (fun h => h); ⟨cell_at hq rfl, cell_at hq rfl, cell_at hq rfl, cell_at hq rfl⟩, RefRow.of b3L tL.both.ar tL.both.mm (chk_state hTn hnn (.inl rfl)) rfl⟩
    | 5, _ => exact ⟨_, _, _, 2, fun W hk => have hq := block_keep qL hk (fun h => h); ⟨cell_at hq rfl, cell_at hq rfl, cell_at hq rfl, cell_at hq rfl⟩, RefRow.of b3L a2L tL.both.mm (chk_bad (.inl (by show n + 1 ≠ n; omega))) rfl⟩
  have HROW := hid hrow
  have HGL := hid (lt_block qL)
  clear hrow a2L m2L m3L b1L b3L tL ha2 HA10 HM10 HMM10 HSS10 HS10 HR10 HT10 qL kL hok hph hcy hmany hnn hTn
  obtain ⟨g, hg⟩ : ∃ g, w10.heap.size = g := ⟨_, rfl⟩
  rw [hg] at HROW HGL ⊢
  clear hg
  go_loopw [131] (fun ix wr => ∃ j : Nat, j ≤ 6 ∧ ix = .int .i64 j ∧ Keeps (fun _ => False) wL wr) (fun ix _ => 6 - (intOf ix).toNat)
  case atStart => exact ⟨0, by omega, rfl, Keeps.refl _ _⟩
  case round =>
    obtain ⟨j, hj, rfl, hkr⟩ := hrel
    have HKR := hid hkr
    clear hkr
    by_cases hlt : j < 6
    · obtain ⟨vs, va, vm, k, hc, ⟨⟨nx, fr, hex⟩, hst⟩⟩ := HROW.out j hlt
      obtain ⟨c0, c1, c2, c3⟩ := hc wr HKR.out
      have HEX := hid (fun W (hk : Keeps (fun _ => False) wr W) => hex W (HKR.out.trans hk))
      have HST := hid (fun W (hk : Keeps (fun _ => False) wr W) => hst W (HKR.out.trans hk))
      have hgl := Nat.lt_of_lt_of_le HGL.out HKR.out.size
      have hlt' : (j : Int) < 6 := by omega
      have hj0 : (0 : Int) ≤ j := by omega
      clear hc hex hst hlt
      go_wp2_with fail
      have HQ := hid (alloc_new (w := wr) (o := .cells #[.pointer (some ⟨vs, 0, none⟩), .pointer (some ⟨va, 0, none⟩), .pointer (some ⟨vm, 0, none⟩), .int .i64 k] 115))
      go_quiet (first
        | (go_at_call 38; refine ((HEX.out _ (by repeat (first | exact Keeps.refl _ _ | apply Keeps.alloc | apply Keeps.drewN | apply Keeps.drew))).1).mono ?_; rintro e w' ⟨rfl, rfl⟩; exact ⟨rfl, _, rfl⟩)
        | (go_at_call 40; refine ((HEX.out _ (by repeat (first | exact Keeps.refl _ _ | apply Keeps.alloc | apply Keeps.drewN | apply Keeps.drew))).2).mono ?_; rintro e w' ⟨rfl, rfl⟩; exact ⟨rfl, _, rfl⟩))
      go_wp2_with fail
      refine (HST.out _ (by repeat (first | exact Keeps.refl _ _ | apply Keeps.alloc | apply Keeps.drewN | apply Keeps.drew))).mono ?_
      rintro e w12 ⟨rfl, k12⟩
      have HK12 := hid (Keeps.trans (((Keeps.refl (fun _ => False) wr).alloc _).drewN _) k12)
      have hq12 := block_keep HQ.out (Keeps.trans ((Keeps.refl (fun _ => False) _).drewN _) k12) (fun h => h)
      obtain ⟨d0, d1, d2, d3, dl⟩ := cells4 hq12
      clear k12 hq12 c0 c1 c2 c3
      go_wp2_with fail
      refine (((HEX.out _ (HK12.out.alloc _)).1)).mono ?_
      rintro e w' ⟨rfl, h'⟩
      obtain rfl := h'.symm
      go_wp2_with fail
      refine (((HEX.out _ (HK12.out.alloc _)).2)).mono ?_
      rintro e w' ⟨rfl, h'⟩
      obtain rfl := h'.symm
      go_wp2_with fail
      refine ⟨⟨j + 1, by omega, by go_num, ?_⟩, by simp [intOf]; omega⟩
      exact (HKR.out.trans HK12.out).alloc _
    · have hlt' : ¬ (j : Int) < 6 := by omega
      obtain ⟨wo, rfl⟩ : ∃ wo : World, wo = wr := ⟨_, rfl⟩
      have HTO := hid (HTL.out.same HKR.out)
      have HRO := hid (HRL.out.keeps HKR.out (fun _ _ h => h))
      have hf0 : (0 : Int) ≤ far := by omega
      clear hlt HKR HROW HGL HTL HRL
      go_wp2_with fail
      clear hlt'
      obtain ⟨wP, hwP⟩ : ∃ wP, wo.alloc (.cells #[.int .i64 (-(far : Int)), .int .i64 (257 + (far : Int))] 3) = wP := ⟨_, rfl⟩
      have kP : Keeps (fun _ => False) wo wP := by rw [← hwP]; exact (Keeps.refl _ _).alloc _
      have qP : wP.heap[wo.heap.size]? = some (.cells #[.int .i64 (-(far : Int)), .int .i64 (257 + (far : Int))] 3) := by rw [← hwP]; exact alloc_new
      rw [hwP]
      have HTP := hid (HTO.out.same kP)
      have HRP := hid (HRO.out.keeps kP (fun _ _ h => h))
      have HQP := hid qP
      clear hwP kP qP HTO HRO
      go_loopw [187] (fun ix wr => ∃ i : Nat, i ≤ 2 ∧ ix = .int .i64 i ∧ Keeps (fun _ => False) wP wr) (fun ix _ => 2 - (intOf ix).toNat)
      case atStart => exact ⟨0, by omega, rfl, Keeps.refl _ _⟩
      case round =>
        obtain ⟨i, hi, rfl, hkx⟩ := hrel
        by_cases hlt : i < 2
        · obtain ⟨z, hz, hzb⟩ : ∃ z : Int, wr.cell? ⟨wo.heap.size, i, none⟩ = some (.int .i64 z) ∧ (z < 1 ∨ 256 < z) := by
            have hb := block_keep HQP.out hkx (fun h => h)
            match i, hlt with
            | 0, _ => exact ⟨_, cell_at hb rfl, .inl (by omega)⟩
            | 1, _ => exact ⟨_, cell_at hb rfl, .inr (by omega)⟩
          have HB := hid (swnew_bad z wr hzb)
          have HKX := hid hkx
          have hgl := Nat.lt_of_lt_of_le (lt_block HQP.out) hkx.size
          have hlt' : (i : Int) < 2 := by omega
          have hi0 : (0 : Int) ≤ i := by omega
          clear hkx hlt hzb
          go_wp2_with fail
          refine (HB.out).mono ?_
          rintro e w' ⟨rfl, h'⟩
          obtain rfl := h'.symm
          go_wp2_with fail
          exact ⟨⟨i + 1, by omega, by go_num, HKX.out⟩, by simp [intOf]; omega⟩
        · have hlt' : ¬ (i : Int) < 2 := by omega
          have HTX := hid (HTP.out.same hkx)
          have HRX := hid (HRP.out.keeps hkx (fun _ _ h => h))
          have HKX := hid (HK0.out.trans (HTX.out.kp))
          clear hkx hlt HTP HRP HQP
          go_wp2_with fail
          refine (aheap_ok a LA s.A wr HTX.out.both.ar).mono ?_
          rintro e w13 ⟨bh', bt', rfl, k13, _, _, hh13⟩
          have HK13 := hid k13; have HH13 := hid hh13
          clear k13 hh13
          go_wp2_with fail
          refine (hall_ok bh' bt' s.A.H w13 HH13.out).mono ?_
          rintro e w14 ⟨vb, rfl, hr14, k14⟩
          have HK14 := hid (HK13.out.trans k14); have HR14 := hid hr14.refs
          have HRA := hid (HRX.out.keeps HK14.out (fun _ _ h => h))
          have htl := tk_len s.A.H.T
          have ht256 := HTX.out.both.ar.heap.tab.n12.2
          clear k14 hr14
          go_wp2_with fail
          refine (requal _ _ _ _ w14 HR14.out HRA.out (by omega)).mono ?_
          rintro e w15 ⟨rfl, k15⟩
          have HK15 := hid (HK14.out.trans k15)
          rw [decide_eq_true rfl]
          clear k15
          go_wp2_with fail
          refine (works25 _).mono ?_
          rintro e w16 ⟨rfl, k16⟩
          go_wp2_with fail
          go_ret
          exact ⟨rfl, (HKX.out.trans HK15.out).trans k16⟩

set_option maxRecDepth 100000 in
theorem sweepRefuses_law {H : Type} {enc : TypeId × Value → H} {base : Nat} {spare : Nat → Bool} {held : Bool} {r : Reach} {b0 : Nat} (v : Value) (d : DataW H) (p : List MemPlace) {w : World} (hv : Value.okWide Tryz.prog w r b0 83 v)
    (h : DataW.Trod enc Tryz.prog w base spare held 83 v d p) (far : Int) (hf : (Lit.int .u16 far).wf = true) (w' : World) (e' : w' = w) : Calls Tryz.prog 9 #[v, .int .u16 far] w' fun e w2 => e = .returned (.bool true) ∧ Keeps (fun _ => False) w' w2 := by
  subst e'
  obtain ⟨x, y, l, mid, hs⟩ := setup25_shape hv h
  have hf' : 0 ≤ far ∧ far < 65536 := by
    have e1 : IntKind.u16.min = 0 := by decide
    have e2 : IntKind.u16.max = 65535 := by decide
    simp [Lit.wf, e1, e2] at hf
    omega
  obtain ⟨k, rfl⟩ : ∃ k : Nat, far = k := ⟨far.toNat, by omega⟩
  exact sweepRefuses_walk v x y k l mid w' hs (by omega)

end Go.Proofs.YtiopnedplnoleaaGreat
