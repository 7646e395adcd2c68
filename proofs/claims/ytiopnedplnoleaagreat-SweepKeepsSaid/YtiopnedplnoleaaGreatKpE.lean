/- estraylaw25.SweepKeeps: the walk. -/
import Derived.Test.YtiopnedplnoleaaGreatKpC
import Derived.Test.YtiopnedplnoleaaGreatKpF
namespace Go.Proofs.YtiopnedplnoleaaGreat
open Go.RowKit Go.ChangeShapes Go.WideShapes Go.ChangeAt Go.Deep
set_option linter.unusedVariables false
set_option linter.unusedSimpArgs false

theorem Trio.farN {w0 w W w' : World} {a m b : Nat} {LA : ArL} {LM : MkL} {s t : Sys} {S T : Sw} (h : Trio w0 w a m b LA LM s S) (hW : Trio w0 W a m b LA LM t T) (h3 : t.A.many = s.A.many) (h4 : t.M.K.many = s.M.K.many) (hk : Keeps (fun y => w.heap.size ≤ y) W w') : Trio w0 w' a m b LA LM t T :=
  ⟨Both.far h.both hW.both h3 h4 hk, hW.sw.keeps hk (by have := lt_block h.sw.own; omega), h.hb⟩
/-- names that lie apart from the system stay -/
theorem Trio.refs {w0 w w' : World} {a m b : Nat} {LA : ArL} {LM : MkL} {s : Sys} {S : Sw} (h : Trio w0 w a m b LA LM s S) {v : Value} {l : List Rf} (hv : Refs w v l) (hk : Keeps (fun y => y = b ∨ foot2 LA LM s y) w w') : Refs w' v l := by
  rcases hv with hv | ⟨g, cap, cur, rfl, hg, hc⟩
  · exact .inl hv
  · exact .inr ⟨g, cap, cur, rfl, block_keep hg hk (h.noref hg), hc⟩
theorem Trio.row {w0 w w' : World} {a m b base : Nat} {LA : ArL} {LM : MkL} {s : Sys} {S : Sw} (h : Trio w0 w a m b LA LM s S) {v : Value} {l : List Rf} (hv : Row w base v l) (hk : Keeps (fun y => y = b ∨ foot2 LA LM s y) w w') : Row w' base v l := by
  refine hv.keeps hk (fun k _ _ hk' => ?_)
  rcases hv.2 with ⟨rfl, _⟩ | ⟨g, cap, cur, rfl, _, hg, _⟩
  · cases hk'
  · obtain rfl : g = k := Option.some.inj hk'
    exact h.noref hg

theorem trio_mv {w0 w w' : World} {a m b : Nat} {LA : ArL} {LM : MkL} {s s' : Sys} {S : Sw} (h : Trio w0 w a m b LA LM s S) (hk : Keeps (foot2 LA LM s) w w') (hb : Both w0 w' a m LA LM s') : Trio w0 w' a m b LA LM s' S :=
  ⟨hb, h.sw.keeps hk (h.sw.foot h.both), h.hb⟩
theorem un_tk (s : Sys) (hn : s.A.H.T.n = s.M.P.n) : s.A.H.T.tk.filter (fun r => s.M.P.c r.s.toNat == 0) = s.un s.M.P.n := by
  unfold Sys.un Tb.tk
  rw [hn]

set_option maxRecDepth 100000 in
set_option maxHeartbeats 4000000 in
theorem sweepKeeps_walk (v : Value) (x y : Nat) (l mid ml : List Mv) (vm : Value) (w : World) (hv : SetupAt w v x y l mid) (hm : MvRow w vm ml) :
    Calls Tryz.prog 10 #[v, vm] w fun e w' => e = .returned (.bool true) ∧ Keeps (fun _ => False) w w' := by
  have HBG := hid (fun W (hk : Keeps (fun _ => False) w W) => begun25 v x y l mid W (hv.keeps0 hk))
  obtain ⟨hx, hy, v1, v2, rfl, _, _⟩ := hv
  have HSZ := hid (fun W => sizes25 x y v1 v2 W hx hy)
  have HALL := hid (made_all (n := 1 + x % 24) (ms := 1 + y % 2) (by omega) (by omega) (by omega) (by omega) l mid)
  have HSF := hid (made_safe (n := 1 + x % 24) (ms := 1 + y % 2) (by omega) (by omega) (by omega) (by omega) l mid)
  obtain ⟨n, hnn⟩ : ∃ n, 1 + x % 24 = n := ⟨_, rfl⟩
  obtain ⟨ms, hmm⟩ : ∃ ms, 1 + y % 2 = ms := ⟨_, rfl⟩
  have hn24 : 1 ≤ n ∧ n ≤ 24 := by omega
  have hms : 1 ≤ ms ∧ ms ≤ 2 := by omega
  rw [hnn, hmm] at HALL HBG HSZ HSF
  obtain ⟨s0, hs⟩ : ∃ s, Sys.made n ms l mid = s := ⟨_, rfl⟩
  rw [hs] at HBG HALL HSF
  have HKB := hid (fun W (hk : Keeps (fun _ => False) (w.alloc (.cells #[.int .u8 x, .int .u8 y, v1, v2] 83)) W) => cells4 (block_keep (alloc_new (w := w)) hk (fun h => h)))
  obtain ⟨am, cm, rfl, _, hmc2, hmr⟩ := hm
  have HROW := hid (show ∀ (i : Nat) (z : Mv), ml[i]? = some z → ∃ b2 o2, am = some ⟨b2, o2, none⟩ ∧ b2 < w.heap.size ∧ MvCell w b2 (o2 + i * 5) z from fun i z hz => by
    rcases hmr with rfl | ⟨b2, o2, e, hb, hc⟩
    · cases hz
    · exact ⟨b2, o2, e, hb, hc i z hz⟩)
  clear hs hnn hmm hmr
  go_enter Tryz.func10, Tryz.ntmps10
  go_wp2_with fail
  refine (HBG.out _ ((Keeps.refl _ _).alloc _)).mono ?_
  rintro e w1 ⟨a, m, b, LA, LM, w0, rfl, k0, ht⟩
  have HK0 := hid (show Keeps (fun _ => False) w w0 from ((Keeps.refl _ _).alloc _).trans k0)
  have HT1 := hid ht
  obtain ⟨z0, z1, z2, z3, zl⟩ := HKB.out _ (k0.trans ht.kp)
  clear k0 ht HBG
  go_wp2_with fail
  refine (HSZ.out _).mono ?_
  rintro e w2 ⟨rfl, k2⟩
  have HT2 := hid (HT1.out.same k2)
  clear k2 HT1 z0 z1 z2 z3 zl HKB HSZ
  go_wp2_with fail
  refine (aheap_ok a LA s0.A w2 HT2.out.both.ar).mono ?_
  rintro e w3 ⟨bh, bt, rfl, k3, _, _, hh3⟩
  have HT3 := hid (HT2.out.same k3); have HH3 := hid hh3
  clear k3 hh3 HT2
  go_wp2_with fail
  refine (hall_ok bh bt s0.A.H w3 HH3.out).mono ?_
  rintro e w4 ⟨va, rfl, hr4, k4⟩
  have HT4 := hid (HT3.out.same k4)
  have hr4' := hr4.refs
  obtain ⟨pa, ca, rfl⟩ := hr4'.slice
  have HR4 := hid hr4'
  have htl := tk_len s0.A.H.T
  obtain ⟨hok, hph, hcy, hmany, hPn⟩ := HALL.out
  have hTn : s0.A.H.T.n = n := hok.n.trans hPn
  have hlen : s0.A.H.T.tk.length ≤ 24 := by omega
  obtain ⟨tk, htk⟩ : ∃ tk, s0.A.H.T.tk = tk := ⟨_, rfl⟩
  have HTK := hid htk
  have htkn : ∀ r ∈ tk, 0 ≤ r.s ∧ r.s < n := fun r hr => by
    rw [← htk] at hr
    obtain ⟨i, e1, e2, _, _⟩ := tk_of hr
    omega
  have HTKN := hid htkn
  rw [htk] at HR4 hlen ⊢
  clear k4 hr4 hr4' HT3 HH3 htl hok hph hcy hmany htk htkn
  have hPn' : (s0.M.P.n : Int) = n := by omega
  go_wp2_with fail
  go_loopw [11, 43] (fun s11 ix wr => ∃ (k : Nat) (u : List Rf) (p : Option Addr) (c : Nat), k ≤ tk.length ∧ ix = .int .i64 k ∧ s11 = .slice p u.length c ∧ Hid (u = (tk.take k).filter (fun r => s0.M.P.c r.s.toNat == 0)) ∧ Hid (Row wr w4.heap.size (.slice p u.length c) u) ∧ Hid (Keeps (fun _ => False) w4 wr)) (fun _ ix _ => tk.length - (intOf ix).toNat)
  case atStart => exact ⟨0, [], none, 0, Nat.zero_le _, rfl, rfl, hid (by simp), hid (Row.nil _ _), hid (Keeps.refl _ _)⟩
  case round =>
    obtain ⟨k, u, p, c, hk, rfl, rfl, HU, HRu, HKr⟩ := hrel
    by_cases hlt : k < tk.length
    · obtain ⟨r, hr⟩ : ∃ r, tk[k]? = some r := ⟨_, List.getElem?_eq_getElem hlt⟩
      obtain ⟨_, hcell⟩ := (HR4.out.keeps HKr.out (fun _ _ h => h)).cell
      obtain ⟨g, rfl, hg, c0, c1⟩ := hcell k r hr
      have hlt' : (k : Int) < (tk.length : Int) := by omega
      have hk0 : (0 : Int) ≤ k := by omega
      have HMK := hid (fun W (hk : Keeps (fun _ => False) wr W) => mmarked_any m LM s0.M r.s W ((HT4.out.same (HKr.out.trans hk)).both.mm))
      have hrs := HTKN.out r (List.mem_of_getElem? hr)
      rw [show s0.M.markedR r.s = (!(s0.M.P.c r.s.toNat == 0), 0) by unfold Mk.markedR; rw [if_neg (by omega)]] at HMK
      have HRr := hid hr
      clear hcell hr hrs
      go_wp2_with fail
      refine (HMK.out _ ((Keeps.refl _ _).alloc _)).mono ?_
      rintro e w5 ⟨rfl, k5⟩
      obtain ⟨d0, d1, _, dl⟩ := cells2 (block_keep (alloc_new (w := wr)) k5 (fun h => h))
      have HK5 := hid (show Keeps (fun _ => False) wr w5 from ((Keeps.refl _ _).alloc _).trans k5)
      clear k5
      by_cases hc : s0.M.P.c r.s.toNat = 0
      · rw [show (!(s0.M.P.c r.s.toNat == 0)) = false by simpa using hc]
        have HUN := hid (show (tk.take (k + 1)).filter (fun r => s0.M.P.c r.s.toNat == 0) = u ++ [r] by
          rw [HU.out, List.take_add_one, HRr.out, List.filter_append]; simp [hc])
        clear hc
        have hkb : Keeps (fun _ => False) wr (w5.alloc (.cells #[.int .i64 r.s, .int .u32 r.g] 37)) := HK5.out.alloc _
        have HRa := hid (HRu.out.keeps hkb (fun _ _ _ _ h => h)); have HKa := hid (HKr.out.trans hkb)
        have HRy := hid (refs_one (alloc_new (w := w5) (o := .cells #[.int .i64 r.s, .int .u32 r.g] 37)))
        have hul : u.length ≤ 24 := by rw [HU.out]; exact Nat.le_trans (List.length_filter_le _ _) (by rw [List.length_take]; omega)
        clear hkb
        go_wp2_with (first
          | (at_builtin; refine wpList_append_refs _ rfl _ _ rfl w4.heap.size (.slice p u.length c) _ u [r] rfl rfl HRa.out HRy.out (by simp; omega) HKa.out.size ?_; intro v9 w9 hr9 hk9 ho9)
          | fail)
        obtain ⟨p9, c9, rfl⟩ := hr9.refs.slice
        have hlt9 := HRa.out.lt
        exact ⟨⟨k + 1, u ++ [r], p9, c9, by omega, by go_num, rfl, hid HUN.out.symm, hid hr9, hid (HKa.out.trans' hk9 (fun _ _ h => h) (fun y hy h => by have := (hlt9 y h).1; omega))⟩, by simp [intOf]; omega⟩
      · rw [show (!(s0.M.P.c r.s.toNat == 0)) = true by simpa using hc]
        have HUN := hid (show (tk.take (k + 1)).filter (fun r => s0.M.P.c r.s.toNat == 0) = u by
          rw [HU.out, List.take_add_one, HRr.out, List.filter_append]; simp [hc])
        clear hc
        go_wp2_with fail
        exact ⟨⟨k + 1, u, p, c, by omega, by go_num, rfl, hid HUN.out.symm, hid (HRu.out.keeps HK5.out (fun _ _ _ _ h => h)), hid (HKr.out.trans HK5.out)⟩, by simp [intOf]; omega⟩
    · have hlt' : ¬ (k : Int) < (tk.length : Int) := by omega
      obtain ⟨wB, rfl⟩ : ∃ wB : World, wB = wr := ⟨_, rfl⟩
      obtain ⟨hok, hph, hcy, hmany, hPn⟩ := HALL.out
      have hun : u = s0.un n := by
        rw [HU.out, List.take_of_length_le (by omega), ← HTK.out, un_tk s0 hok.n, hPn]
      have HTB := hid (HT4.out.same HKr.out)
      have HRU := hid HRu.out.refs
      have hunl : u.length ≤ 24 := by rw [HU.out]; exact Nat.le_trans (List.length_filter_le _ _) (by rw [List.length_take]; omega)
      have HUN := hid hun
      have HKP := hid (Kp.zero hok HSF.out hph hPn)
      have HMA := hid (show s0.A.many = ms by rw [hok.k]; exact hmany)
      have HUB := hid (HRu.out.lt)
      clear hok hph hcy hmany hPn hun HU HRu HKr HR4 HT4 HTKN hPn' hlt hlen
      go_wp2_with fail
      clear hlt'
      have hul0 : (u.length : Int) ≤ 24 := by omega
      go_loopw [16, 64] (fun s16 ix wr => ∃ (i : Nat) (s : Sys) (S : Sw) (fr : List Rf) (pf : Option Addr) (cf : Nat), i ≤ n ∧ ix = .int .i64 i ∧ s16 = .slice pf fr.length cf ∧ Hid (Kp s0 n i s S fr) ∧ Hid (s.A.many = ms) ∧ Hid (Trio w0 wr a m b LA LM s S) ∧ Hid (Refs wr (.slice p u.length c) u) ∧ Hid (Row wr wB.heap.size (.slice pf fr.length cf) fr) ∧ Hid (wB.heap.size ≤ wr.heap.size)) (fun _ ix _ => n - (intOf ix).toNat)
      case atStart => exact ⟨0, s0, _, [], none, 0, Nat.zero_le _, rfl, rfl, HKP, HMA, HTB, HRU, hid (Row.nil _ _), hid (Nat.le_refl _)⟩
      case round =>
        obtain ⟨i, s, S, fr, pf, cf, hi, rfl, rfl, HKi, HMi, HTi, HUi, HFi, HLi⟩ := hrel
        by_cases hlt : i < n
        · have hlt' : (i : Int) < (n : Int) := by omega
          have hi0 : (0 : Int) ≤ i := by omega
          obtain rfl := HKi.out.S
          have HST := hid (HKi.out.step hlt)
          have HCK := hid (HKi.out.chk hlt)
          have hfl : fr.length ≤ 24 := by
            have h1 := HKi.out.fr
            have h2 : (s0.un i).length ≤ i := by
              unfold Sys.un
              exact Nat.le_trans (List.length_filter_le _ _) (by rw [List.length_map]; exact Tb.inn_len _ _ _)
            rw [h1]; omega
          have hdn : ((Sw.mk n i fr.length).next == (Sw.mk n i fr.length).size) = false := by show (i == n) = false; simpa using (by omega : ¬ i = n)
          have HDN := hid (fun W (hk : SwAt W b ⟨n, i, fr.length⟩) => swdone_ok b ⟨n, i, fr.length⟩ W hk)
          rw [hdn] at HDN
          clear hdn
          have htk := tk_len s.A.H.T
          have htn : s.A.H.T.n = n := by rw [HKi.out.ok.n]; exact HKi.out.nn
          have htl : s.A.H.T.tk.length ≤ 24 := by omega
          clear htk htn
          go_wp2_with fail
          refine (HDN.out _ HTi.out.sw).mono ?_
          rintro e w5 ⟨rfl, k5⟩
          have HT5 := hid (HTi.out.same k5); have HU5 := hid (HUi.out.keeps k5 (fun _ _ h => h)); have HF5 := hid (HFi.out.keeps k5 (fun _ _ _ _ h => h))
          have HL5 := hid (Nat.le_trans HLi.out k5.size)
          clear k5 HTi HUi HFi HLi
          go_wp2_with fail
          refine ((show Calls Tryz.prog 38 _ _ (fun e w' => e = .returned (.int .i64 i) ∧ w' = w5) from swat_ok b ⟨n, i, fr.length⟩ w5 HT5.out.sw)).mono ?_
          rintro e w' ⟨rfl, h'⟩
          obtain rfl := h'.symm
          go_wp2_with fail
          refine (aheap_ok a LA s.A w5 HT5.out.both.ar).mono ?_
          rintro e w6 ⟨bh2, bt2, rfl, k6, _, _, hh6⟩
          have HT6 := hid (HT5.out.same k6); have HU6 := hid (HU5.out.keeps k6 (fun _ _ h => h)); have HF6 := hid (HF5.out.keeps k6 (fun _ _ _ _ h => h)); have HH6 := hid hh6
          have HL6 := hid (Nat.le_trans HL5.out k6.size); have HFL := hid (HF6.out.lt)
          clear k6 hh6 HT5 HU5 HF5 HL5
          go_wp2_with fail
          refine (hall_ok bh2 bt2 s.A.H w6 HH6.out).mono ?_
          rintro e w7 ⟨vb, rfl, hr7, k7⟩
          have HT7 := hid (HT6.out.same k7); have HU7 := hid (HU6.out.keeps k7 (fun _ _ h => h)); have HF7 := hid (HF6.out.keeps k7 (fun _ _ _ _ h => h)); have HV7 := hid hr7
          have HSTP := hid (trio_step HT7.out HKi.out.ok HCK.out)
          have HL7 := hid (show w6.heap.size ≤ w7.heap.size from k7.size)
          clear k7 hr7 HT6 HU6 HF6 HH6 HCK
          obtain ⟨R, hR⟩ : ∃ R, Sw.stepR ⟨n, i, fr.length⟩ s = R := ⟨_, rfl⟩
          rw [hR] at HST HSTP
          clear hR
          go_wp2_with fail
          refine HSTP.out.mono ?_
          rintro e w8 ⟨rfl, ht8, k8⟩
          dsimp only [Rf.val]
          have HT8 := hid ht8; have HU8 := hid (HT7.out.refs HU7.out k8); have HF8 := hid (HT7.out.row HF7.out k8); have HV8 := hid (HT7.out.row HV7.out k8)
          have HGL := hid (HV8.out.lt)
          have HL8 := hid (show w6.heap.size ≤ w8.heap.size from Nat.le_trans HL7.out k8.size)
          clear ht8 k8 HSTP HT7 HU7 HF7 HV7 HL7
          obtain ⟨RS, Rs, rr, is⟩ := R
          dsimp only at HST HT8 ⊢
          obtain ⟨hkp, hz1, hz2, htk, hsn, hmy, hKK, hmem⟩ := HST.out
          have HKN := hid hkp; have HTKR := hid htk; have HMN := hid (show Rs.A.many = ms from hmy.trans HMi.out)
          clear HST
          cases is
          · have HKN := hid (show Kp s0 n (i + 1) Rs RS fr from HKN.out)
            have HTKR := hid (show Rs.A.H.T.tk = s.A.H.T.tk from HTKR.out)
            have hneq : ∀ W, Sem.run Tryz.prog (binOp .neq 37 (.agg #[.int .i64 rr.s, .int .u32 rr.g]) (.agg #[.int .i64 0, .int .u32 0])) W = .ok (.bool false) W := fun W => by
              rw [neq_nz]; rw [show rr.nz = false by have := hz2 rfl; rw [this]; rfl]
            have HSN := hid (show RS.n = fr.length by simpa using hsn)
            clear hkp hz1 hz2 htk hsn hmy hKK hmem
            have HFR := hid (fun W (h : SwAt W b RS) => show Calls Tryz.prog 40 #[.pointer (some ⟨b, 0, none⟩)] W (fun e w' => e = .returned (.int .i64 fr.length) ∧ w' = W) from by
              have := swfreed_ok b RS W h; rwa [HSN.out] at this)
            have HT9 := hid (HT8.out.same ((Keeps.refl _ _).alloc (.cells #[.int .i64 rr.s, .int .u32 rr.g] 37)))
            have HU9 := hid (HU8.out.keeps ((Keeps.refl (fun _ => False) _).alloc (.cells #[.int .i64 rr.s, .int .u32 rr.g] 37)) (fun _ _ h => h))
            have HF9 := hid (HF8.out.keeps ((Keeps.refl (fun _ => False) _).alloc (.cells #[.int .i64 rr.s, .int .u32 rr.g] 37)) (fun _ _ _ _ h => h))
            have HB9 := hid (HV8.out.refs.keeps ((Keeps.refl (fun _ => False) _).alloc (.cells #[.int .i64 rr.s, .int .u32 rr.g] 37)) (fun _ _ h => h))
            clear HT8 HU8 HF8 HV8 HSN
            go_wp2_with fail
            refine ((HFR.out _ HT9.out.sw)).mono ?_
            rintro e w' ⟨rfl, h'⟩
            obtain rfl := h'.symm
            go_wp2_with fail
            refine ((one25 false _)).mono ?_
            rintro e w' ⟨rfl, h'⟩
            obtain rfl := h'.symm
            go_wp2_with fail
            have HTc := HT9; have HUc := HU9; have HFc := HF9
            have HBc := hid (show Refs (w8.alloc (.cells #[.int .i64 rr.s, .int .u32 rr.g] 37)) vb Rs.A.H.T.tk by rw [HTKR.out]; exact HB9.out)
            have HLc := hid (show wB.heap.size ≤ (w8.alloc (.cells #[.int .i64 rr.s, .int .u32 rr.g] 37)).heap.size by have := HL8.out; have := HL6.out; simp; omega)
            clear HT9 HU9 HF9 HB9 HL8 HTKR
            refine (aheap_ok a LA Rs.A _ HTc.out.both.ar).mono ?_
            rintro e w11 ⟨bh3, bt3, rfl, k11, _, _, hh11⟩
            have HT11 := hid (HTc.out.same k11); have HU11 := hid (HUc.out.keeps k11 (fun _ _ h => h)); have HF11 := hid (HFc.out.keeps k11 (fun _ _ _ _ h => h)); have HL11 := hid (Nat.le_trans HLc.out (Keeps.size k11))
            have HB11 := hid (HBc.out.keeps k11 (fun _ _ h => h)); have HH11 := hid hh11
            clear k11 hh11 HTc HUc HFc HLc HBc
            go_wp2_with fail
            refine (hall_ok bh3 bt3 Rs.A.H w11 HH11.out).mono ?_
            rintro e w12 ⟨vc, rfl, hr12, k12⟩
            have HT12 := hid (HT11.out.same k12); have HU12 := hid (HU11.out.keeps k12 (fun _ _ h => h)); have HF12 := hid (HF11.out.keeps k12 (fun _ _ _ _ h => h)); have HL12 := hid (Nat.le_trans HL11.out (Keeps.size k12))
            have HB12 := hid (HB11.out.keeps k12 (fun _ _ h => h)); have HV12 := hid hr12.refs
            have htl2 := tk_len Rs.A.H.T
            have htn2 : Rs.A.H.T.n = n := by rw [HKN.out.ok.n]; exact HKN.out.nn
            clear k12 hr12 HT11 HU11 HF11 HL11 HB11 HH11
            go_wp2_with fail
            refine (requal _ _ _ _ w12 HV12.out HB12.out (by omega)).mono ?_
            rintro e w13 ⟨rfl, k13⟩
            rw [decide_eq_true rfl]
            have HT13 := hid (HT12.out.same k13); have HU13 := hid (HU12.out.keeps k13 (fun _ _ h => h)); have HF13 := hid (HF12.out.keeps k13 (fun _ _ _ _ h => h)); have HL13 := hid (Nat.le_trans HL12.out (Keeps.size k13))
            clear k13 HT12 HU12 HF12 HL12 HB12 HV12 htl2 htn2
            go_wp2_with fail
            refine (reached25 a LA Rs.A w13 HT13.out.both.ar HKN.out.ok.a).mono ?_
            rintro e w14 ⟨vr, rfl, lr, hrr, hga, hlr, k14⟩
            have HT14 := hid (HT13.out.same k14); have HU14 := hid (HU13.out.keeps k14 (fun _ _ h => h)); have HF14 := hid (HF13.out.keeps k14 (fun _ _ _ _ h => h)); have HL14 := hid (Nat.le_trans HL13.out (Keeps.size k14))
            have HRR := hid hrr; have HGA := hid hga
            clear k14 hrr hga HT13 HU13 HF13 HL13
            go_wp2_with fail
            refine (there25 a LA Rs.A vr lr w14 HT14.out.both.ar HRR.out (by omega) (fun r hr => HKN.out.safe.nd r (HGA.out r hr))).mono ?_
            rintro e w15 ⟨rfl, k15⟩
            have HT15 := hid (HT14.out.same k15); have HU15 := hid (HU14.out.keeps k15 (fun _ _ h => h)); have HF15 := hid (HF14.out.keeps k15 (fun _ _ _ _ h => h)); have HL15 := hid (Nat.le_trans HL14.out (Keeps.size k15))
            clear k15 HT14 HU14 HF14 HL14 HRR HGA hlr
            rcases Nat.lt_or_ge 60 ml.length with hm60 | hm60
            · have hm1 : (60 : Int) < (ml.length : Int) := by omega
              have hm2 : (i : Int) < 60 := by omega
              have hm3 : (i : Int) < (ml.length : Int) := by omega
              obtain ⟨z, hz⟩ : ∃ z, ml[i]? = some z := ⟨_, List.getElem?_eq_getElem (by omega)⟩
              obtain ⟨b2, o2, rfl, hb2, hzc⟩ := HROW.out i z hz
              have kw := HK0.out.trans HT15.out.kp
              have hbl := Nat.lt_of_lt_of_le hb2 kw.size
              obtain ⟨hzb, g0, g1, g2, g3, g4⟩ := hzc.same (kw.block b2 hb2 (fun h => h))
              have HBY := hid hzb
              have HDO := hid (fun W (hk : Keeps (fun _ => False) w15 W) => mvdo a m z ms Rs W (Duo.same HT15.out.both hk) HKN.out.ok (by omega) (by omega) HBY.out)
              have HMV := hid (z.did HKN.out.ok HKN.out.safe (ms := ms) (by omega) (by rw [HMN.out]; exact Nat.le_refl _))
              have HKM := hid (HKN.out.move z (ms := ms) (by omega) (by rw [HMN.out]; exact Nat.le_refl _))
              clear hz hzc hzb kw
              go_wp2_with fail
              refine (HDO.out _ (Keeps.refl _ _)).mono ?_
              rintro e w16 ⟨rfl, hd16, k16⟩
              have HD16 := hid hd16; have HK16 := hid (k16.mono (T := fun y => y = b ∨ foot2 LA LM Rs y) (fun _ _ h => .inr h)); have HT16 := hid (trio_mv HT15.out k16 hd16); have HL16 := hid (Nat.le_trans HL15.out k16.size)
              clear hd16 k16 g0 g1 g2 g3 g4
              go_wp2_with fail
              obtain ⟨N, hdid⟩ := HMV.out
              refine ⟨⟨i + 1, _, RS, fr, _, _, by omega, by go_num, rfl, HKM, hid (hdid.many.trans HMN.out), HT16, hid (HT15.out.refs HU15.out HK16.out), hid (HT15.out.row HF15.out HK16.out), HL16⟩, by simp [intOf]; omega⟩
            · have hm1 : ¬ (60 : Int) < (ml.length : Int) := by omega
              by_cases him : i < ml.length
              · have hm2 : (i : Int) < (ml.length : Int) := by omega
                obtain ⟨z, hz⟩ : ∃ z, ml[i]? = some z := ⟨_, List.getElem?_eq_getElem (by omega)⟩
                obtain ⟨b2, o2, rfl, hb2, hzc⟩ := HROW.out i z hz
                have kw := HK0.out.trans HT15.out.kp
                have hbl := Nat.lt_of_lt_of_le hb2 kw.size
                obtain ⟨hzb, g0, g1, g2, g3, g4⟩ := hzc.same (kw.block b2 hb2 (fun h => h))
                have HBY := hid hzb
                have HDO := hid (fun W (hk : Keeps (fun _ => False) w15 W) => mvdo a m z ms Rs W (Duo.same HT15.out.both hk) HKN.out.ok (by omega) (by omega) HBY.out)
                have HMV := hid (z.did HKN.out.ok HKN.out.safe (ms := ms) (by omega) (by rw [HMN.out]; exact Nat.le_refl _))
                have HKM := hid (HKN.out.move z (ms := ms) (by omega) (by rw [HMN.out]; exact Nat.le_refl _))
                clear hz hzc hzb kw
                go_wp2_with fail
                refine (HDO.out _ (Keeps.refl _ _)).mono ?_
                rintro e w16 ⟨rfl, hd16, k16⟩
                have HD16 := hid hd16; have HK16 := hid (k16.mono (T := fun y => y = b ∨ foot2 LA LM Rs y) (fun _ _ h => .inr h)); have HT16 := hid (trio_mv HT15.out k16 hd16); have HL16 := hid (Nat.le_trans HL15.out k16.size)
                clear hd16 k16 g0 g1 g2 g3 g4
                go_wp2_with fail
                obtain ⟨N, hdid⟩ := HMV.out
                refine ⟨⟨i + 1, _, RS, fr, _, _, by omega, by go_num, rfl, HKM, hid (hdid.many.trans HMN.out), HT16, hid (HT15.out.refs HU15.out HK16.out), hid (HT15.out.row HF15.out HK16.out), HL16⟩, by simp [intOf]; omega⟩
              · have hm2 : ¬ (i : Int) < (ml.length : Int) := by omega
                go_wp2_with fail
                refine ⟨⟨i + 1, Rs, RS, fr, _, _, by omega, by go_num, rfl, HKN, HMN, HT15, HU15, HF15, HL15⟩, by simp [intOf]; omega⟩
          · have HKN := hid (show Kp s0 n (i + 1) Rs RS (fr ++ [rr]) from HKN.out)
            have HTKR := hid (show Rs.A.H.T.tk = s.A.H.T.tk.filter (fun r => !decide (r = rr)) from HTKR.out)
            have hneq : ∀ W, Sem.run Tryz.prog (binOp .neq 37 (.agg #[.int .i64 rr.s, .int .u32 rr.g]) (.agg #[.int .i64 0, .int .u32 0])) W = .ok (.bool true) W := fun W => by
              rw [neq_nz]; rw [hz1 rfl]
            have HSN := hid (show RS.n = fr.length + 1 by simpa using hsn)
            have HNE := hid (show s.A.H.T.tk ≠ [] from List.ne_nil_of_mem (hmem rfl))
            clear hkp hz1 hz2 htk hsn hmy hKK hmem
            have HFR := hid (fun W (h : SwAt W b RS) => show Calls Tryz.prog 40 #[.pointer (some ⟨b, 0, none⟩)] W (fun e w' => e = .returned (.int .i64 ((fr.length : Int) + 1)) ∧ w' = W) from by
              have := swfreed_ok b RS W h
              rwa [HSN.out, show ((fr.length + 1 : Nat) : Int) = (fr.length : Int) + 1 by simp] at this)
            obtain ⟨w9, hw9⟩ : ∃ w9, w8.alloc (.cells #[.int .i64 rr.s, .int .u32 rr.g] 37) = w9 := ⟨_, rfl⟩
            have k9 : Keeps (fun _ => False) w8 w9 := by rw [← hw9]; exact (Keeps.refl _ _).alloc _
            have q9 : w9.heap[w8.heap.size]? = some (.cells #[.int .i64 rr.s, .int .u32 rr.g] 37) := by rw [← hw9]; exact alloc_new
            have hs9 : w9.heap.size = w8.heap.size + 1 := by rw [← hw9]; simp
            obtain ⟨x0, x1, _, xl⟩ := cells2 q9
            have HT9 := hid (HT8.out.same k9)
            have ka : Keeps (fun _ => False) w8 (w9.alloc (.cells #[.int .i64 rr.s, .int .u32 rr.g] 37)) := k9.alloc _
            have HTa := hid (HT8.out.same ka); have HUa := hid (HU8.out.keeps ka (fun _ _ h => h)); have HFa := hid (HF8.out.keeps ka (fun _ _ _ _ h => h)); have HVa := hid (HV8.out.keeps ka (fun _ _ _ _ h => h))
            have HBXa := hid (alloc_old (o := .cells #[.int .i64 rr.s, .int .u32 rr.g] 37) q9)
            have HRy := hid (refs_one (alloc_new (w := w9) (o := .cells #[.int .i64 rr.s, .int .u32 rr.g] 37)))
            have HS9 := hid hs9
            have HLa := hid (show wB.heap.size ≤ (w9.alloc (.cells #[.int .i64 rr.s, .int .u32 rr.g] 37)).heap.size by have := HL8.out; have := HL6.out; simp; omega)
            clear HT8 HU8 HF8 HV8 HSN k9 q9 ka hs9
            go_wp2_with fail
            clear hw9
            refine ((HFR.out _ HT9.out.sw)).mono ?_
            rintro e w' ⟨rfl, h'⟩
            obtain rfl := h'.symm
            go_wp2_with fail
            refine ((one25 true _)).mono ?_
            rintro e w' ⟨rfl, h'⟩
            obtain rfl := h'.symm
            go_wp2_with (first
              | (at_builtin; refine wpList_append_refs _ rfl _ _ rfl wB.heap.size (.slice pf fr.length cf) _ fr [rr] rfl rfl HFa.out HRy.out (by simp; omega) HLa.out ?_; intro v10 w10 hr10 hk10 ho10)
              | fail)
            obtain ⟨f2, hf2⟩ : ∃ f2, fr ++ [rr] = f2 := ⟨_, rfl⟩
            rw [hf2] at hr10 HKN
            clear hf2
            obtain ⟨p10, c10, rfl⟩ := hr10.refs.slice
            have hFa := HFa.out.lt
            have hm3 : Rs.A.many = s0.A.many := HMN.out.trans HMA.out.symm
            have hm4 : Rs.M.K.many = s0.M.K.many := HKN.out.ok.k.symm.trans (hm3.trans HALL.out.1.k)
            have HT10 := hid (HTB.out.farN HTa.out hm3 hm4 (hk10.mono (fun y _ h => (hFa y h).1)))
            have HU10 := hid (HUa.out.keeps hk10 (fun y hy h => by have := (HUB.out y hy).2; have := (hFa y h).1; omega))
            have HV10 := hid (HVa.out.keeps hk10 (fun y h1 _ _ h => by have := (HFL.out y h).2; omega))
            have HF10 := hid hr10
            have HBX10 := hid (block_keep HBXa.out hk10 (fun h => by have := (HFL.out _ h).2; have := HL8.out; omega))
            have HO10 := hid ho10
            have HL10 := hid (Nat.le_trans HLa.out hk10.size)
            clear hr10 hk10 ho10 HTa HUa HFa HVa HBXa HRy x0 x1 xl HFR HT9 hFa hneq
            obtain ⟨g, cap, cur, rfl, hgb, hg10, hcur, hcap, hmax, hsz⟩ := HV10.out.firsts HNE.out
            have hg8 := (HGL.out g rfl).2
            have HDF := hid (rdelete2 66 #[.pointer (some ⟨w8.heap.size, 0, none⟩)] (fun x => decide (x = rr)) g cap cur s.A.H.T.tk w10 hg10 hcur (by omega) hcap (by omega) (enters_of Tryz.func66 (by kernel_rfl) rfl) (fun x _ W hk => kpdel1 _ x rr W (block_keep HBX10.out hk (by omega))))
            clear hg10 hcur hcap hmax hsz HBX10 HV10
            refine HDF.out.mono ?_
            rintro e w10b ⟨_, rfl, cc, hgc, rfl, hsc, hfc, hkc⟩
            have HTc := hid (HTB.out.farN HT10.out hm3 hm4 (hkc.mono (fun y _ h => by have := HL6.out; omega)))
            have HUc := hid (HU10.out.keeps hkc (fun y hy h => by have := (HUB.out y hy).2; have := HL6.out; omega))
            have HFc := hid (HF10.out.keeps hkc (fun y _ _ hy h => by
              rcases HO10.out with e1 | e1
              · rw [e1] at hy; have := (HFL.out y hy).2; omega
              · rw [e1] at hy; have h2 := Option.some.inj hy; rw [World.size_alloc] at h2; have := HS9.out; omega))
            have HBc := hid (show Refs w10b (.slice (some ⟨g, 0, none⟩) (s.A.H.T.tk.filter (fun x => !decide (x = rr))).length cap) Rs.A.H.T.tk by rw [HTKR.out]; exact .inr ⟨g, cap, cc, rfl, hgc, hfc⟩)
            have HLc := hid (Nat.le_trans HL10.out hkc.size)
            clear hgc hsc hfc hkc HDF HT10 HU10 HF10 HO10 HL10 hm3 hm4 HTKR HNE HS9
            go_wp2_with fail
            refine (aheap_ok a LA Rs.A _ HTc.out.both.ar).mono ?_
            rintro e w11 ⟨bh3, bt3, rfl, k11, _, _, hh11⟩
            have HT11 := hid (HTc.out.same k11); have HU11 := hid (HUc.out.keeps k11 (fun _ _ h => h)); have HF11 := hid (HFc.out.keeps k11 (fun _ _ _ _ h => h)); have HL11 := hid (Nat.le_trans HLc.out (Keeps.size k11))
            have HB11 := hid (HBc.out.keeps k11 (fun _ _ h => h)); have HH11 := hid hh11
            clear k11 hh11 HTc HUc HFc HLc HBc
            go_wp2_with fail
            refine (hall_ok bh3 bt3 Rs.A.H w11 HH11.out).mono ?_
            rintro e w12 ⟨vc, rfl, hr12, k12⟩
            have HT12 := hid (HT11.out.same k12); have HU12 := hid (HU11.out.keeps k12 (fun _ _ h => h)); have HF12 := hid (HF11.out.keeps k12 (fun _ _ _ _ h => h)); have HL12 := hid (Nat.le_trans HL11.out (Keeps.size k12))
            have HB12 := hid (HB11.out.keeps k12 (fun _ _ h => h)); have HV12 := hid hr12.refs
            have htl2 := tk_len Rs.A.H.T
            have htn2 : Rs.A.H.T.n = n := by rw [HKN.out.ok.n]; exact HKN.out.nn
            clear k12 hr12 HT11 HU11 HF11 HL11 HB11 HH11
            go_wp2_with fail
            refine (requal _ _ _ _ w12 HV12.out HB12.out (by omega)).mono ?_
            rintro e w13 ⟨rfl, k13⟩
            rw [decide_eq_true rfl]
            have HT13 := hid (HT12.out.same k13); have HU13 := hid (HU12.out.keeps k13 (fun _ _ h => h)); have HF13 := hid (HF12.out.keeps k13 (fun _ _ _ _ h => h)); have HL13 := hid (Nat.le_trans HL12.out (Keeps.size k13))
            clear k13 HT12 HU12 HF12 HL12 HB12 HV12 htl2 htn2
            go_wp2_with fail
            refine (reached25 a LA Rs.A w13 HT13.out.both.ar HKN.out.ok.a).mono ?_
            rintro e w14 ⟨vr, rfl, lr, hrr, hga, hlr, k14⟩
            have HT14 := hid (HT13.out.same k14); have HU14 := hid (HU13.out.keeps k14 (fun _ _ h => h)); have HF14 := hid (HF13.out.keeps k14 (fun _ _ _ _ h => h)); have HL14 := hid (Nat.le_trans HL13.out (Keeps.size k14))
            have HRR := hid hrr; have HGA := hid hga
            clear k14 hrr hga HT13 HU13 HF13 HL13
            go_wp2_with fail
            refine (there25 a LA Rs.A vr lr w14 HT14.out.both.ar HRR.out (by omega) (fun r hr => HKN.out.safe.nd r (HGA.out r hr))).mono ?_
            rintro e w15 ⟨rfl, k15⟩
            have HT15 := hid (HT14.out.same k15); have HU15 := hid (HU14.out.keeps k15 (fun _ _ h => h)); have HF15 := hid (HF14.out.keeps k15 (fun _ _ _ _ h => h)); have HL15 := hid (Nat.le_trans HL14.out (Keeps.size k15))
            clear k15 HT14 HU14 HF14 HL14 HRR HGA hlr
            rcases Nat.lt_or_ge 60 ml.length with hm60 | hm60
            · have hm1 : (60 : Int) < (ml.length : Int) := by omega
              have hm2 : (i : Int) < 60 := by omega
              have hm3 : (i : Int) < (ml.length : Int) := by omega
              obtain ⟨z, hz⟩ : ∃ z, ml[i]? = some z := ⟨_, List.getElem?_eq_getElem (by omega)⟩
              obtain ⟨b2, o2, rfl, hb2, hzc⟩ := HROW.out i z hz
              have kw := HK0.out.trans HT15.out.kp
              have hbl := Nat.lt_of_lt_of_le hb2 kw.size
              obtain ⟨hzb, g0, g1, g2, g3, g4⟩ := hzc.same (kw.block b2 hb2 (fun h => h))
              have HBY := hid hzb
              have HDO := hid (fun W (hk : Keeps (fun _ => False) w15 W) => mvdo a m z ms Rs W (Duo.same HT15.out.both hk) HKN.out.ok (by omega) (by omega) HBY.out)
              have HMV := hid (z.did HKN.out.ok HKN.out.safe (ms := ms) (by omega) (by rw [HMN.out]; exact Nat.le_refl _))
              have HKM := hid (HKN.out.move z (ms := ms) (by omega) (by rw [HMN.out]; exact Nat.le_refl _))
              clear hz hzc hzb kw
              go_wp2_with fail
              refine (HDO.out _ (Keeps.refl _ _)).mono ?_
              rintro e w16 ⟨rfl, hd16, k16⟩
              have HD16 := hid hd16; have HK16 := hid (k16.mono (T := fun y => y = b ∨ foot2 LA LM Rs y) (fun _ _ h => .inr h)); have HT16 := hid (trio_mv HT15.out k16 hd16); have HL16 := hid (Nat.le_trans HL15.out k16.size)
              clear hd16 k16 g0 g1 g2 g3 g4
              go_wp2_with fail
              obtain ⟨N, hdid⟩ := HMV.out
              refine ⟨⟨i + 1, _, RS, f2, _, _, by omega, by go_num, rfl, HKM, hid (hdid.many.trans HMN.out), HT16, hid (HT15.out.refs HU15.out HK16.out), hid (HT15.out.row HF15.out HK16.out), HL16⟩, by simp [intOf]; omega⟩
            · have hm1 : ¬ (60 : Int) < (ml.length : Int) := by omega
              by_cases him : i < ml.length
              · have hm2 : (i : Int) < (ml.length : Int) := by omega
                obtain ⟨z, hz⟩ : ∃ z, ml[i]? = some z := ⟨_, List.getElem?_eq_getElem (by omega)⟩
                obtain ⟨b2, o2, rfl, hb2, hzc⟩ := HROW.out i z hz
                have kw := HK0.out.trans HT15.out.kp
                have hbl := Nat.lt_of_lt_of_le hb2 kw.size
                obtain ⟨hzb, g0, g1, g2, g3, g4⟩ := hzc.same (kw.block b2 hb2 (fun h => h))
                have HBY := hid hzb
                have HDO := hid (fun W (hk : Keeps (fun _ => False) w15 W) => mvdo a m z ms Rs W (Duo.same HT15.out.both hk) HKN.out.ok (by omega) (by omega) HBY.out)
                have HMV := hid (z.did HKN.out.ok HKN.out.safe (ms := ms) (by omega) (by rw [HMN.out]; exact Nat.le_refl _))
                have HKM := hid (HKN.out.move z (ms := ms) (by omega) (by rw [HMN.out]; exact Nat.le_refl _))
                clear hz hzc hzb kw
                go_wp2_with fail
                refine (HDO.out _ (Keeps.refl _ _)).mono ?_
                rintro e w16 ⟨rfl, hd16, k16⟩
                have HD16 := hid hd16; have HK16 := hid (k16.mono (T := fun y => y = b ∨ foot2 LA LM Rs y) (fun _ _ h => .inr h)); have HT16 := hid (trio_mv HT15.out k16 hd16); have HL16 := hid (Nat.le_trans HL15.out k16.size)
                clear hd16 k16 g0 g1 g2 g3 g4
                go_wp2_with fail
                obtain ⟨N, hdid⟩ := HMV.out
                refine ⟨⟨i + 1, _, RS, f2, _, _, by omega, by go_num, rfl, HKM, hid (hdid.many.trans HMN.out), HT16, hid (HT15.out.refs HU15.out HK16.out), hid (HT15.out.row HF15.out HK16.out), HL16⟩, by simp [intOf]; omega⟩
              · have hm2 : ¬ (i : Int) < (ml.length : Int) := by omega
                go_wp2_with fail
                refine ⟨⟨i + 1, Rs, RS, f2, _, _, by omega, by go_num, rfl, HKN, HMN, HT15, HU15, HF15, HL15⟩, by simp [intOf]; omega⟩
        · obtain rfl : i = n := by omega
          have hlt' : ¬ ((i : Nat) : Int) < (i : Int) := by omega
          obtain ⟨wC, rfl⟩ : ∃ wC : World, wC = wr := ⟨_, rfl⟩
          obtain rfl := HKi.out.S
          have htk := tk_len s.A.H.T
          have htn : s.A.H.T.n = i := by rw [HKi.out.ok.n]; exact HKi.out.nn
          have htl : s.A.H.T.tk.length ≤ 24 := by omega
          have hfu : fr = u := HKi.out.fr.trans HUN.out.symm
          subst hfu
          clear htk htn hlt
          go_wp2_with fail
          clear hlt'
          refine (aheap_ok a LA s.A wC HTi.out.both.ar).mono ?_
          rintro e w5 ⟨bh2, bt2, rfl, k5, _, _, hh5⟩
          have HT5 := hid (HTi.out.same k5); have HU5 := hid (HUi.out.keeps k5 (fun _ _ h => h)); have HF5 := hid (HFi.out.keeps k5 (fun _ _ _ _ h => h)); have HH5 := hid hh5
          clear k5 hh5 HTi HUi HFi
          go_wp2_with fail
          refine (hall_ok bh2 bt2 s.A.H w5 HH5.out).mono ?_
          rintro e w6 ⟨vb, rfl, hr6, k6⟩
          have HT6 := hid (HT5.out.same k6); have HU6 := hid (HU5.out.keeps k6 (fun _ _ h => h)); have HF6 := hid ((HF5.out.keeps k6 (fun _ _ _ _ h => h)).refs)
          obtain ⟨pb, cb, rfl⟩ := hr6.refs.slice
          have HV6 := hid hr6.refs
          clear k6 hr6 HT5 HU5 HF5 HH5
          have hnot : ∀ r ∈ s.A.H.T.tk, r ∉ fr := fun r hr => by rw [HUN.out]; exact HKi.out.done hr
          have HNOT := hid hnot
          obtain ⟨tl, htl'⟩ : ∃ tl, s.A.H.T.tk = tl := ⟨_, rfl⟩
          have HTL := hid htl'
          rw [htl'] at HV6 HNOT htl ⊢
          clear hnot htl'
          go_wp2_with fail
          go_loopw [17, 144] (fun s17 ix wr => ∃ (k : Nat) (kt : List Rf) (pk : Option Addr) (ck : Nat), k ≤ tl.length ∧ ix = .int .i64 k ∧ s17 = .slice pk kt.length ck ∧ Hid (kt.length = k) ∧ Hid (Row wr w6.heap.size (.slice pk kt.length ck) kt) ∧ Hid (Keeps (fun _ => False) w6 wr)) (fun _ ix _ => tl.length - (intOf ix).toNat)
          case atStart => exact ⟨0, [], none, 0, Nat.zero_le _, rfl, rfl, hid rfl, hid (Row.nil _ _), hid (Keeps.refl _ _)⟩
          case round =>
            obtain ⟨k, kt, pk, ck, hk, rfl, rfl, HKL, HRk, HKk⟩ := hrel
            by_cases hlt : k < tl.length
            · obtain ⟨r, hr⟩ : ∃ r, tl[k]? = some r := ⟨_, List.getElem?_eq_getElem hlt⟩
              obtain ⟨_, hcell⟩ := (HV6.out.keeps HKk.out (fun _ _ h => h)).cell
              obtain ⟨g, rfl, hg, c0, c1⟩ := hcell k r hr
              have hlt' : (k : Int) < (tl.length : Int) := by omega
              have hk24 : kt.length ≤ 24 := by rw [HKL.out]; omega
              have hk0 : (0 : Int) ≤ k := by omega
              have HCT := hid (fun W (hk : Keeps (fun _ => False) wr W) => rcontains _ fr r W (HU6.out.keeps (HKk.out.trans hk) (fun _ _ h => h)) (by omega))
              rw [decide_eq_false (HNOT.out r (List.mem_of_getElem? hr))] at HCT
              clear hcell hr
              go_wp2_with fail
              refine (HCT.out _ ((Keeps.refl _ _).alloc _)).mono ?_
              rintro e w7 ⟨rfl, k7⟩
              obtain ⟨d0, d1, _, dl⟩ := cells2 (block_keep (alloc_new (w := wr)) k7 (fun h => h))
              have hka : Keeps (fun _ => False) wr (w7.alloc (.cells #[.int .i64 r.s, .int .u32 r.g] 37)) := (((Keeps.refl _ _).alloc _).trans k7).alloc _
              have HRa := hid (HRk.out.keeps hka (fun _ _ _ _ h => h)); have HKa := hid (HKk.out.trans hka)
              have HRy := hid (refs_one (alloc_new (w := w7) (o := .cells #[.int .i64 r.s, .int .u32 r.g] 37)))
              clear k7 hka
              go_wp2_with (first
                | (at_builtin; refine wpList_append_refs _ rfl _ _ rfl w6.heap.size (.slice pk kt.length ck) _ kt [r] rfl rfl HRa.out HRy.out (by simp; omega) HKa.out.size ?_; intro v9 w9 hr9 hk9 ho9)
                | fail)
              obtain ⟨k2, hk2⟩ : ∃ k2, kt ++ [r] = k2 := ⟨_, rfl⟩
              have HK2 := hid (show k2.length = k + 1 from by rw [← hk2]; simp [HKL.out])
              rw [hk2] at hr9
              clear hk2
              obtain ⟨p9, c9, rfl⟩ := hr9.refs.slice
              have hlt9 := HRa.out.lt
              exact ⟨⟨k + 1, k2, p9, c9, by omega, by go_num, rfl, HK2, hid hr9, hid (HKa.out.trans' hk9 (fun _ _ h => h) (fun y hy h => by have := (hlt9 y h).1; omega))⟩, by simp [intOf]; omega⟩
            · have hlt' : ¬ (k : Int) < (tl.length : Int) := by omega
              obtain ⟨wD, rfl⟩ : ∃ wD : World, wD = wr := ⟨_, rfl⟩
              have HKL' := hid (show kt.length = tl.length by rw [HKL.out]; omega)
              have HTd := hid (HT6.out.same HKk.out); have HUd := hid (HU6.out.keeps HKk.out (fun _ _ h => h)); have HFd := hid (HF6.out.keeps HKk.out (fun _ _ h => h))
              have hdn : ((Sw.mk i i fr.length).next == (Sw.mk i i fr.length).size) = true := by show (i == i) = true; simp
              have HDN := hid (fun W (hk : SwAt W b ⟨i, i, fr.length⟩) => swdone_ok b ⟨i, i, fr.length⟩ W hk)
              rw [hdn] at HDN
              have hle : ((kt.length : Int) == (tl.length : Int)) = true := by rw [HKL'.out]; simp
              have HLE := hid hle
              clear HKL HKk HRk HT6 HU6 HF6 HV6 hdn hle
              go_wp2_with fail
              refine (HDN.out _ HTd.out.sw).mono ?_
              rintro e w7 ⟨rfl, k7⟩
              have HT7 := hid (HTd.out.same k7); have HU7 := hid (HUd.out.keeps k7 (fun _ _ h => h)); have HF7 := hid (HFd.out.keeps k7 (fun _ _ h => h))
              clear k7 HTd HUd HFd
              go_wp2_with fail
              refine (requal _ _ _ _ w7 HF7.out HU7.out (by omega)).mono ?_
              rintro e w8 ⟨rfl, k8⟩
              rw [decide_eq_true rfl]
              have HT8 := hid (HT7.out.same k8)
              clear k8 HT7 HU7 HF7
              go_wp2_with fail
              refine (aheap_ok a LA s.A w8 HT8.out.both.ar).mono ?_
              rintro e w9 ⟨bh3, bt3, rfl, k9, _, _, hh9⟩
              have HT9 := hid (HT8.out.same k9); have HH9 := hid hh9
              clear k9 hh9 HT8
              go_wp2_with fail
              refine (hall_ok bh3 bt3 s.A.H w9 HH9.out).mono ?_
              rintro e w10 ⟨vc, rfl, hr10, k10⟩
              have HT10 := hid (HT9.out.same k10)
              obtain ⟨pc, cc, rfl⟩ := hr10.refs.slice
              rw [HTL.out]
              have hle := HLE.out
              clear k10 hr10 HT9 HH9
              go_wp2_with fail
              refine (reached25 a LA s.A w10 HT10.out.both.ar HKi.out.ok.a).mono ?_
              rintro e w14 ⟨vr, rfl, lr, hrr, hga, hlr, k14⟩
              have HT14 := hid (HT10.out.same k14); have HRR := hid hrr; have HGA := hid hga
              clear k14 hrr hga HT10
              go_wp2_with fail
              refine (there25 a LA s.A vr lr w14 HT14.out.both.ar HRR.out (by omega) (fun r hr => HKi.out.safe.nd r (HGA.out r hr))).mono ?_
              rintro e w15 ⟨rfl, k15⟩
              have HT15 := hid (HT14.out.same k15)
              clear k15 HT14
              go_wp2_with fail
              refine (works25 _).mono ?_
              rintro e w16 ⟨rfl, k16⟩
              go_wp2_with fail
              go_ret
              exact ⟨rfl, (HK0.out.trans HT15.out.kp).trans k16⟩

set_option maxRecDepth 100000 in
theorem sweepKeeps_law {H : Type} {enc : TypeId × Value → H} {base : Nat} {spare : Nat → Bool} {held : Bool} {r : Reach} {b0 : Nat} (v : Value) (d : DataW H) (p : List MemPlace) {w : World} (hv : Value.okWide Tryz.prog w r b0 83 v)
    (h : DataW.Trod enc Tryz.prog w base spare held 83 v d p) {base' : Nat} {spare' : Nat → Bool} {held' : Bool} {r' : Reach} {b0' : Nat} (v' : Value) (d' : DataW H) (p' : List MemPlace) (hv' : Value.okWide Tryz.prog w r' b0' 81 v')
    (h' : DataW.Trod enc Tryz.prog w base' spare' held' 81 v' d' p') (w' : World) (e' : w' = w) : Calls Tryz.prog 10 #[v, v'] w' fun e w2 => e = .returned (.bool true) ∧ Keeps (fun _ => False) w' w2 := by
  subst e'
  obtain ⟨x, y, l, mid, hs⟩ := setup25_shape hv h
  obtain ⟨a3, l3, k3, rfl, h3, h4, hx⟩ := open_flat_slice (ks := ks5) Tryz.underlying81 (by kernel_rfl) (by kernel_rfl) (by decide) hv' h'
  obtain ⟨ml, hml⟩ := mvrow_of h3 h4 hx
  exact sweepKeeps_walk v x y l mid ml _ w' hs hml

end Go.Proofs.YtiopnedplnoleaaGreat
