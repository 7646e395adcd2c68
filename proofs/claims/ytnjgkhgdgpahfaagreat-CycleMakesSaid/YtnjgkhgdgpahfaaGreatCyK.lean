/- estraylaw26: turns that step. -/
import Derived.Test.YtnjgkhgdgpahfaaGreatCyH
import Derived.Test.YtnjgkhgdgpahfaaGreatCyI
import Derived.Test.YtnjgkhgdgpahfaaGreatCyJ
namespace Go.Proofs.YtnjgkhgdgpahfaaGreat
open Go.RowKit
set_option linter.unusedVariables false
set_option linter.unusedSimpArgs false
set_option linter.unusedSectionVars false

theorem Col.step_bg (k : Col) (room : Bool) : (k.stepR room).c.C.begun ≤ k.C.begun + 1 := by
  unfold Col.stepR
  split
  · dsimp only
    split
    · exact Nat.le_refl _
    · exact Nat.le_succ _
  split
  · have hd : k.discover.C.begun = k.C.begun := by unfold Col.discover; split <;> rfl
    split
    · split
      · exact hd ▸ Nat.le_succ _
      · exact Nat.le_succ _
    · exact hd ▸ Nat.le_succ _
  split
  · have hd : k.sweep.C.begun = k.C.begun := by unfold Col.sweep; split <;> rfl
    exact hd ▸ Nat.le_succ _
  · have hd : k.mark.C.begun = k.C.begun := by unfold Col.mark; dsimp only; split <;> rfl
    exact hd ▸ Nat.le_succ _
theorem Col.more_len (R : CyRes) (f : List Rf) : (R.more f).length ≤ f.length + 1 := by
  unfold CyRes.more
  split
  · simp
  · omega
theorem Col.steps_ok {k : Col} (hok : k.Ok) (room : Bool) (f : List Rf) : ∀ i, (Col.steps room k f i).1.Ok ∧ k.Like (Col.steps room k f i).1 ∧ (Col.steps room k f i).1.C.begun ≤ k.C.begun + i ∧ (Col.steps room k f i).2.length ≤ f.length + i
  | 0 => ⟨hok, Col.Like.refl k, Nat.le_refl _, Nat.le_refl _⟩
  | i + 1 => by
    obtain ⟨h1, h2, h3, h4⟩ := Col.steps_ok hok room f i
    obtain ⟨g1, g2⟩ := Col.step_ok h1 room
    have g3 := Col.step_bg (Col.steps room k f i).1 room
    have g4 := Col.more_len ((Col.steps room k f i).1.stepR room) (Col.steps room k f i).2
    refine ⟨g1, h2.trans g2, ?_, ?_⟩
    · show ((Col.steps room k f i).1.stepR room).c.C.begun ≤ _; omega
    · show (((Col.steps room k f i).1.stepR room).more (Col.steps room k f i).2).length ≤ _; omega
theorem Col.cy_le {k : Col} (h : k.Ok) : k.s.M.K.cy ≤ k.C.begun := by have := h.bg; omega
variable {w0 w w' : World} {p a m b c : Nat} {LA : ArL} {LM : MkL} {k : Col} {f : List Rf}

theorem foot3_like {d : Col} (h : k.Like d) : foot3 LA LM b c d.s = foot3 LA LM b c k.s := foot3_of h.2.2 h.1
set_option maxRecDepth 100000 in
set_option maxHeartbeats 4000000 in
theorem turn_step (x : Mv) (h : Pair w0 w p a m b c LA LM k f) (hok : k.Ok) (hx : x.Byte) (hki : (x.kind : Int) % 16 = 13 ∨ (x.kind : Int) % 16 = 14 ∨ (x.kind : Int) % 16 = 15) (hb : k.C.begun + 100 < 4611686018427387904) (hl : f.length + 100 ≤ 100000) :
    Calls Tryz.prog 43 #[.pointer (some ⟨p, 0, none⟩), x.val] w fun e w' => e = .returned (.tuple #[]) ∧ Pair w0 w' p a m b c LA LM (Col.steps (decide (64 ≤ x.b)) k f (x.a % 8 + 1)).1 (Col.steps (decide (64 ≤ x.b)) k f (x.a % 8 + 1)).2 ∧ PKeep w w' p (foot3 LA LM b c k.s) := by
  have HP := hid h
  have HB := hid hb; have HL := hid hl
  obtain ⟨room, hroom⟩ : ∃ room : Nat, (if x.b < 64 then 0 else 1) = room := ⟨_, rfl⟩
  have hrd : decide (64 ≤ x.b) = decide (0 < room) := by
    rw [← hroom]
    by_cases h : x.b < 64
    · rw [if_pos h]; simp; omega
    · rw [if_neg h]; simp; omega
  have hr1 : room ≤ 1 := by rw [← hroom]; split <;> omega
  rw [hrd]
  have HST := hid (fun W (d : Col) (g : List Rf) (hP : Pair w0 W p a m b c LA LM d g) (hd : d.Ok) (hc : d.s.M.K.cy < 4611686018427387904) (hg : g.length ≤ 100000) => pstep hP hd room (by omega) hc hg)
  have HPW := hid (fun W (hk : Keeps (fun _ => False) w W) => h.same hk)
  have hpf : ¬ foot3 LA LM b c k.s p := by obtain ⟨v, h1, _⟩ := h.ex; exact h.q.pairfoot h1
  have HPF := hid hpf
  have HPK0 := hid (fun W (hk : Keeps (fun _ => False) w W) => (h.keep0 (ft := foot3 LA LM b c k.s) (hk.mono (fun _ _ h => h.elim)) hpf))
  have hplt : p < w.heap.size := by obtain ⟨v, h1, _⟩ := h.ex; exact lt_block h1
  have HRW := hid (fun W (hk : Keeps (fun _ => False) w W) (u : Value) (hu : W.cell? ⟨p, 2, none⟩ = some u) => (show u.ownBlock ≠ some w.heap.size from by
    obtain ⟨v, h1, h2⟩ := h.ex
    have e := cell_at (i := 2) (block_keep h1 hk (fun h => h)) rfl
    rw [hu] at e
    obtain rfl := Option.some.inj e
    intro e2
    have := (h2.lt _ e2).2
    omega))
  have HROOM := hid hroom
  clear hrd hr1 hb hl hpf hroom
  have hmany := hok.s.m.k1; have hm4 := hok.s.m.k4
  obtain ⟨hb0, hb1, hb2, hb3, hb4⟩ := hx
  have hz : ¬ (k.s.M.K.many : Int) = 0 := by omega
  obtain ⟨mk, hmk⟩ : ∃ mk, x.m % k.s.M.K.many = mk := ⟨_, rfl⟩
  have hmkl : mk < k.s.M.K.many := by rw [← hmk]; exact Nat.mod_lt _ (by omega)
  have HMOD := hid (show (x.m : Int) % (k.s.M.K.many : Int) = (mk : Int) by rw [← hmk]; simp)
  obtain ⟨n, hn⟩ : ∃ n, (k.s.A.rt mk).l.length = n := ⟨_, rfl⟩
  have hn2 : (k.s.A.rt mk).n = n := by rw [← hn]; simp [Sk.l]
  obtain ⟨wA, hwA⟩ : ∃ wA, w.alloc (.cells #[.int .u8 x.kind, .int .u8 x.m, .int .u8 x.a, .int .u8 x.b, .int .u8 x.c] 100) = wA := ⟨_, rfl⟩
  have kA : Keeps (fun _ => False) w wA := by rw [← hwA]; exact (Keeps.refl _ _).alloc _
  have qA : wA.heap[w.heap.size]? = some (.cells #[.int .u8 x.kind, .int .u8 x.m, .int .u8 x.a, .int .u8 x.b, .int .u8 x.c] 100) := by rw [← hwA]; exact alloc_new
  obtain ⟨v, hown, hrow⟩ := h.ex
  have hfl := h.q.footlt
  have HCF := hid (fun W (hk : Keeps (foot3 LA LM b c k.s) wA W) => And.intro (cells5 (block_keep qA hk (fun hf => by have := hfl _ hf; omega))) (cells4 (block_keep (block_keep hown kA (fun h => h)) hk (h.q.pairfoot hown))))
  have HSZ := hid (fun W (hk : Keeps (fun _ => False) w W) => asizes_ok a LA k.s.A W (h.q.same hk).tr.both.ar)
  have HSA := hid (fun W (hk : Keeps (fun _ => False) w W) => astackall_ok a LA k.s.A mk W (h.q.same hk).tr.both.ar (by rw [hok.s.k]; exact hmkl))
  rw [hok.s.k] at HSZ
  have HQU := hid (fun W (hk : Keeps (fun _ => False) w W) => h.q.same hk)
  have HFIN := hid (fun W d (hk : Keeps (foot3 LA LM b c k.s) w W) (hd : Quad w0 W a m b c LA LM d) => h.fin hk hd)
  have HFT := hid hfl
  have HPC := hid (fun W (hk : Keeps (foot3 LA LM b c k.s) w W) => let q := cells4 (block_keep hown hk (h.q.pairfoot hown)); And.intro q.2.1 q.1)
  have HI := hid (fun (y : Nat) (hy : y < 256) W => index26 y n W hy)
  have hw0 := lt_block qA
  have HKA := hid kA; have HWA := hid hwA; have HN := hid hn; have HOK := hid hok; have HMK := hid hmk; have HN2 := hid hn2; have HMKL := hid hmkl
  obtain ⟨⟨y0, y1, y2, y3, y4, yl⟩, ⟨x0, x1, x2, x3, xl⟩⟩ := HCF.out wA (Keeps.refl _ _)
  clear hn hn2 hmk kA hwA qA hown hrow hfl h hok hmkl hmany
  have HBLK := hid (fun W (hpk : PKeep wA W p (foot3 LA LM b c k.s)) => (hpk.block (show wA.heap[w.heap.size]? = some (.cells #[.int .u8 x.kind, .int .u8 x.m, .int .u8 x.a, .int .u8 x.b, .int .u8 x.c] 100) by rw [← HWA.out]; exact alloc_new) (fun hf => by have := HFT.out _ hf; omega) (by omega) (HRW.out wA HKA.out)).1)
  obtain ⟨N, hN⟩ : ∃ N, x.a % 8 = N := ⟨_, rfl⟩
  have hN8 : N < 8 := by omega
  have hNt : (x.a : Int).tmod 8 = (N : Int) := by rw [Int.tmod_eq_emod_of_nonneg (by omega), ← hN]; simp
  have hNe : (x.a : Int) % 8 = (N : Int) := by rw [← hN]; simp
  rw [hN]
  have HNT := hid hNt; have HNE := hid hNe
  clear hN hNt hNe
  by_cases hlt : x.b < 64
  · have hlt' : decide ((x.b : Int) < 64) = true := by simpa using (by omega : (x.b : Int) < 64)
    have hr0 : room = 0 := by rw [← HROOM.out, if_pos hlt]
    subst hr0
    clear hlt
    rcases hki with hki | hki | hki
    · unfold Mv.val
      go_enter Tryz.func43, Tryz.ntmps43
      go_upto_region 1 with (fail)
      rw [HWA.out]
      go_wp2_with fail
      refine (HSZ.out _ HKA.out).mono ?_
      rintro e w1 ⟨rfl, k1⟩
      have HK1 := hid (HKA.out.trans k1)
      obtain ⟨⟨z0, z1, z2, z3, z4, zl⟩, ⟨u0, u1, u2, u3, ul⟩⟩ := HCF.out w1 k1.up
      have HK1A := hid k1
      clear k1 y0 y1 y2 y3 y4 yl x0 x1 x2 x3 xl
      go_wp2_with fail
      rw [HMOD.out]
      refine (HSA.out _ HK1.out).mono ?_
      rintro e w2 ⟨v5, rfl, hr5, k2⟩
      have hsh := own_shape hr5
      obtain ⟨p5, c5, hv5⟩ := hsh
      obtain rfl := hv5
      have HK2 := hid (HK1.out.trans k2)
      obtain ⟨⟨y0, y1, y2, y3, y4, yl⟩, ⟨x0, x1, x2, x3, xl⟩⟩ := HCF.out w2 (HK1A.out.trans k2).up
      have HK2A := hid (HK1A.out.trans k2)
      clear k2 hr5 z0 z1 z2 z3 z4 zl u0 u1 u2 u3 ul
      rw [HN.out]
      go_wp2_with fail
      go_quiet (first | (go_at_call 92; refine (HI.out _ (by assumption) _).mono ?_; rintro e w' ⟨rfl, rfl⟩; exact ⟨rfl, _, rfl⟩))
      obtain ⟨wq, hwq⟩ : ∃ wq, w2.drewN nq = wq := ⟨_, rfl⟩
      rw [hwq]
      have kq : Keeps (fun _ => False) w2 wq := by rw [← hwq]; exact (Keeps.refl _ _).drewN _
      obtain ⟨⟨z0, z1, z2, z3, z4, zl⟩, ⟨u0, u1, u2, u3, ul⟩⟩ := HCF.out wq (HK2A.out.trans kq).up
      have HKQ := hid (HK2.out.trans kq)
      have HKQA := hid (HK2A.out.trans kq)
      clear hwq kq y0 y1 y2 y3 y4 yl x0 x1 x2 x3 xl HK2 HK2A
      go_wp2_with fail
      go_quiet (fail)
      obtain ⟨wz, hwz⟩ : ∃ wz, wq.drewN nq = wz := ⟨_, rfl⟩
      rw [hwz]
      have kq : Keeps (fun _ => False) wq wz := by rw [← hwz]; exact (Keeps.refl _ _).drewN _
      obtain ⟨⟨y0, y1, y2, y3, y4, yl⟩, ⟨x0, x1, x2, x3, xl⟩⟩ := HCF.out wz (HKQA.out.trans kq).up
      have HK2 := hid (HKQ.out.trans kq)
      have HK2A := hid (HKQA.out.trans kq)
      clear hwz kq z0 z1 z2 z3 z4 zl u0 u1 u2 u3 ul HKQ HKQA
      go_wp2_with fail
      clear y0 y1 y2 y3 y4 yl x0 x1 x2 x3 xl hki hlt'
      go_loopw [23] (fun ix wr => ∃ i : Nat, i ≤ N + 1 ∧ ix = .int .i64 i ∧ Hid (Pair w0 wr p a m b c LA LM (Col.steps (decide (0 < 0)) k f i).1 (Col.steps (decide (0 < 0)) k f i).2) ∧ Hid (PKeep wA wr p (foot3 LA LM b c k.s))) (fun ix _ => N + 1 - (intOf ix).toNat)
      case atStart => exact ⟨0, Nat.zero_le _, rfl, hid (HPW.out _ HK2.out), hid ((HPW.out _ HKA.out).keep0 (ft := foot3 LA LM b c k.s) (HK2A.out.mono (fun _ _ h => h.elim)) HPF.out)⟩
      case round =>
        obtain ⟨i, hi, rfl, HPi, HKi⟩ := hrel
        obtain ⟨z0, z1, z2, z3, z4, zl⟩ := cells5 (HBLK.out _ HKi.out)
        have hNt := HNT.out
        by_cases hle : i ≤ N
        · have hle' : (i : Int) ≤ (N : Int) := by omega
          have hi0 : (0 : Int) ≤ i := by omega
          obtain ⟨g1, g2, g3, g4⟩ := Col.steps_ok HOK.out (decide (0 < 0)) f i
          have HS1 := hid (HST.out _ _ _ HPi.out g1 (by have := Col.cy_le g1; have := HB.out; omega) (by have := HL.out; omega))
          have HL1 := hid (foot3_like (LA := LA) (LM := LM) (b := b) (c := c) g2)
          clear g1 g2 g3 g4
          go_wp2_with fail
          refine HS1.out.mono ?_
          rintro e w5 ⟨rfl, hp5, hk5⟩
          rw [HL1.out] at hk5
          have HP5 := hid hp5; have HK5 := hid (HKi.out.trans hk5)
          clear hp5 hk5 z0 z1 z2 z3 z4 zl
          go_wp2_with fail
          exact ⟨⟨i + 1, by omega, by go_num, HP5, HK5⟩, by simp [intOf]; omega⟩
        · have hle' : ¬ (i : Int) ≤ (N : Int) := by omega
          obtain rfl : i = N + 1 := by omega
          go_wp2_with fail
          go_end0
          exact ⟨rfl, HPi.out, (HPK0.out _ HKA.out).trans HKi.out⟩
    · unfold Mv.val
      go_enter Tryz.func43, Tryz.ntmps43
      go_upto_region 1 with (fail)
      rw [HWA.out]
      go_wp2_with fail
      refine (HSZ.out _ HKA.out).mono ?_
      rintro e w1 ⟨rfl, k1⟩
      have HK1 := hid (HKA.out.trans k1)
      obtain ⟨⟨z0, z1, z2, z3, z4, zl⟩, ⟨u0, u1, u2, u3, ul⟩⟩ := HCF.out w1 k1.up
      have HK1A := hid k1
      clear k1 y0 y1 y2 y3 y4 yl x0 x1 x2 x3 xl
      go_wp2_with fail
      rw [HMOD.out]
      refine (HSA.out _ HK1.out).mono ?_
      rintro e w2 ⟨v5, rfl, hr5, k2⟩
      have hsh := own_shape hr5
      obtain ⟨p5, c5, hv5⟩ := hsh
      obtain rfl := hv5
      have HK2 := hid (HK1.out.trans k2)
      obtain ⟨⟨y0, y1, y2, y3, y4, yl⟩, ⟨x0, x1, x2, x3, xl⟩⟩ := HCF.out w2 (HK1A.out.trans k2).up
      have HK2A := hid (HK1A.out.trans k2)
      clear k2 hr5 z0 z1 z2 z3 z4 zl u0 u1 u2 u3 ul
      rw [HN.out]
      go_wp2_with fail
      go_quiet (first | (go_at_call 92; refine (HI.out _ (by assumption) _).mono ?_; rintro e w' ⟨rfl, rfl⟩; exact ⟨rfl, _, rfl⟩))
      obtain ⟨wq, hwq⟩ : ∃ wq, w2.drewN nq = wq := ⟨_, rfl⟩
      rw [hwq]
      have kq : Keeps (fun _ => False) w2 wq := by rw [← hwq]; exact (Keeps.refl _ _).drewN _
      obtain ⟨⟨z0, z1, z2, z3, z4, zl⟩, ⟨u0, u1, u2, u3, ul⟩⟩ := HCF.out wq (HK2A.out.trans kq).up
      have HKQ := hid (HK2.out.trans kq)
      have HKQA := hid (HK2A.out.trans kq)
      clear hwq kq y0 y1 y2 y3 y4 yl x0 x1 x2 x3 xl HK2 HK2A
      go_wp2_with fail
      go_quiet (fail)
      obtain ⟨wz, hwz⟩ : ∃ wz, wq.drewN nq = wz := ⟨_, rfl⟩
      rw [hwz]
      have kq : Keeps (fun _ => False) wq wz := by rw [← hwz]; exact (Keeps.refl _ _).drewN _
      obtain ⟨⟨y0, y1, y2, y3, y4, yl⟩, ⟨x0, x1, x2, x3, xl⟩⟩ := HCF.out wz (HKQA.out.trans kq).up
      have HK2 := hid (HKQ.out.trans kq)
      have HK2A := hid (HKQA.out.trans kq)
      clear hwz kq z0 z1 z2 z3 z4 zl u0 u1 u2 u3 ul HKQ HKQA
      go_wp2_with fail
      clear y0 y1 y2 y3 y4 yl x0 x1 x2 x3 xl hki hlt'
      go_loopw [23] (fun ix wr => ∃ i : Nat, i ≤ N + 1 ∧ ix = .int .i64 i ∧ Hid (Pair w0 wr p a m b c LA LM (Col.steps (decide (0 < 0)) k f i).1 (Col.steps (decide (0 < 0)) k f i).2) ∧ Hid (PKeep wA wr p (foot3 LA LM b c k.s))) (fun ix _ => N + 1 - (intOf ix).toNat)
      case atStart => exact ⟨0, Nat.zero_le _, rfl, hid (HPW.out _ HK2.out), hid ((HPW.out _ HKA.out).keep0 (ft := foot3 LA LM b c k.s) (HK2A.out.mono (fun _ _ h => h.elim)) HPF.out)⟩
      case round =>
        obtain ⟨i, hi, rfl, HPi, HKi⟩ := hrel
        obtain ⟨z0, z1, z2, z3, z4, zl⟩ := cells5 (HBLK.out _ HKi.out)
        have hNt := HNT.out
        by_cases hle : i ≤ N
        · have hle' : (i : Int) ≤ (N : Int) := by omega
          have hi0 : (0 : Int) ≤ i := by omega
          obtain ⟨g1, g2, g3, g4⟩ := Col.steps_ok HOK.out (decide (0 < 0)) f i
          have HS1 := hid (HST.out _ _ _ HPi.out g1 (by have := Col.cy_le g1; have := HB.out; omega) (by have := HL.out; omega))
          have HL1 := hid (foot3_like (LA := LA) (LM := LM) (b := b) (c := c) g2)
          clear g1 g2 g3 g4
          go_wp2_with fail
          refine HS1.out.mono ?_
          rintro e w5 ⟨rfl, hp5, hk5⟩
          rw [HL1.out] at hk5
          have HP5 := hid hp5; have HK5 := hid (HKi.out.trans hk5)
          clear hp5 hk5 z0 z1 z2 z3 z4 zl
          go_wp2_with fail
          exact ⟨⟨i + 1, by omega, by go_num, HP5, HK5⟩, by simp [intOf]; omega⟩
        · have hle' : ¬ (i : Int) ≤ (N : Int) := by omega
          obtain rfl : i = N + 1 := by omega
          go_wp2_with fail
          go_end0
          exact ⟨rfl, HPi.out, (HPK0.out _ HKA.out).trans HKi.out⟩
    · unfold Mv.val
      go_enter Tryz.func43, Tryz.ntmps43
      go_upto_region 1 with (fail)
      rw [HWA.out]
      go_wp2_with fail
      refine (HSZ.out _ HKA.out).mono ?_
      rintro e w1 ⟨rfl, k1⟩
      have HK1 := hid (HKA.out.trans k1)
      obtain ⟨⟨z0, z1, z2, z3, z4, zl⟩, ⟨u0, u1, u2, u3, ul⟩⟩ := HCF.out w1 k1.up
      have HK1A := hid k1
      clear k1 y0 y1 y2 y3 y4 yl x0 x1 x2 x3 xl
      go_wp2_with fail
      rw [HMOD.out]
      refine (HSA.out _ HK1.out).mono ?_
      rintro e w2 ⟨v5, rfl, hr5, k2⟩
      have hsh := own_shape hr5
      obtain ⟨p5, c5, hv5⟩ := hsh
      obtain rfl := hv5
      have HK2 := hid (HK1.out.trans k2)
      obtain ⟨⟨y0, y1, y2, y3, y4, yl⟩, ⟨x0, x1, x2, x3, xl⟩⟩ := HCF.out w2 (HK1A.out.trans k2).up
      have HK2A := hid (HK1A.out.trans k2)
      clear k2 hr5 z0 z1 z2 z3 z4 zl u0 u1 u2 u3 ul
      rw [HN.out]
      go_wp2_with fail
      go_quiet (first | (go_at_call 92; refine (HI.out _ (by assumption) _).mono ?_; rintro e w' ⟨rfl, rfl⟩; exact ⟨rfl, _, rfl⟩))
      obtain ⟨wq, hwq⟩ : ∃ wq, w2.drewN nq = wq := ⟨_, rfl⟩
      rw [hwq]
      have kq : Keeps (fun _ => False) w2 wq := by rw [← hwq]; exact (Keeps.refl _ _).drewN _
      obtain ⟨⟨z0, z1, z2, z3, z4, zl⟩, ⟨u0, u1, u2, u3, ul⟩⟩ := HCF.out wq (HK2A.out.trans kq).up
      have HKQ := hid (HK2.out.trans kq)
      have HKQA := hid (HK2A.out.trans kq)
      clear hwq kq y0 y1 y2 y3 y4 yl x0 x1 x2 x3 xl HK2 HK2A
      go_wp2_with fail
      go_quiet (fail)
      obtain ⟨wz, hwz⟩ : ∃ wz, wq.drewN nq = wz := ⟨_, rfl⟩
      rw [hwz]
      have kq : Keeps (fun _ => False) wq wz := by rw [← hwz]; exact (Keeps.refl _ _).drewN _
      obtain ⟨⟨y0, y1, y2, y3, y4, yl⟩, ⟨x0, x1, x2, x3, xl⟩⟩ := HCF.out wz (HKQA.out.trans kq).up
      have HK2 := hid (HKQ.out.trans kq)
      have HK2A := hid (HKQA.out.trans kq)
      clear hwz kq z0 z1 z2 z3 z4 zl u0 u1 u2 u3 ul HKQ HKQA
      go_wp2_with fail
      clear y0 y1 y2 y3 y4 yl x0 x1 x2 x3 xl hki hlt'
      go_loopw [23] (fun ix wr => ∃ i : Nat, i ≤ N + 1 ∧ ix = .int .i64 i ∧ Hid (Pair w0 wr p a m b c LA LM (Col.steps (decide (0 < 0)) k f i).1 (Col.steps (decide (0 < 0)) k f i).2) ∧ Hid (PKeep wA wr p (foot3 LA LM b c k.s))) (fun ix _ => N + 1 - (intOf ix).toNat)
      case atStart => exact ⟨0, Nat.zero_le _, rfl, hid (HPW.out _ HK2.out), hid ((HPW.out _ HKA.out).keep0 (ft := foot3 LA LM b c k.s) (HK2A.out.mono (fun _ _ h => h.elim)) HPF.out)⟩
      case round =>
        obtain ⟨i, hi, rfl, HPi, HKi⟩ := hrel
        obtain ⟨z0, z1, z2, z3, z4, zl⟩ := cells5 (HBLK.out _ HKi.out)
        have hNt := HNT.out
        by_cases hle : i ≤ N
        · have hle' : (i : Int) ≤ (N : Int) := by omega
          have hi0 : (0 : Int) ≤ i := by omega
          obtain ⟨g1, g2, g3, g4⟩ := Col.steps_ok HOK.out (decide (0 < 0)) f i
          have HS1 := hid (HST.out _ _ _ HPi.out g1 (by have := Col.cy_le g1; have := HB.out; omega) (by have := HL.out; omega))
          have HL1 := hid (foot3_like (LA := LA) (LM := LM) (b := b) (c := c) g2)
          clear g1 g2 g3 g4
          go_wp2_with fail
          refine HS1.out.mono ?_
          rintro e w5 ⟨rfl, hp5, hk5⟩
          rw [HL1.out] at hk5
          have HP5 := hid hp5; have HK5 := hid (HKi.out.trans hk5)
          clear hp5 hk5 z0 z1 z2 z3 z4 zl
          go_wp2_with fail
          exact ⟨⟨i + 1, by omega, by go_num, HP5, HK5⟩, by simp [intOf]; omega⟩
        · have hle' : ¬ (i : Int) ≤ (N : Int) := by omega
          obtain rfl : i = N + 1 := by omega
          go_wp2_with fail
          go_end0
          exact ⟨rfl, HPi.out, (HPK0.out _ HKA.out).trans HKi.out⟩
  · have hlt' : decide ((x.b : Int) < 64) = false := by simpa using (by omega : ¬ (x.b : Int) < 64)
    have hr0 : room = 1 := by rw [← HROOM.out, if_neg hlt]
    subst hr0
    clear hlt
    rcases hki with hki | hki | hki
    · unfold Mv.val
      go_enter Tryz.func43, Tryz.ntmps43
      go_upto_region 1 with (fail)
      rw [HWA.out]
      go_wp2_with fail
      refine (HSZ.out _ HKA.out).mono ?_
      rintro e w1 ⟨rfl, k1⟩
      have HK1 := hid (HKA.out.trans k1)
      obtain ⟨⟨z0, z1, z2, z3, z4, zl⟩, ⟨u0, u1, u2, u3, ul⟩⟩ := HCF.out w1 k1.up
      have HK1A := hid k1
      clear k1 y0 y1 y2 y3 y4 yl x0 x1 x2 x3 xl
      go_wp2_with fail
      rw [HMOD.out]
      refine (HSA.out _ HK1.out).mono ?_
      rintro e w2 ⟨v5, rfl, hr5, k2⟩
      have hsh := own_shape hr5
      obtain ⟨p5, c5, hv5⟩ := hsh
      obtain rfl := hv5
      have HK2 := hid (HK1.out.trans k2)
      obtain ⟨⟨y0, y1, y2, y3, y4, yl⟩, ⟨x0, x1, x2, x3, xl⟩⟩ := HCF.out w2 (HK1A.out.trans k2).up
      have HK2A := hid (HK1A.out.trans k2)
      clear k2 hr5 z0 z1 z2 z3 z4 zl u0 u1 u2 u3 ul
      rw [HN.out]
      go_wp2_with fail
      go_quiet (first | (go_at_call 92; refine (HI.out _ (by assumption) _).mono ?_; rintro e w' ⟨rfl, rfl⟩; exact ⟨rfl, _, rfl⟩))
      obtain ⟨wq, hwq⟩ : ∃ wq, w2.drewN nq = wq := ⟨_, rfl⟩
      rw [hwq]
      have kq : Keeps (fun _ => False) w2 wq := by rw [← hwq]; exact (Keeps.refl _ _).drewN _
      obtain ⟨⟨z0, z1, z2, z3, z4, zl⟩, ⟨u0, u1, u2, u3, ul⟩⟩ := HCF.out wq (HK2A.out.trans kq).up
      have HKQ := hid (HK2.out.trans kq)
      have HKQA := hid (HK2A.out.trans kq)
      clear hwq kq y0 y1 y2 y3 y4 yl x0 x1 x2 x3 xl HK2 HK2A
      go_wp2_with fail
      go_quiet (fail)
      obtain ⟨wz, hwz⟩ : ∃ wz, wq.drewN nq = wz := ⟨_, rfl⟩
      rw [hwz]
      have kq : Keeps (fun _ => False) wq wz := by rw [← hwz]; exact (Keeps.refl _ _).drewN _
      obtain ⟨⟨y0, y1, y2, y3, y4, yl⟩, ⟨x0, x1, x2, x3, xl⟩⟩ := HCF.out wz (HKQA.out.trans kq).up
      have HK2 := hid (HKQ.out.trans kq)
      have HK2A := hid (HKQA.out.trans kq)
      clear hwz kq z0 z1 z2 z3 z4 zl u0 u1 u2 u3 ul HKQ HKQA
      go_wp2_with fail
      clear y0 y1 y2 y3 y4 yl x0 x1 x2 x3 xl hki hlt'
      go_loopw [23] (fun ix wr => ∃ i : Nat, i ≤ N + 1 ∧ ix = .int .i64 i ∧ Hid (Pair w0 wr p a m b c LA LM (Col.steps (decide (0 < 1)) k f i).1 (Col.steps (decide (0 < 1)) k f i).2) ∧ Hid (PKeep wA wr p (foot3 LA LM b c k.s))) (fun ix _ => N + 1 - (intOf ix).toNat)
      case atStart => exact ⟨0, Nat.zero_le _, rfl, hid (HPW.out _ HK2.out), hid ((HPW.out _ HKA.out).keep0 (ft := foot3 LA LM b c k.s) (HK2A.out.mono (fun _ _ h => h.elim)) HPF.out)⟩
      case round =>
        obtain ⟨i, hi, rfl, HPi, HKi⟩ := hrel
        obtain ⟨z0, z1, z2, z3, z4, zl⟩ := cells5 (HBLK.out _ HKi.out)
        have hNt := HNT.out
        by_cases hle : i ≤ N
        · have hle' : (i : Int) ≤ (N : Int) := by omega
          have hi0 : (0 : Int) ≤ i := by omega
          obtain ⟨g1, g2, g3, g4⟩ := Col.steps_ok HOK.out (decide (0 < 1)) f i
          have HS1 := hid (HST.out _ _ _ HPi.out g1 (by have := Col.cy_le g1; have := HB.out; omega) (by have := HL.out; omega))
          have HL1 := hid (foot3_like (LA := LA) (LM := LM) (b := b) (c := c) g2)
          clear g1 g2 g3 g4
          go_wp2_with fail
          refine HS1.out.mono ?_
          rintro e w5 ⟨rfl, hp5, hk5⟩
          rw [HL1.out] at hk5
          have HP5 := hid hp5; have HK5 := hid (HKi.out.trans hk5)
          clear hp5 hk5 z0 z1 z2 z3 z4 zl
          go_wp2_with fail
          exact ⟨⟨i + 1, by omega, by go_num, HP5, HK5⟩, by simp [intOf]; omega⟩
        · have hle' : ¬ (i : Int) ≤ (N : Int) := by omega
          obtain rfl : i = N + 1 := by omega
          go_wp2_with fail
          go_end0
          exact ⟨rfl, HPi.out, (HPK0.out _ HKA.out).trans HKi.out⟩
    · unfold Mv.val
      go_enter Tryz.func43, Tryz.ntmps43
      go_upto_region 1 with (fail)
      rw [HWA.out]
      go_wp2_with fail
      refine (HSZ.out _ HKA.out).mono ?_
      rintro e w1 ⟨rfl, k1⟩
      have HK1 := hid (HKA.out.trans k1)
      obtain ⟨⟨z0, z1, z2, z3, z4, zl⟩, ⟨u0, u1, u2, u3, ul⟩⟩ := HCF.out w1 k1.up
      have HK1A := hid k1
      clear k1 y0 y1 y2 y3 y4 yl x0 x1 x2 x3 xl
      go_wp2_with fail
      rw [HMOD.out]
      refine (HSA.out _ HK1.out).mono ?_
      rintro e w2 ⟨v5, rfl, hr5, k2⟩
      have hsh := own_shape hr5
      obtain ⟨p5, c5, hv5⟩ := hsh
      obtain rfl := hv5
      have HK2 := hid (HK1.out.trans k2)
      obtain ⟨⟨y0, y1, y2, y3, y4, yl⟩, ⟨x0, x1, x2, x3, xl⟩⟩ := HCF.out w2 (HK1A.out.trans k2).up
      have HK2A := hid (HK1A.out.trans k2)
      clear k2 hr5 z0 z1 z2 z3 z4 zl u0 u1 u2 u3 ul
      rw [HN.out]
      go_wp2_with fail
      go_quiet (first | (go_at_call 92; refine (HI.out _ (by assumption) _).mono ?_; rintro e w' ⟨rfl, rfl⟩; exact ⟨rfl, _, rfl⟩))
      obtain ⟨wq, hwq⟩ : ∃ wq, w2.drewN nq = wq := ⟨_, rfl⟩
      rw [hwq]
      have kq : Keeps (fun _ => False) w2 wq := by rw [← hwq]; exact (Keeps.refl _ _).drewN _
      obtain ⟨⟨z0, z1, z2, z3, z4, zl⟩, ⟨u0, u1, u2, u3, ul⟩⟩ := HCF.out wq (HK2A.out.trans kq).up
      have HKQ := hid (HK2.out.trans kq)
      have HKQA := hid (HK2A.out.trans kq)
      clear hwq kq y0 y1 y2 y3 y4 yl x0 x1 x2 x3 xl HK2 HK2A
      go_wp2_with fail
      go_quiet (fail)
      obtain ⟨wz, hwz⟩ : ∃ wz, wq.drewN nq = wz := ⟨_, rfl⟩
      rw [hwz]
      have kq : Keeps (fun _ => False) wq wz := by rw [← hwz]; exact (Keeps.refl _ _).drewN _
      obtain ⟨⟨y0, y1, y2, y3, y4, yl⟩, ⟨x0, x1, x2, x3, xl⟩⟩ := HCF.out wz (HKQA.out.trans kq).up
      have HK2 := hid (HKQ.out.trans kq)
      have HK2A := hid (HKQA.out.trans kq)
      clear hwz kq z0 z1 z2 z3 z4 zl u0 u1 u2 u3 ul HKQ HKQA
      go_wp2_with fail
      clear y0 y1 y2 y3 y4 yl x0 x1 x2 x3 xl hki hlt'
      go_loopw [23] (fun ix wr => ∃ i : Nat, i ≤ N + 1 ∧ ix = .int .i64 i ∧ Hid (Pair w0 wr p a m b c LA LM (Col.steps (decide (0 < 1)) k f i).1 (Col.steps (decide (0 < 1)) k f i).2) ∧ Hid (PKeep wA wr p (foot3 LA LM b c k.s))) (fun ix _ => N + 1 - (intOf ix).toNat)
      case atStart => exact ⟨0, Nat.zero_le _, rfl, hid (HPW.out _ HK2.out), hid ((HPW.out _ HKA.out).keep0 (ft := foot3 LA LM b c k.s) (HK2A.out.mono (fun _ _ h => h.elim)) HPF.out)⟩
      case round =>
        obtain ⟨i, hi, rfl, HPi, HKi⟩ := hrel
        obtain ⟨z0, z1, z2, z3, z4, zl⟩ := cells5 (HBLK.out _ HKi.out)
        have hNt := HNT.out
        by_cases hle : i ≤ N
        · have hle' : (i : Int) ≤ (N : Int) := by omega
          have hi0 : (0 : Int) ≤ i := by omega
          obtain ⟨g1, g2, g3, g4⟩ := Col.steps_ok HOK.out (decide (0 < 1)) f i
          have HS1 := hid (HST.out _ _ _ HPi.out g1 (by have := Col.cy_le g1; have := HB.out; omega) (by have := HL.out; omega))
          have HL1 := hid (foot3_like (LA := LA) (LM := LM) (b := b) (c := c) g2)
          clear g1 g2 g3 g4
          go_wp2_with fail
          refine HS1.out.mono ?_
          rintro e w5 ⟨rfl, hp5, hk5⟩
          rw [HL1.out] at hk5
          have HP5 := hid hp5; have HK5 := hid (HKi.out.trans hk5)
          clear hp5 hk5 z0 z1 z2 z3 z4 zl
          go_wp2_with fail
          exact ⟨⟨i + 1, by omega, by go_num, HP5, HK5⟩, by simp [intOf]; omega⟩
        · have hle' : ¬ (i : Int) ≤ (N : Int) := by omega
          obtain rfl : i = N + 1 := by omega
          go_wp2_with fail
          go_end0
          exact ⟨rfl, HPi.out, (HPK0.out _ HKA.out).trans HKi.out⟩
    · unfold Mv.val
      go_enter Tryz.func43, Tryz.ntmps43
      go_upto_region 1 with (fail)
      rw [HWA.out]
      go_wp2_with fail
      refine (HSZ.out _ HKA.out).mono ?_
      rintro e w1 ⟨rfl, k1⟩
      have HK1 := hid (HKA.out.trans k1)
      obtain ⟨⟨z0, z1, z2, z3, z4, zl⟩, ⟨u0, u1, u2, u3, ul⟩⟩ := HCF.out w1 k1.up
      have HK1A := hid k1
      clear k1 y0 y1 y2 y3 y4 yl x0 x1 x2 x3 xl
      go_wp2_with fail
      rw [HMOD.out]
      refine (HSA.out _ HK1.out).mono ?_
      rintro e w2 ⟨v5, rfl, hr5, k2⟩
      have hsh := own_shape hr5
      obtain ⟨p5, c5, hv5⟩ := hsh
      obtain rfl := hv5
      have HK2 := hid (HK1.out.trans k2)
      obtain ⟨⟨y0, y1, y2, y3, y4, yl⟩, ⟨x0, x1, x2, x3, xl⟩⟩ := HCF.out w2 (HK1A.out.trans k2).up
      have HK2A := hid (HK1A.out.trans k2)
      clear k2 hr5 z0 z1 z2 z3 z4 zl u0 u1 u2 u3 ul
      rw [HN.out]
      go_wp2_with fail
      go_quiet (first | (go_at_call 92; refine (HI.out _ (by assumption) _).mono ?_; rintro e w' ⟨rfl, rfl⟩; exact ⟨rfl, _, rfl⟩))
      obtain ⟨wq, hwq⟩ : ∃ wq, w2.drewN nq = wq := ⟨_, rfl⟩
      rw [hwq]
      have kq : Keeps (fun _ => False) w2 wq := by rw [← hwq]; exact (Keeps.refl _ _).drewN _
      obtain ⟨⟨z0, z1, z2, z3, z4, zl⟩, ⟨u0, u1, u2, u3, ul⟩⟩ := HCF.out wq (HK2A.out.trans kq).up
      have HKQ := hid (HK2.out.trans kq)
      have HKQA := hid (HK2A.out.trans kq)
      clear hwq kq y0 y1 y2 y3 y4 yl x0 x1 x2 x3 xl HK2 HK2A
      go_wp2_with fail
      go_quiet (fail)
      obtain ⟨wz, hwz⟩ : ∃ wz, wq.drewN nq = wz := ⟨_, rfl⟩
      rw [hwz]
      have kq : Keeps (fun _ => False) wq wz := by rw [← hwz]; exact (Keeps.refl _ _).drewN _
      obtain ⟨⟨y0, y1, y2, y3, y4, yl⟩, ⟨x0, x1, x2, x3, xl⟩⟩ := HCF.out wz (HKQA.out.trans kq).up
      have HK2 := hid (HKQ.out.trans kq)
      have HK2A := hid (HKQA.out.trans kq)
      clear hwz kq z0 z1 z2 z3 z4 zl u0 u1 u2 u3 ul HKQ HKQA
      go_wp2_with fail
      clear y0 y1 y2 y3 y4 yl x0 x1 x2 x3 xl hki hlt'
      go_loopw [23] (fun ix wr => ∃ i : Nat, i ≤ N + 1 ∧ ix = .int .i64 i ∧ Hid (Pair w0 wr p a m b c LA LM (Col.steps (decide (0 < 1)) k f i).1 (Col.steps (decide (0 < 1)) k f i).2) ∧ Hid (PKeep wA wr p (foot3 LA LM b c k.s))) (fun ix _ => N + 1 - (intOf ix).toNat)
      case atStart => exact ⟨0, Nat.zero_le _, rfl, hid (HPW.out _ HK2.out), hid ((HPW.out _ HKA.out).keep0 (ft := foot3 LA LM b c k.s) (HK2A.out.mono (fun _ _ h => h.elim)) HPF.out)⟩
      case round =>
        obtain ⟨i, hi, rfl, HPi, HKi⟩ := hrel
        obtain ⟨z0, z1, z2, z3, z4, zl⟩ := cells5 (HBLK.out _ HKi.out)
        have hNt := HNT.out
        by_cases hle : i ≤ N
        · have hle' : (i : Int) ≤ (N : Int) := by omega
          have hi0 : (0 : Int) ≤ i := by omega
          obtain ⟨g1, g2, g3, g4⟩ := Col.steps_ok HOK.out (decide (0 < 1)) f i
          have HS1 := hid (HST.out _ _ _ HPi.out g1 (by have := Col.cy_le g1; have := HB.out; omega) (by have := HL.out; omega))
          have HL1 := hid (foot3_like (LA := LA) (LM := LM) (b := b) (c := c) g2)
          clear g1 g2 g3 g4
          go_wp2_with fail
          refine HS1.out.mono ?_
          rintro e w5 ⟨rfl, hp5, hk5⟩
          rw [HL1.out] at hk5
          have HP5 := hid hp5; have HK5 := hid (HKi.out.trans hk5)
          clear hp5 hk5 z0 z1 z2 z3 z4 zl
          go_wp2_with fail
          exact ⟨⟨i + 1, by omega, by go_num, HP5, HK5⟩, by simp [intOf]; omega⟩
        · have hle' : ¬ (i : Int) ≤ (N : Int) := by omega
          obtain rfl : i = N + 1 := by omega
          go_wp2_with fail
          go_end0
          exact ⟨rfl, HPi.out, (HPK0.out _ HKA.out).trans HKi.out⟩
end Go.Proofs.YtnjgkhgdgpahfaaGreat

/- estraylaw26: a turn, whatever it is. -/
namespace Go.Proofs.YtnjgkhgdgpahfaaGreat
open Go.RowKit
set_option linter.unusedVariables false
set_option linter.unusedSimpArgs false
set_option linter.unusedSectionVars false

variable {w0 w w' : World} {p a m b c : Nat} {LA : ArL} {LM : MkL} {k : Col} {f : List Rf}

theorem pturn (x : Mv) (h : Pair w0 w p a m b c LA LM k f) (hok : k.Ok) (hx : x.Byte) (hb : k.C.begun + 100 < 4611686018427387904) (hl : f.length + 100 ≤ 100000) :
    Calls Tryz.prog 43 #[.pointer (some ⟨p, 0, none⟩), x.val] w fun e w' => e = .returned (.tuple #[]) ∧ Pair w0 w' p a m b c LA LM (x.turn26 k f).1 (x.turn26 k f).2 ∧ PKeep w w' p (foot3 LA LM b c k.s) := by
  have hlt := Nat.mod_lt x.kind (show 0 < 16 by omega)
  by_cases h10 : x.kind % 16 < 10
  · have e : x.turn26 k f = (⟨(x.mo26 k.s).doR k.s, k.C⟩, f) := by unfold Mv.turn26; rw [if_pos h10]
    rw [e]
    obtain hk | hk | hk | hk | hk | hk | hk | hk | hk | hk : x.kind % 16 = 0 ∨ x.kind % 16 = 1 ∨ x.kind % 16 = 2 ∨ x.kind % 16 = 3 ∨ x.kind % 16 = 4 ∨ x.kind % 16 = 5 ∨ x.kind % 16 = 6 ∨ x.kind % 16 = 7 ∨ x.kind % 16 = 8 ∨ x.kind % 16 = 9 := by omega
    · exact turn_make0 x h hok hx hk
    · exact turn_make1 x h hok hx hk
    · exact turn_load x h hok hx hk
    · exact turn_store3 x h hok hx hk
    · exact turn_store4 x h hok hx hk
    · exact turn_store5 x h hok hx hk
    · exact turn_drop x h hok hx hk
    · exact turn_put7 x h hok hx hk
    · exact turn_put8 x h hok hx hk
    · exact turn_get x h hok hx hk
  by_cases h12 : x.kind % 16 < 12
  · have e : x.turn26 k f = (⟨⟨k.s.A, (k.s.M.ackR k.s.A (x.m % k.s.M.K.many : Nat)).M⟩, k.C⟩, f) := by unfold Mv.turn26; rw [if_neg h10, if_pos h12]
    rw [e]
    exact turn_ack x h hok hx (by omega)
  by_cases h12' : x.kind % 16 = 12
  · have e : x.turn26 k f = (k.askR.1, f) := by unfold Mv.turn26; rw [if_neg h10, if_neg h12, if_pos h12']
    rw [e]
    exact turn_ask x h hok hx (by omega) (by omega)
  · have e : x.turn26 k f = Col.steps (decide (64 ≤ x.b)) k f (x.a % 8 + 1) := by unfold Mv.turn26; rw [if_neg h10, if_neg h12, if_neg h12']
    rw [e]
    exact turn_step x h hok hx (by omega) hb hl
theorem turn26_ok (x : Mv) (hok : k.Ok) (f : List Rf) : (x.turn26 k f).1.Ok ∧ k.Like (x.turn26 k f).1 ∧ (x.turn26 k f).1.C.begun ≤ k.C.begun + 8 ∧ (x.turn26 k f).2.length ≤ f.length + 8 := by
  have hm := hok.s.m.k1
  have hx8 := Nat.mod_lt x.a (show 0 < 8 by omega)
  unfold Mv.turn26
  split
  · obtain ⟨h1, h2⟩ := Col.mo_ok hok (x.mo26 k.s) (by rw [Mv.mo26_who, hok.s.k]; exact Nat.mod_lt _ (by omega))
    exact ⟨h1, h2, Nat.le_add_right _ _, Nat.le_add_right _ _⟩
  split
  · obtain ⟨h1, h2⟩ := Col.ack_ok hok (x.m % k.s.M.K.many : Nat)
    exact ⟨h1, h2, Nat.le_add_right _ _, Nat.le_add_right _ _⟩
  split
  · obtain ⟨h1, h2⟩ := Col.ask_ok hok
    refine ⟨h1, h2, ?_, Nat.le_add_right _ _⟩
    unfold Col.askR
    split
    · show k.C.begun + 1 ≤ _; omega
    · show k.C.begun ≤ _; omega
  · obtain ⟨h1, h2, h3, h4⟩ := Col.steps_ok hok (decide (64 ≤ x.b)) f (x.a % 8 + 1)
    exact ⟨h1, h2, by omega, by omega⟩
end Go.Proofs.YtnjgkhgdgpahfaaGreat
