/- estraylaw24: MarkerKnown, its table. -/
import Derived.Test.YtiopnedplnoleaaGreatMgP
namespace Go.Proofs.YtiopnedplnoleaaGreat
open Go.RowKit

theorem ref24 (x : Int) (w : World) : Calls Tryz.prog 25 #[.int .i64 x] w fun e w' => e = .returned (.agg #[.int .i64 x, .int .u32 1]) ∧ Keeps (fun _ => False) w w' := by
  go_enter Tryz.func25, Tryz.ntmps25
  go_wp2_with fail
  refine bodyPost_ret_by ?_ rfl ⟨rfl, ?_⟩
  · simp [results, Tryz.results25, go_sem, *]
  · refine Keeps.fresh ?_
    repeat (first | (with_reducible exact (Keeps.refl _ _)) | with_reducible refine Keeps.setCell ?_ ?_ _ | with_reducible refine Keeps.alloc ?_ _ | with_reducible refine Keeps.drewN ?_ _ | with_reducible refine Keeps.drew ?_)
    all_goals first | (left; simp; done) | (left; simp; omega) | (right; simp; done) | (right; simp; omega)

/-- the sizes that are refused -/
def kBad : List Int := [0, 1, 1, 1, 257, 1, 1, 1, 1, 0, 1, 1, 1, 5, 1, 1, 1, 1, 0, 1, 1, 1, 65, 1, 1, 1, 1, 0, 1, 1, 1, 65]
def kArr : Array Value := (kBad.map (fun x => Value.int .i64 x)).toArray

theorem kBad_at (j : Nat) (hj : j < 8) : ∃ n k s p : Int, kBad[j * 4]? = some n ∧ kBad[j * 4 + 1]? = some k ∧ kBad[j * 4 + 2]? = some s ∧ kBad[j * 4 + 3]? = some p ∧ (n < 1 ∨ 256 < n ∨ k < 1 ∨ 4 < k ∨ s < 1 ∨ 64 < s ∨ p < 1 ∨ 64 < p) := by
  match j, hj with
  | 0, _ => exact ⟨_, _, _, _, rfl, rfl, rfl, rfl, by decide⟩
  | 1, _ => exact ⟨_, _, _, _, rfl, rfl, rfl, rfl, by decide⟩
  | 2, _ => exact ⟨_, _, _, _, rfl, rfl, rfl, rfl, by decide⟩
  | 3, _ => exact ⟨_, _, _, _, rfl, rfl, rfl, rfl, by decide⟩
  | 4, _ => exact ⟨_, _, _, _, rfl, rfl, rfl, rfl, by decide⟩
  | 5, _ => exact ⟨_, _, _, _, rfl, rfl, rfl, rfl, by decide⟩
  | 6, _ => exact ⟨_, _, _, _, rfl, rfl, rfl, rfl, by decide⟩
  | 7, _ => exact ⟨_, _, _, _, rfl, rfl, rfl, rfl, by decide⟩

theorem kArr_at {i : Nat} {x : Int} (h : kBad[i]? = some x) : kArr[i]? = some (.int .i64 x) := by
  simp [kArr, List.getElem?_map, h]

/-- the marker when j mutators have answered -/
def ackN (M : Mk) : Nat → Mk
  | 0 => M
  | j + 1 => { ackN M j with K := (ackN M j).K.ack j }
theorem ackN_keeps (M : Mk) (j : Nat) : (ackN M j).K.ph = M.K.ph ∧ (ackN M j).K.many = M.K.many ∧ (ackN M j).P = M.P ∧ (ackN M j).B = M.B := by
  induction j with
  | zero => exact ⟨rfl, rfl, rfl, rfl⟩
  | succ j ih => exact ih
theorem ackN_seen (M : Mk) (j i : Nat) (h : i < j) : (ackN M j).K.seen i = true := by
  induction j with
  | zero => omega
  | succ j ih =>
    show updf (ackN M j).K.seen j true i = true
    by_cases e : i = j
    · subst e; rw [updf_same]
    · rw [updf_ne _ _ e]; exact ih (by omega)

/-- .. when mutator 0 has told of k stores -/
structure Told (k : Nat) (M : Mk) : Prop where
  bar : M.K.bar 0 = true
  ph : M.K.ph = 1
  many : M.K.many = 4
  n : M.P.n = 256
  c1 : M.P.c 1 = 0
  size : (M.B 0).size = 64
  room : k ≤ 32 → (M.B 0).n = 2 * k
  marked : 32 < k → M.P.c 3 ≠ 0 ∧ M.P.c 4 ≠ 0

theorem shd_c (P : Pt) (S : Sq) (i j : Nat) : ((shd P S i).1.c i ≠ 0) ∧ (j ≠ i → (shd P S i).1.c j = P.c j) := by
  unfold shd
  split
  · refine ⟨?_, fun h => ?_⟩
    · show updf P.c i 1 i ≠ 0
      rw [updf_same]; decide
    · show updf P.c i 1 j = P.c j
      rw [updf_ne _ _ h]
  · rename_i h; exact ⟨h, fun _ => rfl⟩
theorem Mk.note_lt {M : Mk} {i : Nat} {x : Int} (h : (M.B i).n < (M.B i).size) : M.note i x = { M with B := updf M.B i ((M.B i).note x) } := if_neg (by omega)
theorem Mk.note_full {M : Mk} {i : Nat} {x : Int} (h : (M.B i).n = (M.B i).size) : M.note i x = { M with B := updf M.B i (M.B i).over, P := (shd M.P M.S x.toNat).1, S := (shd M.P M.S x.toNat).2 } := if_pos h

theorem Told.next {k : Nat} {M : Mk} (h : Told k M) (hk : k < 33) : Told (k + 1) (M.wrote 0 3 4) := by
  have hw : M.wrote 0 3 4 = (M.note 0 3).note 0 4 := if_pos h.bar
  have hr := h.room (by omega)
  have hs := h.size
  rw [hw]
  by_cases e : k = 32
  · have e1 := Mk.note_full (M := M) (i := 0) (x := 3) (by omega)
    have e2 := Mk.note_full (M := M.note 0 3) (i := 0) (x := 4) (by rw [e1]; show (updf M.B 0 (M.B 0).over 0).n = (updf M.B 0 (M.B 0).over 0).size; rw [updf_same]; show (M.B 0).n = (M.B 0).size; omega)
    have hP1 : (M.note 0 3).P = (shd M.P M.S 3).1 := by rw [e1]; rfl
    have hP2 : ((M.note 0 3).note 0 4).P = (shd (M.note 0 3).P (M.note 0 3).S 4).1 := by rw [e2]; rfl
    have hB : (((M.note 0 3).note 0 4).B 0).size = 64 := by
      rw [e2]
      show (updf (M.note 0 3).B 0 ((M.note 0 3).B 0).over 0).size = 64
      rw [updf_same, e1]
      show (updf M.B 0 (M.B 0).over 0).size = 64
      rw [updf_same]; exact hs
    have hK : ((M.note 0 3).note 0 4).K = M.K := by rw [Mk.note_K, Mk.note_K]
    refine ⟨by rw [hK]; exact h.bar, by rw [hK]; exact h.ph, by rw [hK]; exact h.many, by rw [Mk.note_P, Mk.note_P]; exact h.n, ?_, hB, fun h => by omega, fun _ => ⟨?_, ?_⟩⟩
    · rw [hP2, (shd_c _ _ 4 1).2 (by decide), hP1, (shd_c _ _ 3 1).2 (by decide)]; exact h.c1
    · rw [hP2, (shd_c _ _ 4 3).2 (by decide), hP1]; exact (shd_c _ _ 3 0).1
    · rw [hP2]; exact (shd_c _ _ 4 0).1
  · have e1 := Mk.note_lt (M := M) (i := 0) (x := 3) (by omega)
    have hb1 : (M.note 0 3).B 0 = (M.B 0).note 3 := by rw [e1]; exact updf_same M.B 0 ((M.B 0).note 3)
    have e2 := Mk.note_lt (M := M.note 0 3) (i := 0) (x := 4) (by rw [hb1]; show (M.B 0).n + 1 < (M.B 0).size; omega)
    have hb2 : ((M.note 0 3).note 0 4).B 0 = ((M.B 0).note 3).note 4 := by rw [e2]; exact (updf_same (M.note 0 3).B 0 (((M.note 0 3).B 0).note 4)).trans (by rw [hb1])
    have hP : ((M.note 0 3).note 0 4).P = M.P := by rw [e2, e1]
    have hK : ((M.note 0 3).note 0 4).K = M.K := by rw [Mk.note_K, Mk.note_K]
    refine ⟨by rw [hK]; exact h.bar, by rw [hK]; exact h.ph, by rw [hK]; exact h.many, by rw [hP]; exact h.n, by rw [hP]; exact h.c1, by rw [hb2]; exact hs, fun _ => ?_, fun h => by omega⟩
    rw [hb2]
    show (M.B 0).n + 1 + 1 = 2 * (k + 1)
    omega

set_option maxRecDepth 100000 in
set_option maxHeartbeats 4000000 in
theorem known24 (w : World) : Calls Tryz.prog 3 #[] w fun e w' => e = .returned (.bool true) ∧ Keeps (fun _ => False) w w' := by
  go_enter Tryz.func3, Tryz.ntmps3
  go_wp2_with fail
  go_loopw [35] (fun ix wr => ∃ j : Nat, j ≤ 8 ∧ ix = .int .i64 j ∧ Keeps (fun _ => False) w wr ∧ wr.heap[w.heap.size]? = some (.cells kArr 22)) (fun ix _ => 8 - (intOf ix).toNat)
  case atStart => exact ⟨0, by omega, rfl, (Keeps.refl _ _).alloc _, alloc_new⟩
  case round =>
    obtain ⟨j, hj, rfl, hk, hq⟩ := hrel
    by_cases hlt : j < 8
    · obtain ⟨n, k, s, p, h1, h2, h3, h4, hb⟩ := kBad_at j hlt
      have x0 := cell_at hq (kArr_at h1)
      have x1 := cell_at hq (kArr_at h2)
      have x2 := cell_at hq (kArr_at h3)
      have x3 := cell_at hq (kArr_at h4)
      have HB := hid hb
      have HK := hid hk; have HQ := hid hq
      have hlt' : (j : Int) < 8 := by omega
      have hj0 : (0 : Int) ≤ j := by omega
      clear hk hq h1 h2 h3 h4 hb
      go_wp2_with fail
      refine (mnew_bad n k s p _ HB.out).mono ?_
      rintro e w1 ⟨rfl, hk1⟩
      have HK1 := hid (HK.out.trans (((Keeps.refl _ _).alloc _).trans hk1))
      have HQ1 := hid (block_keep HQ.out (((Keeps.refl (fun _ => False) wr).alloc _).trans hk1) (fun h => h))
      clear hk1 x0 x1 x2 x3
      go_wp2_with fail
      exact ⟨⟨j + 1, by omega, by go_num, HK1.out, HQ1.out⟩, by simp [intOf]; omega⟩
    · obtain rfl : j = 8 := by omega
      have hlt' : ¬ ((8 : Nat) : Int) < 8 := by omega
      have HK := hid hk
      clear hk hq
      go_wp2_with fail
      refine (mnew_ok 256 4 64 64 wr (by omega) (by omega) (by omega) (by omega) (by omega) (by omega) (by omega) (by omega)).mono ?_
      rintro e w1 ⟨rfl, k1, LM, hm, bm⟩
      have HM := hid hm; have HBM := hid bm; have HK1 := hid k1
      clear hm bm k1
      obtain ⟨m, hmm⟩ : ∃ m, wr.heap.size = m := ⟨_, rfl⟩
      rw [hmm] at HM HBM ⊢
      go_wp2_with fail
      refine (anew_ok 256 4 1 w1 (by omega) (by omega) (by omega) (by omega) (by omega) (by omega)).mono ?_
      rintro e w2 ⟨a, rfl, k2, ha⟩
      obtain ⟨LA, hd⟩ := Duo.new' (m := m) HK.out HM.out HK1.out (by rw [hmm]; exact HBM.out) k2 ha
      have HD := hid (show Duo w w2 a m LA LM (Ar.new 256 4 1) (Mk.new 256 4 64 64) from hd)
      clear hd k2 ha HM HBM HK1 hmm HK
      go_wp2_with fail
      refine (anew_ok 256 3 1 w2 (by omega) (by omega) (by omega) (by omega) (by omega) (by omega)).mono ?_
      rintro e w3 ⟨b, rfl, k3, LB, hb, bb⟩
      have H3 := hid (HD.out.same k3)
      have HB := hid (show ArIn w3 b LB (Ar.new 256 3 1) from hb)
      clear k3 hb bb HD
      go_wp2_with fail
      obtain ⟨M, hM⟩ : ∃ M, Mk.new 256 4 64 64 = M := ⟨_, rfl⟩
      have g0 : M.K.ph = 0 := by rw [← hM]; rfl
      have gn : M.P.n = 256 := by rw [← hM]; rfl
      have g4 : M.K.many = 4 := by rw [← hM]; rfl
      rw [hM] at H3
      refine (mgo_idle m LM M w3 H3.out.mm (by omega)).mono ?_
      rintro e w' ⟨rfl, h'⟩
      obtain rfl := h'.symm
      clear h'
      go_wp2_with fail
      refine (mack_state m a 0 LM M LA _ w3 H3.out.mm H3.out.ar gn.symm g4.symm (by omega) g0).mono ?_
      rintro e w4 ⟨rfl, hk⟩
      have H4 := hid (H3.out.same hk); have HB4 := hid (HB.out.keeps0 hk)
      clear hk H3 HB
      go_wp2_with fail
      refine (mack_range m a 4 LM M LA _ w4 H4.out.mm H4.out.ar gn.symm g4.symm (by omega)).mono ?_
      rintro e w5 ⟨rfl, hk⟩
      have H5 := hid (H4.out.same hk); have HB5 := hid (HB4.out.keeps0 hk)
      clear hk H4 HB4
      go_wp2_with fail
      refine (mack_arg m b 4 LM M LB _ w5 H5.out.mm HB5.out gn.symm (by rw [g4]; decide)).mono ?_
      rintro e w6 ⟨rfl, hk⟩
      have H6 := hid (H5.out.same hk)
      clear hk H5 HB5
      go_wp2_with fail
      refine (duo_begin H6.out g0).mono ?_
      rintro e w7 ⟨rfl, hd⟩
      obtain ⟨M1, hM1⟩ : ∃ M1, ({ M with K := M.K.to 1 } : Mk) = M1 := ⟨_, rfl⟩
      rw [hM1] at hd
      have r0 : M1.K.ph = 1 := by rw [← hM1]; rfl
      have rn : M1.P.n = 256 := by rw [← hM1]; exact gn
      have r4 : M1.K.many = 4 := by rw [← hM1]; exact g4
      have H7 := hid hd
      have HM1 := hid (hM1.symm.trans (by rw [← hM]))
      clear hd H6 hM hM1 g0 gn g4
      go_wp2_with fail
      refine (mbegin_bad m LM M1 w7 H7.out.mm (by omega)).mono ?_
      rintro e w' ⟨rfl, h'⟩
      obtain rfl := h'.symm
      clear h'
      go_wp2_with fail
      refine (ref24 256 w7).mono ?_
      rintro e w8 ⟨rfl, hk⟩
      have H8 := hid (H7.out.same hk)
      clear hk H7
      go_wp2_with fail
      refine (ref24 0 w8).mono ?_
      rintro e w9 ⟨rfl, hk⟩
      have H9 := hid (H8.out.same hk)
      clear hk H8
      go_wp2_with fail
      refine (mwrote_range m 4 256 0 LM M1 w9 H9.out.mm (by omega)).mono ?_
      rintro e w10 ⟨rfl, hk⟩
      have H10 := hid (H9.out.same hk)
      clear hk H9
      go_wp2_with fail
      refine (ref24 256 w10).mono ?_
      rintro e w11 ⟨rfl, hk⟩
      have H11 := hid (H10.out.same hk)
      clear hk H10
      go_wp2_with fail
      refine (ref24 0 w11).mono ?_
      rintro e w12 ⟨rfl, hk⟩
      have H12 := hid (H11.out.same hk)
      clear hk H11
      go_wp2_with fail
      refine (mwrote_arg1 m 0 256 0 LM M1 w12 H12.out.mm (by omega) (by omega)).mono ?_
      rintro e w13 ⟨rfl, hk⟩
      have H13 := hid (H12.out.same hk)
      clear hk H12
      go_wp2_with fail
      refine (ref24 0 w13).mono ?_
      rintro e w14 ⟨rfl, hk⟩
      have H14 := hid (H13.out.same hk)
      clear hk H13
      go_wp2_with fail
      refine (ref24 (-1) w14).mono ?_
      rintro e w15 ⟨rfl, hk⟩
      have H15 := hid (H14.out.same hk)
      clear hk H14
      go_wp2_with fail
      refine (mwrote_arg2 m 0 0 (-1) LM M1 w15 H15.out.mm (by omega) (by omega) (by omega) (by omega)).mono ?_
      rintro e w16 ⟨rfl, hk⟩
      have H16 := hid (H15.out.same hk)
      clear hk H15
      go_wp2_with fail
      refine (mmade_bad m 0 0 LM M1 w16 H16.out.mm (by omega)).mono ?_
      rintro e w17 ⟨rfl, hk⟩
      have H17 := hid (H16.out.same hk)
      clear hk H16
      go_wp2_with fail
      refine (ref24 256 w17).mono ?_
      rintro e w18 ⟨rfl, hk⟩
      have H18 := hid (H17.out.same hk)
      clear hk H17
      go_wp2_with fail
      refine (mmade_bad m 256 1 LM M1 w18 H18.out.mm (by omega)).mono ?_
      rintro e w19 ⟨rfl, hk⟩
      have H19 := hid (H18.out.same hk)
      clear hk H18
      go_wp2_with fail
      refine (mfreed_bad m LM M1 256 w19 H19.out.mm (by omega)).mono ?_
      rintro e w20 ⟨rfl, hk⟩
      have H20 := hid (H19.out.same hk)
      clear hk H19
      go_wp2_with fail
      refine (mfreed_bad m LM M1 (-1) w20 H20.out.mm (by omega)).mono ?_
      rintro e w21 ⟨rfl, hk⟩
      have H21 := hid (H20.out.same hk)
      clear hk H20
      go_wp2_with fail
      refine (ref24 1 w21).mono ?_
      rintro e w22 ⟨rfl, hk⟩
      have H22 := hid (H21.out.same hk)
      clear hk H21
      go_wp2_with fail
      refine (ref24 2 w22).mono ?_
      rintro e w23 ⟨rfl, hk⟩
      have H23 := hid (H22.out.same hk)
      clear hk H22
      go_wp2_with fail
      have s0 : M1.K.seen 0 = false := by rw [HM1.out]; rfl
      have hwr : M1.wrote 0 1 2 = M1 := if_neg (by simp [Ck.bar, r0, s0])
      have HT := hid (show (M1.P.c 1 = 0 ∧ (M1.B 0).size = 64 ∧ (M1.B 0).n = 0) from by rw [HM1.out]; exact ⟨rfl, rfl, rfl⟩)
      refine (duo_wrote H23.out 0 1 2 (by omega) (by omega) (by omega) (by omega) (by omega)).mono ?_
      rintro e w24 ⟨rfl, hd⟩
      rw [hwr] at hd
      have H24 := hid hd
      clear hd H23 hwr s0 HM1
      go_wp2_with fail
      go_loopw [17] (fun ix wr => ∃ j : Nat, j ≤ 4 ∧ ix = .int .i64 j ∧ Duo w wr a m LA LM (Ar.new 256 4 1) (ackN M1 j)) (fun ix _ => 4 - (intOf ix).toNat)
      case atStart => exact ⟨0, by omega, rfl, H24.out⟩
      case round =>
        obtain ⟨j, hj, rfl, hd⟩ := hrel
        have HD := hid hd
        obtain ⟨a0, a4, aP, aB⟩ := ackN_keeps M1 j
        clear hd H24
        by_cases hlt : j < 4
        · have hlt' : (j : Int) < 4 := by omega
          have hj0 : (0 : Int) ≤ j := by omega
          go_wp2_with fail
          refine (duo_ack1 HD.out (by rw [aP]; exact rn.symm) (by rw [a4]; exact r4.symm) j (by omega) (.inl (by omega))).mono ?_
          rintro e w25 ⟨rfl, hd⟩
          have H25 := hid hd
          clear hd HD
          go_wp2_with fail
          exact ⟨⟨j + 1, by omega, by go_num, H25.out⟩, by simp [intOf]; omega⟩
        · obtain rfl : j = 4 := by omega
          have hlt' : ¬ ((4 : Nat) : Int) < 4 := by omega
          have HT0 := hid (show Told 0 (ackN M1 4) from ⟨by simp [Ck.bar, a0, r0, ackN_seen], by omega, by omega, by rw [aP]; exact rn, by rw [aP]; exact HT.out.1, by rw [aB]; exact HT.out.2.1, fun _ => by rw [aB]; exact HT.out.2.2, fun h => by omega⟩)
          obtain ⟨M4, hM4⟩ : ∃ M4, ackN M1 4 = M4 := ⟨_, rfl⟩
          rw [hM4] at HD HT0
          clear hM4 a0 a4 aP aB HT r0 rn r4
          go_wp2_with fail
          go_loopw [18] (fun ix wr => ∃ (k : Nat) (M' : Mk), k ≤ 33 ∧ ix = .int .i64 k ∧ Duo w wr a m LA LM (Ar.new 256 4 1) M' ∧ Told k M') (fun ix _ => 33 - (intOf ix).toNat)
          case atStart => exact ⟨0, M4, by omega, rfl, HD.out, HT0.out⟩
          case round =>
            obtain ⟨k, M', hk, rfl, hd, ht⟩ := hrel
            have HE := hid hd; have HT := hid ht
            have tn := ht.n; have t4 := ht.many
            clear hd ht HD HT0
            by_cases hlt : k < 33
            · have hlt' : (k : Int) < 33 := by omega
              have hk0 : (0 : Int) ≤ k := by omega
              have HN := hid (HT.out.next hlt)
              go_wp2_with fail
              refine (ref24 3 wr).mono ?_
              rintro e w26 ⟨rfl, hk⟩
              have H26 := hid (HE.out.same hk)
              clear hk HE
              go_wp2_with fail
              refine (ref24 4 w26).mono ?_
              rintro e w27 ⟨rfl, hk⟩
              have H27 := hid (H26.out.same hk)
              clear hk H26
              go_wp2_with fail
              refine (duo_wrote H27.out 0 3 4 (by omega) (by omega) (by omega) (by omega) (by omega)).mono ?_
              rintro e w28 ⟨rfl, hd⟩
              have H28 := hid hd
              clear hd H27
              go_wp2_with fail
              exact ⟨⟨k + 1, _, by omega, by go_num, H28.out, HN.out⟩, by simp [intOf]; omega⟩
            · obtain rfl : k = 33 := by omega
              have hlt' : ¬ ((33 : Nat) : Int) < 33 := by omega
              have b1 : (!(M'.P.c 1 == 0)) = false := by simp [HT.out.c1]
              have b3 : (!(M'.P.c 3 == 0)) = true := by simpa using (HT.out.marked (by omega)).1
              have b4 : (!(M'.P.c 4 == 0)) = true := by simpa using (HT.out.marked (by omega)).2
              have t1 := HT.out.ph
              go_wp2_with fail
              refine (show Calls Tryz.prog 28 _ _ (fun e w' => e = .returned (.tuple #[.bool false, .int .i64 0]) ∧ Duo w w' a m LA LM (Ar.new 256 4 1) M') from by have := duo_marked HE.out 1 (by omega); rw [b1] at this; exact this).mono ?_
              rintro e w26 ⟨rfl, hd⟩
              have H26 := hid hd
              clear hd HE
              go_wp2_with fail
              refine (show Calls Tryz.prog 28 _ _ (fun e w' => e = .returned (.tuple #[.bool true, .int .i64 0]) ∧ Duo w w' a m LA LM (Ar.new 256 4 1) M') from by have := duo_marked H26.out 3 (by omega); rw [b3] at this; exact this).mono ?_
              rintro e w27 ⟨rfl, hd⟩
              have H27 := hid hd
              clear hd H26
              go_wp2_with fail
              refine (show Calls Tryz.prog 28 _ _ (fun e w' => e = .returned (.tuple #[.bool true, .int .i64 0]) ∧ Duo w w' a m LA LM (Ar.new 256 4 1) M') from by have := duo_marked H27.out 4 (by omega); rw [b4] at this; exact this).mono ?_
              rintro e w28 ⟨rfl, hd⟩
              have H28 := hid hd
              clear hd H27
              go_wp2_with fail
              refine (show Calls Tryz.prog 29 _ _ (fun e w' => e = .returned (.int .i64 1) ∧ w' = w28) from by have := mphase m LM M' w28 H28.out.mm; rw [t1] at this; exact this).mono ?_
              rintro e w' ⟨rfl, h'⟩
              obtain rfl := h'.symm
              clear h'
              go_wp2_with fail
              refine (works24 w28).mono ?_
              rintro e w29 ⟨rfl, hk⟩
              have HF := hid (H28.out.kp.trans hk)
              clear hk
              go_wp2_with fail
              go_ret
              exact ⟨rfl, HF.out⟩
end Go.Proofs.YtiopnedplnoleaaGreat
