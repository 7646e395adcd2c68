/- Package marker: markers that New did not make, and arenas that New did not make. -/
import Derived.Test.YtiopnedplnoleaaGreatMgO
import Derived.Test.YtiopnedplnoleaaGreatMgP
namespace Go.Proofs.YtiopnedplnoleaaGreat
open Go.RowKit

/-- no marker: nil, or one that New did not make -/
def NoM (w : World) (v : Value) : Prop := v = .pointer none ∨ ∃ b, v = .pointer (some ⟨b, 0, none⟩) ∧ w.heap[b]? = some (.cells #[.int .i64 0, .int .i64 0, .pointer none, .pointer none, .pointer none, .slice none 0 0] 51)
theorem NoM.keeps0 {w w' : World} {v : Value} (h : NoM w v) (hk : Keeps (fun _ => False) w w') : NoM w' v := by
  rcases h with h | ⟨b, h, hb⟩
  · exact .inl h
  · exact .inr ⟨b, h, block_keep hb hk (fun h => h)⟩

theorem mvalid_no (v : Value) (w : World) (h : NoM w v) : Calls Tryz.prog 109 #[v] w fun e w' => e = .returned (.bool false) ∧ w' = w := by
  rcases h with rfl | ⟨b, rfl, hb⟩
  · go_enter Tryz.func109, Tryz.ntmps109
    go_wp2
    go_ret
    exact ⟨rfl, rfl⟩
  · obtain ⟨c0, c1, c2, c3, c4, c5, cl⟩ := cells6 hb
    clear hb
    go_enter Tryz.func109, Tryz.ntmps109
    go_wp2
    go_ret
    exact ⟨rfl, rfl⟩

theorem nm_begin (v : Value) (w : World) (h : NoM w v) : Calls Tryz.prog 23 #[v] w fun e w' => e = .returned (.int .i64 1) ∧ w' = w := by
  have HV := hid (mvalid_no v w h)
  clear h
  go_enter Tryz.func23, Tryz.ntmps23
  go_wp2_with fail
  refine (HV.out).mono ?_
  rintro e w' ⟨rfl, h'⟩
  obtain rfl := h'.symm
  go_wp2_with fail
  go_ret
  exact ⟨rfl, rfl⟩

theorem nm_go (v : Value) (w : World) (h : NoM w v) : Calls Tryz.prog 21 #[v] w fun e w' => e = .returned (.int .i64 1) ∧ w' = w := by
  have HV := hid (mvalid_no v w h)
  clear h
  go_enter Tryz.func21, Tryz.ntmps21
  go_wp2_with fail
  refine (HV.out).mono ?_
  rintro e w' ⟨rfl, h'⟩
  obtain rfl := h'.symm
  go_wp2_with fail
  go_ret
  exact ⟨rfl, rfl⟩

theorem nm_phase (v : Value) (w : World) (h : NoM w v) : Calls Tryz.prog 29 #[v] w fun e w' => e = .returned (.int .i64 0) ∧ w' = w := by
  have HV := hid (mvalid_no v w h)
  clear h
  go_enter Tryz.func29, Tryz.ntmps29
  go_wp2_with fail
  refine (HV.out).mono ?_
  rintro e w' ⟨rfl, h'⟩
  obtain rfl := h'.symm
  go_wp2_with fail
  go_ret
  exact ⟨rfl, rfl⟩

theorem nm_ended (v : Value) (w : World) (h : NoM w v) : Calls Tryz.prog 32 #[v] w fun e w' => e = .returned (.bool false) ∧ w' = w := by
  have HV := hid (nm_phase v w h)
  clear h
  go_enter Tryz.func32, Tryz.ntmps32
  go_wp2_with fail
  refine (HV.out).mono ?_
  rintro e w' ⟨rfl, h'⟩
  obtain rfl := h'.symm
  go_wp2_with fail
  go_ret
  exact ⟨rfl, rfl⟩

theorem nm_cycles (v : Value) (w : World) (h : NoM w v) : Calls Tryz.prog 33 #[v] w fun e w' => e = .returned (.int .i64 0) ∧ w' = w := by
  have HV := hid (mvalid_no v w h)
  clear h
  go_enter Tryz.func33, Tryz.ntmps33
  go_wp2_with fail
  refine (HV.out).mono ?_
  rintro e w' ⟨rfl, h'⟩
  obtain rfl := h'.symm
  go_wp2_with fail
  go_ret
  exact ⟨rfl, rfl⟩

theorem nm_copy (v : Value) (w : World) (h : NoM w v) : Calls Tryz.prog 34 #[v] w fun e w' => e = .returned (.pointer none) ∧ w' = w := by
  have HV := hid (mvalid_no v w h)
  clear h
  go_enter Tryz.func34, Tryz.ntmps34
  go_wp2_with fail
  refine (HV.out).mono ?_
  rintro e w' ⟨rfl, h'⟩
  obtain rfl := h'.symm
  go_wp2_with fail
  go_ret
  exact ⟨rfl, rfl⟩

theorem nm_freed (v : Value) (s : Int) (w : World) (h : NoM w v) : Calls Tryz.prog 27 #[v, .int .i64 s] w fun e w' => e = .returned (.int .i64 1) ∧ w' = w := by
  have HV := hid (mvalid_no v w h)
  clear h
  go_enter Tryz.func27, Tryz.ntmps27
  go_wp2_with fail
  refine (HV.out).mono ?_
  rintro e w' ⟨rfl, h'⟩
  obtain rfl := h'.symm
  go_wp2_with fail
  go_ret
  exact ⟨rfl, rfl⟩

theorem nm_marked (v : Value) (s : Int) (w : World) (h : NoM w v) : Calls Tryz.prog 28 #[v, .int .i64 s] w fun e w' => e = .returned (.tuple #[.bool false, .int .i64 1]) ∧ w' = w := by
  have HV := hid (mvalid_no v w h)
  clear h
  go_enter Tryz.func28, Tryz.ntmps28
  go_wp2_with fail
  refine (HV.out).mono ?_
  rintro e w' ⟨rfl, h'⟩
  obtain rfl := h'.symm
  go_wp2_with fail
  go_ret2
  exact ⟨rfl, rfl⟩

theorem nm_check (v a : Value) (w : World) (h : NoM w v) : Calls Tryz.prog 116 #[v, a] w fun e w' => e = .returned (.int .i64 1) ∧ w' = w := by
  have HV := hid (mvalid_no v w h)
  clear h
  go_enter Tryz.func116, Tryz.ntmps116
  go_wp2_with fail
  refine (HV.out).mono ?_
  rintro e w' ⟨rfl, h'⟩
  obtain rfl := h'.symm
  go_wp2_with fail
  go_ret
  exact ⟨rfl, rfl⟩

theorem nm_ack (v a : Value) (s : Int) (w : World) (h : NoM w v) : Calls Tryz.prog 22 #[v, a, .int .i64 s] w fun e w' => e = .returned (.tuple #[.bool false, .int .i64 1]) ∧ w' = w := by
  have HV := hid (nm_check v a w h)
  clear h
  go_enter Tryz.func22, Tryz.ntmps22
  go_wp2_with fail
  refine (HV.out).mono ?_
  rintro e w' ⟨rfl, h'⟩
  obtain rfl := h'.symm
  go_wp2_with fail
  go_ret2
  exact ⟨rfl, rfl⟩

theorem nm_step (v a : Value) (w : World) (h : NoM w v) : Calls Tryz.prog 31 #[v, a] w fun e w' => e = .returned (.int .i64 1) ∧ w' = w := by
  have HV := hid (nm_check v a w h)
  clear h
  go_enter Tryz.func31, Tryz.ntmps31
  go_wp2_with fail
  refine (HV.out).mono ?_
  rintro e w' ⟨rfl, h'⟩
  obtain rfl := h'.symm
  go_wp2_with fail
  go_ret
  exact ⟨rfl, rfl⟩

theorem nm_made (v : Value) (r : Rf) (w : World) (h : NoM w v) : Calls Tryz.prog 26 #[v, .agg #[.int .i64 r.s, .int .u32 r.g]] w fun e w' => e = .returned (.int .i64 1) ∧ Keeps (fun _ => False) w w' := by
  have HV := hid (fun (w' : World) (hk : Keeps (fun _ => False) w w') => mvalid_no v w' (h.keeps0 hk))
  clear h
  go_enter Tryz.func26, Tryz.ntmps26
  go_wp2_with fail
  refine (HV.out _ ((Keeps.refl _ _).alloc _)).mono ?_
  rintro e w' ⟨rfl, h'⟩
  obtain rfl := h'.symm
  go_wp2_with fail
  go_ret
  exact ⟨rfl, (Keeps.refl _ _).alloc _⟩

theorem nm_wrote (v : Value) (s : Int) (r q : Rf) (w : World) (h : NoM w v) : Calls Tryz.prog 24 #[v, .int .i64 s, .agg #[.int .i64 r.s, .int .u32 r.g], .agg #[.int .i64 q.s, .int .u32 q.g]] w fun e w' => e = .returned (.int .i64 1) ∧ Keeps (fun _ => False) w w' := by
  have HV := hid (fun (w' : World) (hk : Keeps (fun _ => False) w w') => mvalid_no v w' (h.keeps0 hk))
  clear h
  go_enter Tryz.func24, Tryz.ntmps24
  go_wp2_with fail
  refine (HV.out _ (((Keeps.refl _ _).alloc _).alloc _)).mono ?_
  rintro e w' ⟨rfl, h'⟩
  obtain rfl := h'.symm
  go_wp2_with fail
  go_ret
  exact ⟨rfl, ((Keeps.refl _ _).alloc _).alloc _⟩

/-- no arena: nil, or one that New did not make -/
def NoA (w : World) (v : Value) : Prop := v = .pointer none ∨ ∃ b, v = .pointer (some ⟨b, 0, none⟩) ∧
  w.heap[b]? = some (.cells #[.pointer none, .int .i64 0, .int .i64 0, .pointer none, .pointer none, .pointer none, .pointer none, .pointer none] 60)
theorem NoA.keeps0 {w w' : World} {v : Value} (h : NoA w v) (hk : Keeps (fun _ => False) w w') : NoA w' v := by
  rcases h with h | ⟨b, h, hb⟩
  · exact .inl h
  · exact .inr ⟨b, h, block_keep hb hk (fun h => h)⟩

theorem avalid_no (v : Value) (w : World) (h : NoA w v) : Calls Tryz.prog 161 #[v] w fun e w' => e = .returned (.bool false) ∧ w' = w := by
  rcases h with rfl | ⟨b, rfl, hb⟩
  · go_enter Tryz.func161, Tryz.ntmps161
    go_wp2
    go_ret
    exact ⟨rfl, rfl⟩
  · have c0 : w.cell? ⟨b, 0, none⟩ = some (.pointer none) := cell_at hb rfl
    clear hb
    go_enter Tryz.func161, Tryz.ntmps161
    go_wp2
    go_ret
    exact ⟨rfl, rfl⟩

theorem asizes_no (v : Value) (w : World) (h : NoA w v) : Calls Tryz.prog 86 #[v] w fun e w' => e = .returned (.tuple #[.int .i64 0, .int .i64 0]) ∧ w' = w := by
  have HV := hid (avalid_no v w h)
  clear h
  go_enter Tryz.func86, Tryz.ntmps86
  go_wp2_with fail
  refine (HV.out).mono ?_
  rintro e w' ⟨rfl, h'⟩
  obtain rfl := h'.symm
  go_wp2_with fail
  go_ret2
  exact ⟨rfl, rfl⟩

theorem mcheck_no (m : Nat) (L : MkL) (M : Mk) (v : Value) (w : World) (h : MkIn w m L M) (ha : NoA w v) :
    Calls Tryz.prog 116 #[.pointer (some ⟨m, 0, none⟩), v] w fun e w' => e = .returned (.int .i64 1) ∧ w' = w := by
  have HV := hid (mvalid m L M w h)
  have HS := hid (asizes_no v w ha)
  obtain ⟨c0, c1, c2, c3, c4, c5, cl⟩ := cells6 h.own
  clear h ha
  go_enter Tryz.func116, Tryz.ntmps116
  go_wp2_with fail
  refine (HV.out).mono ?_
  rintro e w' ⟨rfl, h'⟩
  obtain rfl := h'.symm
  go_wp2_with fail
  refine (HS.out).mono ?_
  rintro e w' ⟨rfl, h'⟩
  obtain rfl := h'.symm
  go_wp2_with fail
  go_ret
  exact ⟨rfl, rfl⟩

theorem mack_no (m : Nat) (L : MkL) (M : Mk) (v : Value) (s : Int) (w : World) (h : MkIn w m L M) (ha : NoA w v) :
    Calls Tryz.prog 22 #[.pointer (some ⟨m, 0, none⟩), v, .int .i64 s] w fun e w' => e = .returned (.tuple #[.bool false, .int .i64 1]) ∧ w' = w := by
  have HV := hid (mcheck_no m L M v w h ha)
  clear h ha
  go_enter Tryz.func22, Tryz.ntmps22
  go_wp2_with fail
  refine (HV.out).mono ?_
  rintro e w' ⟨rfl, h'⟩
  obtain rfl := h'.symm
  go_wp2_with fail
  go_ret2
  exact ⟨rfl, rfl⟩

theorem mstep_no (m : Nat) (L : MkL) (M : Mk) (v : Value) (w : World) (h : MkIn w m L M) (ha : NoA w v) :
    Calls Tryz.prog 31 #[.pointer (some ⟨m, 0, none⟩), v] w fun e w' => e = .returned (.int .i64 1) ∧ w' = w := by
  have HV := hid (mcheck_no m L M v w h ha)
  clear h ha
  go_enter Tryz.func31, Tryz.ntmps31
  go_wp2_with fail
  refine (HV.out).mono ?_
  rintro e w' ⟨rfl, h'⟩
  obtain rfl := h'.symm
  go_wp2_with fail
  go_ret
  exact ⟨rfl, rfl⟩

end Go.Proofs.YtiopnedplnoleaaGreat

/- estraylaw24: MarkerNil. -/
namespace Go.Proofs.YtiopnedplnoleaaGreat
open Go.RowKit

set_option maxRecDepth 100000 in
set_option maxHeartbeats 8000000 in
theorem markerNil_walk (d k x y z : Int) (r q : Rf) (w : World) : Calls Tryz.prog 4 #[.agg #[.int .i64 d, .int .i64 k, .int .i64 x, .int .i64 y, .int .i64 z, .int .i64 r.s, .int .u32 r.g, .int .i64 q.s, .int .u32 q.g]] w fun e w' => e = .returned (.bool true) ∧ Keeps (fun _ => False) w w' := by
  go_enter Tryz.func4, Tryz.ntmps4
  go_wp2_with fail
  obtain ⟨w0, hw0⟩ : ∃ w0, w.alloc (.cells #[.int .i64 d, .int .i64 k, .int .i64 x, .int .i64 y, .int .i64 z, .int .i64 r.s, .int .u32 r.g, .int .i64 q.s, .int .u32 q.g] 45) = w0 := ⟨_, rfl⟩
  have HB0 := hid (show w0.heap[w.heap.size]? = some (.cells #[.int .i64 d, .int .i64 k, .int .i64 x, .int .i64 y, .int .i64 z, .int .i64 r.s, .int .u32 r.g, .int .i64 q.s, .int .u32 q.g] 45) by rw [← hw0]; exact alloc_new)
  have HK0 := hid (show Keeps (fun _ => False) w w0 by rw [← hw0]; exact (Keeps.refl _ _).alloc _)
  rw [hw0]
  clear hw0
  refine (anew_ok 4 1 1 w0 (by omega) (by omega) (by omega) (by omega) (by omega) (by omega)).mono ?_
  rintro e w1 ⟨a, rfl, k1, ha⟩
  have HK1 := hid k1; have HA := hid ha
  clear k1 ha
  go_wp2_with fail
  refine (mnew_ok 4 1 1 1 w1 (by omega) (by omega) (by omega) (by omega) (by omega) (by omega) (by omega) (by omega)).mono ?_
  rintro e w2 ⟨rfl, k2, LM, hm, bm⟩
  obtain ⟨m, hmm⟩ : ∃ m, w1.heap.size = m := ⟨_, rfl⟩
  rw [hmm] at hm ⊢
  have HM := hid hm; have HK2 := hid (HK0.out.trans (HK1.out.trans k2))
  have HB2 := hid (block_keep HB0.out (HK1.out.trans k2) (fun h => h))
  clear k2 hm bm hmm HA HK1 HK0 HB0
  go_wp2_with fail
  obtain ⟨w3, hw3⟩ : ∃ w3, (w2.alloc (.cells #[.int .i64 0, .int .i64 0, .pointer none, .pointer none, .pointer none, .slice none 0 0] 51)).alloc (.cells #[.pointer none, .pointer (some ⟨w2.heap.size, 0, none⟩)] 24) = w3 := ⟨_, rfl⟩
  have k3 : Keeps (fun _ => False) w2 w3 := by rw [← hw3]; exact ((Keeps.refl _ _).alloc _).alloc _
  have p3 : w3.heap[w2.heap.size]? = some (.cells #[.int .i64 0, .int .i64 0, .pointer none, .pointer none, .pointer none, .slice none 0 0] 51) := by rw [← hw3]; exact alloc_old alloc_new
  have q3 : w3.heap[w2.heap.size + 1]? = some (.cells #[.pointer none, .pointer (some ⟨w2.heap.size, 0, none⟩)] 24) := by rw [← hw3]; exact alloc_new' (by simp)
  rw [hw3]
  have HK3 := hid (HK2.out.trans k3); have HB3 := hid (block_keep HB2.out k3 (fun h => h)); have HM3 := hid (HM.out.keeps0 k3)
  have HP3 := hid p3; have HQ3 := hid q3
  clear hw3 k3 p3 q3 HK2 HB2 HM
  have HCC := hid (fun (W : World) (hk : Keeps (fun _ => False) w3 W) => show (W.cell? ⟨w.heap.size, 1, none⟩ = some (.int .i64 k) ∧ W.cell? ⟨w.heap.size, 2, none⟩ = some (.int .i64 x) ∧ W.cell? ⟨w.heap.size, 5, none⟩ = some (.int .i64 r.s) ∧ W.cell? ⟨w.heap.size, 6, none⟩ = some (.int .u32 r.g) ∧ W.cell? ⟨w.heap.size, 7, none⟩ = some (.int .i64 q.s) ∧ W.cell? ⟨w.heap.size, 8, none⟩ = some (.int .u32 q.g)) from by
    have hb := block_keep HB3.out hk (fun h => h)
    exact ⟨cell_at hb rfl, cell_at hb rfl, cell_at hb rfl, cell_at hb rfl, cell_at hb rfl, cell_at hb rfl⟩)
  go_loopw [10] (fun ix wr => ∃ j : Nat, j ≤ 2 ∧ ix = .int .i64 j ∧ Keeps (fun _ => False) w3 wr) (fun ix _ => 2 - (intOf ix).toNat)
  case atStart => exact ⟨0, by omega, rfl, Keeps.refl _ _⟩
  case round =>
    obtain ⟨j, hj, rfl, hkr⟩ := hrel
    by_cases hlt : j < 2
    · obtain ⟨v, hv, hn⟩ : ∃ v, wr.cell? ⟨w2.heap.size + 1, j, none⟩ = some v ∧ NoM wr v := by
        have hb := block_keep HQ3.out hkr (fun h => h)
        match j, hlt with
        | 0, _ => exact ⟨_, cell_at hb rfl, .inl rfl⟩
        | 1, _ => exact ⟨_, cell_at hb rfl, .inr ⟨_, rfl, block_keep HP3.out hkr (fun h => h)⟩⟩
      have HKR := hid hkr
      have HN := hid (fun (W : World) (hk : Keeps (fun _ => False) wr W) => hn.keeps0 hk)
      have HCR := hid (fun (W : World) (hk : Keeps (fun _ => False) wr W) => HCC.out W (HKR.out.trans hk))
      obtain ⟨c1, c2, c5, c6, c7, c8⟩ := HCR.out _ (Keeps.refl _ _)
      have hlt' : (j : Int) < 2 := by omega
      have hj0 : (0 : Int) ≤ j := by omega
      clear hkr hn
      go_wp2_with fail
      refine (nm_ack v (.pointer (some ⟨a, 0, none⟩)) k _ (HN.out _ (Keeps.refl _ _))).mono ?_
      rintro e w' ⟨rfl, h'⟩
      obtain rfl := h'.symm
      go_wp2_with fail
      refine (nm_marked v x _ (HN.out _ (Keeps.refl _ _))).mono ?_
      rintro e w' ⟨rfl, h'⟩
      obtain rfl := h'.symm
      go_wp2_with (first | (go_at_call 23; refine (nm_begin v _ (HN.out _ (by repeat (first | with_reducible exact Keeps.refl _ _ | with_reducible refine Keeps.drew ?_ | with_reducible refine Keeps.drewN ?_ _ | with_reducible refine Keeps.trans ?_ (by with_reducible assumption))))).mono ?_; rintro e w' ⟨rfl, h'⟩; obtain rfl := h'.symm) | (go_at_call 31; refine (nm_step v (.pointer (some ⟨a, 0, none⟩)) _ (HN.out _ (by repeat (first | with_reducible exact Keeps.refl _ _ | with_reducible refine Keeps.drew ?_ | with_reducible refine Keeps.drewN ?_ _ | with_reducible refine Keeps.trans ?_ (by with_reducible assumption))))).mono ?_; rintro e w' ⟨rfl, h'⟩; obtain rfl := h'.symm) | (go_at_call 24; refine (nm_wrote v k r q _ (HN.out _ (by repeat (first | with_reducible exact Keeps.refl _ _ | with_reducible refine Keeps.drew ?_ | with_reducible refine Keeps.drewN ?_ _ | with_reducible refine Keeps.trans ?_ (by with_reducible assumption))))).mono ?_; rintro e wa ⟨rfl, hwa⟩; clear c1 c2 c5 c6 c7 c8; obtain ⟨c1, c2, c5, c6, c7, c8⟩ := HCR.out wa (by repeat (first | with_reducible exact Keeps.refl _ _ | with_reducible refine Keeps.drew ?_ | with_reducible refine Keeps.drewN ?_ _ | with_reducible refine Keeps.trans ?_ (by with_reducible assumption)))) | (go_at_call 26; refine (nm_made v r _ (HN.out _ (by repeat (first | with_reducible exact Keeps.refl _ _ | with_reducible refine Keeps.drew ?_ | with_reducible refine Keeps.drewN ?_ _ | with_reducible refine Keeps.trans ?_ (by with_reducible assumption))))).mono ?_; rintro e wb ⟨rfl, hwb⟩; clear c1 c2 c5 c6 c7 c8; obtain ⟨c1, c2, c5, c6, c7, c8⟩ := HCR.out wb (by repeat (first | with_reducible exact Keeps.refl _ _ | with_reducible refine Keeps.drew ?_ | with_reducible refine Keeps.drewN ?_ _ | with_reducible refine Keeps.trans ?_ (by with_reducible assumption)))) | (go_at_call 27; refine (nm_freed v x _ (HN.out _ (by repeat (first | with_reducible exact Keeps.refl _ _ | with_reducible refine Keeps.drew ?_ | with_reducible refine Keeps.drewN ?_ _ | with_reducible refine Keeps.trans ?_ (by with_reducible assumption))))).mono ?_; rintro e w' ⟨rfl, h'⟩; obtain rfl := h'.symm) | (go_at_call 29; refine (nm_phase v _ (HN.out _ (by repeat (first | with_reducible exact Keeps.refl _ _ | with_reducible refine Keeps.drew ?_ | with_reducible refine Keeps.drewN ?_ _ | with_reducible refine Keeps.trans ?_ (by with_reducible assumption))))).mono ?_; rintro e w' ⟨rfl, h'⟩; obtain rfl := h'.symm) | (go_at_call 32; refine (nm_ended v _ (HN.out _ (by repeat (first | with_reducible exact Keeps.refl _ _ | with_reducible refine Keeps.drew ?_ | with_reducible refine Keeps.drewN ?_ _ | with_reducible refine Keeps.trans ?_ (by with_reducible assumption))))).mono ?_; rintro e w' ⟨rfl, h'⟩; obtain rfl := h'.symm) | (go_at_call 21; refine (nm_go v _ (HN.out _ (by repeat (first | with_reducible exact Keeps.refl _ _ | with_reducible refine Keeps.drew ?_ | with_reducible refine Keeps.drewN ?_ _ | with_reducible refine Keeps.trans ?_ (by with_reducible assumption))))).mono ?_; rintro e w' ⟨rfl, h'⟩; obtain rfl := h'.symm) | (go_at_call 33; refine (nm_cycles v _ (HN.out _ (by repeat (first | with_reducible exact Keeps.refl _ _ | with_reducible refine Keeps.drew ?_ | with_reducible refine Keeps.drewN ?_ _ | with_reducible refine Keeps.trans ?_ (by with_reducible assumption))))).mono ?_; rintro e w' ⟨rfl, h'⟩; obtain rfl := h'.symm) | (go_at_call 34; refine (nm_copy v _ (HN.out _ (by repeat (first | with_reducible exact Keeps.refl _ _ | with_reducible refine Keeps.drew ?_ | with_reducible refine Keeps.drewN ?_ _ | with_reducible refine Keeps.trans ?_ (by with_reducible assumption))))).mono ?_; rintro e w' ⟨rfl, h'⟩; obtain rfl := h'.symm))
      all_goals
        refine ⟨⟨j + 1, by omega, by go_num, ?_⟩, by simp [intOf]; omega⟩
        repeat (first | with_reducible exact HKR.out | with_reducible refine Keeps.drew ?_ | with_reducible refine Keeps.drewN ?_ _ | with_reducible refine Keeps.trans ?_ (by with_reducible assumption))
    · have hlt' : ¬ (j : Int) < 2 := by omega
      obtain ⟨wo, rfl⟩ : ∃ wo : World, wo = wr := ⟨_, rfl⟩
      have HKR := hid hkr
      clear hkr
      go_wp2_with fail
      obtain ⟨w4, hw4⟩ : ∃ w4, (wo.alloc (.cells #[.pointer none, .int .i64 0, .int .i64 0, .pointer none, .pointer none, .pointer none, .pointer none, .pointer none] 60)).alloc (.cells #[.pointer none, .pointer (some ⟨wo.heap.size, 0, none⟩)] 28) = w4 := ⟨_, rfl⟩
      have k4 : Keeps (fun _ => False) wo w4 := by rw [← hw4]; exact ((Keeps.refl _ _).alloc _).alloc _
      have p4 : w4.heap[wo.heap.size]? = some (.cells #[.pointer none, .int .i64 0, .int .i64 0, .pointer none, .pointer none, .pointer none, .pointer none, .pointer none] 60) := by rw [← hw4]; exact alloc_old alloc_new
      have q4 : w4.heap[wo.heap.size + 1]? = some (.cells #[.pointer none, .pointer (some ⟨wo.heap.size, 0, none⟩)] 28) := by rw [← hw4]; exact alloc_new' (by simp)
      rw [hw4]
      have HK4 := hid (HKR.out.trans k4)
      have HP4 := hid p4; have HQ4 := hid q4
      clear hw4 k4 p4 q4 hlt'
      go_loopw [140] (fun ix wr => ∃ i : Nat, i ≤ 2 ∧ ix = .int .i64 i ∧ Keeps (fun _ => False) w4 wr) (fun ix _ => 2 - (intOf ix).toNat)
      case atStart => exact ⟨0, by omega, rfl, Keeps.refl _ _⟩
      case round =>
        obtain ⟨i, hi, rfl, hkx⟩ := hrel
        have hk3x := HK4.out.trans hkx
        by_cases hlt : i < 2
        · obtain ⟨v, hv, hn⟩ : ∃ v, wr.cell? ⟨wo.heap.size + 1, i, none⟩ = some v ∧ NoA wr v := by
            have hb := block_keep HQ4.out hkx (fun h => h)
            match i, hlt with
            | 0, _ => exact ⟨_, cell_at hb rfl, .inl rfl⟩
            | 1, _ => exact ⟨_, cell_at hb rfl, .inr ⟨_, rfl, block_keep HP4.out hkx (fun h => h)⟩⟩
          have HKX := hid hkx
          have HN := hid hn
          have HMX := hid (HM3.out.keeps0 hk3x)
          obtain ⟨c1, c2, c5, c6, c7, c8⟩ := HCC.out _ hk3x
          have hlt' : (i : Int) < 2 := by omega
          have hi0 : (0 : Int) ≤ i := by omega
          clear hkx hk3x hn
          go_wp2_with fail
          refine (mack_no m LM _ v k _ HMX.out HN.out).mono ?_
          rintro e w' ⟨rfl, h'⟩
          obtain rfl := h'.symm
          go_wp2_with fail
          refine (mstep_no m LM _ v _ HMX.out HN.out).mono ?_
          rintro e w' ⟨rfl, h'⟩
          obtain rfl := h'.symm
          go_wp2_with fail
          exact ⟨⟨i + 1, by omega, by go_num, HKX.out⟩, by simp [intOf]; omega⟩
        · have hlt' : ¬ (i : Int) < 2 := by omega
          have HKX := hid (HK3.out.trans hk3x)
          clear hkx hk3x
          go_wp2_with fail
          refine (works24 _).mono ?_
          rintro e w9 ⟨rfl, hk9⟩
          have HK9 := hid (HKX.out.trans hk9)
          clear hk9
          go_wp2_with fail
          go_ret
          exact ⟨rfl, HK9.out⟩

end Go.Proofs.YtiopnedplnoleaaGreat
