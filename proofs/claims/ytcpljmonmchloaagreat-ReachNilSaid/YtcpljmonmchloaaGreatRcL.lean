/- estraylaw19: ReachNil. -/
import Derived.Test.YtcpljmonmchloaaGreatRcK
namespace Go.Proofs.YtcpljmonmchloaaGreat
open Go.RowKit Go.ChangeShapes Go.WideShapes Go.ChangeAt Go.Deep
set_option linter.unusedVariables false
set_option linter.unusedSimpArgs false

def NoH (w : World) (v : Value) : Prop := v = .pointer none ∨ ∃ b, v = .pointer (some ⟨b, 0, none⟩) ∧ w.heap[b]? = some (.cells Tryz.zeroCells32 32)
theorem NoH.keeps0 {w w' : World} {v : Value} (h : NoH w v) (hk : Keeps (fun _ => False) w w') : NoH w' v := by
  rcases h with h | ⟨b, h, hb⟩
  · exact .inl h
  · exact .inr ⟨b, h, block_keep hb hk (fun h => h)⟩
theorem NoH.cell {w : World} {b : Nat} (hb : w.heap[b]? = some (.cells Tryz.zeroCells32 32)) : w.cell? ⟨b, 0, none⟩ = some (.pointer none) :=
  cell_at hb (by rw [← Array.getElem?_toList, hz_list]; rfl)
theorem hvalid_no (v : Value) (w : World) (h : NoH w v) : Calls Tryz.prog 99 #[v] w fun e w' => e = .returned (.bool false) ∧ w' = w := by
  rcases h with rfl | ⟨b, rfl, hb⟩
  · go_enter Tryz.func99, Tryz.ntmps99
    go_wp2
    go_ret
    exact ⟨rfl, rfl⟩
  · have c0 := NoH.cell hb
    clear hb
    go_enter Tryz.func99, Tryz.ntmps99
    go_wp2
    go_ret
    exact ⟨rfl, rfl⟩
theorem hcopy_no (v : Value) (w : World) (h : NoH w v) : Calls Tryz.prog 91 #[v] w fun e w' => e = .returned (.pointer none) ∧ w' = w := by
  have HV := hid (hvalid_no v w h)
  clear h
  go_enter Tryz.func91, Tryz.ntmps91
  go_wp2_with fail
  refine (HV.out).mono ?_
  rintro e w' ⟨rfl, h'⟩
  obtain rfl := h'.symm
  go_wp2_with fail
  go_ret
  exact ⟨rfl, rfl⟩
theorem there_no (v l : Value) (w : World) (h : NoH w v) : Calls Tryz.prog 78 #[v, l] w fun e w' => e = .returned (.tuple #[.slice none 0 0, .int .i64 1]) ∧ w' = w := by
  have HV := hid (hcopy_no v w h)
  clear h
  go_enter Tryz.func78, Tryz.ntmps78
  go_wp2_with fail
  refine (HV.out).mono ?_
  rintro e w' ⟨rfl, h'⟩
  obtain rfl := h'.symm
  go_wp2_with fail
  go_ret2
  exact ⟨rfl, rfl⟩
theorem from_no (v l : Value) (w : World) (h : NoH w v) : Calls Tryz.prog 17 #[v, l] w fun e w' => e = .returned (.tuple #[.slice none 0 0, .int .i64 1]) ∧ w' = w := by
  have HV := hid (there_no v l w h)
  clear h
  go_enter Tryz.func17, Tryz.ntmps17
  go_wp2_with fail
  refine (HV.out).mono ?_
  rintro e w' ⟨rfl, h'⟩
  obtain rfl := h'.symm
  go_wp2_with fail
  go_ret2
  exact ⟨rfl, rfl⟩
set_option maxRecDepth 100000 in
theorem closed_no (v : Value) (p : Option Addr) (n c : Nat) (w : World) (h : NoH w v) : Calls Tryz.prog 18 #[v, .slice p n c] w fun e w' => e = .returned (.tuple #[.bool false, .int .i64 1]) ∧ Keeps (fun _ => False) w w' := by
  have HT := hid (fun W (hk : Keeps (fun _ => False) w W) => there_no v (.slice p n c) W (h.keeps0 hk))
  clear h
  refine (callsIn_wide (n := 0)).1 ?_
  refine callsIn_of_wp_marks Tryz.func18 rfl trivial ?_ rfl
  simp only [Tryz.ntmps18, List.size_toArray, List.length_cons, List.length_nil, Nat.reduceAdd, Nat.reduceSub, Array.replicate_succ, Array.replicate_zero, List.push_toArray, List.append_toArray, List.nil_append, List.cons_append]
  obtain ⟨wa, hwa⟩ : ∃ wa, ((w.alloc (.cells #[.slice p n c] 34)).alloc (.cells #[.bool false] 4)).alloc (.cells #[.int .i64 0] 35) = wa := ⟨_, rfl⟩
  have ka : Keeps (fun _ => False) w wa := by rw [← hwa]; exact (((Keeps.refl _ _).alloc _).alloc _).alloc _
  have qa3 : wa.heap[w.heap.size]? = some (.cells #[.slice p n c] 34) := by rw [← hwa]; exact alloc_old (alloc_old alloc_new)
  have qa4 : wa.heap[w.heap.size + 1]? = some (.cells #[.bool false] 4) := by rw [← hwa]; exact alloc_old (alloc_new' (by simp))
  have qa5 : wa.heap[w.heap.size + 1 + 1]? = some (.cells #[.int .i64 0] 35) := by rw [← hwa]; exact alloc_new' (by simp)
  have HWA := hid hwa; have KA := hid ka; have Q3 := hid qa3; have Q4 := hid qa4; have Q5 := hid qa5
  have hl5 := lt_block qa5
  obtain ⟨d0, df, dl⟩ := cells1 qa3
  clear hwa ka qa3 qa4 qa5
  gi_wp2_with fail
  rw [HWA.out]
  refine ⟨trivial, rfl, callsIn_wide.2 ((HT.out _ KA.out).mono ?_)⟩
  rintro e w1 ⟨rfl, hw1⟩
  subst hw1
  clear d0 df dl
  obtain ⟨d0, df, dl⟩ := cells1 Q3.out
  obtain ⟨f0, ff, fl4⟩ := cells1 Q4.out
  obtain ⟨g0, gf, gl5⟩ := cells1 Q5.out
  gi_wp2_with fail
  obtain ⟨W5, hW5⟩ : ∃ W5, ((w1.setCell ⟨w.heap.size, 0, none⟩ (.slice none 0 0)).setCell ⟨w.heap.size + 1, 0, none⟩ (.bool false)).setCell ⟨w.heap.size + 1 + 1, 0, none⟩ (.int .i64 1) = W5 := ⟨_, rfl⟩
  have k5 : Keeps (fun y => y = w.heap.size ∨ y = w.heap.size + 1 ∨ y = w.heap.size + 2) w1 W5 := by
    rw [← hW5]
    exact Keeps.setCell (p := ⟨w.heap.size + 1 + 1, 0, none⟩) (Keeps.setCell (p := ⟨w.heap.size + 1, 0, none⟩) (Keeps.setCell (p := ⟨w.heap.size, 0, none⟩) (Keeps.refl _ w1) (.inl (.inl rfl)) _) (.inl (.inr (.inl rfl))) _) (.inl (.inr (.inr rfl))) _
  have q45 : W5.heap[w.heap.size + 1]? = some (.cells #[.bool false] 4) := by
    rw [← hW5]; exact set_oth (set_block (set_oth Q4.out (by simp)) 0 _) (by simp)
  have q55 : W5.heap[w.heap.size + 1 + 1]? = some (.cells #[.int .i64 1] 35) := by
    rw [← hW5]; exact set_block (set_oth (set_oth Q5.out (by simp <;> omega)) (by simp <;> omega)) 0 _
  rw [hW5]
  refine leave_marks [] W5 List.nodup_nil (fun D hd => nomatch hd) (fun W' hk' => ?_)
  obtain ⟨f0, _, _⟩ := cells1 (block_keep q45 hk' (fun h => nomatch h))
  obtain ⟨g0, _, _⟩ := cells1 (block_keep q55 hk' (fun h => nomatch h))
  refine ⟨.tuple #[.bool false, .int .i64 1], by simp [results, Tryz.results18, go_sem, f0, g0], rfl, ?_⟩
  have q2 : Keeps (fun y => w.heap.size ≤ y) w W5 := KA.out.up.trans' k5 (fun _ _ h => h) (fun y _ h => by omega)
  exact (q2.trans' hk' (fun _ _ h => h) (fun y _ h => nomatch h)).fresh
theorem aheap_no (v : Value) (w : World) (h : NoA w v) : Calls Tryz.prog 26 #[v] w fun e w' => e = .returned (.pointer none) ∧ w' = w := by
  have HV := hid (avalid_no v w h)
  clear h
  go_enter Tryz.func26, Tryz.ntmps26
  go_wp2_with fail
  refine (HV.out).mono ?_
  rintro e w' ⟨rfl, h'⟩
  obtain rfl := h'.symm
  go_wp2_with fail
  go_ret
  exact ⟨rfl, rfl⟩
set_option maxRecDepth 100000 in
theorem look_no (v : Value) (w : World) (h : NoA w v) : Calls Tryz.prog 82 #[v] w fun e w' => e = .returned (.tuple #[.agg #[.pointer none, .slice none 0 0, .map none], .int .i64 1]) ∧ Keeps (fun _ => False) w w' := by
  have HN := hid (fun W (hk : Keeps (fun _ => False) w W) => aheap_no v W (h.keeps0 hk))
  clear h
  obtain ⟨wz, hwz⟩ : ∃ wz, w.alloc (.cells #[.pointer none, .slice none 0 0, .map none] 141) = wz := ⟨_, rfl⟩
  have kz : Keeps (fun _ => False) w wz := by rw [← hwz]; exact (Keeps.refl _ _).alloc _
  have qz : wz.heap[w.heap.size]? = some (.cells #[.pointer none, .slice none 0 0, .map none] 141) := by rw [← hwz]; exact alloc_new
  have KZ := hid kz; have QZ := hid qz; have HWZ := hid hwz
  clear kz qz hwz
  go_enter Tryz.func82, Tryz.ntmps82
  go_wp2_with fail
  rw [HWZ.out]
  refine (HN.out _ KZ.out).mono ?_
  rintro e w' ⟨rfl, h'⟩
  obtain rfl := h'.symm
  obtain ⟨w2, hw2⟩ : ∃ w2, wz.alloc (.cells #[.pointer none] 25) = w2 := ⟨_, rfl⟩
  have k2 : Keeps (fun _ => False) wz w2 := by rw [← hw2]; exact (Keeps.refl _ _).alloc _
  have q2 : w2.heap[wz.heap.size]? = some (.cells #[.pointer none] 25) := by rw [← hw2]; exact alloc_new
  obtain ⟨B, hB⟩ : ∃ B, wz.heap.size = B := ⟨_, rfl⟩
  rw [hB] at q2
  obtain ⟨b0, bf, bl⟩ := cells1 q2
  have QG := hid (block_keep QZ.out k2 (fun h => h))
  have K2 := hid (KZ.out.trans k2)
  obtain ⟨g0, g1, g2, gl⟩ := cells3 QG.out
  have gf := frozen_block QG.out
  clear k2 q2
  subst hw2
  go_wp2_with fail
  obtain ⟨w2, hw2⟩ : ∃ w2, wz.alloc (.cells #[.pointer none] 25) = w2 := ⟨_, rfl⟩
  rw [hw2] at QG K2 ⊢
  clear g0 g1 g2 gl gf b0 bf bl hw2
  have e3 := set_block (set_block (set_block QG.out 0 (.pointer none)) 1 (.slice none 0 0)) 2 (.map none)
  have k8 : Keeps (fun y => y = w.heap.size) w2 (((w2.setCell ⟨w.heap.size, 0, none⟩ (.pointer none)).setCell ⟨w.heap.size, 1, none⟩ (.slice none 0 0)).setCell ⟨w.heap.size, 2, none⟩ (.map none)) :=
    Keeps.setCell (p := ⟨w.heap.size, 2, none⟩) (Keeps.setCell (p := ⟨w.heap.size, 1, none⟩) (Keeps.setCell (p := ⟨w.heap.size, 0, none⟩) (Keeps.refl (fun y => y = w.heap.size) w2) (.inl rfl) _) (.inl rfl) _) (.inl rfl) _
  obtain ⟨w8, hw8⟩ : ∃ w8, (((w2.setCell ⟨w.heap.size, 0, none⟩ (.pointer none)).setCell ⟨w.heap.size, 1, none⟩ (.slice none 0 0)).setCell ⟨w.heap.size, 2, none⟩ (.map none)) = w8 := ⟨_, rfl⟩
  rw [hw8] at k8 e3 ⊢
  obtain ⟨g0', g1', g2', gl'⟩ := cells3 e3
  have hres : Keeps (fun _ => False) w w8 := (K2.out.up.trans' k8 (U := fun y => w.heap.size ≤ y) (fun _ _ h => h) (fun y _ h => by omega)).fresh
  have z0 := Tryz.isAgg141 w8
  have z1 := Tryz.sizeOf141 w8
  refine bodyPost_ret_by (v := .tuple #[.agg #[.pointer none, .slice none 0 0, .map none], .int .i64 1]) (by simp [results, Tryz.results82, go_sem, z0, z1, g0', g1', g2']) rfl ⟨rfl, hres⟩
theorem all_no (v : Value) (w : World) (h : NoA w v) : Calls Tryz.prog 19 #[v] w fun e w' => e = .returned (.tuple #[.slice none 0 0, .int .i64 1]) ∧ Keeps (fun _ => False) w w' := by
  have HL := hid (look_no v w h)
  clear h
  go_enter Tryz.func19, Tryz.ntmps19
  go_wp2_with fail
  refine HL.out.mono ?_
  rintro e w1 ⟨rfl, k1⟩
  have K := hid (k1.alloc (.cells #[.pointer none, .slice none 0 0, .map none] 141))
  clear k1
  go_wp2_with fail
  go_ret2
  exact ⟨rfl, K.out⟩
theorem lost_no (v : Value) (w : World) (h : NoA w v) : Calls Tryz.prog 20 #[v] w fun e w' => e = .returned (.tuple #[.slice none 0 0, .int .i64 1]) ∧ Keeps (fun _ => False) w w' := by
  have HL := hid (look_no v w h)
  clear h
  go_enter Tryz.func20, Tryz.ntmps20
  go_wp2_with fail
  refine HL.out.mono ?_
  rintro e w1 ⟨rfl, k1⟩
  have K := hid (k1.alloc (.cells #[.pointer none, .slice none 0 0, .map none] 141))
  clear k1
  go_wp2_with fail
  go_ret2
  exact ⟨rfl, K.out⟩
theorem path_no (v : Value) (s g : Int) (w : World) (h : NoA w v) : Calls Tryz.prog 22 #[v, .agg #[.int .i64 s, .int .u32 g]] w fun e w' => e = .returned (.tuple #[.slice none 0 0, .bool false, .int .i64 1]) ∧ Keeps (fun _ => False) w w' := by
  have HL := hid (fun W (hk : Keeps (fun _ => False) w W) => look_no v W (h.keeps0 hk))
  clear h
  go_enter Tryz.func22, Tryz.ntmps22
  go_wp2_with fail
  refine (HL.out _ ((Keeps.refl _ _).alloc _)).mono ?_
  rintro e w1 ⟨rfl, k1⟩
  have K := hid ((((Keeps.refl (fun _ => False) w).alloc (.cells #[.int .i64 s, .int .u32 g] 24)).trans k1).alloc (.cells #[.pointer none, .slice none 0 0, .map none] 141))
  clear k1
  go_wp2_with fail
  go_ret3
  exact ⟨rfl, K.out⟩
theorem is_no (v : Value) (s g : Int) (w : World) (h : NoA w v) : Calls Tryz.prog 21 #[v, .agg #[.int .i64 s, .int .u32 g]] w fun e w' => e = .returned (.tuple #[.bool false, .int .i64 1]) ∧ Keeps (fun _ => False) w w' := by
  have HL := hid (fun W (hk : Keeps (fun _ => False) w W) => path_no v s g W (h.keeps0 hk))
  clear h
  go_enter Tryz.func21, Tryz.ntmps21
  go_wp2_with fail
  refine (HL.out _ ((Keeps.refl _ _).alloc _)).mono ?_
  rintro e w1 ⟨rfl, k1⟩
  have K := hid (((Keeps.refl (fun _ => False) w).alloc (.cells #[.int .i64 s, .int .u32 g] 24)).trans k1)
  clear k1
  go_wp2_with fail
  go_ret2
  exact ⟨rfl, K.out⟩
theorem depth_no (v : Value) (s g : Int) (w : World) (h : NoA w v) : Calls Tryz.prog 23 #[v, .agg #[.int .i64 s, .int .u32 g]] w fun e w' => e = .returned (.tuple #[.int .i64 0, .bool false, .int .i64 1]) ∧ Keeps (fun _ => False) w w' := by
  have HL := hid (fun W (hk : Keeps (fun _ => False) w W) => path_no v s g W (h.keeps0 hk))
  clear h
  have hm : max (((0 : Nat) : Int) - 1) 0 = 0 := by decide
  have hm2 : max ((-1 : Int)) 0 = 0 := by decide
  go_enter Tryz.func23, Tryz.ntmps23
  go_wp2_with fail
  refine (HL.out _ ((Keeps.refl _ _).alloc _)).mono ?_
  rintro e w1 ⟨rfl, k1⟩
  have K := hid (((Keeps.refl (fun _ => False) w).alloc (.cells #[.int .i64 s, .int .u32 g] 24)).trans k1)
  clear k1
  go_wp2_with fail
  go_ret3
  exact ⟨rfl, K.out⟩
set_option maxRecDepth 100000 in
set_option maxHeartbeats 4000000 in
theorem reachNil_walk (s g : Int) (w : World) :
    Calls Tryz.prog 3 #[.agg #[.int .i64 s, .int .u32 g]] w fun e w' => e = .returned (.bool true) ∧ Keeps (fun _ => False) w w' := by
  obtain ⟨w0, hw0⟩ : ∃ w0, w.alloc (.cells #[.int .i64 s, .int .u32 g] 24) = w0 := ⟨_, rfl⟩
  have k0 : Keeps (fun _ => False) w w0 := by rw [← hw0]; exact (Keeps.refl _ _).alloc _
  have q0 : w0.heap[w.heap.size]? = some (.cells #[.int .i64 s, .int .u32 g] 24) := by rw [← hw0]; exact alloc_new
  have HW0 := hid hw0
  obtain ⟨B0, hB0⟩ : ∃ B0, w.heap.size = B0 := ⟨_, rfl⟩
  rw [hB0] at q0
  have HB0 := hid hB0
  have HK0 := hid k0; have HQ0 := hid q0
  have HS0 := hid (show w0.heap.size = B0 + 1 by rw [← hw0, ← hB0]; simp)
  clear hw0 k0 q0 hB0
  go_enter Tryz.func3, Tryz.ntmps3
  go_wp2_with fail
  rw [HW0.out, HB0.out]
  have hb0 := lt_block HQ0.out
  obtain ⟨w3, hw3⟩ : ∃ w3, (w0.alloc (.cells Tryz.zeroCells32 32)).alloc (.cells #[.pointer none, .pointer (some ⟨B0 + 1, 0, none⟩)] 25) = w3 := ⟨_, rfl⟩
  have k3 : Keeps (fun _ => False) w0 w3 := by rw [← hw3]; exact ((Keeps.refl _ _).alloc _).alloc _
  have p3 : w3.heap[B0 + 1]? = some (.cells Tryz.zeroCells32 32) := by rw [← hw3, ← HS0.out]; exact alloc_old alloc_new
  have q3 : w3.heap[B0 + 1 + 1]? = some (.cells #[.pointer none, .pointer (some ⟨B0 + 1, 0, none⟩)] 25) := by rw [← hw3]; exact alloc_new' (by simp [HS0.out])
  have HQ3 := hid (block_keep HQ0.out k3 (fun h => h)); have HK3 := hid (HK0.out.trans k3)
  have HZ3 := hid p3; have HP3 := hid q3
  clear k3 p3 q3 HQ0 HK0
  rw [hw3]
  clear hw3
  go_loopw [30] (fun ix wr => ∃ j : Nat, j ≤ 2 ∧ ix = .int .i64 j ∧ Keeps (fun _ => False) w3 wr) (fun ix _ => 2 - (intOf ix).toNat)
  case atStart => exact ⟨0, by omega, rfl, Keeps.refl _ _⟩
  case round =>
    obtain ⟨j, hj, rfl, hkr⟩ := hrel
    by_cases hlt : j < 2
    · obtain ⟨u, hu, hn⟩ : ∃ u, wr.cell? ⟨B0 + 1 + 1, j, none⟩ = some u ∧ NoH wr u := by
        have hb := block_keep HP3.out hkr (fun h => h)
        match j, hlt with
        | 0, _ => exact ⟨_, cell_at hb rfl, .inl rfl⟩
        | 1, _ => exact ⟨_, cell_at hb rfl, .inr ⟨_, rfl, block_keep HZ3.out hkr (fun h => h)⟩⟩
      have HKR := hid hkr
      have hlt' : (j : Int) < 2 := by omega
      have hj0 : (0 : Int) ≤ j := by omega
      have hq0 := block_keep HQ3.out hkr (fun h => h)
      have HN := hid hn; have HQR := hid hq0
      obtain ⟨x0, x1, _, xl⟩ := cells2 hq0
      clear hkr hn hq0
      go_wp2_with fail
      refine (from_no u _ _ (HN.out.keeps0 ((Keeps.refl _ _).alloc _))).mono ?_
      rintro e w4 ⟨rfl, hw4⟩
      obtain ⟨w5, hw5⟩ : ∃ w5, wr.alloc (.cells #[.int .i64 s, .int .u32 g] 24) = w5 := ⟨_, rfl⟩
      have k5 : Keeps (fun _ => False) wr w5 := by rw [← hw5]; exact (Keeps.refl _ _).alloc _
      rw [hw4, hw5]
      have HK5 := hid (HKR.out.trans k5); have HN5 := hid (HN.out.keeps0 k5)
      obtain ⟨y0, y1, _, yl⟩ := cells2 (block_keep HQR.out k5 (fun h => h))
      clear hw4 hw5 k5 x0 x1 xl hu
      go_wp2_with fail
      refine (closed_no u _ _ _ _ (HN5.out.keeps0 ((Keeps.refl _ _).alloc _))).mono ?_
      rintro e w6 ⟨rfl, k6⟩
      have HK6 := hid ((HK5.out.alloc _).trans k6)
      clear k6
      go_wp2_with fail
      exact ⟨⟨j + 1, by omega, by go_num, HK6.out⟩, by simp [intOf]; omega⟩
    · have hlt' : ¬ (j : Int) < 2 := by omega
      obtain ⟨wo, hwo⟩ : ∃ wo : World, wr = wo := ⟨_, rfl⟩
      have HQO := hid (block_keep HQ3.out hkr (fun h => h)); have HKO := hid (HK3.out.trans hkr)
      rw [hwo] at HQO HKO ⊢
      clear hkr HP3 HZ3 HQ3 HK3 hlt hwo
      go_wp2_with fail
      clear hlt'
      obtain ⟨w5, hw5⟩ : ∃ w5, (wo.alloc (.cells #[.pointer none, .int .i64 0, .int .i64 0, .pointer none, .pointer none, .pointer none, .pointer none, .pointer none] 46)).alloc (.cells #[.pointer none, .pointer (some ⟨wo.heap.size, 0, none⟩)] 40) = w5 := ⟨_, rfl⟩
      have k5 : Keeps (fun _ => False) wo w5 := by rw [← hw5]; exact ((Keeps.refl _ _).alloc _).alloc _
      have p5 : w5.heap[wo.heap.size]? = some (.cells #[.pointer none, .int .i64 0, .int .i64 0, .pointer none, .pointer none, .pointer none, .pointer none, .pointer none] 46) := by rw [← hw5]; exact alloc_old alloc_new
      have q5 : w5.heap[wo.heap.size + 1]? = some (.cells #[.pointer none, .pointer (some ⟨wo.heap.size, 0, none⟩)] 40) := by rw [← hw5]; exact alloc_new' (by simp)
      rw [hw5]
      have HQ5 := hid (block_keep HQO.out k5 (fun h => h)); have HK5 := hid (HKO.out.trans k5)
      have HZ5 := hid p5; have HP5 := hid q5
      clear hw5 k5 p5 q5 HQO HKO
      go_loopw [68] (fun ix wr => ∃ j : Nat, j ≤ 2 ∧ ix = .int .i64 j ∧ Keeps (fun _ => False) w5 wr) (fun ix _ => 2 - (intOf ix).toNat)
      case atStart => exact ⟨0, by omega, rfl, Keeps.refl _ _⟩
      case round =>
        obtain ⟨i, hi, rfl, hkr⟩ := hrel
        by_cases hlt : i < 2
        · obtain ⟨u, hu, hn⟩ : ∃ u, wr.cell? ⟨wo.heap.size + 1, i, none⟩ = some u ∧ NoA wr u := by
            have hb := block_keep HP5.out hkr (fun h => h)
            match i, hlt with
            | 0, _ => exact ⟨_, cell_at hb rfl, .inl rfl⟩
            | 1, _ => exact ⟨_, cell_at hb rfl, .inr ⟨_, rfl, block_keep HZ5.out hkr (fun h => h)⟩⟩
          have HKR := hid hkr
          have HN := hid hn; have HQR := hid (block_keep HQ5.out hkr (fun h => h))
          have hlt' : (i : Int) < 2 := by omega
          have hj0 : (0 : Int) ≤ i := by omega
          clear hkr hn
          go_wp2_with fail
          refine (all_no u _ HN.out).mono ?_
          rintro e w6 ⟨rfl, k6⟩
          have HK6 := hid (HKR.out.trans k6); have HN6 := hid (HN.out.keeps0 k6); have HQ6 := hid (block_keep HQR.out k6 (fun h => h))
          clear k6 HKR HN HQR hu
          go_wp2_with fail
          refine (lost_no u _ HN6.out).mono ?_
          rintro e w7 ⟨rfl, k7⟩
          have HK7 := hid (HK6.out.trans k7); have HN7 := hid (HN6.out.keeps0 k7); have HQ7 := hid (block_keep HQ6.out k7 (fun h => h))
          clear k7 HK6 HN6 HQ6
          obtain ⟨x0, x1, _, xl⟩ := cells2 HQ7.out
          go_wp2_with fail
          refine (is_no u s g _ HN7.out).mono ?_
          rintro e w8 ⟨rfl, k8⟩
          have HK8 := hid (HK7.out.trans k8); have HN8 := hid (HN7.out.keeps0 k8); have HQ8 := hid (block_keep HQ7.out k8 (fun h => h))
          clear k8 HK7 HN7 HQ7 x0 x1 xl
          obtain ⟨x0, x1, _, xl⟩ := cells2 HQ8.out
          go_wp2_with fail
          refine (path_no u s g _ HN8.out).mono ?_
          rintro e w9 ⟨rfl, k9⟩
          have HK9 := hid (HK8.out.trans k9); have HN9 := hid (HN8.out.keeps0 k9); have HQ9 := hid (block_keep HQ8.out k9 (fun h => h))
          clear k9 HK8 HN8 HQ8 x0 x1 xl
          obtain ⟨x0, x1, _, xl⟩ := cells2 HQ9.out
          go_wp2_with fail
          refine (depth_no u s g _ HN9.out).mono ?_
          rintro e wA ⟨rfl, kA⟩
          have HKA := hid (HK9.out.trans kA)
          clear kA HK9 HN9 HQ9 x0 x1 xl
          go_wp2_with fail
          exact ⟨⟨i + 1, by omega, by go_num, HKA.out⟩, by simp [intOf]; omega⟩
        · have hlt' : ¬ (i : Int) < 2 := by omega
          have HKW := hid (HK5.out.trans hkr)
          clear hkr HQ5 HZ5 HP5 HK5 hlt
          go_wp2_with fail
          refine (works19 _).mono ?_
          rintro e w9 ⟨rfl, k9⟩
          go_wp2_with fail
          go_ret
          exact ⟨rfl, HKW.out.trans k9⟩
def ksRef : List Flat := [.int .i64, .int .u32]
set_option maxRecDepth 100000 in
theorem ref_of {H : Type} {enc : TypeId × Value → H} {w : World} {base : Nat} {spare : Nat → Bool} {held : Bool} {t : TypeId} {fs : Array Field} {r : Reach} {b0 : Nat} {v : Value} {d : DataW H} {p : List MemPlace} (ht : Tryz.prog.underlying t = some (.struct fs)) (hfl : flat Tryz.prog 8 t = some ksRef) (hC : Tryz.prog.cellsOf t = 2)
    (hv : Value.okWide Tryz.prog w r b0 t v) (h : DataW.Trod enc Tryz.prog w base spare held t v d p) : ∃ s g : Int, v = .agg #[.int .i64 s, .int .u32 g] ∧ (Lit.int .i64 s).wf = true ∧ (Lit.int .u32 g).wf = true := by
  obtain ⟨cs, rfl, hs⟩ := okWide_struct ht hv
  obtain ⟨fuel, hf⟩ := h
  have hc : ∀ (i : Nat) (k : Flat), ksRef[i]? = some k → ∃ u, cs[i]? = some u ∧ k.Ok u := by
    intro i k hk
    obtain ⟨u, hu, hok⟩ := flat_at 8 t ksRef hfl _ _ _ hf i k hk
    exact ⟨u, by simpa [Value.cells] using hu, hok⟩
  obtain ⟨u0, h0, s, rfl, k0⟩ := hc 0 _ rfl
  obtain ⟨u1, h1, g, rfl, k1⟩ := hc 1 _ rfl
  refine ⟨s, g, ?_, k0, k1⟩
  congr 1
  apply Array.ext_getElem?
  intro i
  match i with
  | 0 => rw [h0]; rfl
  | 1 => rw [h1]; rfl
  | i + 2 => rw [Array.getElem?_eq_none (by rw [hs, hC]; omega), Array.getElem?_eq_none (by simp)]
set_option maxRecDepth 100000 in
theorem reachNil_law {H : Type} {enc : TypeId × Value → H} {base : Nat} {spare : Nat → Bool} {held : Bool} {r : Reach} {b0 : Nat}
    (v0 : Value) (d0 : DataW H) (p0 : List MemPlace) {w : World} (hv0 : Value.okWide Tryz.prog w r b0 24 v0) (h0 : DataW.Trod enc Tryz.prog w base spare held 24 v0 d0 p0)
    (w' : World) (e' : w' = w) :
    Calls Tryz.prog 3 #[v0] w' fun e w2 => e = .returned (.bool true) ∧ Keeps (fun _ => False) w' w2 := by
  subst e'
  obtain ⟨s, g, rfl, _, _⟩ := ref_of Tryz.underlying24 (by kernel_rfl) (by kernel_rfl) hv0 h0
  exact reachNil_walk s g w'
end Go.Proofs.YtcpljmonmchloaaGreat
