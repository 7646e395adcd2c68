/- estrayref26: a new collector of the document; a new collector of the program beside any arena. -/
import Derived.Test.YtnjgkhgdgpahfaaGreatRhA
import Derived.Test.YtnjgkhgdgpahfaaGreatCyQ
namespace Go.Proofs.YtnjgkhgdgpahfaaGreat
open Go.RowKit
attribute [local go_sem] Oper.semAt_some
set_option linter.unusedVariables false
set_option linter.unusedSimpArgs false

structure K26 (w : World) (x m c s n k : Nat) (K : Ck) (N : Nat) : Prop where
  own : ∃ vS, w.heap[x]? = some (.cells #[.bool true, .int .i64 n, .int .i64 k, .pointer (some ⟨m, 0, none⟩), vS, .int .i64 0, .int .i64 N, .bool false] 64)
  mkr : K24 w m c s n k K
section
variable {w w' : World} {x m c s n k N b a : Nat} {K : Ck} {y : Nat} {L : L18} {A : Ar} {LA : ArL} {LM : MkL} {M : Mk}
theorem K26.k0 (h : K26 w x m c s n k K N) (hk : Keeps (fun _ => False) w w') : K26 w' x m c s n k K N := by
  obtain ⟨⟨vS, o⟩, h2⟩ := h
  exact ⟨⟨vS, block_keep o hk (fun h => h)⟩, h2.k0 hk⟩
theorem valid26 (x : Nat) (w : World) (h : w.cell? ⟨x, 0, none⟩ = some (.bool true)) : Calls Tryz.prog 30 #[.pointer (some ⟨x, 0, none⟩)] w fun e w' => e = .returned (.bool true) ∧ w' = w := by
  go_enter Tryz.func30, Tryz.ntmps30
  go_wp2
  go_ret
  exact ⟨rfl, rfl⟩
theorem valid26_no (w : World) : Calls Tryz.prog 30 #[.pointer none] w fun e w' => e = .returned (.bool false) ∧ w' = w := by
  go_enter Tryz.func30, Tryz.ntmps30
  go_wp2
  go_ret
  exact ⟨rfl, rfl⟩
theorem ack26_no (v : Value) (i : Int) (w : World) : Calls Tryz.prog 11 #[.pointer none, v, .int .i64 i] w fun e w' => e = .returned (.tuple #[.bool false, .int .i64 1]) ∧ w' = w := by
  have HV := hid (valid26_no w)
  go_enter Tryz.func11, Tryz.ntmps11
  go_wp2_with fail
  refine (HV.out).mono ?_
  rintro e w' ⟨rfl, h'⟩
  obtain rfl := h'.symm
  go_wp2_with fail
  go_ret2
  exact ⟨rfl, rfl⟩
theorem ask26_no (w : World) : Calls Tryz.prog 13 #[.pointer none] w fun e w' => e = .returned (.bool false) ∧ w' = w := by
  have HV := hid (valid26_no w)
  go_enter Tryz.func13, Tryz.ntmps13
  go_wp2_with fail
  refine (HV.out).mono ?_
  rintro e w' ⟨rfl, h'⟩
  obtain rfl := h'.symm
  go_wp2_with fail
  go_ret
  exact ⟨rfl, rfl⟩
theorem phase26_no (w : World) : Calls Tryz.prog 15 #[.pointer none] w fun e w' => e = .returned (.int .i64 0) ∧ w' = w := by
  have HV := hid (valid26_no w)
  go_enter Tryz.func15, Tryz.ntmps15
  go_wp2_with fail
  refine (HV.out).mono ?_
  rintro e w' ⟨rfl, h'⟩
  obtain rfl := h'.symm
  go_wp2_with fail
  go_ret
  exact ⟨rfl, rfl⟩
theorem phase26 (h : K26 w x m c s n k K N) : Calls Tryz.prog 15 #[.pointer (some ⟨x, 0, none⟩)] w fun e w' => e = .returned (.int .i64 K.ph) ∧ w' = w := by
  obtain ⟨⟨vS, o⟩, hm⟩ := h
  obtain ⟨c0, c1, c2, c3, c4, c5, c6, c7, cf, cl⟩ := cells8f o
  have HV := hid (valid26 x w c0)
  have HP := hid (phase24 hm)
  clear o hm cf
  go_enter Tryz.func15, Tryz.ntmps15
  go_wp2_with fail
  refine (HV.out).mono ?_
  rintro e w' ⟨rfl, h'⟩
  obtain rfl := h'.symm
  go_wp2_with fail
  refine (HP.out).mono ?_
  rintro e w' ⟨rfl, h'⟩
  obtain rfl := h'.symm
  go_wp2_with fail
  go_ret
  exact ⟨rfl, rfl⟩
theorem ack26 (i E : Int) (h : K26 w x m c s n k K N) (hR : R18 w y L A) (h0 : K.ph = 0)
    (hE : ((A.H.T.n ≠ n ∨ A.many ≠ k) ∧ E = 2) ∨ (A.H.T.n = n ∧ A.many = k ∧ ((i < 0 ∨ (k : Int) ≤ i) ∧ E = 3 ∨ (0 ≤ i ∧ i < k) ∧ E = 8))) :
    Calls Tryz.prog 11 #[.pointer (some ⟨x, 0, none⟩), .pointer (some ⟨y, 0, none⟩), .int .i64 i] w fun e w' => e = .returned (.tuple #[.bool false, .int .i64 E]) ∧ Keeps (fun _ => False) w w' := by
  have HA := hid (ack24 i E h.mkr hR h0 hE)
  obtain ⟨⟨vS, o⟩, hm⟩ := h
  obtain ⟨c0, c1, c2, c3, c4, c5, c6, c7, cf, cl⟩ := cells8f o
  have HV := hid (valid26 x w c0)
  clear o hm cf hR hE
  go_enter Tryz.func11, Tryz.ntmps11
  go_wp2_with fail
  refine (HV.out).mono ?_
  rintro e w' ⟨rfl, h'⟩
  obtain rfl := h'.symm
  go_wp2_with fail
  refine HA.out.mono ?_
  rintro e w1 ⟨rfl, k1⟩
  have K1 := hid k1
  clear k1
  go_wp2_with fail
  go_ret2
  exact ⟨rfl, K1.out⟩
theorem begin26d (h : K26 w x m c s n k K 0) (h0 : K.ph = 0) : Calls Tryz.prog 32 #[.pointer (some ⟨x, 0, none⟩)] w fun e w' => e = .returned (.tuple #[]) ∧ Keeps (fun y => y = x ∨ y = c) w w' ∧ ∃ s', K26 w' x m c s' n k (K.to 1) 1 := by
  have HB := hid (begin24 h.mkr h0)
  have HCK := hid h.mkr.ck.own
  obtain ⟨⟨vS, o⟩, hm⟩ := h
  obtain ⟨pp, vP, vSS, vB, om⟩ := hm.own
  obtain ⟨c0, c1, c2, c3, c4, c5, c6, c7, cf, cl⟩ := cells8f o
  have HO := hid o; have HOM := hid om
  clear hm cf om
  go_enter Tryz.func32, Tryz.ntmps32
  go_wp2_with fail
  refine HB.out.mono ?_
  rintro e w1 ⟨rfl, k1, s', ls, h1⟩
  obtain ⟨cap, oc⟩ := HCK.out
  have hxc : x ≠ c := type_ne HO.out oc (by decide)
  have HO1 := hid (block_keep HO.out k1 hxc)
  have K1 := hid k1; have H1 := hid h1; have LS := hid ls
  clear c0 c1 c2 c3 c4 c5 c6 c7 cl k1 h1 ls oc
  obtain ⟨c0, c1, c2, c3, c4, c5, c6, c7, cf, cl⟩ := cells8f HO1.out
  have cf6 := cf 6; have cf7 := cf 7
  clear cf
  go_wp2_with fail
  go_end0
  have hxm : m ≠ x := fun e => type_ne HO.out HOM.out (by decide) e.symm
  have hxl : x < w.heap.size := lt_block HO.out
  have hsx : s' ≠ x := by have := LS.out; omega
  have kx : Keeps (fun y => y = x) w1 ((w1.setCell ⟨x, 7, none⟩ (.bool false)).setCell ⟨x, 6, none⟩ (.int .i64 1)) := (keeps_set1 _ _ _ _).trans (keeps_set1 _ _ _ _)
  obtain ⟨⟨p, vP', vS', vB', o24⟩, hck, e1, e2, e3⟩ := H1.out
  exact ⟨rfl, (K1.out.mono (fun _ _ h => .inr h)).trans (kx.mono (fun _ _ h => .inl h)), s', ⟨vS, (set_block (set_block HO1.out 7 _) 6 _).trans rfl⟩, ⟨⟨p, vP', vS', vB', block_keep o24 kx hxm⟩, hck.keeps kx hxc.symm hsx, e1, e2, e3⟩⟩
theorem ask26 (h : K26 w x m c s n k K 0) (h0 : K.ph = 0) : Calls Tryz.prog 13 #[.pointer (some ⟨x, 0, none⟩)] w fun e w' => e = .returned (.bool true) ∧ Keeps (fun y => y = x ∨ y = c) w w' ∧ ∃ s', K26 w' x m c s' n k (K.to 1) 1 := by
  have HB := hid (begin26d h h0)
  have HP := hid (phase24 h.mkr)
  rw [h0] at HP
  obtain ⟨⟨vS, o⟩, hm⟩ := h
  obtain ⟨c0, c1, c2, c3, c4, c5, c6, c7, cf, cl⟩ := cells8f o
  have HV := hid (valid26 x w c0)
  clear o hm cf
  go_enter Tryz.func13, Tryz.ntmps13
  go_wp2_with fail
  refine (HV.out).mono ?_
  rintro e w' ⟨rfl, h'⟩
  obtain rfl := h'.symm
  go_wp2_with fail
  refine (HP.out).mono ?_
  rintro e w' ⟨rfl, h'⟩
  obtain rfl := h'.symm
  go_wp2_with fail
  refine HB.out.mono ?_
  rintro e w1 ⟨rfl, k1, h1⟩
  have H1 := hid (And.intro k1 h1)
  clear k1 h1
  go_wp2_with fail
  go_ret
  exact ⟨rfl, H1.out⟩
theorem step26_no (room : Int) (w : World) (hR : R18 w y L A) : Calls Tryz.prog 9 #[.pointer none, .pointer (some ⟨y, 0, none⟩), .int .i64 room] w fun e w' => e = .returned (.tuple #[.agg #[.int .i64 0, .int .u32 0], .bool false, .int .i64 1]) ∧ Keeps (fun _ => False) w w' := by
  have HSZ := hid (fun W (hk : Keeps (fun _ => False) w W) => sizes18 (hR.k0 hk))
  obtain ⟨wA, hwA⟩ : ∃ wA, w.alloc (.cells #[.int .i64 0, .int .u32 0] 39) = wA := ⟨_, rfl⟩
  have kA : Keeps (fun _ => False) w wA := by rw [← hwA]; exact (Keeps.refl _ _).alloc _
  have qA : wA.heap[w.heap.size]? = some (.cells #[.int .i64 0, .int .u32 0] 39) := by rw [← hwA]; exact alloc_new
  have KA := hid kA; have QA := hid qA; have HWA := hid hwA
  clear kA qA hwA hR
  go_enter Tryz.func9, Tryz.ntmps9
  go_upto_region 1 with (fail)
  rw [HWA.out]
  go_wp2_with fail
  refine (HSZ.out _ KA.out).mono ?_
  rintro e w1 ⟨rfl, k1⟩
  have K1 := hid (KA.out.trans k1)
  obtain ⟨a0, a1, af, al⟩ := cells2 (block_keep QA.out k1 (fun h => h))
  have a0f := af 0; have a1f := af 1
  clear k1 af
  go_wp2_with fail
  refine ((valid26_no _)).mono ?_
  rintro e w' ⟨rfl, h'⟩
  obtain rfl := h'.symm
  go_wp2_with fail
  refine bodyPost_ret_by (v := .tuple #[.agg #[.int .i64 0, .int .u32 0], .bool false, .int .i64 1]) (by simp [results, Tryz.results9, go_sem, *]) rfl ⟨rfl, Keeps.fresh ?_⟩
  repeat (first | (with_reducible exact K1.out.up) | with_reducible refine Keeps.setCell ?_ ?_ _ | with_reducible refine Keeps.alloc ?_ _ | with_reducible refine Keeps.drewN ?_ _ | with_reducible refine Keeps.drew ?_)
  all_goals first | (left; simp; done) | (left; simp; omega) | (right; simp; done) | (right; simp; omega)
set_option maxRecDepth 100000 in
set_option maxHeartbeats 1000000 in
theorem step26 (room E : Int) (h : K26 w x m c s n k K N) (hR : R18 w y L A) (h0 : K.ph = 0)
    (hE : ((A.H.T.n ≠ n ∨ A.many ≠ k ∨ room < 0) ∧ E = 2) ∨ (A.H.T.n = n ∧ A.many = k ∧ 0 ≤ room ∧ E = 0)) :
    Calls Tryz.prog 9 #[.pointer (some ⟨x, 0, none⟩), .pointer (some ⟨y, 0, none⟩), .int .i64 room] w fun e w' => e = .returned (.tuple #[.agg #[.int .i64 0, .int .u32 0], .bool false, .int .i64 E]) ∧ Keeps (fun _ => False) w w' := by
  have HSZ := hid (fun W (hk : Keeps (fun _ => False) w W) => sizes18 (hR.k0 hk))
  have hn1 := hR.ok.n1
  have H26 := hid (fun W (hk : Keeps (fun _ => False) w W) => h.k0 hk)
  have HV := hid (fun W (hk : Keeps (fun _ => False) w W) => by
    obtain ⟨⟨vS, o⟩, _⟩ := h.k0 hk
    exact valid26 x W (cells8f o).1)
  have HP := hid (fun W (hk : Keeps (fun _ => False) w W) => phase24 (h.k0 hk).mkr)
  rw [h0] at HP
  obtain ⟨wA, hwA⟩ : ∃ wA, w.alloc (.cells #[.int .i64 0, .int .u32 0] 39) = wA := ⟨_, rfl⟩
  have kA : Keeps (fun _ => False) w wA := by rw [← hwA]; exact (Keeps.refl _ _).alloc _
  have qA : wA.heap[w.heap.size]? = some (.cells #[.int .i64 0, .int .u32 0] 39) := by rw [← hwA]; exact alloc_new
  have KA := hid kA; have QA := hid qA; have HWA := hid hwA
  clear kA qA hwA h
  obtain ⟨n', hn'⟩ : ∃ n', A.H.T.n = n' := ⟨_, rfl⟩
  obtain ⟨k', hk'⟩ : ∃ k', A.many = k' := ⟨_, rfl⟩
  rw [hn', hk'] at HSZ hE
  rw [hn'] at hn1
  have hn0 : ((n' : Int) == 0) = false := by simpa using (by omega : ¬ (n' : Int) = 0)
  have hcs : (((n' : Int) != (n : Int)) = true ∧ E = 2) ∨ (((n' : Int) != (n : Int)) = false ∧ ((k' : Int) != (k : Int)) = true ∧ E = 2) ∨ (((n' : Int) != (n : Int)) = false ∧ ((k' : Int) != (k : Int)) = false ∧ room < 0 ∧ E = 2) ∨ (((n' : Int) != (n : Int)) = false ∧ ((k' : Int) != (k : Int)) = false ∧ ¬ room < 0 ∧ E = 0) := by
    by_cases h1 : n' = n
    · have e1 : ((n' : Int) != (n : Int)) = false := by subst h1; simp
      by_cases h2 : k' = k
      · have e2 : ((k' : Int) != (k : Int)) = false := by subst h2; simp
        by_cases h3 : room < 0
        · exact .inr (.inr (.inl ⟨e1, e2, h3, by omega⟩))
        · exact .inr (.inr (.inr ⟨e1, e2, h3, by omega⟩))
      · exact .inr (.inl ⟨e1, by simpa using (by omega : ¬ (k' : Int) = k), by omega⟩)
    · exact .inl ⟨by simpa using (by omega : ¬ (n' : Int) = n), by omega⟩
  clear hR hE hn1 hn' hk' h0
  rcases hcs with ⟨q1, rfl⟩ | ⟨q1, q2, rfl⟩ | ⟨q1, q2, q3, rfl⟩ | ⟨q1, q2, q3, rfl⟩
  · go_enter Tryz.func9, Tryz.ntmps9
    go_upto_region 1 with (fail)
    rw [HWA.out]
    go_wp2_with fail
    refine (HSZ.out _ KA.out).mono ?_
    rintro e w1 ⟨rfl, k1⟩
    have K1 := hid (KA.out.trans k1)
    obtain ⟨a0, a1, af, al⟩ := cells2 (block_keep QA.out k1 (fun h => h))
    have a0f := af 0; have a1f := af 1
    clear k1 af
    go_wp2_with fail
    refine ((HV.out _ K1.out)).mono ?_
    rintro e w' ⟨rfl, h'⟩
    obtain rfl := h'.symm
    obtain ⟨⟨vS, o⟩, _⟩ := H26.out _ K1.out
    obtain ⟨c0, c1, c2, c3, c4, c5, c6, c7, cf, cl⟩ := cells8f o
    clear o cf
    go_wp2_with fail
    refine bodyPost_ret_by (v := .tuple #[.agg #[.int .i64 0, .int .u32 0], .bool false, .int .i64 2]) (by simp [results, Tryz.results9, go_sem, *]) rfl ⟨rfl, Keeps.fresh ?_⟩
    repeat (first | (with_reducible exact K1.out.up) | with_reducible refine Keeps.setCell ?_ ?_ _ | with_reducible refine Keeps.alloc ?_ _ | with_reducible refine Keeps.drewN ?_ _ | with_reducible refine Keeps.drew ?_)
    all_goals first | (left; simp; done) | (left; simp; omega) | (right; simp; done) | (right; simp; omega)
  · go_enter Tryz.func9, Tryz.ntmps9
    go_upto_region 1 with (fail)
    rw [HWA.out]
    go_wp2_with fail
    refine (HSZ.out _ KA.out).mono ?_
    rintro e w1 ⟨rfl, k1⟩
    have K1 := hid (KA.out.trans k1)
    obtain ⟨a0, a1, af, al⟩ := cells2 (block_keep QA.out k1 (fun h => h))
    have a0f := af 0; have a1f := af 1
    clear k1 af
    go_wp2_with fail
    refine ((HV.out _ K1.out)).mono ?_
    rintro e w' ⟨rfl, h'⟩
    obtain rfl := h'.symm
    obtain ⟨⟨vS, o⟩, _⟩ := H26.out _ K1.out
    obtain ⟨c0, c1, c2, c3, c4, c5, c6, c7, cf, cl⟩ := cells8f o
    clear o cf
    go_wp2_with fail
    refine bodyPost_ret_by (v := .tuple #[.agg #[.int .i64 0, .int .u32 0], .bool false, .int .i64 2]) (by simp [results, Tryz.results9, go_sem, *]) rfl ⟨rfl, Keeps.fresh ?_⟩
    repeat (first | (with_reducible exact K1.out.up) | with_reducible refine Keeps.setCell ?_ ?_ _ | with_reducible refine Keeps.alloc ?_ _ | with_reducible refine Keeps.drewN ?_ _ | with_reducible refine Keeps.drew ?_)
    all_goals first | (left; simp; done) | (left; simp; omega) | (right; simp; done) | (right; simp; omega)
  · go_enter Tryz.func9, Tryz.ntmps9
    go_upto_region 1 with (fail)
    rw [HWA.out]
    go_wp2_with fail
    refine (HSZ.out _ KA.out).mono ?_
    rintro e w1 ⟨rfl, k1⟩
    have K1 := hid (KA.out.trans k1)
    obtain ⟨a0, a1, af, al⟩ := cells2 (block_keep QA.out k1 (fun h => h))
    have a0f := af 0; have a1f := af 1
    clear k1 af
    go_wp2_with fail
    refine ((HV.out _ K1.out)).mono ?_
    rintro e w' ⟨rfl, h'⟩
    obtain rfl := h'.symm
    obtain ⟨⟨vS, o⟩, _⟩ := H26.out _ K1.out
    obtain ⟨c0, c1, c2, c3, c4, c5, c6, c7, cf, cl⟩ := cells8f o
    clear o cf
    go_wp2_with fail
    refine bodyPost_ret_by (v := .tuple #[.agg #[.int .i64 0, .int .u32 0], .bool false, .int .i64 2]) (by simp [results, Tryz.results9, go_sem, *]) rfl ⟨rfl, Keeps.fresh ?_⟩
    repeat (first | (with_reducible exact K1.out.up) | with_reducible refine Keeps.setCell ?_ ?_ _ | with_reducible refine Keeps.alloc ?_ _ | with_reducible refine Keeps.drewN ?_ _ | with_reducible refine Keeps.drew ?_)
    all_goals first | (left; simp; done) | (left; simp; omega) | (right; simp; done) | (right; simp; omega)
  · go_enter Tryz.func9, Tryz.ntmps9
    go_upto_region 1 with (fail)
    rw [HWA.out]
    go_wp2_with fail
    refine (HSZ.out _ KA.out).mono ?_
    rintro e w1 ⟨rfl, k1⟩
    have K1 := hid (KA.out.trans k1)
    obtain ⟨a0, a1, af, al⟩ := cells2 (block_keep QA.out k1 (fun h => h))
    have a0f := af 0; have a1f := af 1
    clear k1 af
    go_wp2_with fail
    refine ((HV.out _ K1.out)).mono ?_
    rintro e w' ⟨rfl, h'⟩
    obtain rfl := h'.symm
    obtain ⟨⟨vS, o⟩, _⟩ := H26.out _ K1.out
    obtain ⟨c0, c1, c2, c3, c4, c5, c6, c7, cf, cl⟩ := cells8f o
    clear o cf
    go_wp2_with fail
    refine (HP.out _ K1.out).mono ?_
    rintro e w' ⟨rfl, h'⟩
    obtain rfl := h'.symm
    go_wp2_with fail
    refine bodyPost_ret_by (v := .tuple #[.agg #[.int .i64 0, .int .u32 0], .bool false, .int .i64 0]) (by simp [results, Tryz.results9, go_sem, *]) rfl ⟨rfl, Keeps.fresh ?_⟩
    repeat (first | (with_reducible exact K1.out.up) | with_reducible refine Keeps.setCell ?_ ?_ _ | with_reducible refine Keeps.alloc ?_ _ | with_reducible refine Keeps.drewN ?_ _ | with_reducible refine Keeps.drew ?_)
    all_goals first | (left; simp; done) | (left; simp; omega) | (right; simp; done) | (right; simp; omega)
theorem new26_bad (n k q p : Int) (z : Nat → Int) (w : World) (hb : n < 1 ∨ 256 < n ∨ k < 1 ∨ 4 < k ∨ q < 1 ∨ 64 < q ∨ p < 1 ∨ 64 < p) :
    Calls Tryz.prog 5 #[cfgV n k q p z] w fun e w' => e = .returned (.tuple #[.pointer none, .int .i64 2]) ∧ Keeps (fun _ => False) w w' := by
  have HN := hid (fun W => new24_bad n k q p W hb)
  obtain ⟨wA, hwA⟩ : ∃ wA, w.alloc (.cells #[.int .i64 n, .int .i64 k, .int .i64 q, .int .i64 p, .int .i64 (z 0), .int .i64 (z 1), .int .i64 (z 2), .int .i64 (z 3), .int .i64 (z 4), .int .u32 (z 5)] 24) = wA := ⟨_, rfl⟩
  have kA : Keeps (fun _ => False) w wA := by rw [← hwA]; exact (Keeps.refl _ _).alloc _
  have qA : wA.heap[w.heap.size]? = some (.cells #[.int .i64 n, .int .i64 k, .int .i64 q, .int .i64 p, .int .i64 (z 0), .int .i64 (z 1), .int .i64 (z 2), .int .i64 (z 3), .int .i64 (z 4), .int .u32 (z 5)] 24) := by rw [← hwA]; exact alloc_new
  have HKA := hid kA; have HQA := hid qA; have HW := hid hwA
  clear kA qA hwA
  clear hb
  unfold cfgV
  go_enter Tryz.func5, Tryz.ntmps5
  go_upto_region 1 with (fail)
  rw [HW.out]
  obtain ⟨x0, x1, x2, x3, x4, x5, x6, x7, x8, x9, _, xl⟩ := cells10 HQA.out
  go_wp2_with fail
  refine (HN.out _).mono ?_
  rintro e w1 ⟨rfl, k1⟩
  have K1 := hid (HKA.out.trans k1)
  clear k1
  go_wp2_with fail
  go_ret2
  exact ⟨rfl, K1.out⟩
theorem cynew_bad (n k q p : Int) (z : Nat → Int) (w : World) (hb : n < 1 ∨ 256 < n ∨ k < 1 ∨ 4 < k ∨ q < 1 ∨ 64 < q ∨ p < 1 ∨ 64 < p) :
    Calls Tryz.prog 4 #[cfgV n k q p z] w fun e w' => e = .returned (.tuple #[.pointer none, .int .i64 2]) ∧ Keeps (fun _ => False) w w' := by
  have HN := hid (fun W => mnew_bad n k q p W hb)
  obtain ⟨wA, hwA⟩ : ∃ wA, w.alloc (.cells #[.int .i64 n, .int .i64 k, .int .i64 q, .int .i64 p, .int .i64 (z 0), .int .i64 (z 1), .int .i64 (z 2), .int .i64 (z 3), .int .i64 (z 4), .int .u32 (z 5)] 24) = wA := ⟨_, rfl⟩
  have kA : Keeps (fun _ => False) w wA := by rw [← hwA]; exact (Keeps.refl _ _).alloc _
  have qA : wA.heap[w.heap.size]? = some (.cells #[.int .i64 n, .int .i64 k, .int .i64 q, .int .i64 p, .int .i64 (z 0), .int .i64 (z 1), .int .i64 (z 2), .int .i64 (z 3), .int .i64 (z 4), .int .u32 (z 5)] 24) := by rw [← hwA]; exact alloc_new
  have HKA := hid kA; have HQA := hid qA; have HW := hid hwA
  clear kA qA hwA
  clear hb
  unfold cfgV
  go_enter Tryz.func4, Tryz.ntmps4
  go_upto_region 1 with (fail)
  rw [HW.out]
  obtain ⟨x0, x1, x2, x3, x4, x5, x6, x7, x8, x9, _, xl⟩ := cells10 HQA.out
  go_wp2_with fail
  refine (HN.out _).mono ?_
  rintro e w1 ⟨rfl, k1⟩
  have K1 := hid (HKA.out.trans k1)
  clear k1
  go_wp2_with fail
  go_ret2
  exact ⟨rfl, K1.out⟩
set_option maxRecDepth 100000 in
theorem new26_ok (n k q p : Nat) (z : Nat → Int) (w : World) (n1 : 1 ≤ n) (n2 : n ≤ 256) (k1 : 1 ≤ k) (k4 : k ≤ 4) (s1 : 1 ≤ q) (s2 : q ≤ 64) (p1 : 1 ≤ p) (p2 : p ≤ 64) :
    Calls Tryz.prog 5 #[cfgV n k q p z] w fun e w' => ∃ x m c s, e = .returned (.tuple #[.pointer (some ⟨x, 0, none⟩), .int .i64 0]) ∧ Keeps (fun _ => False) w w' ∧ w.heap.size ≤ x ∧ w.heap.size ≤ c ∧ K26 w' x m c s n k ⟨0, k, 0, fun _ => false⟩ 0 := by
  have HN := hid (fun W => new24_ok n k q p W n1 n2 k1 k4 s1 s2 p1 p2)
  have HS := hid (fun W => new25_ok n W n1 n2)
  obtain ⟨wA, hwA⟩ : ∃ wA, w.alloc (.cells #[.int .i64 n, .int .i64 k, .int .i64 q, .int .i64 p, .int .i64 (z 0), .int .i64 (z 1), .int .i64 (z 2), .int .i64 (z 3), .int .i64 (z 4), .int .u32 (z 5)] 24) = wA := ⟨_, rfl⟩
  have kA : Keeps (fun _ => False) w wA := by rw [← hwA]; exact (Keeps.refl _ _).alloc _
  have qA : wA.heap[w.heap.size]? = some (.cells #[.int .i64 n, .int .i64 k, .int .i64 q, .int .i64 p, .int .i64 (z 0), .int .i64 (z 1), .int .i64 (z 2), .int .i64 (z 3), .int .i64 (z 4), .int .u32 (z 5)] 24) := by rw [← hwA]; exact alloc_new
  have HKA := hid kA; have HQA := hid qA; have HW := hid hwA
  clear kA qA hwA
  clear n1 n2 k1 k4 s1 s2 p1 p2
  unfold cfgV
  go_enter Tryz.func5, Tryz.ntmps5
  go_upto_region 1 with (fail)
  rw [HW.out]
  obtain ⟨x0, x1, x2, x3, x4, x5, x6, x7, x8, x9, _, xl⟩ := cells10 HQA.out
  go_wp2_with fail
  refine (HN.out _).mono ?_
  rintro e w1 ⟨m, c, s, rfl, k1, lm, lc, ls, h24⟩
  have K1 := hid (HKA.out.trans k1); have H24 := hid h24
  have HQ1 := hid (block_keep HQA.out k1 (fun h => h))
  have LC := hid (And.intro lc HKA.out.size)
  clear k1 h24 lm lc ls x0 x1 x2 x3 x4 x5 x6 x7 x8 x9 xl
  obtain ⟨x0, x1, x2, x3, x4, x5, x6, x7, x8, x9, _, xl⟩ := cells10 HQ1.out
  go_wp2_with fail
  refine (HS.out _).mono ?_
  rintro e w2 ⟨rfl, k2, q2⟩
  have K2 := hid (K1.out.trans k2); have H24b := hid (H24.out.k0 k2)
  have HQ2 := hid (block_keep HQ1.out k2 (fun h => h))
  clear k2 q2 x0 x1 x2 x3 x4 x5 x6 x7 x8 x9 xl
  obtain ⟨x0, x1, x2, x3, x4, x5, x6, x7, x8, x9, _, xl⟩ := cells10 HQ2.out
  go_wp2_with fail
  refine bodyPost_ret_by (v := .tuple #[.pointer (some ⟨w2.heap.size, 0, none⟩), .int .i64 0]) (by simp [results, Tryz.results5, go_sem, *]) rfl ⟨w2.heap.size, m, c, s, rfl, K2.out.alloc _, K2.out.size, Nat.le_trans LC.out.2 LC.out.1, ⟨⟨_, alloc_new⟩, H24b.out.k0 ((Keeps.refl _ _).alloc _)⟩⟩
/-! the program's -/
structure CyF (w : World) (c m b n k : Nat) (LM : MkL) (M : Mk) : Prop where
  own : w.heap[c]? = some (.cells #[.pointer (some ⟨m, 0, none⟩), .pointer (some ⟨b, 0, none⟩), .int .i64 n, .int .i64 k, .int .i64 0, .int .i64 0, .bool false] 56)
  mm : MkIn w m LM M
  hn : M.P.n = n
  hk : M.K.many = k
theorem CyF.k0 (h : CyF w c m b n k LM M) (hk : Keeps (fun _ => False) w w') : CyF w' c m b n k LM M := ⟨block_keep h.own hk (fun h => h), h.mm.keeps0 hk, h.hn, h.hk⟩
theorem cvalidF (c : Nat) (m : Nat) (w : World) (h : w.cell? ⟨c, 0, none⟩ = some (.pointer (some ⟨m, 0, none⟩))) : Calls Tryz.prog 26 #[.pointer (some ⟨c, 0, none⟩)] w fun e w' => e = .returned (.bool true) ∧ w' = w := by
  go_enter Tryz.func26, Tryz.ntmps26
  go_wp2_with fail
  go_ret
  exact ⟨rfl, rfl⟩
theorem mack_argn (m a : Nat) (i : Int) (L : MkL) (M : Mk) (LA : ArL) (A : Ar) (w : World) (h : MkIn w m L M) (ha : ArIn w a LA A) (hn0 : 1 ≤ A.H.T.n) (hn : A.H.T.n ≠ M.P.n) :
    Calls Tryz.prog 39 #[.pointer (some ⟨m, 0, none⟩), .pointer (some ⟨a, 0, none⟩), .int .i64 i] w fun e w' => e = .returned (.tuple #[.bool false, .int .i64 2]) ∧ Keeps (fun _ => False) w w' := by
  have HCH : Calls Tryz.prog 85 #[.pointer (some ⟨m, 0, none⟩), .pointer (some ⟨a, 0, none⟩)] w fun e w' => e = .returned (.int .i64 2) ∧ Keeps (fun _ => False) w w' := by
    have HV := hid (mvalid m L M w h)
    have HS := hid (asizes_ok a LA A w ha)
    have HM := hid (fun (w' : World) (hk : Keeps (fun _ => False) w w') => cells6 (h.keeps0 hk).own)
    obtain ⟨n', hn'⟩ : ∃ n', A.H.T.n = n' := ⟨_, rfl⟩
    rw [hn'] at HS hn hn0
    have hq0 : ((n' : Int) == 0) = false := by simp; omega
    have hq1 : ((n' : Int) == M.P.n) = false := by simp; omega
    clear h ha hn hn' hn0
    go_enter Tryz.func85, Tryz.ntmps85
    go_wp2_with fail
    refine (HV.out).mono ?_
    rintro e w' ⟨rfl, h'⟩
    obtain rfl := h'.symm
    go_wp2_with fail
    refine HS.out.mono ?_
    rintro e w1 ⟨rfl, hk⟩
    obtain ⟨c0, c1, c2, c3, c4, c5, cl⟩ := HM.out _ hk
    have HK := hid hk
    clear hk
    go_wp2_with fail
    go_ret
    exact ⟨rfl, HK.out⟩
  have HC := hid HCH
  clear h ha hn HCH
  go_enter Tryz.func39, Tryz.ntmps39
  go_wp2_with fail
  refine HC.out.mono ?_
  rintro e w1 ⟨rfl, hk1⟩
  have K1 := hid hk1
  clear hk1
  go_wp2_with fail
  go_ret2
  exact ⟨rfl, K1.out⟩
theorem cackF (i E : Int) (h : CyF w c m b n k LM M) (ha : ArIn w a LA A) (hn1 : 1 ≤ A.H.T.n) (h0 : M.K.ph = 0)
    (hE : ((A.H.T.n ≠ n ∨ A.many ≠ k) ∧ E = 2) ∨ (A.H.T.n = n ∧ A.many = k ∧ ((i < 0 ∨ (k : Int) ≤ i) ∧ E = 3 ∨ (0 ≤ i ∧ i < k) ∧ E = 8))) :
    Calls Tryz.prog 10 #[.pointer (some ⟨c, 0, none⟩), .pointer (some ⟨a, 0, none⟩), .int .i64 i] w fun e w' => e = .returned (.tuple #[.bool false, .int .i64 E]) ∧ Keeps (fun _ => False) w w' := by
  have HA : Calls Tryz.prog 39 #[.pointer (some ⟨m, 0, none⟩), .pointer (some ⟨a, 0, none⟩), .int .i64 i] w fun e w' => e = .returned (.tuple #[.bool false, .int .i64 E]) ∧ Keeps (fun _ => False) w w' := by
    have e1 := h.hn; have e2 := h.hk
    by_cases hn : A.H.T.n = n
    · by_cases hk : A.many = k
      · obtain ⟨hi, rfl⟩ | ⟨hi, rfl⟩ : ((i < 0 ∨ (k : Int) ≤ i) ∧ E = 3) ∨ ((0 ≤ i ∧ i < k) ∧ E = 8) := by omega
        · exact mack_range m a i LM M LA A w h.mm ha (by omega) (by omega) (by rw [e2]; exact hi)
        · obtain ⟨j, rfl⟩ : ∃ j : Nat, i = j := ⟨i.toNat, by omega⟩
          exact mack_state m a j LM M LA A w h.mm ha (by omega) (by omega) (by omega) h0
      · obtain rfl : E = 2 := by omega
        exact mack_arg m a i LM M LA A w h.mm ha (by omega) (by omega)
    · obtain rfl : E = 2 := by omega
      exact mack_argn m a i LM M LA A w h.mm ha hn1 (by omega)
  have HAA := hid HA
  obtain ⟨c0, c1, c2, c3, c4, c5, c6, cf, cl⟩ := cells7f h.own
  have HV := hid (cvalidF c m w c0)
  clear h ha hE HA cf
  go_enter Tryz.func10, Tryz.ntmps10
  go_wp2_with fail
  refine (HV.out).mono ?_
  rintro e w' ⟨rfl, h'⟩
  obtain rfl := h'.symm
  go_wp2_with fail
  refine HAA.out.mono ?_
  rintro e w1 ⟨rfl, hk⟩
  have K1 := hid hk
  clear hk
  go_wp2_with fail
  go_ret2
  exact ⟨rfl, K1.out⟩
theorem crestF (v room : Value) (h : w.heap[c]? = some (.cells #[.pointer (some ⟨m, 0, none⟩), .pointer (some ⟨b, 0, none⟩), .int .i64 n, .int .i64 k, .int .i64 0, .int .i64 0, .bool false] 56)) :
    Calls Tryz.prog 60 #[.pointer (some ⟨c, 0, none⟩), v, room] w fun e w' => e = .returned (.tuple #[.agg #[.int .i64 0, .int .u32 0], .bool false, .int .i64 0]) ∧ Keeps (fun _ => False) w w' := by
  obtain ⟨wA, hwA⟩ : ∃ wA, w.alloc (.cells #[.int .i64 0, .int .u32 0] 39) = wA := ⟨_, rfl⟩
  have kA : Keeps (fun _ => False) w wA := by rw [← hwA]; exact (Keeps.refl _ _).alloc _
  have qA : wA.heap[w.heap.size]? = some (.cells #[.int .i64 0, .int .u32 0] 39) := by rw [← hwA]; exact alloc_new
  obtain ⟨c0, c1, c2, c3, c4, c5, c6, cf, cl⟩ := cells7f (block_keep h kA (fun h => h))
  have HQA := hid qA; have HKA := hid kA; have HW := hid hwA
  obtain ⟨a0, a1, af, al⟩ := cells2 qA
  have f0 := af 0; have f1 := af 1
  clear h hwA kA qA c0 c1 c2 c3 c4 c5 af cf
  go_enter Tryz.func60, Tryz.ntmps60
  go_upto_region 1 with (fail)
  rw [HW.out]
  go_wp2_with fail
  refine bodyPost_ret_by (v := .tuple #[.agg #[.int .i64 0, .int .u32 0], .bool false, .int .i64 0]) (by simp [results, Tryz.results60, go_sem, *]) rfl ⟨rfl, Keeps.fresh ?_⟩
  repeat (first | (with_reducible exact HKA.out.up) | with_reducible refine Keeps.setCell ?_ ?_ _ | with_reducible refine Keeps.alloc ?_ _ | with_reducible refine Keeps.drewN ?_ _ | with_reducible refine Keeps.drew ?_)
  all_goals first | (left; simp; done) | (left; simp; omega) | (right; simp; done) | (right; simp; omega)
set_option maxRecDepth 100000 in
set_option maxHeartbeats 4000000 in
theorem cstepF_ok (room : Int) (h : CyF w c m b n k LM M) (ha : ArIn w a LA A) (hn1 : 1 ≤ A.H.T.n) (h0 : M.K.ph = 0) (hn : A.H.T.n = n) (hm : A.many = k) (hr0 : 0 ≤ room) :
    Calls Tryz.prog 8 #[.pointer (some ⟨c, 0, none⟩), .pointer (some ⟨a, 0, none⟩), .int .i64 room] w fun e w' => e = .returned (.tuple #[.agg #[.int .i64 0, .int .u32 0], .bool false, .int .i64 0]) ∧ Keeps (fun _ => False) w w' := by
  have HSZ := hid (fun W (hk : Keeps (fun _ => False) w W) => asizes_ok a LA A W (ha.keeps0 hk))
  have HS := hid (fun W (hk : Keeps (fun _ => False) w W) => cells7f (h.k0 hk).own)
  have HV := hid (fun W (hk : Keeps (fun _ => False) w W) => cvalidF c m W (cells7f (h.k0 hk).own).1)
  have HPH := hid (fun W (hk : Keeps (fun _ => False) w W) => mphase m LM M W (h.k0 hk).mm)
  rw [h0] at HPH
  obtain ⟨g, hgf⟩ : ∃ g : Nat, 60 = g := ⟨_, rfl⟩
  have HG : Hid (∀ W, Keeps (fun _ => False) w W → Calls Tryz.prog g #[.pointer (some ⟨c, 0, none⟩), .pointer (some ⟨a, 0, none⟩), .int .i64 room] W fun e w' => e = .returned (.tuple #[.agg #[.int .i64 0, .int .u32 0], .bool false, .int .i64 0]) ∧ Keeps (fun _ => False) W w') := hid (fun W hk => by rw [← hgf]; exact crestF (.pointer (some ⟨a, 0, none⟩)) (.int .i64 room) (h.k0 hk).own)
  have hidx : ∀ w, Sem.run Tryz.prog (Instr.index 88 cstepsV (.int .i64 0)) w = .ok (.func (.func g) #[] #[]) w := by intro w; rw [← hgf]; unfold cstepsV; kernel_rfl
  have eg : ∀ args w, (callFunc g args).run Tryz.prog w = .ok (.enter g args) w := by rw [← hgf]; exact enters_of Tryz.func60 (by kernel_rfl) rfl
  clear hgf
  rw [hn, hm] at HSZ
  rw [hn] at hn1
  have hn0 : ((n : Int) == 0) = false := by simpa using (by omega : ¬ (n : Int) = 0)
  have hr1 : ¬ room < 0 := by omega
  obtain ⟨wA, hwA⟩ : ∃ wA, w.alloc (.cells #[.int .i64 0, .int .u32 0] 39) = wA := ⟨_, rfl⟩
  have kA : Keeps (fun _ => False) w wA := by rw [← hwA]; exact (Keeps.refl _ _).alloc _
  have qA : wA.heap[w.heap.size]? = some (.cells #[.int .i64 0, .int .u32 0] 39) := by rw [← hwA]; exact alloc_new
  have HQA := hid qA; have HKA := hid kA; have HW := hid hwA
  unfold cstepsV at hidx
  have hwl : w.heap.size < wA.heap.size := lt_block qA
  clear h ha hwA kA qA hn hm hr0 h0 hn1
  go_enter Tryz.func8, Tryz.ntmps8
  go_upto_region 1 with (fail)
  rw [HW.out]
  go_wp2_with fail
  refine (HSZ.out _ HKA.out).mono ?_
  rintro e w1 ⟨rfl, k1⟩
  have HK1 := hid (HKA.out.trans k1); have HB1 := hid (block_keep HQA.out k1 (fun h => h))
  clear k1
  go_wp2_with fail
  refine (HV.out _ HK1.out).mono ?_
  rintro e w2 ⟨rfl, h2⟩
  obtain rfl := h2.symm
  obtain ⟨c0, c1, c2, c3, c4, c5, c6, cf, cl⟩ := HS.out _ HK1.out
  have hw1 := HK1.out.size
  clear cf
  go_wp2_with fail
  clear hn0 hr1 c1 c2 c3 c4 c5 c6
  go_region_held3 (fun W => W.cell? ⟨c, 0, none⟩ = some (.pointer (some ⟨m, 0, none⟩)))
    ((first | assumption | exact (HS.out _ (HK1.out.drew.trans hk2)).1 | exact (HS.out _ ((HK1.out.drew.trans hk2).trans hk4)).1 | exact (HS.out _ (Keeps.fresh (kfin ((HK1.out.drew.trans hk2).trans hk4).up (Nat.le_refl _) _ _))).1))
    (first
      | (go_at_call 27; refine (csteps _).mono ?_; rintro e w2 ⟨rfl, hk2⟩)
      | (go_at_call 28; refine (HPH.out _ (by first | exact HK1.out.drew | exact HK1.out.drew.trans hk2)).mono ?_; rintro e w3 ⟨rfl, rfl⟩)
      | (go_at_fn g; refine (HG.out _ (HK1.out.drew.trans hk2)).mono ?_; rintro e w4 ⟨rfl, hk4⟩; have nb := block_keep (block_keep (w := w1.drew) HB1.out hk2 (fun h => h)) hk4 (fun h => h); have nx := cells2 nb; obtain ⟨n0, n1, nf, nl⟩ := nx; have nf0 := nf 0; have nf1 := nf 1))
  all_goals
    clear nf
    go_wp2_with fail
    refine bodyPost_ret_by (v := .tuple #[.agg #[.int .i64 0, .int .u32 0], .bool false, .int .i64 0]) (by simp [results, Tryz.results8, go_sem, *]) rfl ⟨rfl, Keeps.fresh (kfin ((HK1.out.drew.trans hk2).trans hk4).up (Nat.le_refl _) _ _)⟩
set_option maxRecDepth 100000 in
set_option maxHeartbeats 1000000 in
theorem cstepF_bad (room : Int) (h : CyF w c m b n k LM M) (ha : ArIn w a LA A) (hn1 : 1 ≤ A.H.T.n) (hb : A.H.T.n ≠ n ∨ A.many ≠ k ∨ room < 0) :
    Calls Tryz.prog 8 #[.pointer (some ⟨c, 0, none⟩), .pointer (some ⟨a, 0, none⟩), .int .i64 room] w fun e w' => e = .returned (.tuple #[.agg #[.int .i64 0, .int .u32 0], .bool false, .int .i64 2]) ∧ Keeps (fun _ => False) w w' := by
  have HSZ := hid (fun W (hk : Keeps (fun _ => False) w W) => asizes_ok a LA A W (ha.keeps0 hk))
  have HS := hid (fun W (hk : Keeps (fun _ => False) w W) => cells7f (h.k0 hk).own)
  have HV := hid (fun W (hk : Keeps (fun _ => False) w W) => cvalidF c m W (cells7f (h.k0 hk).own).1)
  obtain ⟨n', hn'⟩ : ∃ n', A.H.T.n = n' := ⟨_, rfl⟩
  obtain ⟨k', hk'⟩ : ∃ k', A.many = k' := ⟨_, rfl⟩
  rw [hn', hk'] at HSZ hb
  rw [hn'] at hn1
  have hn0 : ((n' : Int) == 0) = false := by simpa using (by omega : ¬ (n' : Int) = 0)
  have hcs : ((n' : Int) != (n : Int)) = true ∨ (((n' : Int) != (n : Int)) = false ∧ ((k' : Int) != (k : Int)) = true) ∨ (((n' : Int) != (n : Int)) = false ∧ ((k' : Int) != (k : Int)) = false ∧ room < 0) := by
    by_cases h1 : n' = n
    · have e1 : ((n' : Int) != (n : Int)) = false := by subst h1; simp
      by_cases h2 : k' = k
      · have e2 : ((k' : Int) != (k : Int)) = false := by subst h2; simp
        exact .inr (.inr ⟨e1, e2, by omega⟩)
      · exact .inr (.inl ⟨e1, by simpa using (by omega : ¬ (k' : Int) = k)⟩)
    · exact .inl (by simpa using (by omega : ¬ (n' : Int) = n))
  obtain ⟨wA, hwA⟩ : ∃ wA, w.alloc (.cells #[.int .i64 0, .int .u32 0] 39) = wA := ⟨_, rfl⟩
  have kA : Keeps (fun _ => False) w wA := by rw [← hwA]; exact (Keeps.refl _ _).alloc _
  have qA : wA.heap[w.heap.size]? = some (.cells #[.int .i64 0, .int .u32 0] 39) := by rw [← hwA]; exact alloc_new
  have QA := hid qA; have KA := hid kA; have HWA := hid hwA
  clear h ha hb hn' hk' hn1 hwA kA qA
  rcases hcs with q1 | ⟨q1, q2⟩ | ⟨q1, q2, q3⟩
  all_goals
    go_enter Tryz.func8, Tryz.ntmps8
    go_upto_region 1 with (fail)
    rw [HWA.out]
    go_wp2_with fail
    refine (HSZ.out _ KA.out).mono ?_
    rintro e w1 ⟨rfl, k1⟩
    have K1 := hid (KA.out.trans k1)
    obtain ⟨a0, a1, af, al⟩ := cells2 (block_keep QA.out k1 (fun h => h))
    have a0f := af 0; have a1f := af 1
    clear k1 af
    go_wp2_with fail
    refine ((HV.out _ K1.out)).mono ?_
    rintro e w' ⟨rfl, h'⟩
    obtain rfl := h'.symm
    obtain ⟨c0, c1, c2, c3, c4, c5, c6, cf, cl⟩ := HS.out _ K1.out
    clear cf
    go_wp2_with fail
    refine bodyPost_ret_by (v := .tuple #[.agg #[.int .i64 0, .int .u32 0], .bool false, .int .i64 2]) (by simp [results, Tryz.results8, go_sem, *]) rfl ⟨rfl, Keeps.fresh ?_⟩
    repeat (first | (with_reducible exact K1.out.up) | with_reducible refine Keeps.setCell ?_ ?_ _ | with_reducible refine Keeps.alloc ?_ _ | with_reducible refine Keeps.drewN ?_ _ | with_reducible refine Keeps.drew ?_)
    all_goals first | (left; simp; done) | (left; simp; omega) | (right; simp; done) | (right; simp; omega)
theorem cphaseF (p : Nat) (h : w.cell? ⟨c, 0, none⟩ = some (.pointer (some ⟨m, 0, none⟩))) (hm : MkIn w m LM M) (hp : M.K.ph = p) : Calls Tryz.prog 14 #[.pointer (some ⟨c, 0, none⟩)] w fun e w' => e = .returned (.int .i64 p) ∧ w' = w := by
  have HV := hid (cvalidF c m w h)
  have HP := hid (mphase m LM M w hm)
  rw [hp] at HP
  clear hm hp
  go_enter Tryz.func14, Tryz.ntmps14
  go_wp2_with fail
  refine (HV.out).mono ?_
  rintro e w' ⟨rfl, h'⟩
  obtain rfl := h'.symm
  go_wp2_with fail
  refine (HP.out).mono ?_
  rintro e w' ⟨rfl, h'⟩
  obtain rfl := h'.symm
  go_wp2_with fail
  go_ret
  exact ⟨rfl, rfl⟩
theorem caskF (h : CyF w c m b n k LM M) (h0 : M.K.ph = 0) : Calls Tryz.prog 12 #[.pointer (some ⟨c, 0, none⟩)] w fun e w' => e = .returned (.bool true) ∧ Keeps (fun y => y = c ∨ y = LM.c) w w' ∧ w'.cell? ⟨c, 0, none⟩ = some (.pointer (some ⟨m, 0, none⟩)) ∧ MkIn w' m LM { M with K := M.K.to 1 } := by
  have hcc : ∀ {z : Nat} {cs : Array Value} {t : TypeId}, w.heap[z]? = some (.cells cs t) → t ≠ 56 → z ≠ c := fun hz ht => type_ne hz h.own ht
  have hbeg : Calls Tryz.prog 41 #[.pointer (some ⟨c, 0, none⟩)] w fun e w' => e = .returned (.int .i64 0) ∧ Keeps (fun y => y = c ∨ y = LM.c) w w' ∧ w'.cell? ⟨c, 0, none⟩ = some (.pointer (some ⟨m, 0, none⟩)) ∧ MkIn w' m LM { M with K := M.K.to 1 } := by
    have hown := h.own
    obtain ⟨c0, c1, c2, c3, c4, c5, c6, cf, cl⟩ := cells7f hown
    have f6 := cf 6; have f5 := cf 5
    obtain ⟨w1, hw1⟩ : ∃ w1, (w.setCell ⟨c, 6, none⟩ (.bool false)).setCell ⟨c, 5, none⟩ (.int .i64 1) = w1 := ⟨_, rfl⟩
    have hk1 : Keeps (fun y => y = c) w w1 := by rw [← hw1]; exact (keeps_set1 _ _ _ _).trans (keeps_set1 _ _ _ _)
    have q1 : w1.heap[c]? = some (.cells #[.pointer (some ⟨m, 0, none⟩), .pointer (some ⟨b, 0, none⟩), .int .i64 n, .int .i64 k, .int .i64 0, .int .i64 1, .bool false] 56) := by
      rw [← hw1]; exact (set_block (set_block hown 6 _) 5 _).trans rfl
    obtain ⟨cur, hrb, _⟩ := h.mm.row
    have hm1 : MkIn w1 m LM M := h.mm.keeps hk1 (hcc h.mm.own (by decide)) (hcc h.mm.clk.own (by decide)) (by obtain ⟨_, hp, _⟩ := h.mm.pt; exact hcc hp (by decide)) (by obtain ⟨_, hp, _⟩ := h.mm.st; exact hcc hp (by decide)) (hcc hrb (by decide)) (fun j hj => by obtain ⟨_, hp, _⟩ := h.mm.bf j hj; exact hcc hp (by decide))
    have HB := hid (mbegin_ok m LM M w1 hm1 h0)
    have HQ1 := hid q1; have HK1 := hid hk1; have HW := hid hw1
    have hlc : c ≠ LM.c := fun e => hcc h.mm.clk.own (by decide) e.symm
    have HLC := hid hlc
    obtain ⟨d0, _, _, _, _, _, _, _, _⟩ := cells7f q1
    clear h hown hk1 q1 hm1 hw1 hrb cf hcc h0 hlc
    go_enter Tryz.func41, Tryz.ntmps41
    go_wp2_with fail
    rw [HW.out]
    refine HB.out.mono ?_
    rintro e w2 ⟨rfl, k2, h2⟩
    have H2 := hid h2
    have K2 := hid k2
    clear k2 h2
    go_wp2_with fail
    go_ret
    exact ⟨rfl, (HK1.out.mono (fun _ _ h => .inl h)).trans (K2.out.mono (fun _ _ h => .inr h)), (cells7f (block_keep HQ1.out K2.out HLC.out)).1, H2.out⟩
  have HB := hid hbeg
  have HP := hid (mphase m LM M w h.mm)
  rw [h0] at HP
  obtain ⟨c0, c1, c2, c3, c4, c5, c6, cf, cl⟩ := cells7f h.own
  have HV := hid (cvalidF c m w c0)
  clear h hbeg cf hcc h0
  go_enter Tryz.func12, Tryz.ntmps12
  go_wp2_with fail
  refine (HV.out).mono ?_
  rintro e w' ⟨rfl, h'⟩
  obtain rfl := h'.symm
  go_wp2_with fail
  refine (HP.out).mono ?_
  rintro e w' ⟨rfl, h'⟩
  obtain rfl := h'.symm
  go_wp2_with fail
  refine HB.out.mono ?_
  rintro e w1 ⟨rfl, h1⟩
  have H1 := hid h1
  clear h1
  go_wp2_with fail
  go_ret
  exact ⟨rfl, H1.out⟩
end

end Go.Proofs.YtnjgkhgdgpahfaaGreat
