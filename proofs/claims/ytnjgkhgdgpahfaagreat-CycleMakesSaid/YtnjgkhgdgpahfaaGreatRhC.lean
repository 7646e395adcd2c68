/- estraylaw26: CycleMakes. -/
import Derived.Test.YtnjgkhgdgpahfaaGreatRhB
import Derived.Test.YtnjgkhgdgpahfaaGreatCgA
namespace Go.Proofs.YtnjgkhgdgpahfaaGreat
open Go.RowKit Go.ChangeShapes Go.WideShapes Go.ChangeAt Go.Deep
set_option linter.unusedVariables false
set_option linter.unusedSimpArgs false

def Fin26 (w0 W : World) (cV rV : Value) (B : Bool) (P : Nat) : Prop :=
  Calls Tryz.prog 12 #[cV] W fun e w5 => e = .returned (.bool B) ∧
    Calls Tryz.prog 13 #[rV] w5 fun e w6 => e = .returned (.bool B) ∧
      Calls Tryz.prog 14 #[cV] w6 fun e w7 => e = .returned (.int .i64 P) ∧
        Calls Tryz.prog 15 #[rV] w7 fun e w8 => e = .returned (.int .i64 P) ∧ Keeps (fun _ => False) w0 w8
section
variable {w0 w w' : World} {x m2 c2 s n k N b a c m : Nat} {K : Ck} {LM : MkL} {M : Mk} {S : Nat → Prop}
theorem fin26_no (h : Keeps (fun _ => False) w0 w) : Fin26 w0 w (.pointer none) (.pointer none) false 0 := by
  unfold Fin26
  refine (nc_ask _ _ (.inl rfl)).mono ?_
  rintro e w5 ⟨rfl, rfl⟩
  refine ⟨rfl, (ask26_no _).mono ?_⟩
  rintro e w6 ⟨rfl, rfl⟩
  refine ⟨rfl, (nc_phase _ _ (.inl rfl)).mono ?_⟩
  rintro e w7 ⟨rfl, rfl⟩
  refine ⟨rfl, (phase26_no _).mono ?_⟩
  rintro e w8 ⟨rfl, rfl⟩
  exact ⟨rfl, h⟩
theorem K26.other (h : K26 w x m2 c2 s n k K N) (hk : Keeps S w w') (hS : ∀ y cs t, w.heap[y]? = some (.cells cs t) → S y → t = 56 ∨ t = 196) : K26 w' x m2 c2 s n k K N := by
  have no : ∀ {y : Nat} {cs : Array Value} {t : TypeId}, w.heap[y]? = some (.cells cs t) → t ≠ 56 → t ≠ 196 → ¬ S y := fun hy h1 h2 h => (hS _ _ _ hy h).elim h1 h2
  obtain ⟨⟨vS, o⟩, ⟨p, vP, vS', vB, om⟩, ⟨⟨cap, oc⟩, ⟨cur, os, hc⟩, e1, e2, e3, e3'⟩, e4, e5, e6⟩ := h
  exact ⟨⟨vS, block_keep o hk (no o (by decide) (by decide))⟩, ⟨p, vP, vS', vB, block_keep om hk (no om (by decide) (by decide))⟩, ⟨⟨cap, block_keep oc hk (no oc (by decide) (by decide))⟩, ⟨cur, block_keep os hk (no os (by decide) (by decide)), hc⟩, e1, e2, e3, e3'⟩, e4, e5, e6⟩
theorem MkIn.other26 (h : MkIn w m LM M) (hk : Keeps S w w') (hS : ∀ y cs t, w.heap[y]? = some (.cells cs t) → S y → t = 64 ∨ t = 206) : MkIn w' m LM M := by
  have no : ∀ {y : Nat} {cs : Array Value} {t : TypeId}, w.heap[y]? = some (.cells cs t) → t ≠ 64 → t ≠ 206 → ¬ S y := fun hy h1 h2 h => (hS _ _ _ hy h).elim h1 h2
  obtain ⟨cur, hrb, _⟩ := h.row
  exact h.keeps hk (no h.own (by decide) (by decide)) (no h.clk.own (by decide) (by decide)) (by obtain ⟨_, hp, _⟩ := h.pt; exact no hp (by decide) (by decide)) (by obtain ⟨_, hp, _⟩ := h.st; exact no hp (by decide) (by decide)) (no hrb (by decide) (by decide)) (fun j hj => by obtain ⟨_, hp, _⟩ := h.bf j hj; exact no hp (by decide) (by decide))
theorem fin26_ok (hw : Keeps (fun y => w0.heap.size ≤ y) w0 w) (h : CyF w c m b n k LM M) (h0 : M.K.ph = 0) (hr : K26 w x m2 c2 s n k K 0) (hk0 : K.ph = 0) (lc : w0.heap.size ≤ c) (lL : w0.heap.size ≤ LM.c) (lx : w0.heap.size ≤ x) (l2 : w0.heap.size ≤ c2) :
    Fin26 w0 w (.pointer (some ⟨c, 0, none⟩)) (.pointer (some ⟨x, 0, none⟩)) true 1 := by
  unfold Fin26
  refine (caskF h h0).mono ?_
  rintro e w5 ⟨rfl, k5, q5, m5⟩
  have r5 : K26 w5 x m2 c2 s n k K 0 := hr.other k5 (fun y cs t hy hs => by
    rcases hs with rfl | rfl
    · rw [h.own] at hy; simp at hy; exact .inl hy.2.symm
    · rw [h.mm.clk.own] at hy; simp at hy; exact .inr hy.2.symm)
  obtain ⟨vS, o5⟩ := r5.own
  obtain ⟨cap, oc5⟩ := r5.mkr.ck.own
  refine ⟨rfl, (ask26 r5 hk0).mono ?_⟩
  rintro e w6 ⟨rfl, k6, s', r6⟩
  have m6 := m5.other26 k6 (fun y cs t hy hs => by
    rcases hs with rfl | rfl
    · rw [o5] at hy; simp at hy; exact .inl hy.2.symm
    · rw [oc5] at hy; simp at hy; exact .inr hy.2.symm)
  have hcx : c ≠ x := type_ne h.own hr.own.choose_spec (by decide)
  have hcc : c ≠ c2 := by obtain ⟨cap', oc⟩ := hr.mkr.ck.own; exact type_ne h.own oc (by decide)
  have q6 : w6.cell? ⟨c, 0, none⟩ = some (.pointer (some ⟨m, 0, none⟩)) := by
    rw [World.cell?_of_block (k6.block c (lt_block h.own |> fun h => Nat.lt_of_lt_of_le h k5.size) (fun e => e.elim hcx hcc))]
    exact q5
  refine ⟨rfl, (cphaseF 1 q6 m6 rfl).mono ?_⟩
  rintro e w7 ⟨rfl, h7⟩
  subst h7
  refine ⟨rfl, (phase26 r6).mono ?_⟩
  rintro e w8 ⟨rfl, h8⟩
  subst h8
  refine ⟨rfl, Keeps.fresh ((hw.trans (k5.mono (fun y _ h => by rcases h with rfl | rfl <;> assumption))).trans (k6.mono (fun y _ h => by rcases h with rfl | rfl <;> assumption)))⟩
end

set_option maxRecDepth 100000 in
set_option maxHeartbeats 4000000 in
theorem cycleMakes_walk (n k q p : Int) (z : Nat → Int) (x y : Nat) (room mm : Int) (w : World) (hx : x < 256) (hy : y < 256) :
    Calls Tryz.prog 3 #[cfgV n k q p z, .int .u8 x, .int .u8 y, .int .i64 room, .int .i64 mm] w fun e w' => e = .returned (.bool true) ∧ Keeps (fun _ => False) w w' := by
  have e1 : ((1 + x : Nat) : Int) = 1 + (x : Int) := by omega
  have e2 : ((1 + y % 4 : Nat) : Int) = 1 + (y : Int) % 4 := by omega
  have HAN := hid (fun W => anew_ok ((1 + x : Nat) : Int) (1 + y % 4) 1 W (by omega) (by omega) (by omega) (by omega) (by omega) (by omega))
  have HDN := hid (fun W => new18_ok (w := W) (1 + x) (1 + y % 4) 1 (by omega) (by omega) (by omega) (by omega) (by omega) (by omega))
  have HN1 := hid (show (Ar.new (1 + x) (1 + y % 4) 1).H.T.n = 1 + x from rfl)
  have HN2 := hid (show (Ar.new (1 + x) (1 + y % 4) 1).many = 1 + y % 4 from rfl)
  rw [Int.toNat_natCast] at HAN
  obtain ⟨A, hA⟩ : ∃ A, Ar.new (1 + x) (1 + y % 4) 1 = A := ⟨_, rfl⟩
  rw [hA] at HAN HDN HN1 HN2
  rw [e1, e2] at HAN HDN
  have hn1 : 1 ≤ A.H.T.n := by rw [HN1.out]; omega
  have HNP := hid hn1
  clear e1 e2 hA hn1
  obtain ⟨wA, hwA⟩ : ∃ wA, w.alloc (.cells #[.int .i64 n, .int .i64 k, .int .i64 q, .int .i64 p, .int .i64 (z 0), .int .i64 (z 1), .int .i64 (z 2), .int .i64 (z 3), .int .i64 (z 4), .int .u32 (z 5)] 24) = wA := ⟨_, rfl⟩
  have kA : Keeps (fun _ => False) w wA := by rw [← hwA]; exact (Keeps.refl _ _).alloc _
  have qA : wA.heap[w.heap.size]? = some (.cells #[.int .i64 n, .int .i64 k, .int .i64 q, .int .i64 p, .int .i64 (z 0), .int .i64 (z 1), .int .i64 (z 2), .int .i64 (z 3), .int .i64 (z 4), .int .u32 (z 5)] 24) := by rw [← hwA]; exact alloc_new
  have HKA := hid kA; have HQA := hid qA; have HW := hid hwA
  clear kA qA hwA
  by_cases hb : n < 1 ∨ 256 < n ∨ k < 1 ∨ 4 < k ∨ q < 1 ∨ 64 < q ∨ p < 1 ∨ 64 < p
  · have HCN := hid (fun W => cynew_bad n k q p z W hb)
    have HRN := hid (fun W => new26_bad n k q p z W hb)
    clear hb
    unfold cfgV at HCN HRN ⊢
    go_enter Tryz.func3, Tryz.ntmps3
    go_upto_region 1 with (fail)
    rw [HW.out]
    obtain ⟨x0, x1, x2, x3, x4, x5, x6, x7, x8, x9, _, xl⟩ := cells10 HQA.out
    go_wp2_with fail
    refine (HCN.out _).mono ?_
    rintro e w1 ⟨rfl, k1⟩
    have K1 := hid (HKA.out.trans k1)
    have HQ1 := hid (block_keep HQA.out k1 (fun h => h))
    clear k1 x0 x1 x2 x3 x4 x5 x6 x7 x8 x9 xl
    obtain ⟨x0, x1, x2, x3, x4, x5, x6, x7, x8, x9, _, xl⟩ := cells10 HQ1.out
    go_wp2_with fail
    refine (HRN.out _).mono ?_
    rintro e w2 ⟨rfl, k2⟩
    have K2 := hid (K1.out.trans k2)
    clear k2 x0 x1 x2 x3 x4 x5 x6 x7 x8 x9 xl
    go_wp2_with fail
    refine (HAN.out _).mono ?_
    rintro e w3 ⟨a, rfl, k3, LA, ha3, _⟩
    have K3 := hid (K2.out.trans k3)
    have K3b := hid k3
    have HA3 := hid ha3
    clear k3 ha3
    go_wp2_with fail
    refine (HDN.out _).mono ?_
    rintro e w4 ⟨y2, LR, rfl, k4, _, _, hR4⟩
    have K4 := hid (K3.out.trans k4)
    have K24 := hid (K3b.out.trans k4)
    have HA4 := hid (HA3.out.keeps0 k4)
    have HR4 := hid hR4
    have HST := hid (fun W (hk : Keeps (fun _ => False) w4 W) => cystep_nil (.pointer none) (.pointer (some ⟨a, 0, none⟩)) room A.H.T.n A.many false W (fun W' hk' => asizes_ok a LA A W' (HA4.out.keeps0 (hk.trans hk'))) (fun W' _ => ncvalid _ W' (.inl rfl)) (.inl rfl))
    have HSR := hid (fun W (hk : Keeps (fun _ => False) w4 W) => step26_no room W (HR4.out.k0 hk))
    have HAK := hid (fun W (hk : Keeps (fun _ => False) w4 W) => (nc_ack (.pointer none) (.pointer (some ⟨a, 0, none⟩)) mm W (.inl rfl)).mono (fun e w' ⟨h1, h2⟩ => And.intro h1 (show Keeps (fun _ => False) W w' from h2 ▸ Keeps.refl _ _)))
    have HAR := hid (fun W (hk : Keeps (fun _ => False) w4 W) => (ack26_no (.pointer (some ⟨y2, 0, none⟩)) mm W).mono (fun e w' ⟨h1, h2⟩ => And.intro h1 (show Keeps (fun _ => False) W w' from h2 ▸ Keeps.refl _ _)))
    have HFI := hid (fun W (hk : Keeps (fun _ => False) w4 W) => fin26_no (K4.out.trans hk))
    clear hR4 k4
    go_wp2_with fail
    refine (HST.out _ (Keeps.refl _ _)).mono ?_
    rintro e w5 ⟨rfl, k5⟩
    have q5 := alloc_new (w := w5) (o := .cells #[.int .i64 0, .int .u32 0] 39)
    have K5 := hid (k5.alloc (.cells #[.int .i64 0, .int .u32 0] 39))
    obtain ⟨w5a, hw5⟩ : ∃ w5a, w5.alloc (.cells #[.int .i64 0, .int .u32 0] 39) = w5a := ⟨_, rfl⟩
    have HW5 := hid hw5
    rw [hw5] at q5 K5
    have HQ5 := hid q5
    obtain ⟨g5, hg5⟩ : ∃ g5, w5.heap.size = g5 := ⟨_, rfl⟩
    rw [hg5] at HQ5
    have HG5 := hid hg5
    clear k5 q5 hw5 hg5
    go_upto_region 10 with (fail)
    rw [HW5.out, HG5.out]
    go_wp2_with fail
    refine (HSR.out _ K5.out).mono ?_
    rintro e w6 ⟨rfl, k6⟩
    obtain ⟨w6a, hw6⟩ : ∃ w6a, w6.alloc (.cells #[.int .i64 0, .int .u32 0] 39) = w6a := ⟨_, rfl⟩
    have q6 := alloc_new (w := w6) (o := .cells #[.int .i64 0, .int .u32 0] 39)
    have K6 := hid ((K5.out.trans k6).alloc (.cells #[.int .i64 0, .int .u32 0] 39))
    have HQ56 := hid (alloc_old (o := .cells #[.int .i64 0, .int .u32 0] 39) (block_keep HQ5.out k6 (fun h => h)))
    have HW6 := hid hw6
    rw [hw6] at q6 K6 HQ56
    have HQ6 := hid q6
    obtain ⟨g6, hg6⟩ : ∃ g6, w6.heap.size = g6 := ⟨_, rfl⟩
    rw [hg6] at HQ6
    have HG6 := hid hg6
    clear k6 q6 hw6 hg6
    go_upto_region 11 with (fail)
    rw [HW6.out, HG6.out]
    go_wp2_with fail
    refine (HAK.out _ K6.out).mono ?_
    rintro e w7 ⟨rfl, k7⟩
    have K7 := hid (K6.out.trans k7)
    have HQ57 := hid (block_keep HQ56.out k7 (fun h => h)); have HQ67 := hid (block_keep HQ6.out k7 (fun h => h))
    clear k7
    go_wp2_with fail
    refine (HAR.out _ K7.out).mono ?_
    rintro e w8 ⟨rfl, k8⟩
    have K8 := hid (K7.out.trans k8)
    obtain ⟨d0, d1, _, dl⟩ := cells2 (block_keep HQ57.out k8 (fun h => h))
    obtain ⟨f0, f1, _, fl⟩ := cells2 (block_keep HQ67.out k8 (fun h => h))
    have heq := fun W => eql_ref W 0 0 0 0
    have HFN := hid (HFI.out _ K8.out)
    unfold Fin26 at HFN
    clear k8 HQ57 HQ67 HQ56 HQ5 HQ6
    go_wp2_with fail
    refine HFN.out.mono ?_
    rintro e w9 ⟨rfl, h9⟩
    have H9 := hid h9
    clear h9 d0 d1 dl f0 f1 fl heq
    go_wp2_with fail
    refine H9.out.mono ?_
    rintro e w10 ⟨rfl, h10⟩
    have H10 := hid h10
    clear h10
    go_wp2_with fail
    refine H10.out.mono ?_
    rintro e w11 ⟨rfl, h11⟩
    have H11 := hid h11
    clear h11
    go_wp2_with fail
    refine H11.out.mono ?_
    rintro e w12 ⟨rfl, k12⟩
    have K12 := hid k12
    clear k12
    go_wp2_with fail
    refine (works26 _).mono ?_
    rintro e w13 ⟨rfl, k13⟩
    have K13 := hid (K12.out.trans k13)
    clear k13
    go_wp2_with fail
    go_ret
    exact ⟨rfl, K13.out⟩
  · obtain ⟨n, rfl⟩ : ∃ j : Nat, n = j := ⟨n.toNat, by omega⟩
    obtain ⟨k, rfl⟩ : ∃ j : Nat, k = j := ⟨k.toNat, by omega⟩
    obtain ⟨q, rfl⟩ : ∃ j : Nat, q = j := ⟨q.toNat, by omega⟩
    obtain ⟨p, rfl⟩ : ∃ j : Nat, p = j := ⟨p.toNat, by omega⟩
    have HCN := hid (fun W => cynew_ok n k q p z W (by omega) (by omega) (by omega) (by omega) (by omega) (by omega) (by omega) (by omega))
    have HRN := hid (fun W => new26_ok n k q p z W (by omega) (by omega) (by omega) (by omega) (by omega) (by omega) (by omega) (by omega))
    obtain ⟨E1, hE1⟩ : ∃ E1 : Int, ((A.H.T.n ≠ n ∨ A.many ≠ k ∨ room < 0) ∧ E1 = 2) ∨ (A.H.T.n = n ∧ A.many = k ∧ 0 ≤ room ∧ E1 = 0) := by
      by_cases h : A.H.T.n ≠ n ∨ A.many ≠ k ∨ room < 0
      · exact ⟨2, .inl ⟨h, rfl⟩⟩
      · exact ⟨0, .inr ⟨by omega, by omega, by omega, rfl⟩⟩
    obtain ⟨E2, hE2⟩ : ∃ E2 : Int, ((A.H.T.n ≠ n ∨ A.many ≠ k) ∧ E2 = 2) ∨ (A.H.T.n = n ∧ A.many = k ∧ ((mm < 0 ∨ (k : Int) ≤ mm) ∧ E2 = 3 ∨ (0 ≤ mm ∧ mm < k) ∧ E2 = 8)) := by
      by_cases h : A.H.T.n ≠ n ∨ A.many ≠ k
      · exact ⟨2, .inl ⟨h, rfl⟩⟩
      · by_cases h2 : mm < 0 ∨ (k : Int) ≤ mm
        · exact ⟨3, .inr ⟨by omega, by omega, .inl ⟨h2, rfl⟩⟩⟩
        · exact ⟨8, .inr ⟨by omega, by omega, .inr ⟨by omega, rfl⟩⟩⟩
    have HE1 := hid hE1; have HE2 := hid hE2
    clear hb hE1 hE2
    unfold cfgV at HCN HRN ⊢
    go_enter Tryz.func3, Tryz.ntmps3
    go_upto_region 1 with (fail)
    rw [HW.out]
    obtain ⟨x0, x1, x2, x3, x4, x5, x6, x7, x8, x9, _, xl⟩ := cells10 HQA.out
    go_wp2_with fail
    refine (HCN.out _).mono ?_
    rintro e w1 ⟨c, m, b, LM, rfl, k1, hm1, hbt1, _, _, hc1, lc1⟩
    have K1 := hid (HKA.out.trans k1)
    have HQ1 := hid (block_keep HQA.out k1 (fun h => h))
    have HF1 := hid (show CyF w1 c m b n k LM (Mk.new n k q p) from ⟨hc1, hm1, rfl, rfl⟩)
    have HL1 := hid (And.intro lc1 (And.intro hbt1.c.1 HKA.out.size))
    clear k1 hm1 hbt1 hc1 lc1 x0 x1 x2 x3 x4 x5 x6 x7 x8 x9 xl
    obtain ⟨x0, x1, x2, x3, x4, x5, x6, x7, x8, x9, _, xl⟩ := cells10 HQ1.out
    go_wp2_with fail
    refine (HRN.out _).mono ?_
    rintro e w2 ⟨r, m2, c2, s, rfl, k2, lr, l2, h26⟩
    have HF2 := hid (HF1.out.k0 k2); have HR2 := hid h26
    have HL2 := hid (show w.heap.size ≤ r ∧ w.heap.size ≤ c2 from by have := K1.out.size; omega)
    have K2 := hid (K1.out.trans k2)
    clear k2 lr l2 h26 x0 x1 x2 x3 x4 x5 x6 x7 x8 x9 xl
    go_wp2_with fail
    refine (HAN.out _).mono ?_
    rintro e w3 ⟨a, rfl, k3, LA, ha3, _⟩
    have K3 := hid (K2.out.trans k3)
    have K3b := hid k3
    have HA3 := hid ha3
    clear k3 ha3
    go_wp2_with fail
    refine (HDN.out _).mono ?_
    rintro e w4 ⟨y2, LR, rfl, k4, _, _, hR4⟩
    have K4 := hid (K3.out.trans k4)
    have K24 := hid (K3b.out.trans k4)
    have HA4 := hid (HA3.out.keeps0 k4)
    have HR4 := hid hR4
    have hF4 := (HF2.out.k0 K24.out)
    have hR26 := (HR2.out.k0 K24.out)
    have HST := hid (fun W (hk : Keeps (fun _ => False) w4 W) => show Calls Tryz.prog 8 #[.pointer (some ⟨c, 0, none⟩), .pointer (some ⟨a, 0, none⟩), .int .i64 room] W fun e w' => e = .returned (.tuple #[.agg #[.int .i64 0, .int .u32 0], .bool false, .int .i64 E1]) ∧ Keeps (fun _ => False) W w' from by
      rcases HE1.out with ⟨h, rfl⟩ | ⟨h1, h2, h3, rfl⟩
      · exact cstepF_bad room (hF4.k0 hk) (HA4.out.keeps0 hk) HNP.out h
      · exact cstepF_ok room (hF4.k0 hk) (HA4.out.keeps0 hk) HNP.out rfl h1 h2 h3)
    have HSR := hid (fun W (hk : Keeps (fun _ => False) w4 W) => step26 room E1 (hR26.k0 hk) (HR4.out.k0 hk) rfl HE1.out)
    have HAK := hid (fun W (hk : Keeps (fun _ => False) w4 W) => cackF mm E2 (hF4.k0 hk) (HA4.out.keeps0 hk) HNP.out rfl HE2.out)
    have HAR := hid (fun W (hk : Keeps (fun _ => False) w4 W) => ack26 mm E2 (hR26.k0 hk) (HR4.out.k0 hk) rfl HE2.out)
    have HFI := hid (fun W (hk : Keeps (fun _ => False) w4 W) => fin26_ok (w0 := w) (K4.out.trans hk).up (hF4.k0 hk) rfl (hR26.k0 hk) rfl (by have := HL1.out; omega) (by have := HL1.out; omega) (HL2.out.1) (HL2.out.2))
    clear hF4 hR26 hR4 k4
    go_wp2_with fail
    refine (HST.out _ (Keeps.refl _ _)).mono ?_
    rintro e w5 ⟨rfl, k5⟩
    have q5 := alloc_new (w := w5) (o := .cells #[.int .i64 0, .int .u32 0] 39)
    have K5 := hid (k5.alloc (.cells #[.int .i64 0, .int .u32 0] 39))
    obtain ⟨w5a, hw5⟩ : ∃ w5a, w5.alloc (.cells #[.int .i64 0, .int .u32 0] 39) = w5a := ⟨_, rfl⟩
    have HW5 := hid hw5
    rw [hw5] at q5 K5
    have HQ5 := hid q5
    obtain ⟨g5, hg5⟩ : ∃ g5, w5.heap.size = g5 := ⟨_, rfl⟩
    rw [hg5] at HQ5
    have HG5 := hid hg5
    clear k5 q5 hw5 hg5
    go_upto_region 10 with (fail)
    rw [HW5.out, HG5.out]
    go_wp2_with fail
    refine (HSR.out _ K5.out).mono ?_
    rintro e w6 ⟨rfl, k6⟩
    obtain ⟨w6a, hw6⟩ : ∃ w6a, w6.alloc (.cells #[.int .i64 0, .int .u32 0] 39) = w6a := ⟨_, rfl⟩
    have q6 := alloc_new (w := w6) (o := .cells #[.int .i64 0, .int .u32 0] 39)
    have K6 := hid ((K5.out.trans k6).alloc (.cells #[.int .i64 0, .int .u32 0] 39))
    have HQ56 := hid (alloc_old (o := .cells #[.int .i64 0, .int .u32 0] 39) (block_keep HQ5.out k6 (fun h => h)))
    have HW6 := hid hw6
    rw [hw6] at q6 K6 HQ56
    have HQ6 := hid q6
    obtain ⟨g6, hg6⟩ : ∃ g6, w6.heap.size = g6 := ⟨_, rfl⟩
    rw [hg6] at HQ6
    have HG6 := hid hg6
    clear k6 q6 hw6 hg6
    go_upto_region 11 with (fail)
    rw [HW6.out, HG6.out]
    go_wp2_with fail
    refine (HAK.out _ K6.out).mono ?_
    rintro e w7 ⟨rfl, k7⟩
    have K7 := hid (K6.out.trans k7)
    have HQ57 := hid (block_keep HQ56.out k7 (fun h => h)); have HQ67 := hid (block_keep HQ6.out k7 (fun h => h))
    clear k7
    go_wp2_with fail
    refine (HAR.out _ K7.out).mono ?_
    rintro e w8 ⟨rfl, k8⟩
    have K8 := hid (K7.out.trans k8)
    obtain ⟨d0, d1, _, dl⟩ := cells2 (block_keep HQ57.out k8 (fun h => h))
    obtain ⟨f0, f1, _, fl⟩ := cells2 (block_keep HQ67.out k8 (fun h => h))
    have heq := fun W => eql_ref W 0 0 0 0
    have HFN := hid (HFI.out _ K8.out)
    unfold Fin26 at HFN
    clear k8 HQ57 HQ67 HQ56 HQ5 HQ6
    go_wp2_with fail
    refine HFN.out.mono ?_
    rintro e w9 ⟨rfl, h9⟩
    have H9 := hid h9
    clear h9 d0 d1 dl f0 f1 fl heq
    go_wp2_with fail
    refine H9.out.mono ?_
    rintro e w10 ⟨rfl, h10⟩
    have H10 := hid h10
    clear h10
    go_wp2_with fail
    refine H10.out.mono ?_
    rintro e w11 ⟨rfl, h11⟩
    have H11 := hid h11
    clear h11
    go_wp2_with fail
    refine H11.out.mono ?_
    rintro e w12 ⟨rfl, k12⟩
    have K12 := hid k12
    clear k12
    go_wp2_with fail
    refine (works26 _).mono ?_
    rintro e w13 ⟨rfl, k13⟩
    have K13 := hid (K12.out.trans k13)
    clear k13
    go_wp2_with fail
    go_ret
    exact ⟨rfl, K13.out⟩
def ksCfg : List Flat := [.int .i64, .int .i64, .int .i64, .int .i64, .int .i64, .int .i64, .int .i64, .int .i64, .int .i64, .int .u32]
set_option maxRecDepth 100000 in
theorem cfg_of {H : Type} {enc : TypeId × Value → H} {w : World} {base : Nat} {spare : Nat → Bool} {held : Bool} {t : TypeId} {fs : Array Field} {r : Reach} {b0 : Nat} {v : Value} {d : DataW H} {p : List MemPlace} (ht : Tryz.prog.underlying t = some (.struct fs)) (hfl : flat Tryz.prog 8 t = some ksCfg) (hC : Tryz.prog.cellsOf t = 10)
    (hv : Value.okWide Tryz.prog w r b0 t v) (h : DataW.Trod enc Tryz.prog w base spare held t v d p) : ∃ (n k q p : Int) (z : Nat → Int), v = cfgV n k q p z := by
  obtain ⟨cs, rfl, hs⟩ := okWide_struct ht hv
  obtain ⟨fuel, hf⟩ := h
  have hc : ∀ (i : Nat) (k : Flat), ksCfg[i]? = some k → ∃ u, cs[i]? = some u ∧ k.Ok u := by
    intro i k hk
    obtain ⟨u, hu, hok⟩ := flat_at 8 t ksCfg hfl _ _ _ hf i k hk
    exact ⟨u, by simpa [Value.cells] using hu, hok⟩
  obtain ⟨_, h0, x0, rfl, _⟩ := hc 0 _ rfl
  obtain ⟨_, h1, x1, rfl, _⟩ := hc 1 _ rfl
  obtain ⟨_, h2, x2, rfl, _⟩ := hc 2 _ rfl
  obtain ⟨_, h3, x3, rfl, _⟩ := hc 3 _ rfl
  obtain ⟨_, h4, x4, rfl, _⟩ := hc 4 _ rfl
  obtain ⟨_, h5, x5, rfl, _⟩ := hc 5 _ rfl
  obtain ⟨_, h6, x6, rfl, _⟩ := hc 6 _ rfl
  obtain ⟨_, h7, x7, rfl, _⟩ := hc 7 _ rfl
  obtain ⟨_, h8, x8, rfl, _⟩ := hc 8 _ rfl
  obtain ⟨_, h9, x9, rfl, _⟩ := hc 9 _ rfl
  refine ⟨x0, x1, x2, x3, fun i => [x4, x5, x6, x7, x8, x9].getD i 0, ?_⟩
  unfold cfgV
  congr 1
  apply Array.ext_getElem?
  intro i
  match i with
  | 0 => rw [h0]; rfl
  | 1 => rw [h1]; rfl
  | 2 => rw [h2]; rfl
  | 3 => rw [h3]; rfl
  | 4 => rw [h4]; rfl
  | 5 => rw [h5]; rfl
  | 6 => rw [h6]; rfl
  | 7 => rw [h7]; rfl
  | 8 => rw [h8]; rfl
  | 9 => rw [h9]; rfl
  | i + 10 => rw [Array.getElem?_eq_none (by rw [hs, hC]; omega), Array.getElem?_eq_none (by simp)]
theorem u8_natM {x : Int} (h : (Lit.int .u8 x).wf = true) : ∃ k : Nat, x = k ∧ k < 256 := by
  have e1 : IntKind.u8.min = 0 := by decide
  have e2 : IntKind.u8.max = 255 := by decide
  simp [Lit.wf, e1, e2] at h
  exact ⟨x.toNat, by omega, by omega⟩
set_option maxRecDepth 100000 in
theorem cycleMakes_law {H : Type} {enc : TypeId × Value → H} {base : Nat} {spare : Nat → Bool} {held : Bool} {r : Reach} {b0 : Nat}
    (v0 : Value) (d0 : DataW H) (p0 : List MemPlace) {w : World} (hv0 : Value.okWide Tryz.prog w r b0 24 v0) (h0 : DataW.Trod enc Tryz.prog w base spare held 24 v0 d0 p0)
    (a1 : Int) (w1 : (Lit.int .u8 a1).wf = true) (a2 : Int) (w2 : (Lit.int .u8 a2).wf = true) (a3 : Int) (w3 : (Lit.int .i64 a3).wf = true) (a4 : Int) (w4 : (Lit.int .i64 a4).wf = true)
    (w' : World) (e' : w' = w) :
    Calls Tryz.prog 3 #[v0, .int .u8 a1, .int .u8 a2, .int .i64 a3, .int .i64 a4] w' fun e w2 => e = .returned (.bool true) ∧ Keeps (fun _ => False) w' w2 := by
  subst e'
  obtain ⟨n, k, q, p, z, rfl⟩ := cfg_of Tryz.underlying24 (by kernel_rfl) (by kernel_rfl) hv0 h0
  obtain ⟨x, rfl, hx⟩ := u8_natM w1
  obtain ⟨y, rfl, hy⟩ := u8_natM w2
  exact cycleMakes_walk n k q p z x y a3 a4 _ hx hy
end Go.Proofs.YtnjgkhgdgpahfaaGreat
